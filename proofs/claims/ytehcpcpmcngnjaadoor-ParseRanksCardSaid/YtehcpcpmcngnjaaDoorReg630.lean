/-
  The sixth region of ParseRanks, walked by itself: the kernel sees two theorems.
-/
import Derived.Test.YtehcpcpmcngnjaaDoorTreeZ30
set_option linter.unusedVariables false
set_option linter.unusedSimpArgs false
namespace Go.Proofs.YtehcpcpmcngnjaaDoor
open Go.RowKit Go.PlainAid

/-- The region of a number in a function's text. -/
def regionAt (n : Nat) : Code → Option Code
  | .region m o d => if m = n then some (.region m o d) else none
  | .seq a b => match regionAt n a with
    | some c => some c
    | none => regionAt n b
  | .cond _ a b => match regionAt n a with
    | some c => some c
    | none => regionAt n b
  | .block _ b => regionAt n b
  | .loop b => regionAt n b
  | .scope b => regionAt n b
  | _ => none
def SRK (b7 b8 b9 : Nat) (w' : World) : Prop := w'.cell? ⟨b7, 0, none⟩ = some (.int .u8 2) ∧ w'.cell? ⟨b7, 1, none⟩ = some (.int .u8 0) ∧ w'.cell? ⟨b7, 2, none⟩ = some (.int .u32 0) ∧ w'.cell? ⟨b7, 3, none⟩ = some (.int .i64 0) ∧ w'.cell? ⟨b7, 4, none⟩ = some (.string ⟨#[120]⟩) ∧ w'.cell? ⟨b7, 5, none⟩ = some (.slice none 0 0) ∧ w'.cell? ⟨b8, 0, none⟩ = some (.int .u8 2) ∧ w'.cell? ⟨b8, 1, none⟩ = some (.int .u8 0) ∧ w'.cell? ⟨b8, 2, none⟩ = some (.int .u32 0) ∧ w'.cell? ⟨b8, 3, none⟩ = some (.int .i64 0) ∧ w'.cell? ⟨b8, 4, none⟩ = some (.string ⟨#[121]⟩) ∧ w'.cell? ⟨b8, 5, none⟩ = some (.slice none 0 0) ∧ w'.cell? ⟨b9, 0, none⟩ = some (.int .u8 2) ∧ w'.cell? ⟨b9, 1, none⟩ = some (.int .u8 0) ∧ w'.cell? ⟨b9, 2, none⟩ = some (.int .u32 0) ∧ w'.cell? ⟨b9, 3, none⟩ = some (.int .i64 0) ∧ w'.cell? ⟨b9, 4, none⟩ = some (.string ⟨#[122]⟩) ∧ w'.cell? ⟨b9, 5, none⟩ = some (.slice none 0 0)
theorem srk_of {W w' : World} {b7 b8 b9 : Nat} (h7 : Bk W b7 28 #[.int .u8 2, .int .u8 0, .int .u32 0, .int .i64 0, .string ⟨#[120]⟩, .slice none 0 0]) (h8 : Bk W b8 28 #[.int .u8 2, .int .u8 0, .int .u32 0, .int .i64 0, .string ⟨#[121]⟩, .slice none 0 0]) (h9 : Bk W b9 28 #[.int .u8 2, .int .u8 0, .int .u32 0, .int .i64 0, .string ⟨#[122]⟩, .slice none 0 0]) (hb : Below W.heap.size W w') : SRK b7 b8 b9 w' := by
  obtain ⟨x70, x71, x72, x73, x74, x75⟩ := cells6 (bkbel h7 hb)
  obtain ⟨x80, x81, x82, x83, x84, x85⟩ := cells6 (bkbel h8 hb)
  obtain ⟨x90, x91, x92, x93, x94, x95⟩ := cells6 (bkbel h9 hb)
  exact ⟨x70, x71, x72, x73, x74, x75, x80, x81, x82, x83, x84, x85, x90, x91, x92, x93, x94, x95⟩
set_option maxRecDepth 100000 in
set_option maxHeartbeats 60000000 in
theorem reg6 (p q : Nat) (hp16 : p ≤ 16) (hq16 : q ≤ 16) (w7 : World) (b7 b8 b9 : Nat) (HX : Hid (Bk w7 b7 28 #[.int .u8 2, .int .u8 0, .int .u32 0, .int .i64 0, .string ⟨#[120]⟩, .slice none 0 0])) (HY : Hid (Bk w7 b8 28 #[.int .u8 2, .int .u8 0, .int .u32 0, .int .i64 0, .string ⟨#[121]⟩, .slice none 0 0])) (HZ : Hid (Bk w7 b9 28 #[.int .u8 2, .int .u8 0, .int .u32 0, .int .i64 0, .string ⟨#[122]⟩, .slice none 0 0]))
    (c : Code) (hc : (Tryd.f3.body.bind (regionAt 6)) = some c) (s0 s1 s2 s3 s4 s10 s11 s12 s13 s14 s15 s16 s17 s18 s19 s20 s21 s22 s23 s24 s25 s26 s27 s28 s29 s30 s31 : Value) (K1 : Act → World → Prop) (Q1 : Exit → Act → World → Prop)
    (hK : ∀ (n m : Nat) (U1 U2 : SV) (x32 x33 x34 x35 x36 x37 x38 x39 x40 x41 x42 x43 x44 x45 : Value) (W : World), Hid (Fin2 W n m #[.int .u8 6, .int .u8 (q : Int), .int .u32 0, .int .i64 0, .string ⟨#[]⟩, .slice U1.A U1.n U1.c] #[.int .u8 6, .int .u8 (p : Int), .int .u32 0, .int .i64 0, .string ⟨#[]⟩, .slice U2.A U2.n U2.c] (binX q (binX p (vrX 120) (vrX 121)) (vrX 122)) (binX p (vrX 120) (binX q (vrX 121) (vrX 122))) U1 U2) → Hid (Below w7.heap.size w7 W) → K1 ⟨#[s0, s1, s2, s3, s4, .int .u8 (p : Int), .int .u8 (q : Int), .pointer (some ⟨b7, 0, none⟩), .pointer (some ⟨b8, 0, none⟩), .pointer (some ⟨b9, 0, none⟩), s10, s11, .pointer (some ⟨n, 0, none⟩), .pointer (some ⟨m, 0, none⟩), s14, s15, s16, s17, s18, s19, s20, s21, s22, s23, s24, s25, s26, s27, s28, s29, s30, s31, x32, x33, x34, x35, x36, x37, x38, x39, x40, x41, x42, x43, x44, x45, undef, undef, undef, undef, undef, undef, undef, undef, undef, undef, undef, undef, undef, undef, undef, undef, undef, undef, undef, undef, undef, undef, undef, undef, undef, undef, undef, undef, undef, undef, undef, undef, undef, undef, undef, undef, undef, undef, undef, undef, undef, undef, undef, undef, undef, undef, undef, undef, undef, undef, undef, undef, undef, undef, undef, undef, undef, undef, undef, undef, undef, undef, undef, undef, undef, undef, undef, undef, undef, undef, undef, undef, undef, undef, undef, undef, undef, undef, undef, undef, undef, undef, undef, undef, undef], []⟩ W) : Code.wp Tryd.prog c (Exit.then K1 Q1) ⟨#[s0, s1, s2, s3, s4, .int .u8 (p : Int), .int .u8 (q : Int), .pointer (some ⟨b7, 0, none⟩), .pointer (some ⟨b8, 0, none⟩), .pointer (some ⟨b9, 0, none⟩), s10, s11, s12, s13, s14, s15, s16, s17, s18, s19, s20, s21, s22, s23, s24, s25, s26, s27, s28, s29, s30, s31, undef, undef, undef, undef, undef, undef, undef, undef, undef, undef, undef, undef, undef, undef, undef, undef, undef, undef, undef, undef, undef, undef, undef, undef, undef, undef, undef, undef, undef, undef, undef, undef, undef, undef, undef, undef, undef, undef, undef, undef, undef, undef, undef, undef, undef, undef, undef, undef, undef, undef, undef, undef, undef, undef, undef, undef, undef, undef, undef, undef, undef, undef, undef, undef, undef, undef, undef, undef, undef, undef, undef, undef, undef, undef, undef, undef, undef, undef, undef, undef, undef, undef, undef, undef, undef, undef, undef, undef, undef, undef, undef, undef, undef, undef, undef, undef, undef, undef, undef], []⟩ w7 := by
  have hc2 : some _ = some c := hc
  injection hc2 with hc2
  subst hc2
  clear hc
  have HSS : Hid (∀ w', Below w7.heap.size w7 w' → SRK b7 b8 b9 w') := fun w' hb => srk_of HX.out HY.out HZ.out hb
  have H36 : Hid (∀ w', Below w7.heap.size w7 w' → Calls Tryd.prog 7 #[.int .u8 (p : Int), .agg #[.int .u8 2, .int .u8 0, .int .u32 0, .int .i64 0, .string ⟨#[120]⟩, .slice none 0 0], .agg #[.int .u8 2, .int .u8 0, .int .u32 0, .int .i64 0, .string ⟨#[121]⟩, .slice none 0 0]] w' (fun e w'' => ∃ U : SV, e = .returned (.agg #[.int .u8 6, .int .u8 (p : Int), .int .u32 0, .int .i64 0, .string ⟨#[]⟩, .slice U.A U.n U.c]) ∧ TrZ w'' (binX p (vrX 120) (vrX 121)) U ∧ Below w'.heap.size w' w'')) := Lib.hid fun w' hb => biZ p (vrX 120) (vrX 121) ⟨none, 0, 0⟩ ⟨none, 0, 0⟩ (by omega) w' (tzleaf (okV 120) rfl) (tzleaf (okV 121) rfl)
  have H38 : Hid (∀ w' U, TrZ w' (binX p (vrX 120) (vrX 121)) U → Calls Tryd.prog 7 #[.int .u8 (q : Int), .agg #[.int .u8 6, .int .u8 (p : Int), .int .u32 0, .int .i64 0, .string ⟨#[]⟩, .slice U.A U.n U.c], .agg #[.int .u8 2, .int .u8 0, .int .u32 0, .int .i64 0, .string ⟨#[122]⟩, .slice none 0 0]] w' (fun e w'' => ∃ U : SV, e = .returned (.agg #[.int .u8 6, .int .u8 (q : Int), .int .u32 0, .int .i64 0, .string ⟨#[]⟩, .slice U.A U.n U.c]) ∧ TrZ w'' (binX q (binX p (vrX 120) (vrX 121)) (vrX 122)) U ∧ Below w'.heap.size w' w'')) := Lib.hid fun w' U hu => biZ q (binX p (vrX 120) (vrX 121)) (vrX 122) U ⟨none, 0, 0⟩ (by omega) w' hu (tzleaf (okV 122) rfl)
  have H44 : Hid (∀ w', Below w7.heap.size w7 w' → Calls Tryd.prog 7 #[.int .u8 (q : Int), .agg #[.int .u8 2, .int .u8 0, .int .u32 0, .int .i64 0, .string ⟨#[121]⟩, .slice none 0 0], .agg #[.int .u8 2, .int .u8 0, .int .u32 0, .int .i64 0, .string ⟨#[122]⟩, .slice none 0 0]] w' (fun e w'' => ∃ U : SV, e = .returned (.agg #[.int .u8 6, .int .u8 (q : Int), .int .u32 0, .int .i64 0, .string ⟨#[]⟩, .slice U.A U.n U.c]) ∧ TrZ w'' (binX q (vrX 121) (vrX 122)) U ∧ Below w'.heap.size w' w'')) := Lib.hid fun w' hb => biZ q (vrX 121) (vrX 122) ⟨none, 0, 0⟩ ⟨none, 0, 0⟩ (by omega) w' (tzleaf (okV 121) rfl) (tzleaf (okV 122) rfl)
  have H45 : Hid (∀ w' U, TrZ w' (binX q (vrX 121) (vrX 122)) U → Calls Tryd.prog 7 #[.int .u8 (p : Int), .agg #[.int .u8 2, .int .u8 0, .int .u32 0, .int .i64 0, .string ⟨#[120]⟩, .slice none 0 0], .agg #[.int .u8 6, .int .u8 (q : Int), .int .u32 0, .int .i64 0, .string ⟨#[]⟩, .slice U.A U.n U.c]] w' (fun e w'' => ∃ U : SV, e = .returned (.agg #[.int .u8 6, .int .u8 (p : Int), .int .u32 0, .int .i64 0, .string ⟨#[]⟩, .slice U.A U.n U.c]) ∧ TrZ w'' (binX p (vrX 120) (binX q (vrX 121) (vrX 122))) U ∧ Below w'.heap.size w' w'')) := Lib.hid fun w' U hu => biZ p (vrX 120) (binX q (vrX 121) (vrX 122)) ⟨none, 0, 0⟩ U (by omega) w' (tzleaf (okV 120) rfl) hu
  have HBC : Hid (Below w7.heap.size w7 w7.drew) := (Below.refl _ _).drew
  have HBA1 : Hid (Below w7.heap.size w7 (w7.alloc (.cells #[.int .u8 0, .int .u8 0, .int .u32 0, .int .i64 0, .string ⟨#[]⟩, .slice none 0 0] 28)).drew) := (balloc (Below.refl _ _) _).drew
  have HBA2 : Hid (Below w7.heap.size w7 ((w7.alloc (.cells #[.int .u8 0, .int .u8 0, .int .u32 0, .int .i64 0, .string ⟨#[]⟩, .slice none 0 0] 28)).alloc (.cells #[.int .u8 0, .int .u8 0, .int .u32 0, .int .i64 0, .string ⟨#[]⟩, .slice none 0 0] 28)).drew) := (balloc (balloc (Below.refl _ _) _) _).drew
  clear HX HY HZ
  generalize hT : ([undef, undef, undef, undef, undef, undef, undef, undef, undef, undef, undef, undef, undef, undef, undef, undef, undef, undef, undef, undef, undef, undef, undef, undef, undef, undef, undef, undef, undef, undef, undef, undef, undef, undef, undef, undef, undef, undef, undef, undef, undef, undef, undef, undef, undef, undef, undef, undef, undef, undef, undef, undef, undef, undef, undef, undef, undef, undef, undef, undef, undef, undef, undef, undef, undef, undef, undef, undef, undef, undef, undef, undef, undef, undef, undef, undef, undef, undef, undef, undef, undef, undef, undef, undef, undef] : List Value) = tl
  go_region_held3 (fun w' => w'.cell? ⟨b7, 0, none⟩ = some (.int .u8 2) ∧ w'.cell? ⟨b7, 1, none⟩ = some (.int .u8 0) ∧ w'.cell? ⟨b7, 2, none⟩ = some (.int .u32 0) ∧ w'.cell? ⟨b7, 3, none⟩ = some (.int .i64 0) ∧ w'.cell? ⟨b7, 4, none⟩ = some (.string ⟨#[120]⟩) ∧ w'.cell? ⟨b7, 5, none⟩ = some (.slice none 0 0) ∧ w'.cell? ⟨b8, 0, none⟩ = some (.int .u8 2) ∧ w'.cell? ⟨b8, 1, none⟩ = some (.int .u8 0) ∧ w'.cell? ⟨b8, 2, none⟩ = some (.int .u32 0) ∧ w'.cell? ⟨b8, 3, none⟩ = some (.int .i64 0) ∧ w'.cell? ⟨b8, 4, none⟩ = some (.string ⟨#[121]⟩) ∧ w'.cell? ⟨b8, 5, none⟩ = some (.slice none 0 0) ∧ w'.cell? ⟨b9, 0, none⟩ = some (.int .u8 2) ∧ w'.cell? ⟨b9, 1, none⟩ = some (.int .u8 0) ∧ w'.cell? ⟨b9, 2, none⟩ = some (.int .u32 0) ∧ w'.cell? ⟨b9, 3, none⟩ = some (.int .i64 0) ∧ w'.cell? ⟨b9, 4, none⟩ = some (.string ⟨#[122]⟩) ∧ w'.cell? ⟨b9, 5, none⟩ = some (.slice none 0 0))
      ((refine (show SRK b7 b8 b9 _ from ?_); first | (with_reducible exact HSS.out _ HBC.out) | (with_reducible exact HSS.out _ (balloc HBC.out _)) | (with_reducible exact HSS.out _ (balloc (balloc HBC.out _) _)) | (have _thA := hA; with_reducible exact HSS.out _ (bset HBC.out hA _ _ _ _ _ _)) | (have _thA2 := hA2; with_reducible exact HSS.out _ (bset HBC.out hA2 _ _ _ _ _ _)) | (have _thA := hA; with_reducible exact HSS.out _ (balloc (bset HBC.out hA _ _ _ _ _ _) _)) | (have _thA2 := hA2; with_reducible exact HSS.out _ (balloc (bset HBC.out hA2 _ _ _ _ _ _) _)) | (have _thA := hA; with_reducible exact HSS.out _ (bset (balloc HBC.out _) hA _ _ _ _ _ _)) | (have _thA2 := hA2; with_reducible exact HSS.out _ (bset (balloc HBC.out _) hA2 _ _ _ _ _ _)) | (have _thA2 := hA2; have _thA := hA; with_reducible exact HSS.out _ (bset (bset HBC.out hA _ _ _ _ _ _) hA2 _ _ _ _ _ _)) | (have _thA2 := hA2; have _thA := hA; with_reducible exact HSS.out _ (bset (bset HBC.out hA2 _ _ _ _ _ _) hA _ _ _ _ _ _)) | (have _tHBA1 := HBA1; with_reducible exact HSS.out _ HBA1.out) | (have _tHBA2 := HBA2; with_reducible exact HSS.out _ HBA2.out)))
      (first
        | (go_at_call 7
           with_reducible refine (H36.out _ HBC.out).mono ?_
           rintro e v36 ⟨U36, rfl, ht, hb⟩
           have HT36 := Lib.hid ht
           have hbs : Below w7.heap.size w7 v36 := (bthen (Below.refl _ _).drew hb)
           try (have HAx := Lib.hid (bkbel HA.out hbs); clear HA; have HA := HAx; clear HAx)
           try (have HAx := Lib.hid (bkbel HA2.out hbs); clear HA2; have HA2 := HAx; clear HAx)
           have HBn := Lib.hid hbs
           clear HBC hb hbs ht
           have HBC := HBn
           clear HBn
           clear HBA1 HBA2)
        | (go_at_call 7
           with_reducible refine (H36.out _ HBA1.out).mono ?_
           rintro e v36 ⟨U36, rfl, ht, hb⟩
           have HT36 := Lib.hid ht
           have hbs : Below w7.heap.size w7 v36 := (bthen (balloc (Below.refl _ _) _).drew hb)
           first | (have HAx := Lib.hid (bkbel HA.out hbs); have hAl := HA.out.lt; have hAA : _ ≠ w7.heap.size := Nat.ne_of_lt hAl; clear HA hAl; have HA := HAx; clear HAx; have HA2 := Lib.hid (bkbel (bkbel (Bk.new w7 28 z6) (Below.refl _ _).drew) hb); have hA2 : w7.heap.size ≤ w7.heap.size := Nat.le_refl _) | (have HA := Lib.hid (bkbel (bkbel (Bk.new w7 28 z6) (Below.refl _ _).drew) hb); have hA : w7.heap.size ≤ w7.heap.size := Nat.le_refl _)
           have HBn := Lib.hid hbs
           clear HBC hb hbs ht
           have HBC := HBn
           clear HBn
           clear HBA1 HBA2)
        | (go_at_call 7
           with_reducible refine (H36.out _ HBA2.out).mono ?_
           rintro e v36 ⟨U36, rfl, ht, hb⟩
           have HT36 := Lib.hid ht
           have hbs : Below w7.heap.size w7 v36 := (bthen (balloc (balloc (Below.refl _ _) _) _).drew hb)
           have HA := Lib.hid (bkbel (bkbel ((Bk.new w7 28 z6).alloc (.cells z6 28)) (Below.refl _ _).drew) hb)
           have hA : w7.heap.size ≤ w7.heap.size := Nat.le_refl _
           have hn2 := Bk.new (w7.alloc (.cells z6 28)) 28 z6
           rw [World.size_alloc] at hn2
           have HA2 := Lib.hid (bkbel (bkbel hn2 (Below.refl _ _).drew) hb)
           have hA2 : w7.heap.size ≤ w7.heap.size + 1 := Nat.le_succ_of_le hA
           have hAA : w7.heap.size ≠ w7.heap.size + 1 := by omega
           clear hn2
           have HBn := Lib.hid hbs
           clear HBC hb hbs ht
           have HBC := HBn
           clear HBn
           clear HBA1 HBA2)
        | (go_at_call 7
           with_reducible refine (H38.out _ _ HT36.out).mono ?_
           rintro e v38 ⟨U38, rfl, ht, hb⟩
           have HT38 := Lib.hid ht
           have hbs : Below v36.heap.size v36 v38 := hb
           try (have HAx := Lib.hid (bkbel HA.out hbs); clear HA; have HA := HAx; clear HAx)
           try (have HAx := Lib.hid (bkbel HA2.out hbs); clear HA2; have HA2 := HAx; clear HAx)
           have HBn := Lib.hid (bthen HBC.out hbs)
           clear HBC hb hbs ht
           have HBC := HBn
           clear HBn
           clear HT36)
        | (go_at_call 7
           with_reducible refine (H38.out _ _ (HT36.out.to pokeB')).mono ?_
           rintro e v38 ⟨U38, rfl, ht, hb⟩
           have HT38 := Lib.hid ht
           have hbs : Below v36.heap.size v36 v38 := (bthen pokeB' hb)
           first | (have HAx := Lib.hid (bkbel HA.out hbs); have hAl := HA.out.lt; have hAA : _ ≠ v36.heap.size := Nat.ne_of_lt hAl; clear HA hAl; have HA := HAx; clear HAx; have HA2 := Lib.hid (bkbel (Bk.new v36 28 z6) hb); have hA2 : w7.heap.size ≤ v36.heap.size := HBC.out.size) | (have HA := Lib.hid (bkbel (Bk.new v36 28 z6) hb); have hA : w7.heap.size ≤ v36.heap.size := HBC.out.size)
           have HBn := Lib.hid (bthen HBC.out hbs)
           clear HBC hb hbs ht
           have HBC := HBn
           clear HBn
           clear HT36)
        | (go_at_call 7
           with_reducible refine (H38.out _ _ ((HT36.out.to pokeB').to pokeB')).mono ?_
           rintro e v38 ⟨U38, rfl, ht, hb⟩
           have HT38 := Lib.hid ht
           have hbs : Below v36.heap.size v36 v38 := (bthen (balloc pokeB' _) hb)
           have HA := Lib.hid (bkbel ((Bk.new v36 28 z6).alloc (.cells z6 28)) hb)
           have hA : w7.heap.size ≤ v36.heap.size := HBC.out.size
           have hn2 := Bk.new (v36.alloc (.cells z6 28)) 28 z6
           rw [World.size_alloc] at hn2
           have HA2 := Lib.hid (bkbel hn2 hb)
           have hA2 : w7.heap.size ≤ v36.heap.size + 1 := Nat.le_succ_of_le hA
           have hAA : v36.heap.size ≠ v36.heap.size + 1 := by omega
           clear hn2
           have HBn := Lib.hid (bthen HBC.out hbs)
           clear HBC hb hbs ht
           have HBC := HBn
           clear HBn
           clear HT36)
        | (go_at_call 7
           with_reducible refine (H44.out _ HBC.out).mono ?_
           rintro e v44 ⟨U44, rfl, ht, hb⟩
           have HT44 := Lib.hid ht
           have hbs : Below v38.heap.size v38 v44 := hb
           have HTx := Lib.hid (HT38.out.to hbs)
           clear HT38
           have HT38 := HTx
           clear HTx
           try (have HAx := Lib.hid (bkbel HA.out hbs); clear HA; have HA := HAx; clear HAx)
           try (have HAx := Lib.hid (bkbel HA2.out hbs); clear HA2; have HA2 := HAx; clear HAx)
           have HBn := Lib.hid (bthen HBC.out hbs)
           clear HBC hb hbs ht
           have HBC := HBn
           clear HBn)
        | (go_at_call 7
           with_reducible refine (H44.out _ (balloc HBC.out _)).mono ?_
           rintro e v44 ⟨U44, rfl, ht, hb⟩
           have HT44 := Lib.hid ht
           have hbs : Below v38.heap.size v38 v44 := (bthen pokeB' hb)
           have HTx := Lib.hid (HT38.out.to hbs)
           clear HT38
           have HT38 := HTx
           clear HTx
           first | (have HAx := Lib.hid (bkbel HA.out hbs); have hAl := HA.out.lt; have hAA : _ ≠ v38.heap.size := Nat.ne_of_lt hAl; clear HA hAl; have HA := HAx; clear HAx; have HA2 := Lib.hid (bkbel (Bk.new v38 28 z6) hb); have hA2 : w7.heap.size ≤ v38.heap.size := HBC.out.size) | (have HA := Lib.hid (bkbel (Bk.new v38 28 z6) hb); have hA : w7.heap.size ≤ v38.heap.size := HBC.out.size)
           have HBn := Lib.hid (bthen HBC.out hbs)
           clear HBC hb hbs ht
           have HBC := HBn
           clear HBn)
        | (go_at_call 7
           with_reducible refine (H44.out _ (balloc (balloc HBC.out _) _)).mono ?_
           rintro e v44 ⟨U44, rfl, ht, hb⟩
           have HT44 := Lib.hid ht
           have hbs : Below v38.heap.size v38 v44 := (bthen (balloc pokeB' _) hb)
           have HTx := Lib.hid (HT38.out.to hbs)
           clear HT38
           have HT38 := HTx
           clear HTx
           have HA := Lib.hid (bkbel ((Bk.new v38 28 z6).alloc (.cells z6 28)) hb)
           have hA : w7.heap.size ≤ v38.heap.size := HBC.out.size
           have hn2 := Bk.new (v38.alloc (.cells z6 28)) 28 z6
           rw [World.size_alloc] at hn2
           have HA2 := Lib.hid (bkbel hn2 hb)
           have hA2 : w7.heap.size ≤ v38.heap.size + 1 := Nat.le_succ_of_le hA
           have hAA : v38.heap.size ≠ v38.heap.size + 1 := by omega
           clear hn2
           have HBn := Lib.hid (bthen HBC.out hbs)
           clear HBC hb hbs ht
           have HBC := HBn
           clear HBn)
        | (go_at_call 7
           with_reducible refine (H45.out _ _ HT44.out).mono ?_
           rintro e v45 ⟨U45, rfl, ht, hb⟩
           have HT45 := Lib.hid ht
           have hbs : Below v44.heap.size v44 v45 := hb
           have HTx := Lib.hid (HT38.out.to hbs)
           clear HT38
           have HT38 := HTx
           clear HTx
           try (have HAx := Lib.hid (bkbel HA.out hbs); clear HA; have HA := HAx; clear HAx)
           try (have HAx := Lib.hid (bkbel HA2.out hbs); clear HA2; have HA2 := HAx; clear HAx)
           have HBn := Lib.hid (bthen HBC.out hbs)
           clear HBC hb hbs ht
           have HBC := HBn
           clear HBn
           clear HT44
           try (obtain ⟨f0, f1, f2, f3, f4, f5, _⟩ := froz7 HA.out; obtain ⟨y0, y1, y2, y3, y4, y5⟩ := cells6 HA.out; have hAl := HA.out.lt)
           try (obtain ⟨g0, g1, g2, g3, g4, g5, _⟩ := froz7 HA2.out; obtain ⟨k0, k1, k2, k3, k4, k5⟩ := cells6 HA2.out; have hAl2 := HA2.out.lt; have hAB := Ne.symm hAA))
        | (go_at_call 7
           with_reducible refine (H45.out _ _ (HT44.out.to pokeB')).mono ?_
           rintro e v45 ⟨U45, rfl, ht, hb⟩
           have HT45 := Lib.hid ht
           have hbs : Below v44.heap.size v44 v45 := (bthen pokeB' hb)
           have HTx := Lib.hid (HT38.out.to hbs)
           clear HT38
           have HT38 := HTx
           clear HTx
           first | (have HAx := Lib.hid (bkbel HA.out hbs); have hAl := HA.out.lt; have hAA : _ ≠ v44.heap.size := Nat.ne_of_lt hAl; clear HA hAl; have HA := HAx; clear HAx; have HA2 := Lib.hid (bkbel (Bk.new v44 28 z6) hb); have hA2 : w7.heap.size ≤ v44.heap.size := HBC.out.size) | (have HA := Lib.hid (bkbel (Bk.new v44 28 z6) hb); have hA : w7.heap.size ≤ v44.heap.size := HBC.out.size)
           have HBn := Lib.hid (bthen HBC.out hbs)
           clear HBC hb hbs ht
           have HBC := HBn
           clear HBn
           clear HT44
           try (obtain ⟨f0, f1, f2, f3, f4, f5, _⟩ := froz7 HA.out; obtain ⟨y0, y1, y2, y3, y4, y5⟩ := cells6 HA.out; have hAl := HA.out.lt)
           try (obtain ⟨g0, g1, g2, g3, g4, g5, _⟩ := froz7 HA2.out; obtain ⟨k0, k1, k2, k3, k4, k5⟩ := cells6 HA2.out; have hAl2 := HA2.out.lt; have hAB := Ne.symm hAA))
        | (go_at_call 7
           with_reducible refine (H45.out _ _ ((HT44.out.to pokeB').to pokeB')).mono ?_
           rintro e v45 ⟨U45, rfl, ht, hb⟩
           have HT45 := Lib.hid ht
           have hbs : Below v44.heap.size v44 v45 := (bthen (balloc pokeB' _) hb)
           have HTx := Lib.hid (HT38.out.to hbs)
           clear HT38
           have HT38 := HTx
           clear HTx
           have HA := Lib.hid (bkbel ((Bk.new v44 28 z6).alloc (.cells z6 28)) hb)
           have hA : w7.heap.size ≤ v44.heap.size := HBC.out.size
           have hn2 := Bk.new (v44.alloc (.cells z6 28)) 28 z6
           rw [World.size_alloc] at hn2
           have HA2 := Lib.hid (bkbel hn2 hb)
           have hA2 : w7.heap.size ≤ v44.heap.size + 1 := Nat.le_succ_of_le hA
           have hAA : v44.heap.size ≠ v44.heap.size + 1 := by omega
           clear hn2
           have HBn := Lib.hid (bthen HBC.out hbs)
           clear HBC hb hbs ht
           have HBC := HBn
           clear HBn
           clear HT44
           try (obtain ⟨f0, f1, f2, f3, f4, f5, _⟩ := froz7 HA.out; obtain ⟨y0, y1, y2, y3, y4, y5⟩ := cells6 HA.out; have hAl := HA.out.lt)
           try (obtain ⟨g0, g1, g2, g3, g4, g5, _⟩ := froz7 HA2.out; obtain ⟨k0, k1, k2, k3, k4, k5⟩ := cells6 HA2.out; have hAl2 := HA2.out.lt; have hAB := Ne.symm hAA)))
  all_goals
    subst hT
    go_wp2
    first
      | (have _tHA := HA; have _tHA2 := HA2; have _thAA := hAA; with_reducible exact hK _ _ _ _ _ _ _ _ _ _ _ _ _ _ _ _ _ _ _ (Lib.hid (fin_tt HT38.out HT45.out HA.out HA2.out hAA _ _ _ _ _ _ _ _ _ _ _ _)) (Lib.hid (bset (bset HBC.out hA _ _ _ _ _ _) hA2 _ _ _ _ _ _)))
      | (have _tHA := HA; have _tHA2 := HA2; have _thAA := hAA; with_reducible exact hK _ _ _ _ _ _ _ _ _ _ _ _ _ _ _ _ _ _ _ (Lib.hid (fin_tt HT38.out HT45.out HA2.out HA.out (Ne.symm hAA) _ _ _ _ _ _ _ _ _ _ _ _)) (Lib.hid (bset (bset HBC.out hA2 _ _ _ _ _ _) hA _ _ _ _ _ _)))
      | (have _tHA := HA; with_reducible exact hK _ _ _ _ _ _ _ _ _ _ _ _ _ _ _ _ _ _ _ (Lib.hid (fin_tf HT38.out HT45.out HA.out _ _ _ _ _ _ _ _ _ _ _ _)) (Lib.hid (balloc (bset HBC.out hA _ _ _ _ _ _) _)))
      | (have _tHA := HA; with_reducible exact hK _ _ _ _ _ _ _ _ _ _ _ _ _ _ _ _ _ _ _ (Lib.hid (fin_tf HT45.out HT38.out HA.out _ _ _ _ _ _ _ _ _ _ _ _).swap) (Lib.hid (balloc (bset HBC.out hA _ _ _ _ _ _) _)))
      | (with_reducible exact hK _ _ _ _ _ _ _ _ _ _ _ _ _ _ _ _ _ _ _ (Lib.hid (fin_ff HT38.out HT45.out _ _)) (Lib.hid (balloc (balloc HBC.out _) _)))
      | (with_reducible exact hK _ _ _ _ _ _ _ _ _ _ _ _ _ _ _ _ _ _ _ (Lib.hid (fin_ff HT45.out HT38.out _ _).swap) (Lib.hid (balloc (balloc HBC.out _) _)))
end Go.Proofs.YtehcpcpmcngnjaaDoor
