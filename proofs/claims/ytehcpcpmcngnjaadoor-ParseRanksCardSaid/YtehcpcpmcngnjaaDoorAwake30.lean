/-
  awake: the chapter's examples.
-/
import Derived.Test.YtehcpcpmcngnjaaDoorMk30
set_option linter.unusedVariables false
set_option linter.unusedSimpArgs false
namespace Go.Proofs.YtehcpcpmcngnjaaDoor
open Go.RowKit Go.PlainAid

theorem tleaf {B : Nat} {w : World} {x : Ex} (ok : ExOk x) (hs : x.subs = []) : TrT B w x ⟨none, 0, 0⟩ := .leaf ok hs 0
/-- A row just built, and what stands over it. -/
theorem tree_row {v : World} {x : Ex} (L : List (Ex × SV)) (ok : ExOk x) (hx : x.subs = L.map fun q => q.1) (hL : ∀ q ∈ L, TrT 0 v q.1 q.2) : TrT 0 (v.alloc (.cells (L.flatMap fun q => cellT q.1 q.2).toArray 28)) x ⟨some ⟨v.heap.size, 0, none⟩, L.length, L.length⟩ := by
  have h := RdT.new v (L.flatMap fun q => cellT q.1 q.2).toArray 28
  rw [List.toList_toArray] at h
  exact tree_mk L ok hx h (fun _ _ _ => Nat.zero_le _) (fun q hq => (hL q hq).bel pokeB')
theorem okV (c : UInt8) : ExOk (vrX c) := ⟨by show (2:Nat) ≤ 255; decide, by show (0:Nat) ≤ 255; decide, by show (0:Nat) ≤ 4294967295; decide, by show (-9223372036854775808:Int) ≤ 0; decide, by show (0:Int) ≤ 9223372036854775807; decide, by show (1:Nat) ≤ 1000000; decide, by show (0:Nat) ≤ 1000; decide⟩
theorem okN (v : Nat) (k : Int) (hv : v ≤ 4294967295) (h0 : -9223372036854775808 ≤ k) (h1 : k ≤ 9223372036854775807) : ExOk (numX v k) := ⟨by show (1:Nat) ≤ 255; decide, by show (0:Nat) ≤ 255; decide, hv, h0, h1, by show (0:Nat) ≤ 1000000; decide, by show (0:Nat) ≤ 1000; decide⟩
theorem okC (k : Int) (x : Ex) (h0 : -9223372036854775808 ≤ k) (h1 : k ≤ 9223372036854775807) : ExOk (castX k x) := ⟨by show (8:Nat) ≤ 255; decide, by show (0:Nat) ≤ 255; decide, by show (0:Nat) ≤ 4294967295; decide, h0, h1, by show (0:Nat) ≤ 1000000; decide, by show (1:Nat) ≤ 1000; decide⟩
theorem okU (o : Nat) (x : Ex) (ho : o ≤ 255) : ExOk (unX o x) := ⟨by show (5:Nat) ≤ 255; decide, ho, by show (0:Nat) ≤ 4294967295; decide, by show (-9223372036854775808:Int) ≤ 0; decide, by show (0:Int) ≤ 9223372036854775807; decide, by show (0:Nat) ≤ 1000000; decide, by show (1:Nat) ≤ 1000; decide⟩
theorem okE (n : UInt8) (x : Ex) : ExOk (elemX [n] x) := ⟨by show (3:Nat) ≤ 255; decide, by show (0:Nat) ≤ 255; decide, by show (0:Nat) ≤ 4294967295; decide, by show (-9223372036854775808:Int) ≤ 0; decide, by show (0:Int) ≤ 9223372036854775807; decide, by show (1:Nat) ≤ 1000000; decide, by show (1:Nat) ≤ 1000; decide⟩
theorem okM (x y z : Ex) : ExOk (muxX x y z) := ⟨by show (7:Nat) ≤ 255; decide, by show (0:Nat) ≤ 255; decide, by show (0:Nat) ≤ 4294967295; decide, by show (-9223372036854775808:Int) ≤ 0; decide, by show (0:Int) ≤ 9223372036854775807; decide, by show (0:Nat) ≤ 1000000; decide, by show (3:Nat) ≤ 1000; decide⟩
theorem one_tr {w : World} {x : Ex} {S : SV} (h : TrT 0 w x S) : ∀ q ∈ [(x, S)], TrT 0 w q.1 q.2 := fun q hq => by rw [List.mem_singleton.1 hq]; exact h
theorem three_tr {w : World} {x y z : Ex} {S V U : SV} (h1 : TrT 0 w x S) (h2 : TrT 0 w y V) (h3 : TrT 0 w z U) : ∀ q ∈ [(x, S), (y, V), (z, U)], TrT 0 w q.1 q.2 := fun q hq => by
  simp only [List.mem_cons, List.not_mem_nil, or_false] at hq
  rcases hq with rfl | rfl | rfl
  · exact h1
  · exact h2
  · exact h3
def SAW (b1 b2 b3 b4 b5 : Nat) (S1 S2 S3 S4 S5 : SV) (w' : World) : Prop := w'.cell? ⟨b1, 0, none⟩ = some (.int .u8 8) ∧ w'.cell? ⟨b1, 1, none⟩ = some (.int .u8 0) ∧ w'.cell? ⟨b1, 2, none⟩ = some (.int .u32 0) ∧ w'.cell? ⟨b1, 3, none⟩ = some (.int .i64 2) ∧ w'.cell? ⟨b1, 4, none⟩ = some (.string ⟨#[]⟩) ∧ w'.cell? ⟨b1, 5, none⟩ = some (.slice S1.A S1.n S1.c) ∧ w'.cell? ⟨b2, 0, none⟩ = some (.int .u8 5) ∧ w'.cell? ⟨b2, 1, none⟩ = some (.int .u8 1) ∧ w'.cell? ⟨b2, 2, none⟩ = some (.int .u32 0) ∧ w'.cell? ⟨b2, 3, none⟩ = some (.int .i64 0) ∧ w'.cell? ⟨b2, 4, none⟩ = some (.string ⟨#[]⟩) ∧ w'.cell? ⟨b2, 5, none⟩ = some (.slice S2.A S2.n S2.c) ∧ w'.cell? ⟨b3, 0, none⟩ = some (.int .u8 3) ∧ w'.cell? ⟨b3, 1, none⟩ = some (.int .u8 0) ∧ w'.cell? ⟨b3, 2, none⟩ = some (.int .u32 0) ∧ w'.cell? ⟨b3, 3, none⟩ = some (.int .i64 0) ∧ w'.cell? ⟨b3, 4, none⟩ = some (.string ⟨#[97]⟩) ∧ w'.cell? ⟨b3, 5, none⟩ = some (.slice S3.A S3.n S3.c) ∧ w'.cell? ⟨b4, 0, none⟩ = some (.int .u8 5) ∧ w'.cell? ⟨b4, 1, none⟩ = some (.int .u8 2) ∧ w'.cell? ⟨b4, 2, none⟩ = some (.int .u32 0) ∧ w'.cell? ⟨b4, 3, none⟩ = some (.int .i64 0) ∧ w'.cell? ⟨b4, 4, none⟩ = some (.string ⟨#[]⟩) ∧ w'.cell? ⟨b4, 5, none⟩ = some (.slice S4.A S4.n S4.c) ∧ w'.cell? ⟨b5, 0, none⟩ = some (.int .u8 7) ∧ w'.cell? ⟨b5, 1, none⟩ = some (.int .u8 0) ∧ w'.cell? ⟨b5, 2, none⟩ = some (.int .u32 0) ∧ w'.cell? ⟨b5, 3, none⟩ = some (.int .i64 0) ∧ w'.cell? ⟨b5, 4, none⟩ = some (.string ⟨#[]⟩) ∧ w'.cell? ⟨b5, 5, none⟩ = some (.slice S5.A S5.n S5.c)
theorem saw_of {W w' : World} {b1 b2 b3 b4 b5 : Nat} {S1 S2 S3 S4 S5 : SV} (h1 : Bk W b1 28 #[.int .u8 8, .int .u8 0, .int .u32 0, .int .i64 2, .string ⟨#[]⟩, .slice S1.A S1.n S1.c]) (h2 : Bk W b2 28 #[.int .u8 5, .int .u8 1, .int .u32 0, .int .i64 0, .string ⟨#[]⟩, .slice S2.A S2.n S2.c]) (h3 : Bk W b3 28 #[.int .u8 3, .int .u8 0, .int .u32 0, .int .i64 0, .string ⟨#[97]⟩, .slice S3.A S3.n S3.c]) (h4 : Bk W b4 28 #[.int .u8 5, .int .u8 2, .int .u32 0, .int .i64 0, .string ⟨#[]⟩, .slice S4.A S4.n S4.c]) (h5 : Bk W b5 28 #[.int .u8 7, .int .u8 0, .int .u32 0, .int .i64 0, .string ⟨#[]⟩, .slice S5.A S5.n S5.c]) (hb : Below W.heap.size W w') : SAW b1 b2 b3 b4 b5 S1 S2 S3 S4 S5 w' := by
  obtain ⟨x10, x11, x12, x13, x14, x15⟩ := cells6 (bkbel h1 hb)
  obtain ⟨x20, x21, x22, x23, x24, x25⟩ := cells6 (bkbel h2 hb)
  obtain ⟨x30, x31, x32, x33, x34, x35⟩ := cells6 (bkbel h3 hb)
  obtain ⟨x40, x41, x42, x43, x44, x45⟩ := cells6 (bkbel h4 hb)
  obtain ⟨x50, x51, x52, x53, x54, x55⟩ := cells6 (bkbel h5 hb)
  exact ⟨x10, x11, x12, x13, x14, x15, x20, x21, x22, x23, x24, x25, x30, x31, x32, x33, x34, x35, x40, x41, x42, x43, x44, x45, x50, x51, x52, x53, x54, x55⟩
set_option maxRecDepth 100000 in
set_option maxHeartbeats 8000000 in
theorem awakeC (w : World) (hv : Hid (Vars w)) : Calls Tryd.prog 4 #[] w fun e w' => e = .returned (.bool true) ∧ Below w.heap.size w w' := by
  go_enter Tryd.func4, Tryd.ntmps4
  have HB0 : Hid (Below w.heap.size w w) := Below.refl _ _
  go_wp2_with fail
  refine (nmC ⟨#[121]⟩ w).mono ?_
  rintro e w1 ⟨rfl, hb⟩
  have HB1 := Lib.hid (bthen HB0.out hb)
  clear HB0
  clear hb
  have ht0 : TrT 0 (w1.alloc (.cells #[.int .u8 2, .int .u8 0, .int .u32 0, .int .i64 0, .string ⟨#[121]⟩, .slice none 0 0] 28)) (castX 2 (vrX 121)) ⟨some ⟨w1.heap.size, 0, none⟩, 1, 1⟩ := tree_row [((vrX 121), ⟨none, 0, 0⟩)] (okC 2 _ (by decide) (by decide)) rfl (one_tr (tleaf (okV 121) rfl))
  have HTn := Lib.hid (ht0.bel (pokeB' (o := .cells #[.int .u8 8, .int .u8 0, .int .u32 0, .int .i64 2, .string ⟨#[]⟩, .slice (some ⟨w1.heap.size, 0, none⟩) 1 1] 28)))
  have hx := Bk.new (w1.alloc (.cells #[.int .u8 2, .int .u8 0, .int .u32 0, .int .i64 0, .string ⟨#[121]⟩, .slice none 0 0] 28)) 28 #[.int .u8 8, .int .u8 0, .int .u32 0, .int .i64 2, .string ⟨#[]⟩, .slice (some ⟨w1.heap.size, 0, none⟩) 1 1]
  simp only [World.size_alloc] at hx
  have HXn := Lib.hid hx
  clear hx ht0
  have hb : Below w1.heap.size w1 ((w1.alloc (.cells #[.int .u8 2, .int .u8 0, .int .u32 0, .int .i64 0, .string ⟨#[121]⟩, .slice none 0 0] 28)).alloc (.cells #[.int .u8 8, .int .u8 0, .int .u32 0, .int .i64 2, .string ⟨#[]⟩, .slice (some ⟨w1.heap.size, 0, none⟩) 1 1] 28)) := balloc (balloc (Below.refl _ _) _) _
  have HB2 := Lib.hid (bthen HB1.out hb)
  clear HB1
  clear hb
  go_upto_region 2 with fail
  generalize ((w1.alloc (.cells #[.int .u8 2, .int .u8 0, .int .u32 0, .int .i64 0, .string ⟨#[121]⟩, .slice none 0 0] 28)).alloc (.cells #[.int .u8 8, .int .u8 0, .int .u32 0, .int .i64 2, .string ⟨#[]⟩, .slice (some ⟨w1.heap.size, 0, none⟩) 1 1] 28)) = w2 at HB2 HTn HXn ⊢
  obtain ⟨b1, hbn⟩ : ∃ b, w1.heap.size + 1 = b := ⟨_, rfl⟩
  rw [hbn] at HXn
  rw [hbn]
  clear hbn
  obtain ⟨S1, hSn⟩ : ∃ S : SV, S = ⟨some ⟨w1.heap.size, 0, none⟩, 1, 1⟩ := ⟨_, rfl⟩
  rw [← hSn] at HTn
  have hSl : Value.slice (some ⟨w1.heap.size, 0, none⟩) 1 1 = .slice S1.A S1.n S1.c := by rw [hSn]
  rw [hSl] at HXn
  try rw [hSl]
  clear hSn hSl
  have HT1 := HTn
  have HX1 := HXn
  clear HTn HXn
  go_wp2_with fail
  refine (nmC ⟨#[122]⟩ w2).mono ?_
  rintro e w3 ⟨rfl, hb⟩
  have HB3 := Lib.hid (bthen HB2.out hb)
  have HTx := Lib.hid (HT1.out.bel hb)
  clear HT1
  have HT1 := HTx
  clear HTx
  have HXx := Lib.hid (bkbel HX1.out hb)
  clear HX1
  have HX1 := HXx
  clear HXx
  clear HB2
  clear hb
  have ht0 : TrT 0 (w3.alloc (.cells #[.int .u8 2, .int .u8 0, .int .u32 0, .int .i64 0, .string ⟨#[122]⟩, .slice none 0 0] 28)) (unX 1 (vrX 122)) ⟨some ⟨w3.heap.size, 0, none⟩, 1, 1⟩ := tree_row [((vrX 122), ⟨none, 0, 0⟩)] (okU 1 _ (by decide)) rfl (one_tr (tleaf (okV 122) rfl))
  have HTn := Lib.hid (ht0.bel (pokeB' (o := .cells #[.int .u8 5, .int .u8 1, .int .u32 0, .int .i64 0, .string ⟨#[]⟩, .slice (some ⟨w3.heap.size, 0, none⟩) 1 1] 28)))
  have hx := Bk.new (w3.alloc (.cells #[.int .u8 2, .int .u8 0, .int .u32 0, .int .i64 0, .string ⟨#[122]⟩, .slice none 0 0] 28)) 28 #[.int .u8 5, .int .u8 1, .int .u32 0, .int .i64 0, .string ⟨#[]⟩, .slice (some ⟨w3.heap.size, 0, none⟩) 1 1]
  simp only [World.size_alloc] at hx
  have HXn := Lib.hid hx
  clear hx ht0
  have hb : Below w3.heap.size w3 ((w3.alloc (.cells #[.int .u8 2, .int .u8 0, .int .u32 0, .int .i64 0, .string ⟨#[122]⟩, .slice none 0 0] 28)).alloc (.cells #[.int .u8 5, .int .u8 1, .int .u32 0, .int .i64 0, .string ⟨#[]⟩, .slice (some ⟨w3.heap.size, 0, none⟩) 1 1] 28)) := balloc (balloc (Below.refl _ _) _) _
  have HB4 := Lib.hid (bthen HB3.out hb)
  have HTx := Lib.hid (HT1.out.bel hb)
  clear HT1
  have HT1 := HTx
  clear HTx
  have HXx := Lib.hid (bkbel HX1.out hb)
  clear HX1
  have HX1 := HXx
  clear HXx
  clear HB3
  clear hb
  go_upto_region 3 with fail
  generalize ((w3.alloc (.cells #[.int .u8 2, .int .u8 0, .int .u32 0, .int .i64 0, .string ⟨#[122]⟩, .slice none 0 0] 28)).alloc (.cells #[.int .u8 5, .int .u8 1, .int .u32 0, .int .i64 0, .string ⟨#[]⟩, .slice (some ⟨w3.heap.size, 0, none⟩) 1 1] 28)) = w4 at HB4 HTn HXn HT1 HX1 ⊢
  obtain ⟨b2, hbn⟩ : ∃ b, w3.heap.size + 1 = b := ⟨_, rfl⟩
  rw [hbn] at HXn
  rw [hbn]
  clear hbn
  obtain ⟨S2, hSn⟩ : ∃ S : SV, S = ⟨some ⟨w3.heap.size, 0, none⟩, 1, 1⟩ := ⟨_, rfl⟩
  rw [← hSn] at HTn
  have hSl : Value.slice (some ⟨w3.heap.size, 0, none⟩) 1 1 = .slice S2.A S2.n S2.c := by rw [hSn]
  rw [hSl] at HXn
  try rw [hSl]
  clear hSn hSl
  have HT2 := HTn
  have HX2 := HXn
  clear HTn HXn
  go_wp2_with fail
  refine (nuC 0 1 w4).mono ?_
  rintro e w5 ⟨rfl, hb⟩
  have HB5 := Lib.hid (bthen HB4.out hb)
  have HTx := Lib.hid (HT1.out.bel hb)
  clear HT1
  have HT1 := HTx
  clear HTx
  have HXx := Lib.hid (bkbel HX1.out hb)
  clear HX1
  have HX1 := HXx
  clear HXx
  have HTx := Lib.hid (HT2.out.bel hb)
  clear HT2
  have HT2 := HTx
  clear HTx
  have HXx := Lib.hid (bkbel HX2.out hb)
  clear HX2
  have HX2 := HXx
  clear HXx
  clear HB4
  clear hb
  have ht0 : TrT 0 (w5.alloc (.cells #[.int .u8 1, .int .u8 0, .int .u32 0, .int .i64 1, .string ⟨#[]⟩, .slice none 0 0] 28)) (elemX [97] (numX 0 1)) ⟨some ⟨w5.heap.size, 0, none⟩, 1, 1⟩ := tree_row [((numX 0 1), ⟨none, 0, 0⟩)] (okE 97 _) rfl (one_tr (tleaf (okN 0 1 (by decide) (by decide) (by decide)) rfl))
  have HTn := Lib.hid (ht0.bel (pokeB' (o := .cells #[.int .u8 3, .int .u8 0, .int .u32 0, .int .i64 0, .string ⟨#[97]⟩, .slice (some ⟨w5.heap.size, 0, none⟩) 1 1] 28)))
  have hx := Bk.new (w5.alloc (.cells #[.int .u8 1, .int .u8 0, .int .u32 0, .int .i64 1, .string ⟨#[]⟩, .slice none 0 0] 28)) 28 #[.int .u8 3, .int .u8 0, .int .u32 0, .int .i64 0, .string ⟨#[97]⟩, .slice (some ⟨w5.heap.size, 0, none⟩) 1 1]
  simp only [World.size_alloc] at hx
  have HXn := Lib.hid hx
  clear hx ht0
  have hb : Below w5.heap.size w5 ((w5.alloc (.cells #[.int .u8 1, .int .u8 0, .int .u32 0, .int .i64 1, .string ⟨#[]⟩, .slice none 0 0] 28)).alloc (.cells #[.int .u8 3, .int .u8 0, .int .u32 0, .int .i64 0, .string ⟨#[97]⟩, .slice (some ⟨w5.heap.size, 0, none⟩) 1 1] 28)) := balloc (balloc (Below.refl _ _) _) _
  have HB6 := Lib.hid (bthen HB5.out hb)
  have HTx := Lib.hid (HT1.out.bel hb)
  clear HT1
  have HT1 := HTx
  clear HTx
  have HXx := Lib.hid (bkbel HX1.out hb)
  clear HX1
  have HX1 := HXx
  clear HXx
  have HTx := Lib.hid (HT2.out.bel hb)
  clear HT2
  have HT2 := HTx
  clear HTx
  have HXx := Lib.hid (bkbel HX2.out hb)
  clear HX2
  have HX2 := HXx
  clear HXx
  clear HB5
  clear hb
  go_upto_region 4 with fail
  generalize ((w5.alloc (.cells #[.int .u8 1, .int .u8 0, .int .u32 0, .int .i64 1, .string ⟨#[]⟩, .slice none 0 0] 28)).alloc (.cells #[.int .u8 3, .int .u8 0, .int .u32 0, .int .i64 0, .string ⟨#[97]⟩, .slice (some ⟨w5.heap.size, 0, none⟩) 1 1] 28)) = w6 at HB6 HTn HXn HT1 HX1 HT2 HX2 ⊢
  obtain ⟨b3, hbn⟩ : ∃ b, w5.heap.size + 1 = b := ⟨_, rfl⟩
  rw [hbn] at HXn
  rw [hbn]
  clear hbn
  obtain ⟨S3, hSn⟩ : ∃ S : SV, S = ⟨some ⟨w5.heap.size, 0, none⟩, 1, 1⟩ := ⟨_, rfl⟩
  rw [← hSn] at HTn
  have hSl : Value.slice (some ⟨w5.heap.size, 0, none⟩) 1 1 = .slice S3.A S3.n S3.c := by rw [hSn]
  rw [hSl] at HXn
  try rw [hSl]
  clear hSn hSl
  have HT3 := HTn
  have HX3 := HXn
  clear HTn HXn
  go_wp2_with fail
  refine (nmC ⟨#[120]⟩ w6).mono ?_
  rintro e w7 ⟨rfl, hb⟩
  have HB7 := Lib.hid (bthen HB6.out hb)
  have HTx := Lib.hid (HT1.out.bel hb)
  clear HT1
  have HT1 := HTx
  clear HTx
  have HXx := Lib.hid (bkbel HX1.out hb)
  clear HX1
  have HX1 := HXx
  clear HXx
  have HTx := Lib.hid (HT2.out.bel hb)
  clear HT2
  have HT2 := HTx
  clear HTx
  have HXx := Lib.hid (bkbel HX2.out hb)
  clear HX2
  have HX2 := HXx
  clear HXx
  have HTx := Lib.hid (HT3.out.bel hb)
  clear HT3
  have HT3 := HTx
  clear HTx
  have HXx := Lib.hid (bkbel HX3.out hb)
  clear HX3
  have HX3 := HXx
  clear HXx
  clear HB6
  clear hb
  have ht0 : TrT 0 (w7.alloc (.cells #[.int .u8 2, .int .u8 0, .int .u32 0, .int .i64 0, .string ⟨#[120]⟩, .slice none 0 0] 28)) (unX 2 (vrX 120)) ⟨some ⟨w7.heap.size, 0, none⟩, 1, 1⟩ := tree_row [((vrX 120), ⟨none, 0, 0⟩)] (okU 2 _ (by decide)) rfl (one_tr (tleaf (okV 120) rfl))
  have ht1 : TrT 0 ((w7.alloc (.cells #[.int .u8 2, .int .u8 0, .int .u32 0, .int .i64 0, .string ⟨#[120]⟩, .slice none 0 0] 28)).alloc (.cells #[.int .u8 5, .int .u8 2, .int .u32 0, .int .i64 0, .string ⟨#[]⟩, .slice (some ⟨w7.heap.size, 0, none⟩) 1 1] 28)) (unX 2 (unX 2 (vrX 120))) ⟨some ⟨w7.heap.size + 1, 0, none⟩, 1, 1⟩ := by have hq := tree_row [((unX 2 (vrX 120)), ⟨some ⟨w7.heap.size, 0, none⟩, 1, 1⟩)] (okU 2 _ (by decide)) rfl (one_tr ht0); rw [World.size_alloc] at hq; exact hq
  have HTn := Lib.hid (ht1.bel (pokeB' (o := .cells #[.int .u8 5, .int .u8 2, .int .u32 0, .int .i64 0, .string ⟨#[]⟩, .slice (some ⟨w7.heap.size + 1, 0, none⟩) 1 1] 28)))
  have hx := Bk.new ((w7.alloc (.cells #[.int .u8 2, .int .u8 0, .int .u32 0, .int .i64 0, .string ⟨#[120]⟩, .slice none 0 0] 28)).alloc (.cells #[.int .u8 5, .int .u8 2, .int .u32 0, .int .i64 0, .string ⟨#[]⟩, .slice (some ⟨w7.heap.size, 0, none⟩) 1 1] 28)) 28 #[.int .u8 5, .int .u8 2, .int .u32 0, .int .i64 0, .string ⟨#[]⟩, .slice (some ⟨w7.heap.size + 1, 0, none⟩) 1 1]
  simp only [World.size_alloc] at hx
  have HXn := Lib.hid hx
  clear hx ht0 ht1
  have hb : Below w7.heap.size w7 (((w7.alloc (.cells #[.int .u8 2, .int .u8 0, .int .u32 0, .int .i64 0, .string ⟨#[120]⟩, .slice none 0 0] 28)).alloc (.cells #[.int .u8 5, .int .u8 2, .int .u32 0, .int .i64 0, .string ⟨#[]⟩, .slice (some ⟨w7.heap.size, 0, none⟩) 1 1] 28)).alloc (.cells #[.int .u8 5, .int .u8 2, .int .u32 0, .int .i64 0, .string ⟨#[]⟩, .slice (some ⟨w7.heap.size + 1, 0, none⟩) 1 1] 28)) := balloc (balloc (balloc (Below.refl _ _) _) _) _
  have HB8 := Lib.hid (bthen HB7.out hb)
  have HTx := Lib.hid (HT1.out.bel hb)
  clear HT1
  have HT1 := HTx
  clear HTx
  have HXx := Lib.hid (bkbel HX1.out hb)
  clear HX1
  have HX1 := HXx
  clear HXx
  have HTx := Lib.hid (HT2.out.bel hb)
  clear HT2
  have HT2 := HTx
  clear HTx
  have HXx := Lib.hid (bkbel HX2.out hb)
  clear HX2
  have HX2 := HXx
  clear HXx
  have HTx := Lib.hid (HT3.out.bel hb)
  clear HT3
  have HT3 := HTx
  clear HTx
  have HXx := Lib.hid (bkbel HX3.out hb)
  clear HX3
  have HX3 := HXx
  clear HXx
  clear HB7
  clear hb
  go_upto_region 5 with fail
  generalize (((w7.alloc (.cells #[.int .u8 2, .int .u8 0, .int .u32 0, .int .i64 0, .string ⟨#[120]⟩, .slice none 0 0] 28)).alloc (.cells #[.int .u8 5, .int .u8 2, .int .u32 0, .int .i64 0, .string ⟨#[]⟩, .slice (some ⟨w7.heap.size, 0, none⟩) 1 1] 28)).alloc (.cells #[.int .u8 5, .int .u8 2, .int .u32 0, .int .i64 0, .string ⟨#[]⟩, .slice (some ⟨w7.heap.size + 1, 0, none⟩) 1 1] 28)) = w8 at HB8 HTn HXn HT1 HX1 HT2 HX2 HT3 HX3 ⊢
  obtain ⟨b4, hbn⟩ : ∃ b, w7.heap.size + 1 + 1 = b := ⟨_, rfl⟩
  rw [hbn] at HXn
  rw [hbn]
  clear hbn
  obtain ⟨S4, hSn⟩ : ∃ S : SV, S = ⟨some ⟨w7.heap.size + 1, 0, none⟩, 1, 1⟩ := ⟨_, rfl⟩
  rw [← hSn] at HTn
  have hSl : Value.slice (some ⟨w7.heap.size + 1, 0, none⟩) 1 1 = .slice S4.A S4.n S4.c := by rw [hSn]
  rw [hSl] at HXn
  try rw [hSl]
  clear hSn hSl
  have HT4 := HTn
  have HX4 := HXn
  clear HTn HXn
  go_wp2_with fail
  refine (nmC ⟨#[100]⟩ w8).mono ?_
  rintro e w9 ⟨rfl, hb⟩
  have HB9 := Lib.hid (bthen HB8.out hb)
  have HTx := Lib.hid (HT1.out.bel hb)
  clear HT1
  have HT1 := HTx
  clear HTx
  have HXx := Lib.hid (bkbel HX1.out hb)
  clear HX1
  have HX1 := HXx
  clear HXx
  have HTx := Lib.hid (HT2.out.bel hb)
  clear HT2
  have HT2 := HTx
  clear HTx
  have HXx := Lib.hid (bkbel HX2.out hb)
  clear HX2
  have HX2 := HXx
  clear HXx
  have HTx := Lib.hid (HT3.out.bel hb)
  clear HT3
  have HT3 := HTx
  clear HTx
  have HXx := Lib.hid (bkbel HX3.out hb)
  clear HX3
  have HX3 := HXx
  clear HXx
  have HTx := Lib.hid (HT4.out.bel hb)
  clear HT4
  have HT4 := HTx
  clear HTx
  have HXx := Lib.hid (bkbel HX4.out hb)
  clear HX4
  have HX4 := HXx
  clear HXx
  clear HB8
  clear hb
  go_wp2_with fail
  refine (nmC ⟨#[120]⟩ w9).mono ?_
  rintro e w10 ⟨rfl, hb⟩
  have HB10 := Lib.hid (bthen HB9.out hb)
  have HTx := Lib.hid (HT1.out.bel hb)
  clear HT1
  have HT1 := HTx
  clear HTx
  have HXx := Lib.hid (bkbel HX1.out hb)
  clear HX1
  have HX1 := HXx
  clear HXx
  have HTx := Lib.hid (HT2.out.bel hb)
  clear HT2
  have HT2 := HTx
  clear HTx
  have HXx := Lib.hid (bkbel HX2.out hb)
  clear HX2
  have HX2 := HXx
  clear HXx
  have HTx := Lib.hid (HT3.out.bel hb)
  clear HT3
  have HT3 := HTx
  clear HTx
  have HXx := Lib.hid (bkbel HX3.out hb)
  clear HX3
  have HX3 := HXx
  clear HXx
  have HTx := Lib.hid (HT4.out.bel hb)
  clear HT4
  have HT4 := HTx
  clear HTx
  have HXx := Lib.hid (bkbel HX4.out hb)
  clear HX4
  have HX4 := HXx
  clear HXx
  clear HB9
  clear hb
  go_wp2_with fail
  refine (nmC ⟨#[121]⟩ w10).mono ?_
  rintro e w11 ⟨rfl, hb⟩
  have HB11 := Lib.hid (bthen HB10.out hb)
  have HTx := Lib.hid (HT1.out.bel hb)
  clear HT1
  have HT1 := HTx
  clear HTx
  have HXx := Lib.hid (bkbel HX1.out hb)
  clear HX1
  have HX1 := HXx
  clear HXx
  have HTx := Lib.hid (HT2.out.bel hb)
  clear HT2
  have HT2 := HTx
  clear HTx
  have HXx := Lib.hid (bkbel HX2.out hb)
  clear HX2
  have HX2 := HXx
  clear HXx
  have HTx := Lib.hid (HT3.out.bel hb)
  clear HT3
  have HT3 := HTx
  clear HTx
  have HXx := Lib.hid (bkbel HX3.out hb)
  clear HX3
  have HX3 := HXx
  clear HXx
  have HTx := Lib.hid (HT4.out.bel hb)
  clear HT4
  have HT4 := HTx
  clear HTx
  have HXx := Lib.hid (bkbel HX4.out hb)
  clear HX4
  have HX4 := HXx
  clear HXx
  clear HB10
  clear hb
  have ht0 : TrT 0 (w11.alloc (.cells #[.int .u8 2, .int .u8 0, .int .u32 0, .int .i64 0, .string ⟨#[100]⟩, .slice none 0 0, .int .u8 2, .int .u8 0, .int .u32 0, .int .i64 0, .string ⟨#[120]⟩, .slice none 0 0, .int .u8 2, .int .u8 0, .int .u32 0, .int .i64 0, .string ⟨#[121]⟩, .slice none 0 0] 28)) (muxX (vrX 100) (vrX 120) (vrX 121)) ⟨some ⟨w11.heap.size, 0, none⟩, 3, 3⟩ := tree_row [((vrX 100), ⟨none, 0, 0⟩), ((vrX 120), ⟨none, 0, 0⟩), ((vrX 121), ⟨none, 0, 0⟩)] (okM _ _ _) rfl (three_tr (tleaf (okV 100) rfl) (tleaf (okV 120) rfl) (tleaf (okV 121) rfl))
  have HTn := Lib.hid (ht0.bel (pokeB' (o := .cells #[.int .u8 7, .int .u8 0, .int .u32 0, .int .i64 0, .string ⟨#[]⟩, .slice (some ⟨w11.heap.size, 0, none⟩) 3 3] 28)))
  have hx := Bk.new (w11.alloc (.cells #[.int .u8 2, .int .u8 0, .int .u32 0, .int .i64 0, .string ⟨#[100]⟩, .slice none 0 0, .int .u8 2, .int .u8 0, .int .u32 0, .int .i64 0, .string ⟨#[120]⟩, .slice none 0 0, .int .u8 2, .int .u8 0, .int .u32 0, .int .i64 0, .string ⟨#[121]⟩, .slice none 0 0] 28)) 28 #[.int .u8 7, .int .u8 0, .int .u32 0, .int .i64 0, .string ⟨#[]⟩, .slice (some ⟨w11.heap.size, 0, none⟩) 3 3]
  simp only [World.size_alloc] at hx
  have HXn := Lib.hid hx
  clear hx ht0
  have hb : Below w11.heap.size w11 ((w11.alloc (.cells #[.int .u8 2, .int .u8 0, .int .u32 0, .int .i64 0, .string ⟨#[100]⟩, .slice none 0 0, .int .u8 2, .int .u8 0, .int .u32 0, .int .i64 0, .string ⟨#[120]⟩, .slice none 0 0, .int .u8 2, .int .u8 0, .int .u32 0, .int .i64 0, .string ⟨#[121]⟩, .slice none 0 0] 28)).alloc (.cells #[.int .u8 7, .int .u8 0, .int .u32 0, .int .i64 0, .string ⟨#[]⟩, .slice (some ⟨w11.heap.size, 0, none⟩) 3 3] 28)) := balloc (balloc (Below.refl _ _) _) _
  have HB12 := Lib.hid (bthen HB11.out hb)
  have HTx := Lib.hid (HT1.out.bel hb)
  clear HT1
  have HT1 := HTx
  clear HTx
  have HXx := Lib.hid (bkbel HX1.out hb)
  clear HX1
  have HX1 := HXx
  clear HXx
  have HTx := Lib.hid (HT2.out.bel hb)
  clear HT2
  have HT2 := HTx
  clear HTx
  have HXx := Lib.hid (bkbel HX2.out hb)
  clear HX2
  have HX2 := HXx
  clear HXx
  have HTx := Lib.hid (HT3.out.bel hb)
  clear HT3
  have HT3 := HTx
  clear HTx
  have HXx := Lib.hid (bkbel HX3.out hb)
  clear HX3
  have HX3 := HXx
  clear HXx
  have HTx := Lib.hid (HT4.out.bel hb)
  clear HT4
  have HT4 := HTx
  clear HTx
  have HXx := Lib.hid (bkbel HX4.out hb)
  clear HX4
  have HX4 := HXx
  clear HXx
  clear HB11
  clear hb
  go_upto_region 6 with fail
  generalize ((w11.alloc (.cells #[.int .u8 2, .int .u8 0, .int .u32 0, .int .i64 0, .string ⟨#[100]⟩, .slice none 0 0, .int .u8 2, .int .u8 0, .int .u32 0, .int .i64 0, .string ⟨#[120]⟩, .slice none 0 0, .int .u8 2, .int .u8 0, .int .u32 0, .int .i64 0, .string ⟨#[121]⟩, .slice none 0 0] 28)).alloc (.cells #[.int .u8 7, .int .u8 0, .int .u32 0, .int .i64 0, .string ⟨#[]⟩, .slice (some ⟨w11.heap.size, 0, none⟩) 3 3] 28)) = w12 at HB12 HTn HXn HT1 HX1 HT2 HX2 HT3 HX3 HT4 HX4 ⊢
  obtain ⟨b5, hbn⟩ : ∃ b, w11.heap.size + 1 = b := ⟨_, rfl⟩
  rw [hbn] at HXn
  rw [hbn]
  clear hbn
  obtain ⟨S5, hSn⟩ : ∃ S : SV, S = ⟨some ⟨w11.heap.size, 0, none⟩, 3, 3⟩ := ⟨_, rfl⟩
  rw [← hSn] at HTn
  have hSl : Value.slice (some ⟨w11.heap.size, 0, none⟩) 3 3 = .slice S5.A S5.n S5.c := by rw [hSn]
  rw [hSl] at HXn
  try rw [hSl]
  clear hSn hSl
  have HT5 := HTn
  have HX5 := HXn
  clear HTn HXn
  have HSS : Hid (∀ w', Below w12.heap.size w12 w' → SAW b1 b2 b3 b4 b5 S1 S2 S3 S4 S5 w') := fun w' hb => saw_of HX1.out HX2.out HX3.out HX4.out HX5.out hb
  have HVV := Lib.hid (hv.out.below HB12.out)
  have HBC : Hid (Below w12.heap.size w12 w12.drew) := (Below.refl _ _).drew
  have H28 : Hid (∀ w', Below w12.heap.size w12 w' → Calls Tryd.prog 7 #[.int .u8 5, .agg #[.int .u8 2, .int .u8 0, .int .u32 0, .int .i64 0, .string ⟨#[120]⟩, .slice none 0 0], .agg #[.int .u8 8, .int .u8 0, .int .u32 0, .int .i64 2, .string ⟨#[]⟩, .slice S1.A S1.n S1.c]] w' (fun e w'' => ∃ U : SV, e = .returned (.agg #[.int .u8 6, .int .u8 5, .int .u32 0, .int .i64 0, .string ⟨#[]⟩, .slice U.A U.n U.c]) ∧ TrT 0 w'' (binX 5 (vrX 120) (castX 2 (vrX 121))) U ∧ Below w'.heap.size w' w'')) := Lib.hid fun w' hb => biC 0 5 (vrX 120) (castX 2 (vrX 121)) ⟨none, 0, 0⟩ S1 (by decide) w' (Nat.zero_le _) (tleaf (okV 120) rfl) (HT1.out.bel hb)
  have H29 : Hid (∀ w' U, Below w12.heap.size w12 w' → TrT 0 w' (binX 5 (vrX 120) (castX 2 (vrX 121))) U → Calls Tryd.prog 7 #[.int .u8 3, .agg #[.int .u8 1, .int .u8 0, .int .u32 1, .int .i64 4, .string ⟨#[]⟩, .slice none 0 0], .agg #[.int .u8 6, .int .u8 5, .int .u32 0, .int .i64 0, .string ⟨#[]⟩, .slice U.A U.n U.c]] w' (fun e w'' => ∃ U : SV, e = .returned (.agg #[.int .u8 6, .int .u8 3, .int .u32 0, .int .i64 0, .string ⟨#[]⟩, .slice U.A U.n U.c]) ∧ TrT 0 w'' (binX 3 (numX 1 4) (binX 5 (vrX 120) (castX 2 (vrX 121)))) U ∧ Below w'.heap.size w' w'')) := Lib.hid fun w' U hb hu => biC 0 3 (numX 1 4) (binX 5 (vrX 120) (castX 2 (vrX 121))) ⟨none, 0, 0⟩ U (by decide) w' (Nat.zero_le _) (tleaf (okN 1 4 (by decide) (by decide) (by decide)) rfl) hu
  have H31 : Hid (∀ w' U, Below w12.heap.size w12 w' → TrT 0 w' (binX 3 (numX 1 4) (binX 5 (vrX 120) (castX 2 (vrX 121)))) U → Calls Tryd.prog 7 #[.int .u8 13, .agg #[.int .u8 6, .int .u8 3, .int .u32 0, .int .i64 0, .string ⟨#[]⟩, .slice U.A U.n U.c], .agg #[.int .u8 5, .int .u8 1, .int .u32 0, .int .i64 0, .string ⟨#[]⟩, .slice S2.A S2.n S2.c]] w' (fun e w'' => ∃ U : SV, e = .returned (.agg #[.int .u8 6, .int .u8 13, .int .u32 0, .int .i64 0, .string ⟨#[]⟩, .slice U.A U.n U.c]) ∧ TrT 0 w'' (binX 13 (binX 3 (numX 1 4) (binX 5 (vrX 120) (castX 2 (vrX 121)))) (unX 1 (vrX 122))) U ∧ Below w'.heap.size w' w'')) := Lib.hid fun w' U hb hu => biC 0 13 (binX 3 (numX 1 4) (binX 5 (vrX 120) (castX 2 (vrX 121)))) (unX 1 (vrX 122)) U S2 (by decide) w' (Nat.zero_le _) hu (HT2.out.bel hb)
  have H33 : Hid (∀ w' U, Below w12.heap.size w12 w' → TrT 0 w' (binX 13 (binX 3 (numX 1 4) (binX 5 (vrX 120) (castX 2 (vrX 121)))) (unX 1 (vrX 122))) U → Calls Tryd.prog 7 #[.int .u8 8, .agg #[.int .u8 6, .int .u8 13, .int .u32 0, .int .i64 0, .string ⟨#[]⟩, .slice U.A U.n U.c], .agg #[.int .u8 3, .int .u8 0, .int .u32 0, .int .i64 0, .string ⟨#[97]⟩, .slice S3.A S3.n S3.c]] w' (fun e w'' => ∃ U : SV, e = .returned (.agg #[.int .u8 6, .int .u8 8, .int .u32 0, .int .i64 0, .string ⟨#[]⟩, .slice U.A U.n U.c]) ∧ TrT 0 w'' (binX 8 (binX 13 (binX 3 (numX 1 4) (binX 5 (vrX 120) (castX 2 (vrX 121)))) (unX 1 (vrX 122))) (elemX [97] (numX 0 1))) U ∧ Below w'.heap.size w' w'')) := Lib.hid fun w' U hb hu => biC 0 8 (binX 13 (binX 3 (numX 1 4) (binX 5 (vrX 120) (castX 2 (vrX 121)))) (unX 1 (vrX 122))) (elemX [97] (numX 0 1)) U S3 (by decide) w' (Nat.zero_le _) hu (HT3.out.bel hb)
  have H34 : Hid (∀ w' U, Below w12.heap.size w12 w' → TrT 0 w' (binX 8 (binX 13 (binX 3 (numX 1 4) (binX 5 (vrX 120) (castX 2 (vrX 121)))) (unX 1 (vrX 122))) (elemX [97] (numX 0 1))) U → Calls Tryd.prog 11 #[.string ⟨#[49, 58, 52, 32, 43, 32, 120, 32, 42, 32, 121, 32, 64, 32, 50, 32, 61, 61, 32, 126, 122, 32, 38, 32, 97, 91, 48, 58, 49, 93]⟩, .agg #[.int .u8 6, .int .u8 8, .int .u32 0, .int .i64 0, .string ⟨#[]⟩, .slice U.A U.n U.c]] w' (fun e w'' => e = .returned (.bool true) ∧ Below w'.heap.size w' w'')) := Lib.hid fun w' U hb hu => saysC fuelX 0 a1T (binX 8 (binX 13 (binX 3 (numX 1 4) (binX 5 (vrX 120) (castX 2 (vrX 121)))) (unX 1 (vrX 122))) (elemX [97] (numX 0 1))) U w' awake_ok.h1 (by decide) (by decide +kernel) (Lib.hid (HVV.out.below hb)) hu
  have H41 : Hid (∀ w', Below w12.heap.size w12 w' → Calls Tryd.prog 11 #[.string ⟨#[99, 32, 63, 32, 49, 58, 50, 32, 58, 32, 100, 32, 63, 32, 120, 32, 58, 32, 121]⟩, .agg #[.int .u8 7, .int .u8 0, .int .u32 0, .int .i64 0, .string ⟨#[]⟩, .slice (some ⟨w'.heap.size, 0, none⟩) 3 3]] (w'.alloc (.cells #[.int .u8 2, .int .u8 0, .int .u32 0, .int .i64 0, .string ⟨#[99]⟩, .slice none 0 0, .int .u8 1, .int .u8 0, .int .u32 1, .int .i64 2, .string ⟨#[]⟩, .slice none 0 0, .int .u8 7, .int .u8 0, .int .u32 0, .int .i64 0, .string ⟨#[]⟩, .slice S5.A S5.n S5.c] 28)) (fun e w'' => e = .returned (.bool true) ∧ Below (w'.alloc (.cells #[.int .u8 2, .int .u8 0, .int .u32 0, .int .i64 0, .string ⟨#[99]⟩, .slice none 0 0, .int .u8 1, .int .u8 0, .int .u32 1, .int .i64 2, .string ⟨#[]⟩, .slice none 0 0, .int .u8 7, .int .u8 0, .int .u32 0, .int .i64 0, .string ⟨#[]⟩, .slice S5.A S5.n S5.c] 28)).heap.size (w'.alloc (.cells #[.int .u8 2, .int .u8 0, .int .u32 0, .int .i64 0, .string ⟨#[99]⟩, .slice none 0 0, .int .u8 1, .int .u8 0, .int .u32 1, .int .i64 2, .string ⟨#[]⟩, .slice none 0 0, .int .u8 7, .int .u8 0, .int .u32 0, .int .i64 0, .string ⟨#[]⟩, .slice S5.A S5.n S5.c] 28)) w'')) := Lib.hid fun w' hb => saysC fuelX 0 a2T (muxX (vrX 99) (numX 1 2) (muxX (vrX 100) (vrX 120) (vrX 121))) ⟨some ⟨w'.heap.size, 0, none⟩, 3, 3⟩ _ awake_ok.h2 (by decide) (by decide +kernel) (Lib.hid ((HVV.out.below hb).below pokeB')) (tree_row [((vrX 99), ⟨none, 0, 0⟩), ((numX 1 2), ⟨none, 0, 0⟩), ((muxX (vrX 100) (vrX 120) (vrX 121)), S5)] (okM _ _ _) rfl (three_tr (tleaf (okV 99) rfl) (tleaf (okN 1 2 (by decide) (by decide) (by decide)) rfl) (HT5.out.bel hb)))
  have H45 : Hid (∀ w', Below w12.heap.size w12 w' → Calls Tryd.prog 11 #[.string ⟨#[45, 32, 45, 32, 120]⟩, .agg #[.int .u8 5, .int .u8 2, .int .u32 0, .int .i64 0, .string ⟨#[]⟩, .slice S4.A S4.n S4.c]] w' (fun e w'' => e = .returned (.bool true) ∧ Below w'.heap.size w' w'')) := Lib.hid fun w' hb => saysC fuelX 0 a3T (unX 2 (unX 2 (vrX 120))) S4 w' awake_ok.h3 (by decide) (by decide +kernel) (Lib.hid (HVV.out.below hb)) (HT4.out.bel hb)
  have HWA0 : Hid (∀ w', Below w12.heap.size w12 w' → Calls Tryd.prog 13 #[.string ⟨#[120, 32, 43]⟩, .int .i64 3, .int .i64 300] w' (fun e w'' => e = .returned (.bool true) ∧ Below w'.heap.size w' w'')) := Lib.hid fun w' hb => wrongAtC fuelX _ 3 300 w' awake_ok.h4 (by decide) (Lib.hid (HVV.out.below hb))
  have HWA1 : Hid (∀ w', Below w12.heap.size w12 w' → Calls Tryd.prog 13 #[.string ⟨#[40, 120]⟩, .int .i64 2, .int .i64 300] w' (fun e w'' => e = .returned (.bool true) ∧ Below w'.heap.size w' w'')) := Lib.hid fun w' hb => wrongAtC fuelX _ 2 300 w' awake_ok.h5 (by decide) (Lib.hid (HVV.out.below hb))
  have HWA2 : Hid (∀ w', Below w12.heap.size w12 w' → Calls Tryd.prog 13 #[.string ⟨#[120, 32, 121]⟩, .int .i64 2, .int .i64 300] w' (fun e w'' => e = .returned (.bool true) ∧ Below w'.heap.size w' w'')) := Lib.hid fun w' hb => wrongAtC fuelX _ 2 300 w' awake_ok.h6 (by decide) (Lib.hid (HVV.out.below hb))
  have HWA3 : Hid (∀ w', Below w12.heap.size w12 w' → Calls Tryd.prog 13 #[.string ⟨#[119, 104, 105, 108, 101]⟩, .int .i64 0, .int .i64 300] w' (fun e w'' => e = .returned (.bool true) ∧ Below w'.heap.size w' w'')) := Lib.hid fun w' hb => wrongAtC fuelX _ 0 300 w' awake_ok.h7 (by decide) (Lib.hid (HVV.out.below hb))
  have HWA4 : Hid (∀ w', Below w12.heap.size w12 w' → Calls Tryd.prog 13 #[.string ⟨#[49, 58, 57, 57, 57, 57, 57, 57, 57, 57, 57, 57]⟩, .int .i64 0, .int .i64 302] w' (fun e w'' => e = .returned (.bool true) ∧ Below w'.heap.size w' w'')) := Lib.hid fun w' hb => wrongAtC fuelX _ 0 302 w' awake_ok.h8 (by decide) (Lib.hid (HVV.out.below hb))
  clear HT1 HX1 HT2 HX2 HT3 HX3 HT4 HX4 HT5 HX5 HVV hv
  go_region_held3 (fun w' => w'.cell? ⟨b1, 0, none⟩ = some (.int .u8 8) ∧ w'.cell? ⟨b1, 1, none⟩ = some (.int .u8 0) ∧ w'.cell? ⟨b1, 2, none⟩ = some (.int .u32 0) ∧ w'.cell? ⟨b1, 3, none⟩ = some (.int .i64 2) ∧ w'.cell? ⟨b1, 4, none⟩ = some (.string ⟨#[]⟩) ∧ w'.cell? ⟨b1, 5, none⟩ = some (.slice S1.A S1.n S1.c) ∧ w'.cell? ⟨b2, 0, none⟩ = some (.int .u8 5) ∧ w'.cell? ⟨b2, 1, none⟩ = some (.int .u8 1) ∧ w'.cell? ⟨b2, 2, none⟩ = some (.int .u32 0) ∧ w'.cell? ⟨b2, 3, none⟩ = some (.int .i64 0) ∧ w'.cell? ⟨b2, 4, none⟩ = some (.string ⟨#[]⟩) ∧ w'.cell? ⟨b2, 5, none⟩ = some (.slice S2.A S2.n S2.c) ∧ w'.cell? ⟨b3, 0, none⟩ = some (.int .u8 3) ∧ w'.cell? ⟨b3, 1, none⟩ = some (.int .u8 0) ∧ w'.cell? ⟨b3, 2, none⟩ = some (.int .u32 0) ∧ w'.cell? ⟨b3, 3, none⟩ = some (.int .i64 0) ∧ w'.cell? ⟨b3, 4, none⟩ = some (.string ⟨#[97]⟩) ∧ w'.cell? ⟨b3, 5, none⟩ = some (.slice S3.A S3.n S3.c) ∧ w'.cell? ⟨b4, 0, none⟩ = some (.int .u8 5) ∧ w'.cell? ⟨b4, 1, none⟩ = some (.int .u8 2) ∧ w'.cell? ⟨b4, 2, none⟩ = some (.int .u32 0) ∧ w'.cell? ⟨b4, 3, none⟩ = some (.int .i64 0) ∧ w'.cell? ⟨b4, 4, none⟩ = some (.string ⟨#[]⟩) ∧ w'.cell? ⟨b4, 5, none⟩ = some (.slice S4.A S4.n S4.c) ∧ w'.cell? ⟨b5, 0, none⟩ = some (.int .u8 7) ∧ w'.cell? ⟨b5, 1, none⟩ = some (.int .u8 0) ∧ w'.cell? ⟨b5, 2, none⟩ = some (.int .u32 0) ∧ w'.cell? ⟨b5, 3, none⟩ = some (.int .i64 0) ∧ w'.cell? ⟨b5, 4, none⟩ = some (.string ⟨#[]⟩) ∧ w'.cell? ⟨b5, 5, none⟩ = some (.slice S5.A S5.n S5.c))
      ((refine (show SAW b1 b2 b3 b4 b5 S1 S2 S3 S4 S5 _ from ?_); first | with_reducible exact HSS.out _ HBC.out | with_reducible exact HSS.out _ (balloc HBC.out _)))
      (first
        | (go_at_call 12
           with_reducible refine (nuC _ _ _).mono ?_
           rintro e v1 ⟨rfl, hb⟩
           have HBn := Lib.hid (bthen HBC.out hb)
           clear HBC hb
           have HBC := HBn
           clear HBn)
        | (go_at_call 5
           with_reducible refine (nmC _ _).mono ?_
           rintro e v1 ⟨rfl, hb⟩
           have HBn := Lib.hid (bthen HBC.out hb)
           clear HBC hb
           have HBC := HBn
           clear HBn)
        | (go_at_call 7
           first
             | with_reducible refine (H28.out _ HBC.out).mono ?_
             | with_reducible refine (H29.out _ _ HBC.out HU.out).mono ?_
             | with_reducible refine (H31.out _ _ HBC.out HU.out).mono ?_
             | with_reducible refine (H33.out _ _ HBC.out HU.out).mono ?_
           rintro e v1 ⟨U, rfl, ht, hb⟩
           have HBn := Lib.hid (bthen HBC.out hb)
           clear HBC hb
           have HBC := HBn
           clear HBn
           try clear HU
           have HU := Lib.hid ht
           clear ht)
        | (go_at_call 11
           first
             | with_reducible refine (H34.out _ _ HBC.out HU.out).mono ?_
             | with_reducible refine (H41.out _ HBC.out).mono ?_
             | with_reducible refine (H45.out _ HBC.out).mono ?_
           rintro e v1 ⟨rfl, hb⟩
           first
             | (have HBn := Lib.hid (bthen HBC.out hb))
             | (have HBn := Lib.hid (bthen (balloc HBC.out _) hb))
           clear HBC hb
           have HBC := HBn
           clear HBn)
        | (go_at_call 13
           first
             | with_reducible refine (HWA0.out _ HBC.out).mono ?_
             | with_reducible refine (HWA1.out _ HBC.out).mono ?_
             | with_reducible refine (HWA2.out _ HBC.out).mono ?_
             | with_reducible refine (HWA3.out _ HBC.out).mono ?_
             | with_reducible refine (HWA4.out _ HBC.out).mono ?_
           rintro e v1 ⟨rfl, hb⟩
           have HBn := Lib.hid (bthen HBC.out hb)
           clear HBC hb
           have HBC := HBn
           clear HBn))
  all_goals
    have HBF := Lib.hid (bthen HB12.out HBC.out)
    go_wp2
    go_ret
    exact ⟨rfl, HBF.out⟩
end Go.Proofs.YtehcpcpmcngnjaaDoor
