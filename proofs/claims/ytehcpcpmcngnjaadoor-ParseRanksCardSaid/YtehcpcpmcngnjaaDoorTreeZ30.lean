/-
  Expressions whose rows are no fresh boxes; binary for them; two boxes that are written.
-/
import Derived.Test.YtehcpcpmcngnjaaDoorAwake30
set_option linter.unusedVariables false
set_option linter.unusedSimpArgs false
namespace Go.Proofs.YtehcpcpmcngnjaaDoor
open Go.RowKit Go.PlainAid

def z6 : Array Value := #[.int .u8 0, .int .u8 0, .int .u32 0, .int .i64 0, .string ⟨#[]⟩, .slice none 0 0]
/-- No row of the expression lies in a block that is a fresh box. -/
abbrev TrZ (w : World) (x : Ex) (S : SV) : Prop := TreeP (fun k => ¬ Bk w k 28 z6) cellT 28 w x S
section
variable {w w' V : World} {x y : Ex} {S U U1 U2 : SV} {a a2 : Nat}
theorem TrZ.to (h : TrZ w x S) (hb : Below w.heap.size w w') : TrZ w' x S := TreeP.bel (h.mono (P' := fun k => ¬ Bk w' k 28 z6) fun k hk hp e => hp ((hb.block k hk).symm.trans e)) hb
theorem TrZ.tr (h : TrZ w x S) : TrT 0 w x S := h.toAt fun _ _ => Nat.zero_le _
theorem tzleaf (ok : ExOk x) (hs : x.subs = []) : TrZ w x ⟨none, 0, 0⟩ := .mk x _ [] ok (by rw [hs]; rfl) (by rw [hs]; rfl) (fun b off h => by cases h) (by rw [hs]; exact RdT.nil) (fun i y v hy _ => by rw [hs] at hy; simp at hy)
/-- Six stores into a block at B or above. -/
theorem bset {B n : Nat} (h : Below B w V) (hn : B ≤ n) (u0 u1 u2 u3 u4 u5 : Value) : Below B w ((((((V.setCell ⟨n, 0, none⟩ u0).setCell ⟨n, 1, none⟩ u1).setCell ⟨n, 2, none⟩ u2).setCell ⟨n, 3, none⟩ u3).setCell ⟨n, 4, none⟩ u4).setCell ⟨n, 5, none⟩ u5) :=
  (((((h.setCell (p := ⟨n, 0, none⟩) hn u0).setCell (p := ⟨n, 1, none⟩) hn u1).setCell (p := ⟨n, 2, none⟩) hn u2).setCell (p := ⟨n, 3, none⟩) hn u3).setCell (p := ⟨n, 4, none⟩) hn u4).setCell (p := ⟨n, 5, none⟩) hn u5
/-- Two boxes that hold two expressions. -/
structure Fin2 (wx : World) (n m : Nat) (cs ds : Array Value) (x y : Ex) (U1 U2 : SV) : Prop where
  ne : n ≠ m
  b1 : Bk wx n 28 cs
  b2 : Bk wx m 28 ds
  t1 : TrT 0 wx x U1
  t2 : TrT 0 wx y U2
theorem Fin2.swap {wx : World} {n m : Nat} {cs ds : Array Value} (h : Fin2 wx n m cs ds x y U1 U2) : Fin2 wx m n ds cs y x U2 U1 := ⟨Ne.symm h.ne, h.b2, h.b1, h.t2, h.t1⟩
theorem fin_tt (h1 : TrZ V x U1) (h2 : TrZ V y U2) (ha : Bk V a 28 z6) (ha2 : Bk V a2 28 z6) (hne : a ≠ a2) (u0 u1 u2 u3 u4 u5 v0 v1 v2 v3 v4 v5 : Value) : Fin2 ((((((((((((V.setCell ⟨a, 0, none⟩ u0).setCell ⟨a, 1, none⟩ u1).setCell ⟨a, 2, none⟩ u2).setCell ⟨a, 3, none⟩ u3).setCell ⟨a, 4, none⟩ u4).setCell ⟨a, 5, none⟩ u5).setCell ⟨a2, 0, none⟩ v0).setCell ⟨a2, 1, none⟩ v1).setCell ⟨a2, 2, none⟩ v2).setCell ⟨a2, 3, none⟩ v3).setCell ⟨a2, 4, none⟩ v4).setCell ⟨a2, 5, none⟩ v5) a a2 #[u0, u1, u2, u3, u4, u5] #[v0, v1, v2, v3, v4, v5] x y U1 U2 := by
  have f1 := fr6 V a u0 u1 u2 u3 u4 u5
  have f2 := fr6 ((((((V.setCell ⟨a, 0, none⟩ u0).setCell ⟨a, 1, none⟩ u1).setCell ⟨a, 2, none⟩ u2).setCell ⟨a, 3, none⟩ u3).setCell ⟨a, 4, none⟩ u4).setCell ⟨a, 5, none⟩ u5) a2 v0 v1 v2 v3 v4 v5
  have key : ∀ (t : Ex) (U : SV), TrZ V t U → TrT 0 ((((((((((((V.setCell ⟨a, 0, none⟩ u0).setCell ⟨a, 1, none⟩ u1).setCell ⟨a, 2, none⟩ u2).setCell ⟨a, 3, none⟩ u3).setCell ⟨a, 4, none⟩ u4).setCell ⟨a, 5, none⟩ u5).setCell ⟨a2, 0, none⟩ v0).setCell ⟨a2, 1, none⟩ v1).setCell ⟨a2, 2, none⟩ v2).setCell ⟨a2, 3, none⟩ v3).setCell ⟨a2, 4, none⟩ v4).setCell ⟨a2, 5, none⟩ v5) t U := fun t U h =>
    (((h.mono (P' := fun k => k ≠ a ∧ k ≠ a2) fun k hk hp => ⟨fun e => hp (e ▸ ha), fun e => hp (e ▸ ha2)⟩).fr f1 fun k _ hp e => hp.1 e).fr f2 fun k _ hp e => hp.2 e).toAt fun _ _ => Nat.zero_le _
  have ha2' := ha2.fr f1 (Ne.symm hne)
  unfold z6 at ha ha2'
  exact ⟨hne, (put6 ha).fr f2 hne, put6 ha2', key _ _ h1, key _ _ h2⟩
theorem fin_tf (h1 : TrZ V x U1) (h2 : TrZ V y U2) (ha : Bk V a 28 z6) (u0 u1 u2 u3 u4 u5 v0 v1 v2 v3 v4 v5 : Value) : Fin2 (((((((V.setCell ⟨a, 0, none⟩ u0).setCell ⟨a, 1, none⟩ u1).setCell ⟨a, 2, none⟩ u2).setCell ⟨a, 3, none⟩ u3).setCell ⟨a, 4, none⟩ u4).setCell ⟨a, 5, none⟩ u5).alloc (.cells #[v0, v1, v2, v3, v4, v5] 28)) a V.heap.size #[u0, u1, u2, u3, u4, u5] #[v0, v1, v2, v3, v4, v5] x y U1 U2 := by
  have f1 := fr6 V a u0 u1 u2 u3 u4 u5
  have key : ∀ (t : Ex) (U : SV), TrZ V t U → TrT 0 (((((((V.setCell ⟨a, 0, none⟩ u0).setCell ⟨a, 1, none⟩ u1).setCell ⟨a, 2, none⟩ u2).setCell ⟨a, 3, none⟩ u3).setCell ⟨a, 4, none⟩ u4).setCell ⟨a, 5, none⟩ u5).alloc (.cells #[v0, v1, v2, v3, v4, v5] 28)) t U := fun t U h =>
    (((h.mono (P' := fun k => k ≠ a) fun k hk hp => fun e => hp (e ▸ ha)).fr f1 fun k _ hp e => hp e).bel pokeB').toAt fun _ _ => Nat.zero_le _
  have hs : ((((((V.setCell ⟨a, 0, none⟩ u0).setCell ⟨a, 1, none⟩ u1).setCell ⟨a, 2, none⟩ u2).setCell ⟨a, 3, none⟩ u3).setCell ⟨a, 4, none⟩ u4).setCell ⟨a, 5, none⟩ u5).heap.size = V.heap.size := by simp [World.setCell]
  have hn := Bk.new ((((((V.setCell ⟨a, 0, none⟩ u0).setCell ⟨a, 1, none⟩ u1).setCell ⟨a, 2, none⟩ u2).setCell ⟨a, 3, none⟩ u3).setCell ⟨a, 4, none⟩ u4).setCell ⟨a, 5, none⟩ u5) 28 #[v0, v1, v2, v3, v4, v5]
  rw [hs] at hn
  have hl := ha.lt
  unfold z6 at ha
  exact ⟨by omega, (put6 ha).alloc _, hn, key _ _ h1, key _ _ h2⟩
theorem fin_ff (h1 : TrZ V x U1) (h2 : TrZ V y U2) (cs ds : Array Value) : Fin2 ((V.alloc (.cells cs 28)).alloc (.cells ds 28)) V.heap.size (V.heap.size + 1) cs ds x y U1 U2 := by
  have hn := Bk.new (V.alloc (.cells cs 28)) 28 ds
  rw [World.size_alloc] at hn
  exact ⟨by omega, (Bk.new V 28 cs).alloc _, hn, (h1.bel pokeB').bel pokeB' |>.toAt fun _ _ => Nat.zero_le _, (h2.bel pokeB').bel pokeB' |>.toAt fun _ _ => Nat.zero_le _⟩
end
set_option maxRecDepth 100000 in
set_option maxHeartbeats 4000000 in
theorem biZ (o : Nat) (x y : Ex) (S V : SV) (ho : o ≤ 255) (w : World) (h0 : Hid (TrZ w x S)) (h1 : Hid (TrZ w y V)) : Calls Tryd.prog 7 #[.int .u8 (o : Int), .agg #[.int .u8 (x.kind : Int), .int .u8 (x.op : Int), .int .u32 (x.value : Int), .int .i64 x.width, .string (str x.name), .slice S.A S.n S.c], .agg #[.int .u8 (y.kind : Int), .int .u8 (y.op : Int), .int .u32 (y.value : Int), .int .i64 y.width, .string (str y.name), .slice V.A V.n V.c]] w fun e w' => ∃ U : SV, e = .returned (.agg #[.int .u8 6, .int .u8 (o : Int), .int .u32 0, .int .i64 0, .string ⟨#[]⟩, .slice U.A U.n U.c]) ∧ TrZ w' (binX o x y) U ∧ Below w.heap.size w w' := by
  have hb : Below w.heap.size w ((((w.alloc (.cells #[.int .u8 (x.kind : Int), .int .u8 (x.op : Int), .int .u32 (x.value : Int), .int .i64 x.width, .string (str x.name), .slice S.A S.n S.c] 28)).alloc (.cells #[.int .u8 (y.kind : Int), .int .u8 (y.op : Int), .int .u32 (y.value : Int), .int .i64 y.width, .string (str y.name), .slice V.A V.n V.c] 28)).alloc (.cells #[.int .u8 6, .int .u8 (o : Int), .int .u32 0, .int .i64 0, .string ⟨#[]⟩, .slice (some ⟨w.heap.size + 1 + 1 + 1, 0, none⟩) 2 2] 28)).alloc (.cells #[.int .u8 (x.kind : Int), .int .u8 (x.op : Int), .int .u32 (x.value : Int), .int .i64 x.width, .string (str x.name), .slice S.A S.n S.c, .int .u8 (y.kind : Int), .int .u8 (y.op : Int), .int .u32 (y.value : Int), .int .i64 y.width, .string (str y.name), .slice V.A V.n V.c] 28)) := balloc (balloc (balloc (balloc (Below.refl _ _) _) _) _) _
  have h4 := (Bk.new ((w.alloc (.cells #[.int .u8 (x.kind : Int), .int .u8 (x.op : Int), .int .u32 (x.value : Int), .int .i64 x.width, .string (str x.name), .slice S.A S.n S.c] 28)).alloc (.cells #[.int .u8 (y.kind : Int), .int .u8 (y.op : Int), .int .u32 (y.value : Int), .int .i64 y.width, .string (str y.name), .slice V.A V.n V.c] 28)) 28 #[.int .u8 6, .int .u8 (o : Int), .int .u32 0, .int .i64 0, .string ⟨#[]⟩, .slice (some ⟨w.heap.size + 1 + 1 + 1, 0, none⟩) 2 2]).alloc (.cells #[.int .u8 (x.kind : Int), .int .u8 (x.op : Int), .int .u32 (x.value : Int), .int .i64 x.width, .string (str x.name), .slice S.A S.n S.c, .int .u8 (y.kind : Int), .int .u8 (y.op : Int), .int .u32 (y.value : Int), .int .i64 y.width, .string (str y.name), .slice V.A V.n V.c] 28)
  have h2 := RdT.new (((w.alloc (.cells #[.int .u8 (x.kind : Int), .int .u8 (x.op : Int), .int .u32 (x.value : Int), .int .i64 x.width, .string (str x.name), .slice S.A S.n S.c] 28)).alloc (.cells #[.int .u8 (y.kind : Int), .int .u8 (y.op : Int), .int .u32 (y.value : Int), .int .i64 y.width, .string (str y.name), .slice V.A V.n V.c] 28)).alloc (.cells #[.int .u8 6, .int .u8 (o : Int), .int .u32 0, .int .i64 0, .string ⟨#[]⟩, .slice (some ⟨w.heap.size + 1 + 1 + 1, 0, none⟩) 2 2] 28)) #[.int .u8 (x.kind : Int), .int .u8 (x.op : Int), .int .u32 (x.value : Int), .int .i64 x.width, .string (str x.name), .slice S.A S.n S.c, .int .u8 (y.kind : Int), .int .u8 (y.op : Int), .int .u32 (y.value : Int), .int .i64 y.width, .string (str y.name), .slice V.A V.n V.c] 28
  have h5 := Bk.new (((w.alloc (.cells #[.int .u8 (x.kind : Int), .int .u8 (x.op : Int), .int .u32 (x.value : Int), .int .i64 x.width, .string (str x.name), .slice S.A S.n S.c] 28)).alloc (.cells #[.int .u8 (y.kind : Int), .int .u8 (y.op : Int), .int .u32 (y.value : Int), .int .i64 y.width, .string (str y.name), .slice V.A V.n V.c] 28)).alloc (.cells #[.int .u8 6, .int .u8 (o : Int), .int .u32 0, .int .i64 0, .string ⟨#[]⟩, .slice (some ⟨w.heap.size + 1 + 1 + 1, 0, none⟩) 2 2] 28)) 28 #[.int .u8 (x.kind : Int), .int .u8 (x.op : Int), .int .u32 (x.value : Int), .int .i64 x.width, .string (str x.name), .slice S.A S.n S.c, .int .u8 (y.kind : Int), .int .u8 (y.op : Int), .int .u32 (y.value : Int), .int .i64 y.width, .string (str y.name), .slice V.A V.n V.c]
  simp only [World.size_alloc] at h4 h2 h5
  have HB := Lib.hid hb
  have H2 := Lib.hid h2
  have H5 := Lib.hid h5
  obtain ⟨r0, r1, r2, r3, r4, r5⟩ := cells6 h4
  clear h4 h2 hb h5
  go_enter Tryd.func7, Tryd.ntmps7
  go_wp2_with fail
  refine bodyPost_ret (v := .agg #[.int .u8 6, .int .u8 (o : Int), .int .u32 0, .int .i64 0, .string ⟨#[]⟩, .slice (some ⟨w.heap.size + 1 + 1 + 1, 0, none⟩) 2 2]) (by simp [results, Tryd.results7, go_sem, r0, r1, r2, r3, r4, r5]) rfl ?_
  refine ⟨⟨some ⟨w.heap.size + 1 + 1 + 1, 0, none⟩, 2, 2⟩, rfl, ?_, HB.out⟩
  refine .mk (binX o x y) _ [S, V] ⟨by show (6:Nat) ≤ 255; decide, ho, by show (0:Nat) ≤ 4294967295; decide, by show (-9223372036854775808:Int) ≤ 0; decide, by show (0:Int) ≤ 9223372036854775807; decide, by show (0:Nat) ≤ 1000000; decide, by show (2:Nat) ≤ 1000; decide⟩ rfl rfl (fun b off e => ?_) H2.out (fun i t v ht hv => ?_)
  · injection e with e
    injection e with e
    subst e
    intro hk
    have h6 := H5.out
    unfold Bk at hk h6
    rw [h6] at hk
    injection hk with hk
    injection hk with hk
    have := congrArg Array.size hk
    simp [z6] at this
  · match i, ht, hv with
    | 0, ht, hv =>
      injection ht with ht
      injection hv with hv
      subst ht hv
      exact h0.out.to HB.out
    | 1, ht, hv =>
      injection ht with ht
      injection hv with hv
      subst ht hv
      exact h1.out.to HB.out
    | n + 2, ht, hv => simp [binX, Ex.subs] at ht
end Go.Proofs.YtehcpcpmcngnjaaDoor
