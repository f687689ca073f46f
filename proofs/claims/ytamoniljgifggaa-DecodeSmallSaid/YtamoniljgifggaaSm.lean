/-
  Results without a graph; the example of the chapter (written by gen/sm.py).
-/
import Derived.Test.YtamoniljgifggaaReads
set_option linter.unusedVariables false
set_option linter.unusedSimpArgs false
namespace Go.Proofs.Ytamoniljgifggaa
open Go.RowKit

/-- A pointer to a graph that is none. -/
def LenZ (w : World) (P : Value) : Prop := ∀ W, Below w.heap.size w W → Calls Try.prog 48 #[P] W fun e w' => e = .returned (.int .i64 0) ∧ W = w'
theorem LenZ.below {w w' : World} {P : Value} (h : LenZ w P) (hb : Below w.heap.size w w') : LenZ w' P := fun W hW => h W (bthen hb hW)
theorem lenZ_nil (w : World) : LenZ w (.pointer none) := fun W _ => len_nil W
theorem lenZ_zero (w : World) (g : Nat) (t : TypeId) (v0 v1 v3 : Value) (hg : Bk w g t #[v0, v1, .map none, v3]) : LenZ w (.pointer (some ⟨g, 0, none⟩)) := fun W hW => by
  have hm : W.cell? ⟨g, 2, none⟩ = some (.map none) := (bkbel hg hW).cell 2
  go_enter Try.func48, Try.ntmps48
  go_wp2_with (go_at_call 67; refine (none_some _ _ _ hm).mono ?_; rintro e w' ⟨rfl, rfl⟩)
  go_ret
  exact ⟨rfl, rfl⟩
set_option maxRecDepth 100000 in
theorem rightZ (P : Value) (w : World) (h : Hid (LenZ w P)) : Calls Try.prog 16 #[.agg #[P, .slice none 0 0, .int .i64 0, .slice none 0 0, .slice none 0 0, .slice none 0 0, .slice none 0 0, .int .i64 0, .int .i64 0]] w fun e w' => e = .returned (.bool false) ∧ Below w.heap.size w w' := by
  have HB0 : Hid (Below w.heap.size w (w.alloc (.cells #[P, .slice none 0 0, .int .i64 0, .slice none 0 0, .slice none 0 0, .slice none 0 0, .slice none 0 0, .int .i64 0, .int .i64 0] 49))) := balloc (Below.refl _ _) _
  have hx := (Bk.new w 49 #[P, .slice none 0 0, .int .i64 0, .slice none 0 0, .slice none 0 0, .slice none 0 0, .slice none 0 0, .int .i64 0, .int .i64 0]).cell 0
  have hz : ((0 : Int) == 0) = true := rfl
  go_enter Try.func16, Try.ntmps16
  go_wp2_with fail
  refine (h.out _ HB0.out).mono ?_
  rintro e w' ⟨rfl, rfl⟩
  go_wp2
  go_ret
  exact ⟨rfl, HB0.out⟩

set_option maxRecDepth 100000 in
theorem valid0 (P : Value) (w : World) (h : Hid (LenZ w P)) : Calls Try.prog 14 #[.agg #[P, .slice none 0 0, .int .i64 0, .slice none 0 0, .slice none 0 0, .slice none 0 0, .slice none 0 0, .int .i64 0, .int .i64 0], .slice none 0 0] w fun e w' => e = .returned (.tuple #[.bool false, .int .i64 420]) ∧ Below w.heap.size w w' := by
  have HB0 : Hid (Below w.heap.size w (w.alloc (.cells #[P, .slice none 0 0, .int .i64 0, .slice none 0 0, .slice none 0 0, .slice none 0 0, .slice none 0 0, .int .i64 0, .int .i64 0] 49))) := balloc (Below.refl _ _) _
  have HX0 := Lib.hid (Bk.new w 49 #[P, .slice none 0 0, .int .i64 0, .slice none 0 0, .slice none 0 0, .slice none 0 0, .slice none 0 0, .int .i64 0, .int .i64 0])
  go_enter Try.func14, Try.ntmps14
  go_wp2_with fail
  refine (rightZ P _ (Lib.hid (h.out.below HB0.out))).mono ?_
  rintro e w' ⟨rfl, hb⟩
  have HB1 := Lib.hid (bthen HB0.out hb)
  clear hb
  go_wp2
  go_ret2
  exact ⟨rfl, HB1.out⟩

set_option maxRecDepth 100000 in
theorem tells0 (P : Value) (w : World) (h : Hid (LenZ w P)) : Calls Try.prog 15 #[.agg #[P, .slice none 0 0, .int .i64 0, .slice none 0 0, .slice none 0 0, .slice none 0 0, .slice none 0 0, .int .i64 0, .int .i64 0], .slice none 0 0] w fun e w' => e = .returned (.tuple #[.bool false, .bool false, .int .i64 420]) ∧ Below w.heap.size w w' := by
  have HB0 : Hid (Below w.heap.size w (w.alloc (.cells #[P, .slice none 0 0, .int .i64 0, .slice none 0 0, .slice none 0 0, .slice none 0 0, .slice none 0 0, .int .i64 0, .int .i64 0] 49))) := balloc (Below.refl _ _) _
  have HX0 := Lib.hid (Bk.new w 49 #[P, .slice none 0 0, .int .i64 0, .slice none 0 0, .slice none 0 0, .slice none 0 0, .slice none 0 0, .int .i64 0, .int .i64 0])
  go_enter Try.func15, Try.ntmps15
  go_wp2_with fail
  refine (rightZ P _ (Lib.hid (h.out.below HB0.out))).mono ?_
  rintro e w' ⟨rfl, hb⟩
  have HB1 := Lib.hid (bthen HB0.out hb)
  clear hb
  go_wp2
  go_ret3
  exact ⟨rfl, HB1.out⟩

set_option maxRecDepth 100000 in
theorem schedule0 (P : Value) (w : World) (h : Hid (LenZ w P)) : Calls Try.prog 11 #[.agg #[P, .slice none 0 0, .int .i64 0, .slice none 0 0, .slice none 0 0, .slice none 0 0, .slice none 0 0, .int .i64 0, .int .i64 0], .slice none 0 0] w fun e w' => e = .returned (.tuple #[.agg #[.slice none 0 0, .int .i64 0, .slice none 0 0], .int .i64 420]) ∧ Below w.heap.size w w' := by
  have HB0 : Hid (Below w.heap.size w ((w.alloc (.cells #[P, .slice none 0 0, .int .i64 0, .slice none 0 0, .slice none 0 0, .slice none 0 0, .slice none 0 0, .int .i64 0, .int .i64 0] 49)).alloc (.cells #[.slice none 0 0, .int .i64 0, .slice none 0 0] 51))) := balloc (balloc (Below.refl _ _) _) _
  have hy0 := Bk.new (w.alloc (.cells #[P, .slice none 0 0, .int .i64 0, .slice none 0 0, .slice none 0 0, .slice none 0 0, .slice none 0 0, .int .i64 0, .int .i64 0] 49)) 51 #[.slice none 0 0, .int .i64 0, .slice none 0 0]
  rw [World.size_alloc] at hy0
  have HY0 := Lib.hid hy0
  clear hy0
  go_enter Try.func11, Try.ntmps11
  go_wp2_with fail
  generalize ((w.alloc (.cells #[P, .slice none 0 0, .int .i64 0, .slice none 0 0, .slice none 0 0, .slice none 0 0, .slice none 0 0, .int .i64 0, .int .i64 0] 49)).alloc (.cells #[.slice none 0 0, .int .i64 0, .slice none 0 0] 51)) = W0 at *
  refine (rightZ P _ (Lib.hid (h.out.below HB0.out))).mono ?_
  rintro e w1 ⟨rfl, hb⟩
  have HB1 := Lib.hid (bthen HB0.out hb)
  have HY1 := Lib.hid (bkbel HY0.out hb)
  clear hb
  obtain ⟨y0, y1, y2⟩ := cells3 HY1.out
  obtain ⟨z0, z1, z2⟩ := frozen3 HY1.out
  go_wp2
  have HF := Lib.hid (bk_put3 (v0 := .slice none 0 0) (v1 := .int .i64 0) (v2 := .slice none 0 0) HY1.out)
  have HFB := Lib.hid (below_put3 (v0 := .slice none 0 0) (v1 := .int .i64 0) (v2 := .slice none 0 0) HB1.out (show w.heap.size ≤ w.heap.size + 1 by omega))
  clear y0 y1 y2 z0 z1 z2
  generalize (((w1.setCell ⟨w.heap.size + 1, 0, none⟩ (.slice none 0 0)).setCell ⟨w.heap.size + 1, 1, none⟩ (.int .i64 0)).setCell ⟨w.heap.size + 1, 2, none⟩ (.slice none 0 0)) = WF at *
  obtain ⟨r0, r1, r2⟩ := cells3 HF.out
  refine bodyPost_ret (v := .tuple #[.agg #[.slice none 0 0, .int .i64 0, .slice none 0 0], .int .i64 420]) (by simp [results, Try.results11, go_sem, r0, r1, r2]) rfl ?_
  exact ⟨rfl, HFB.out⟩

set_option maxRecDepth 100000 in
theorem model0 (P : Value) (w : World) (h : Hid (LenZ w P)) : Calls Try.prog 13 #[.agg #[P, .slice none 0 0, .int .i64 0, .slice none 0 0, .slice none 0 0, .slice none 0 0, .slice none 0 0, .int .i64 0, .int .i64 0], .slice none 0 0, .slice none 0 0] w fun e w' => e = .returned (.tuple #[.agg #[.slice none 0 0, .int .i64 0, .slice none 0 0], .int .i64 420]) ∧ Below w.heap.size w w' := by
  have HB0 : Hid (Below w.heap.size w ((w.alloc (.cells #[P, .slice none 0 0, .int .i64 0, .slice none 0 0, .slice none 0 0, .slice none 0 0, .slice none 0 0, .int .i64 0, .int .i64 0] 49)).alloc (.cells #[.slice none 0 0, .int .i64 0, .slice none 0 0] 51))) := balloc (balloc (Below.refl _ _) _) _
  have hy0 := Bk.new (w.alloc (.cells #[P, .slice none 0 0, .int .i64 0, .slice none 0 0, .slice none 0 0, .slice none 0 0, .slice none 0 0, .int .i64 0, .int .i64 0] 49)) 51 #[.slice none 0 0, .int .i64 0, .slice none 0 0]
  rw [World.size_alloc] at hy0
  have HY0 := Lib.hid hy0
  clear hy0
  go_enter Try.func13, Try.ntmps13
  go_wp2_with fail
  generalize ((w.alloc (.cells #[P, .slice none 0 0, .int .i64 0, .slice none 0 0, .slice none 0 0, .slice none 0 0, .slice none 0 0, .int .i64 0, .int .i64 0] 49)).alloc (.cells #[.slice none 0 0, .int .i64 0, .slice none 0 0] 51)) = W0 at *
  refine (rightZ P _ (Lib.hid (h.out.below HB0.out))).mono ?_
  rintro e w1 ⟨rfl, hb⟩
  have HB1 := Lib.hid (bthen HB0.out hb)
  have HY1 := Lib.hid (bkbel HY0.out hb)
  clear hb
  obtain ⟨y0, y1, y2⟩ := cells3 HY1.out
  obtain ⟨z0, z1, z2⟩ := frozen3 HY1.out
  go_wp2
  have HF := Lib.hid (bk_put3 (v0 := .slice none 0 0) (v1 := .int .i64 0) (v2 := .slice none 0 0) HY1.out)
  have HFB := Lib.hid (below_put3 (v0 := .slice none 0 0) (v1 := .int .i64 0) (v2 := .slice none 0 0) HB1.out (show w.heap.size ≤ w.heap.size + 1 by omega))
  clear y0 y1 y2 z0 z1 z2
  generalize (((w1.setCell ⟨w.heap.size + 1, 0, none⟩ (.slice none 0 0)).setCell ⟨w.heap.size + 1, 1, none⟩ (.int .i64 0)).setCell ⟨w.heap.size + 1, 2, none⟩ (.slice none 0 0)) = WF at *
  obtain ⟨r0, r1, r2⟩ := cells3 HF.out
  refine bodyPost_ret (v := .tuple #[.agg #[.slice none 0 0, .int .i64 0, .slice none 0 0], .int .i64 420]) (by simp [results, Try.results13, go_sem, r0, r1, r2]) rfl ?_
  exact ⟨rfl, HFB.out⟩

set_option maxRecDepth 100000 in
theorem assign0 (P : Value) (w : World) (h : Hid (LenZ w P)) : Calls Try.prog 12 #[.agg #[P, .slice none 0 0, .int .i64 0, .slice none 0 0, .slice none 0 0, .slice none 0 0, .slice none 0 0, .int .i64 0, .int .i64 0], .agg #[.slice none 0 0, .int .i64 0, .slice none 0 0]] w fun e w' => e = .returned (.tuple #[.slice none 0 0, .int .i64 420]) ∧ Below w.heap.size w w' := by
  have HB0 : Hid (Below w.heap.size w ((w.alloc (.cells #[P, .slice none 0 0, .int .i64 0, .slice none 0 0, .slice none 0 0, .slice none 0 0, .slice none 0 0, .int .i64 0, .int .i64 0] 49)).alloc (.cells #[.slice none 0 0, .int .i64 0, .slice none 0 0] 51))) := balloc (balloc (Below.refl _ _) _) _
  go_enter Try.func12, Try.ntmps12
  go_wp2_with fail
  generalize ((w.alloc (.cells #[P, .slice none 0 0, .int .i64 0, .slice none 0 0, .slice none 0 0, .slice none 0 0, .slice none 0 0, .int .i64 0, .int .i64 0] 49)).alloc (.cells #[.slice none 0 0, .int .i64 0, .slice none 0 0] 51)) = W0 at *
  refine (rightZ P _ (Lib.hid (h.out.below HB0.out))).mono ?_
  rintro e w1 ⟨rfl, hb⟩
  have HB1 := Lib.hid (bthen HB0.out hb)
  clear hb
  go_wp2
  go_ret2
  exact ⟨rfl, HB1.out⟩

theorem Bk.newAt (w : World) (t : TypeId) (cs : Array Value) (n : Nat) (h : w.heap.size = n) : Bk (w.alloc (.cells cs t)) n t cs := by
  subst h
  exact Bk.new w t cs
/-- The blocks of the example. -/
structure ExBk (w : World) (b : Nat) : Prop where
  k0 : Bk w b 99 #[.int .i64 7, .int .i64 9]
  k1 : Bk w (b + 1) 3 #[.int .i64 2, .int .i64 4]
  k2 : Bk w (b + 2) 25 #[.slice (some ⟨b + 1, 0, none⟩) 2 2]
  k3 : Bk w (b + 3) 37 #[.int .u8 3, .int .i64 1, .int .i64 6, .int .i64 0, .int .u8 3, .int .i64 1, .int .i64 8, .int .i64 1]
  k4 : Bk w (b + 4) 3 #[.int .i64 10, .int .i64 12]
  k5 : Bk w (b + 5) 3 #[.int .i64 7, .int .i64 14]
  k6 : Bk w (b + 6) 3 #[.int .i64 13]
set_option maxHeartbeats 1000000 in
set_option maxRecDepth 100000 in
theorem exampleC (w : World) : Calls Try.prog 10 #[] w fun e w' => ∃ b, w.heap.size ≤ b ∧ e = .returned (.agg #[.int .u8 6, .slice (some ⟨b, 0, none⟩) 1 1, .slice (some ⟨b + 2, 0, none⟩) 1 1, .slice (some ⟨b + 3, 0, none⟩) 2 2, .slice (some ⟨b + 4, 0, none⟩) 2 2, .slice (some ⟨b + 5, 0, none⟩) 2 2, .slice (some ⟨b + 6, 0, none⟩) 1 1, .int .i64 1, .int .i64 14, .int .i64 3]) ∧ ExBk w' b ∧ Below w.heap.size w w' := by
  go_enter Try.func10, Try.ntmps10
  go_wp2
  have HF := (((((((Bk.new w 27 #[.int .u8 6, .slice (some ⟨w.heap.size + 1, 0, none⟩) 1 1, .slice (some ⟨w.heap.size + 1 + 1 + 1, 0, none⟩) 1 1, .slice (some ⟨w.heap.size + 1 + 1 + 1 + 1, 0, none⟩) 2 2, .slice (some ⟨w.heap.size + 1 + 1 + 1 + 1 + 1, 0, none⟩) 2 2, .slice (some ⟨w.heap.size + 1 + 1 + 1 + 1 + 1 + 1, 0, none⟩) 2 2, .slice (some ⟨w.heap.size + 1 + 1 + 1 + 1 + 1 + 1 + 1, 0, none⟩) 1 1, .int .i64 1, .int .i64 14, .int .i64 3]).alloc (.cells #[.int .i64 7, .int .i64 9] 99)).alloc (.cells #[.int .i64 2, .int .i64 4] 3)).alloc (.cells #[.slice (some ⟨w.heap.size + 1 + 1, 0, none⟩) 2 2] 25)).alloc (.cells #[.int .u8 3, .int .i64 1, .int .i64 6, .int .i64 0, .int .u8 3, .int .i64 1, .int .i64 8, .int .i64 1] 37)).alloc (.cells #[.int .i64 10, .int .i64 12] 3)).alloc (.cells #[.int .i64 7, .int .i64 14] 3)).alloc (.cells #[.int .i64 13] 3)
  have HE : ExBk ((((((((w.alloc (.cells #[.int .u8 6, .slice (some ⟨w.heap.size + 1, 0, none⟩) 1 1, .slice (some ⟨w.heap.size + 1 + 1 + 1, 0, none⟩) 1 1, .slice (some ⟨w.heap.size + 1 + 1 + 1 + 1, 0, none⟩) 2 2, .slice (some ⟨w.heap.size + 1 + 1 + 1 + 1 + 1, 0, none⟩) 2 2, .slice (some ⟨w.heap.size + 1 + 1 + 1 + 1 + 1 + 1, 0, none⟩) 2 2, .slice (some ⟨w.heap.size + 1 + 1 + 1 + 1 + 1 + 1 + 1, 0, none⟩) 1 1, .int .i64 1, .int .i64 14, .int .i64 3] 27)).alloc (.cells #[.int .i64 7, .int .i64 9] 99)).alloc (.cells #[.int .i64 2, .int .i64 4] 3)).alloc (.cells #[.slice (some ⟨w.heap.size + 1 + 1, 0, none⟩) 2 2] 25)).alloc (.cells #[.int .u8 3, .int .i64 1, .int .i64 6, .int .i64 0, .int .u8 3, .int .i64 1, .int .i64 8, .int .i64 1] 37)).alloc (.cells #[.int .i64 10, .int .i64 12] 3)).alloc (.cells #[.int .i64 7, .int .i64 14] 3)).alloc (.cells #[.int .i64 13] 3)) (w.heap.size + 1) := ⟨((((((Bk.newAt _ _ _ _ (by simp)).alloc _).alloc _).alloc _).alloc _).alloc _).alloc _, (((((Bk.newAt _ _ _ _ (by simp)).alloc _).alloc _).alloc _).alloc _).alloc _, ((((Bk.newAt _ _ _ _ (by simp)).alloc _).alloc _).alloc _).alloc _, (((Bk.newAt _ _ _ _ (by simp)).alloc _).alloc _).alloc _, ((Bk.newAt _ _ _ _ (by simp)).alloc _).alloc _, (Bk.newAt _ _ _ _ (by simp)).alloc _, Bk.newAt _ _ _ _ (by simp)⟩
  have HB : Below w.heap.size w ((((((((w.alloc (.cells #[.int .u8 6, .slice (some ⟨w.heap.size + 1, 0, none⟩) 1 1, .slice (some ⟨w.heap.size + 1 + 1 + 1, 0, none⟩) 1 1, .slice (some ⟨w.heap.size + 1 + 1 + 1 + 1, 0, none⟩) 2 2, .slice (some ⟨w.heap.size + 1 + 1 + 1 + 1 + 1, 0, none⟩) 2 2, .slice (some ⟨w.heap.size + 1 + 1 + 1 + 1 + 1 + 1, 0, none⟩) 2 2, .slice (some ⟨w.heap.size + 1 + 1 + 1 + 1 + 1 + 1 + 1, 0, none⟩) 1 1, .int .i64 1, .int .i64 14, .int .i64 3] 27)).alloc (.cells #[.int .i64 7, .int .i64 9] 99)).alloc (.cells #[.int .i64 2, .int .i64 4] 3)).alloc (.cells #[.slice (some ⟨w.heap.size + 1 + 1, 0, none⟩) 2 2] 25)).alloc (.cells #[.int .u8 3, .int .i64 1, .int .i64 6, .int .i64 0, .int .u8 3, .int .i64 1, .int .i64 8, .int .i64 1] 37)).alloc (.cells #[.int .i64 10, .int .i64 12] 3)).alloc (.cells #[.int .i64 7, .int .i64 14] 3)).alloc (.cells #[.int .i64 13] 3)) := balloc (balloc (balloc (balloc (balloc (balloc (balloc (balloc (Below.refl _ _) _) _) _) _) _) _) _) _
  generalize ((((((((w.alloc (.cells #[.int .u8 6, .slice (some ⟨w.heap.size + 1, 0, none⟩) 1 1, .slice (some ⟨w.heap.size + 1 + 1 + 1, 0, none⟩) 1 1, .slice (some ⟨w.heap.size + 1 + 1 + 1 + 1, 0, none⟩) 2 2, .slice (some ⟨w.heap.size + 1 + 1 + 1 + 1 + 1, 0, none⟩) 2 2, .slice (some ⟨w.heap.size + 1 + 1 + 1 + 1 + 1 + 1, 0, none⟩) 2 2, .slice (some ⟨w.heap.size + 1 + 1 + 1 + 1 + 1 + 1 + 1, 0, none⟩) 1 1, .int .i64 1, .int .i64 14, .int .i64 3] 27)).alloc (.cells #[.int .i64 7, .int .i64 9] 99)).alloc (.cells #[.int .i64 2, .int .i64 4] 3)).alloc (.cells #[.slice (some ⟨w.heap.size + 1 + 1, 0, none⟩) 2 2] 25)).alloc (.cells #[.int .u8 3, .int .i64 1, .int .i64 6, .int .i64 0, .int .u8 3, .int .i64 1, .int .i64 8, .int .i64 1] 37)).alloc (.cells #[.int .i64 10, .int .i64 12] 3)).alloc (.cells #[.int .i64 7, .int .i64 14] 3)).alloc (.cells #[.int .i64 13] 3)) = WF at *
  obtain ⟨r0, r1, r2, r3, r4, r5, r6, r7, r8, r9⟩ := (cells10 HF).1
  refine bodyPost_ret (v := .agg #[.int .u8 6, .slice (some ⟨w.heap.size + 1, 0, none⟩) 1 1, .slice (some ⟨w.heap.size + 1 + 1 + 1, 0, none⟩) 1 1, .slice (some ⟨w.heap.size + 1 + 1 + 1 + 1, 0, none⟩) 2 2, .slice (some ⟨w.heap.size + 1 + 1 + 1 + 1 + 1, 0, none⟩) 2 2, .slice (some ⟨w.heap.size + 1 + 1 + 1 + 1 + 1 + 1, 0, none⟩) 2 2, .slice (some ⟨w.heap.size + 1 + 1 + 1 + 1 + 1 + 1 + 1, 0, none⟩) 1 1, .int .i64 1, .int .i64 14, .int .i64 3]) (by simp [results, Try.results10, go_sem, r0, r1, r2, r3, r4, r5, r6, r7, r8, r9]) rfl ⟨w.heap.size + 1, by omega, rfl, HE, HB⟩
end Go.Proofs.Ytamoniljgifggaa
