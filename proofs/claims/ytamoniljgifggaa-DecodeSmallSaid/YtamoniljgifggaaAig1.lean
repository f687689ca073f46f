/-
  Contracts of the exported functions of package aig, over graphs: New, Input, And, Inputs, Kind, Sides.
-/
import Derived.Test.YtamoniljgifggaaGraph
set_option linter.unusedVariables false
set_option linter.unusedSimpArgs false
namespace Go.Proofs.Ytamoniljgifggaa
open Go.RowKit

theorem setCell_same {w : World} {g i : Nat} {t : TypeId} {cs : Array Value} {u : Value} (h : Bk w g t cs) (hu : cs[i]? = some u) : w.setCell ⟨g, i, none⟩ u = w := by
  have hl := h.lt
  unfold Bk at h
  obtain ⟨heap, tape, drawn, os, output⟩ := w
  simp only [World.setCell, Option.isSome_none, Bool.false_eq_true, if_false]
  congr 1
  apply Array.ext
  · simp
  · intro k hk hk2
    simp only [Array.getElem_modify]
    split
    · rename_i e
      subst e
      have : heap[g] = .cells cs t (0, 0) := by
        have h' : heap[g]? = some (.cells cs t (0, 0)) := h
        rw [Array.getElem?_eq_getElem hk2] at h'
        exact Option.some.inj h'
      rw [this]
      show Obj.cells _ _ _ = Obj.cells _ _ _
      congr 1
      obtain ⟨hi, rfl⟩ := Array.getElem?_eq_some_iff.1 hu
      apply Array.ext
      · simp
      · intro j hj hj2
        rw [Array.getElem_setIfInBounds]
        split
        · rename_i e
          subst e
          rfl
        · rfl
    · rfl

def RefPost (B g : Nat) (M : Int) (G : List Nd) (a b : Int) (w : World) (e : Ending) (w' : World) : Prop :=
  e = .returned (.int .i64 (andG G a b).2) ∧ GAt w' B g M (andG G a b).1 ∧ GFr B w w'

set_option maxHeartbeats 400000 in
set_option maxRecDepth 100000 in
theorem makerAnd (B g mk : Nat) (M : Int) (G : List Nd) (a b : Int) (w : World) (h : Hid (GAt w B g M G)) (hM : M ≤ 65536) (hlt : (G.length : Int) < M) (ha : 0 ≤ a) (ha' : a < 2 * G.length) (hb : 0 ≤ b) (hb' : b < 2 * G.length)
    (hk : Hid (Bk w mk 168 #[.pointer (some ⟨g, 0, none⟩), .int .i64 0])) :
    Calls Try.prog 71 #[.pointer (some ⟨mk, 0, none⟩), .int .i64 a, .int .i64 b] w (RefPost B g M G a b w) := by
  have c0 : w.cell? ⟨mk, 0, none⟩ = some (.pointer (some ⟨g, 0, none⟩)) := hk.out.cell 0
  have c1 : w.cell? ⟨mk, 1, none⟩ = some (.int .i64 0) := hk.out.cell 1
  go_enter Try.func71, Try.ntmps71
  go_wp2_with fail
  refine (and_any B g M G a b w h.out hM hlt ha ha' hb hb').mono ?_
  rintro e w1 ⟨rfl, h1, h2⟩
  have hk1 := hk.out.gfr h2 (by simp [gType])
  have d1 : w1.cell? ⟨mk, 1, none⟩ = some (.int .i64 0) := hk1.cell 1
  have f1 : w1.frozen? ⟨mk, 1, none⟩ = false := hk1.frozen 1
  have hs := Lib.hid (setCell_same (i := 1) (u := .int .i64 0) hk1 rfl)
  have H1 := Lib.hid h1; have H2 := Lib.hid h2
  clear h1 h2 hk1
  go_wp2
  go_ret
  rw [hs.out]
  exact ⟨rfl, H1.out, H2.out⟩

set_option maxHeartbeats 400000 in
set_option maxRecDepth 100000 in
theorem andClo (B g mk pa pb : Nat) (M : Int) (G : List Nd) (a b : Int) (w : World) (h : Hid (GAt w B g M G)) (hM : M ≤ 65536) (hlt : (G.length : Int) < M) (ha : 0 ≤ a) (ha' : a < 2 * G.length) (hb : 0 ≤ b) (hb' : b < 2 * G.length)
    (hk : Hid (Bk w mk 168 #[.pointer (some ⟨g, 0, none⟩), .int .i64 0])) (ca : w.cell? ⟨pa, 0, none⟩ = some (.int .i64 a)) (cb : w.cell? ⟨pb, 0, none⟩ = some (.int .i64 b)) :
    Calls Try.prog 70 #[.pointer (some ⟨mk, 0, none⟩), .pointer (some ⟨pa, 0, none⟩), .pointer (some ⟨pb, 0, none⟩)] w (RefPost B g M G a b w) := by
  go_enter Try.func70, Try.ntmps70
  go_wp2_with fail
  refine (makerAnd B g mk M G a b w h hM hlt ha ha' hb hb' hk).mono ?_
  rintro e w1 ⟨rfl, h1, h2⟩
  have H1 := Lib.hid h1; have H2 := Lib.hid h2
  clear h1 h2
  go_wp2
  go_ret
  exact ⟨rfl, H1.out, H2.out⟩

/-- What the small functions want of a graph. -/
theorem GAt.cells {w : World} {B g : Nat} {M : Int} {G : List Nd} (h : GAt w B g M G) : ∃ nb mb c iv, Bk w g 45 #[.int .i64 M, .slice (some ⟨nb, 0, none⟩) G.length c, .map (some mb), iv] := by
  obtain ⟨nb, mb, c, iv, D, hD, hBg, hBm, hBs, hg, _⟩ := h
  exact ⟨nb, mb, c, iv, hg⟩

theorem gright (B g : Nat) (M : Int) (G : List Nd) (r : Int) (w : World) (h : GAt w B g M G) (h1 : -9223372036854775808 ≤ r) (h2 : r ≤ 9223372036854775807) :
    Calls Try.prog 54 #[.pointer (some ⟨g, 0, none⟩), .int .i64 r] w fun e w' => e = .returned (.bool (decide (0 ≤ r ∧ r < 2 * G.length))) ∧ w = w' := by
  obtain ⟨nb, mb, c, iv, hg⟩ := h.cells
  exact right_some g mb _ _ c r w (hg.cell 2) (hg.cell 1) h1 h2
theorem glen (B g : Nat) (M : Int) (G : List Nd) (w : World) (h : GAt w B g M G) :
    Calls Try.prog 48 #[.pointer (some ⟨g, 0, none⟩)] w fun e w' => e = .returned (.int .i64 G.length) ∧ w = w' := by
  obtain ⟨nb, mb, c, iv, hg⟩ := h.cells
  exact len_some g mb _ _ c w (hg.cell 2) (hg.cell 1)
theorem gnone (B g : Nat) (M : Int) (G : List Nd) (w : World) (h : GAt w B g M G) :
    Calls Try.prog 67 #[.pointer (some ⟨g, 0, none⟩)] w fun e w' => e = .returned (.bool false) ∧ w = w' := by
  obtain ⟨nb, mb, c, iv, hg⟩ := h.cells
  exact none_some g (some mb) w (hg.cell 2)

theorem makeClo (B g pg : Nat) (M : Int) (G : List Nd) (r : Int) (w : World) (h : Hid (GAt w B g M G)) (cg : w.cell? ⟨pg, 0, none⟩ = some (.pointer (some ⟨g, 0, none⟩))) (h1 : -9223372036854775808 ≤ r) (h2 : r ≤ 9223372036854775807) :
    Calls Try.prog 87 #[.int .i64 r, .pointer (some ⟨pg, 0, none⟩)] w fun e w' => e = .returned (.bool (!decide (0 ≤ r ∧ r < 2 * G.length))) ∧ w = w' := by
  have hc := gright B g M G r w h.out h1 h2
  generalize decide (0 ≤ r ∧ r < 2 * (G.length : Int)) = t at *
  have Hc := Lib.hid hc
  clear hc
  go_enter Try.func87, Try.ntmps87
  go_wp2_with fail
  refine Hc.out.mono ?_
  rintro e w' ⟨rfl, rfl⟩
  go_wp2
  go_ret
  exact ⟨rfl, rfl⟩

theorem ent_make1 : Ent Try.prog 87 := Ent.of Try.func87 (by kernel_rfl) (by kernel_rfl)
theorem ent_and1 : Ent Try.prog 70 := Ent.of Try.func70 (by kernel_rfl) (by kernel_rfl)

set_option maxHeartbeats 400000 in
set_option maxRecDepth 100000 in
theorem makeAnd (B g pa pb lb : Nat) (M : Int) (G : List Nd) (a b : Int) (w : World) (h : Hid (GAt w B g M G)) (hM : M ≤ 65536) (hlt : (G.length : Int) < M) (ha : 0 ≤ a) (ha' : a < 2 * G.length) (hb : 0 ≤ b) (hb' : b < 2 * G.length)
    (ca : w.cell? ⟨pa, 0, none⟩ = some (.int .i64 a)) (cb : w.cell? ⟨pb, 0, none⟩ = some (.int .i64 b)) (hpa : pa < w.heap.size) (hpb : pb < w.heap.size) (hl : Hid (Rd w (some ⟨lb, 0, none⟩) ([a, b].map (Value.int .i64)))) :
    Calls Try.prog 69 #[.pointer (some ⟨g, 0, none⟩), .func (.func 70) #[] #[.pointer (some ⟨pa, 0, none⟩), .pointer (some ⟨pb, 0, none⟩)], .slice (some ⟨lb, 0, none⟩) 2 2] w (AndPost B g M G a b w) := by
  have hgl : g < w.heap.size := by obtain ⟨_, _, _, _, hg⟩ := h.out.cells; exact hg.lt
  have b1 : Below w.heap.size w (w.alloc (.cells #[.pointer (some ⟨g, 0, none⟩)] 40)) := (Below.refl _ w).alloc (Nat.le_refl _) _
  go_enter Try.func69, Try.ntmps69
  go_wp2_with fail
  refine (gnone B g M G _ (h.out.below b1)).mono ?_
  rintro e w' ⟨rfl, rfl⟩
  go_wp2_with fail
  refine (containsf_ref (some ⟨lb, 0, none⟩) 2 2 [a, b] 87 #[.pointer (some ⟨w.heap.size, 0, none⟩)] (fun r => !decide (0 ≤ r ∧ r < 2 * (G.length : Int))) _ (hl.out.alloc _) rfl (by omega) ent_make1 ?_).mono ?_
  · intro x hx W hW
    have hxr : 0 ≤ x ∧ x ≤ 1000000 := by simp at hx; omega
    refine (makeClo B g w.heap.size M G x W ((h.out.below b1).below hW) ?_ (by omega) (by omega)).mono ?_
    · rw [hW.cell (by simp)]
      exact (Bk.new w _ _).cell 0
    · rintro e w' ⟨rfl, rfl⟩
      exact ⟨rfl, Below.refl _ _⟩
  rintro e w1 ⟨rfl, hb1⟩
  rw [show ([a, b].any fun r => !decide (0 ≤ r ∧ r < 2 * (G.length : Int))) = false from by simp; omega]
  have hG1 : GAt w1 B g M G := (h.out.below b1).below hb1
  have bx : Bk w1 w.heap.size 40 #[.pointer (some ⟨g, 0, none⟩)] := (Bk.new w _ _).below hb1 (by simp)
  have x0 : w1.cell? ⟨w.heap.size, 0, none⟩ = some (.pointer (some ⟨g, 0, none⟩)) := bx.cell 0
  have bw : Below w.heap.size w w1 := b1.trans (hb1.mono (by simp))
  have ca1 : w1.cell? ⟨pa, 0, none⟩ = some (.int .i64 a) := (bw.cell hpa).trans ca
  have cb1 : w1.cell? ⟨pb, 0, none⟩ = some (.int .i64 b) := (bw.cell hpb).trans cb
  obtain ⟨nb, mb, c, iv, hg⟩ := hG1.cells
  have y1 : w1.cell? ⟨g, 1, none⟩ = some (.slice (some ⟨nb, 0, none⟩) G.length c) := hg.cell 1
  have hs1 : w.heap.size < w1.heap.size := bx.lt
  have HG1 := Lib.hid hG1; have BX := Lib.hid bx; have BW := Lib.hid bw
  clear hb1 b1 ca cb bx bw hG1 hg h
  go_wp2_with fail
  have b2 : Below w1.heap.size w1 (w1.alloc (.cells #[.pointer (some ⟨g, 0, none⟩), .int .i64 0] 168)) := (Below.refl _ w1).alloc (Nat.le_refl _) _
  refine (andClo B g w1.heap.size pa pb M G a b _ (HG1.out.below b2) hM hlt ha ha' hb hb' (Bk.new _ _ _) ((b2.cell (p := ⟨pa, 0, none⟩) (by show pa < _; omega)).trans ca1) ((b2.cell (p := ⟨pb, 0, none⟩) (by show pb < _; omega)).trans cb1)).mono ?_
  rintro e w2 ⟨rfl, h1, h2⟩
  have mk2 := (Bk.new w1 168 #[.pointer (some ⟨g, 0, none⟩), .int .i64 0]).gfr h2 (by simp [gType])
  have z1 : w2.cell? ⟨w1.heap.size, 1, none⟩ = some (.int .i64 0) := mk2.cell 1
  have H1 := Lib.hid h1
  have H2 : Hid (GFr B w w2) := (GFr.of_below (BW.out.trans (b2.mono (by omega)))).trans h2
  clear h1 h2 mk2 b2
  go_wp2
  go_ret2
  exact ⟨rfl, H1.out, H2.out⟩

set_option maxHeartbeats 400000 in
set_option maxRecDepth 100000 in
theorem gAnd (B g : Nat) (M : Int) (G : List Nd) (a b : Int) (w : World) (h : Hid (GAt w B g M G)) (hM : M ≤ 65536) (hlt : (G.length : Int) < M) (ha : 0 ≤ a) (ha' : a < 2 * G.length) (hb : 0 ≤ b) (hb' : b < 2 * G.length) :
    Calls Try.prog 30 #[.pointer (some ⟨g, 0, none⟩), .int .i64 a, .int .i64 b] w (AndPost B g M G a b w) := by
  go_enter Try.func30, Try.ntmps30
  go_wp2_with fail
  have b1 : Below w.heap.size w (((w.alloc (.cells #[.int .i64 a] 35)).alloc (.cells #[.int .i64 b] 35)).alloc (.cells #[.int .i64 a, .int .i64 b] 35)) := (((Below.refl _ w).alloc (Nat.le_refl _) _).alloc (by simp) _).alloc (by simp; omega) _
  have r1 := Rd.new ((w.alloc (.cells #[.int .i64 a] 35)).alloc (.cells #[.int .i64 b] 35)) #[.int .i64 a, .int .i64 b] 35
  have s1 : ((w.alloc (.cells #[.int .i64 a] 35)).alloc (.cells #[.int .i64 b] 35)).heap.size = w.heap.size + 1 + 1 := by simp
  rw [s1] at r1
  refine (makeAnd B g w.heap.size (w.heap.size + 1) (w.heap.size + 1 + 1) M G a b _ (h.out.below b1) hM hlt ha ha' hb hb' ?_ ?_ (by simp; omega) (by simp) r1).mono ?_
  · exact ((((Bk.new w 35 #[.int .i64 a]).alloc _).alloc _).cell 0)
  · have := (((Bk.new (w.alloc (.cells #[.int .i64 a] 35)) 35 #[.int .i64 b]).alloc (.cells #[.int .i64 a, .int .i64 b] 35)).cell 0)
    simpa using this
  rintro e w2 ⟨rfl, h1, h2⟩
  have H1 := Lib.hid h1
  have H2 : Hid (GFr B w w2) := (GFr.of_below b1).trans h2
  clear h1 h2 b1 r1 s1
  go_wp2
  go_ret2
  exact ⟨rfl, H1.out, H2.out⟩
end Go.Proofs.Ytamoniljgifggaa
