/-
  Steps in memory; whether a literal, a clause, a hint, a step is right.
-/
import Derived.Test.YteglgcfbmjlnkaaGreatDoorLib
import Derived.Test.YteglgcfbmjlnkaaGreatDoorVars
import Derived.Laws.EntriesVeiled
set_option linter.unusedVariables false
set_option linter.unusedSimpArgs false
namespace Go.Proofs.YteglgcfbmjlnkaaGreatDoor
open Go.RowKit

/-- A slice's value. -/
structure SV where
  A : Option Addr
  n : Nat
  c : Nat
/-- Where a step's slices lie. -/
structure StV where
  L : SV
  H : SV
/-- The cells of a step. -/
def stc (s : Stp) (v : StV) : Array Value := #[.bool s.del, .int .i64 s.id, .slice v.L.A v.L.n v.L.c, .slice v.H.A v.H.n v.H.c]
/-- A list of numbers at a slice. -/
def IntsAt (w : World) (s : SV) (l : List Int) : Prop := Rd w s.A (l.map (Value.int .i64)) ∧ l.length = s.n ∧ (∀ u ∈ l, I64 u) ∧ s.n ≤ 100000000
theorem IntsAt.below {w w' : World} {s : SV} {l : List Int} (h : IntsAt w s l) (hb : Below w.heap.size w w') : IntsAt w' s l := ⟨h.1.below hb, h.2.1, h.2.2⟩
/-- The step s lies at v. -/
structure StpAt (w : World) (v : StV) (s : Stp) : Prop where
  id : I64 s.id
  lits : IntsAt w v.L s.lits
  hints : IntsAt w v.H s.hints
theorem StpAt.below {w w' : World} {v : StV} {s : Stp} (h : StpAt w v s) (hb : Below w.heap.size w w') : StpAt w' v s := ⟨h.id, h.lits.below hb, h.hints.below hb⟩
theorem cells4 {w : World} {g : Nat} {t : TypeId} {v0 v1 v2 v3 : Value} (h : Bk w g t #[v0, v1, v2, v3]) : w.cell? ⟨g, 0, none⟩ = some v0 ∧ w.cell? ⟨g, 1, none⟩ = some v1 ∧ w.cell? ⟨g, 2, none⟩ = some v2 ∧ w.cell? ⟨g, 3, none⟩ = some v3 := ⟨h.cell 0, h.cell 1, h.cell 2, h.cell 3⟩

set_option maxRecDepth 100000 in
theorem litRight (l : Int) (w : World) : Calls Tryz.prog 80 #[.int .i64 l] w fun e w' => e = .returned (.bool (litB l)) ∧ w = w' := by
  rcases (by omega : l = 0 ∨ (l ≠ 0 ∧ l < -1048576) ∨ (l ≠ 0 ∧ -1048576 ≤ l ∧ 1048576 < l) ∨ (l ≠ 0 ∧ -1048576 ≤ l ∧ l ≤ 1048576)) with h | ⟨h1, h2⟩ | ⟨h1, h2, h3⟩ | ⟨h1, h2, h3⟩
  · subst h
    go_enter Tryz.func80, Tryz.ntmps80
    go_wp2
    go_ret
    exact ⟨rfl, rfl⟩
  · have e1 : (l != 0) = true := by simpa using h1
    have e2 : decide (-1048576 ≤ l) = false := by simp; omega
    have E : Hid (litB l = false) := by show litB l = false; unfold litB; rw [e2]; simp
    clear h1 h2
    go_enter Tryz.func80, Tryz.ntmps80
    go_wp2
    go_ret
    exact ⟨ret_bool E.out.symm, rfl⟩
  · have e1 : (l != 0) = true := by simpa using h1
    have e2 : decide (-1048576 ≤ l) = true := by simp; omega
    have e3 : decide (l ≤ 1048576) = false := by simp; omega
    have E : Hid (litB l = false) := by show litB l = false; unfold litB; rw [e3]; simp
    clear h1 h2 h3
    go_enter Tryz.func80, Tryz.ntmps80
    go_wp2
    go_ret
    exact ⟨ret_bool E.out.symm, rfl⟩
  · have e1 : (l != 0) = true := by simpa using h1
    have e2 : decide (-1048576 ≤ l) = true := by simp; omega
    have e3 : decide (l ≤ 1048576) = true := by simp; omega
    have E : Hid (litB l = true) := by show litB l = true; unfold litB; rw [e2, e3]; simpa using h1
    clear h1 h2 h3
    go_enter Tryz.func80, Tryz.ntmps80
    go_wp2
    go_ret
    exact ⟨ret_bool E.out.symm, rfl⟩
theorem clauseWrong (l : Int) (w : World) : Calls Tryz.prog 67 #[.int .i64 l] w fun e w' => e = .returned (.bool (!litB l)) ∧ w = w' := by
  go_enter Tryz.func67, Tryz.ntmps67
  go_wp2_with fail
  refine (litRight l w).mono ?_
  rintro e w' ⟨rfl, rfl⟩
  go_wp2
  go_ret
  exact ⟨rfl, rfl⟩
theorem ent_clauseWrong : Ent Tryz.prog 67 := Ent.of Tryz.func67 (by kernel_rfl) (by kernel_rfl)
set_option maxRecDepth 100000 in
theorem clauseRight (v : SV) (l : List Int) (w : World) (h : Hid (IntsAt w v l)) : Calls Tryz.prog 39 #[.slice v.A v.n v.c] w fun e w' => e = .returned (.bool (clauseB l)) ∧ Below w.heap.size w w' := by
  obtain ⟨A, n, c⟩ := v
  obtain ⟨h1, h2, h3, h4⟩ := h.out
  dsimp only at h1 h2 h4 ⊢
  have HR := Lib.hid h1
  have HL := Lib.hid h2
  clear h1 h2 h h3
  by_cases hn : n ≤ 4096
  · have e1 : decide ((n : Int) ≤ 4096) = true := by simp; omega
    have hp := containsf_lit A n c l 67 #[] (fun x => !litB x) w HR HL (by omega) ent_clauseWrong (Lib.hid (fun x _ W hW => (clauseWrong x W).mono fun e w' ⟨he, hw⟩ => ⟨he, hw ▸ Below.refl _ _⟩))
    have HP := Lib.hid hp
    have E : Hid (clauseB l = !l.any fun x => !litB x) := by show clauseB l = _; unfold clauseB; rw [HL.out]; simp [hn]
    clear hp hn
    go_enter Tryz.func39, Tryz.ntmps39
    go_wp2_with fail
    refine HP.out.mono ?_
    rintro e w' ⟨rfl, hb⟩
    have HB := Lib.hid hb
    clear hb
    go_wp2
    go_ret
    exact ⟨ret_bool E.out.symm, HB.out⟩
  · have e1 : decide ((n : Int) ≤ 4096) = false := by simp; omega
    have E : Hid (clauseB l = false) := by show clauseB l = _; unfold clauseB; rw [HL.out]; simp [hn]
    clear hn
    go_enter Tryz.func39, Tryz.ntmps39
    go_wp2
    go_ret
    exact ⟨ret_bool E.out.symm, Below.refl _ _⟩

/-- The closure that tells whether a hint is wrong. -/
theorem hintWrong (del : Bool) (h : Int) (g : Nat) (w : World) (hg : Hid (Bk w g 4 #[.bool del])) : Calls Tryz.prog 69 #[.int .i64 h, .pointer (some ⟨g, 0, none⟩)] w fun e w' => e = .returned (.bool (hintBad del h)) ∧ w = w' := by
  have hc := hg.out.cell 0
  rcases (by omega : h = 0 ∨ (h ≠ 0 ∧ 1073741824 < h) ∨ (h ≠ 0 ∧ h ≤ 1073741824 ∧ h < -1073741824) ∨ (h ≠ 0 ∧ h ≤ 1073741824 ∧ -1073741824 ≤ h)) with h0 | ⟨h1, h2⟩ | ⟨h1, h2, h3⟩ | ⟨h1, h2, h3⟩
  · subst h0
    go_enter Tryz.func69, Tryz.ntmps69
    go_wp2
    go_ret
    exact ⟨rfl, rfl⟩
  · have e1 : (h == 0) = false := by simpa using h1
    have e2 : decide (1073741824 < h) = true := by simpa using h2
    have E : Hid (hintBad del h = true) := by show hintBad del h = true; unfold hintBad; rw [e2]; simp
    clear h1 h2
    go_enter Tryz.func69, Tryz.ntmps69
    go_wp2
    go_ret
    exact ⟨ret_bool E.out.symm, rfl⟩
  · have e1 : (h == 0) = false := by simpa using h1
    have e2 : decide (1073741824 < h) = false := by simp; omega
    have e3 : decide (h < -1073741824) = true := by simpa using h3
    have E : Hid (hintBad del h = true) := by show hintBad del h = true; unfold hintBad; rw [e3]; simp
    clear h1 h2 h3
    go_enter Tryz.func69, Tryz.ntmps69
    go_wp2
    go_ret
    exact ⟨ret_bool E.out.symm, rfl⟩
  · have e1 : (h == 0) = false := by simpa using h1
    have e2 : decide (1073741824 < h) = false := by simp; omega
    have e3 : decide (h < -1073741824) = false := by simp; omega
    have E : Hid (hintBad del h = (del && decide (h < 0))) := by show hintBad del h = _; unfold hintBad; rw [e1, e2, e3]; simp
    clear h1 h2 h3 hg
    cases del with
    | false =>
      go_enter Tryz.func69, Tryz.ntmps69
      go_wp2
      go_ret
      exact ⟨ret_bool E.out.symm, rfl⟩
    | true =>
      go_enter Tryz.func69, Tryz.ntmps69
      go_wp2
      go_ret
      exact ⟨ret_bool (by rw [E.out]; rfl), rfl⟩
theorem wrongC (del : Bool) (w : World) : Calls Tryz.prog 41 #[.bool del] w fun e w' => e = .returned (.func (.func 69) #[] #[.pointer (some ⟨w.heap.size, 0, none⟩)]) ∧ w' = w.alloc (.cells #[.bool del] 4) := by
  go_enter Tryz.func41, Tryz.ntmps41
  go_wp2
  go_ret
  exact ⟨rfl, rfl⟩
theorem ent_hintWrong : Ent Tryz.prog 69 := Ent.of Tryz.func69 (by kernel_rfl) (by kernel_rfl)
end Go.Proofs.YteglgcfbmjlnkaaGreatDoor
