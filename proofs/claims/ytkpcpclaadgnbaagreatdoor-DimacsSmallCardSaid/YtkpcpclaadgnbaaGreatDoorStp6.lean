/-
  Lists of numbers in memory; whether a literal, a clause is right.
-/
import Derived.Test.YtkpcpclaadgnbaaGreatDoorLib6
import Derived.Test.YtkpcpclaadgnbaaGreatDoorVars
import Derived.Laws.EntriesVeiled
set_option linter.unusedVariables false
set_option linter.unusedSimpArgs false
namespace Go.Proofs.YtkpcpclaadgnbaaGreatDoor
open Go.RowKit

/-- A slice's value. -/
structure SV where
  A : Option Addr
  n : Nat
  c : Nat
/-- A list of numbers at a slice. -/
def IntsAt (w : World) (s : SV) (l : List Int) : Prop := Rd w s.A (l.map (Value.int .i64)) ∧ l.length = s.n ∧ (∀ u ∈ l, I64 u) ∧ s.n ≤ 100000000
theorem IntsAt.below {w w' : World} {s : SV} {l : List Int} (h : IntsAt w s l) (hb : Below w.heap.size w w') : IntsAt w' s l := ⟨h.1.below hb, h.2.1, h.2.2⟩
set_option maxRecDepth 100000 in
theorem litRight (l : Int) (w : World) : Calls Tryz.prog 90 #[.int .i64 l] w fun e w' => e = .returned (.bool (litB l)) ∧ w = w' := by
  rcases (by omega : l = 0 ∨ (l ≠ 0 ∧ l < -1048576) ∨ (l ≠ 0 ∧ -1048576 ≤ l ∧ 1048576 < l) ∨ (l ≠ 0 ∧ -1048576 ≤ l ∧ l ≤ 1048576)) with h | ⟨h1, h2⟩ | ⟨h1, h2, h3⟩ | ⟨h1, h2, h3⟩
  · subst h
    go_enter Tryz.func90, Tryz.ntmps90
    go_wp2
    go_ret
    exact ⟨rfl, rfl⟩
  · have e1 : (l != 0) = true := by simpa using h1
    have e2 : decide (-1048576 ≤ l) = false := by simp; omega
    have E : Hid (litB l = false) := by show litB l = false; unfold litB; rw [e2]; simp
    clear h1 h2
    go_enter Tryz.func90, Tryz.ntmps90
    go_wp2
    go_ret
    exact ⟨ret_bool E.out.symm, rfl⟩
  · have e1 : (l != 0) = true := by simpa using h1
    have e2 : decide (-1048576 ≤ l) = true := by simp; omega
    have e3 : decide (l ≤ 1048576) = false := by simp; omega
    have E : Hid (litB l = false) := by show litB l = false; unfold litB; rw [e3]; simp
    clear h1 h2 h3
    go_enter Tryz.func90, Tryz.ntmps90
    go_wp2
    go_ret
    exact ⟨ret_bool E.out.symm, rfl⟩
  · have e1 : (l != 0) = true := by simpa using h1
    have e2 : decide (-1048576 ≤ l) = true := by simp; omega
    have e3 : decide (l ≤ 1048576) = true := by simp; omega
    have E : Hid (litB l = true) := by show litB l = true; unfold litB; rw [e2, e3]; simpa using h1
    clear h1 h2 h3
    go_enter Tryz.func90, Tryz.ntmps90
    go_wp2
    go_ret
    exact ⟨ret_bool E.out.symm, rfl⟩
theorem clauseWrong (l : Int) (w : World) : Calls Tryz.prog 92 #[.int .i64 l] w fun e w' => e = .returned (.bool (!litB l)) ∧ w = w' := by
  go_enter Tryz.func92, Tryz.ntmps92
  go_wp2_with fail
  refine (litRight l w).mono ?_
  rintro e w' ⟨rfl, rfl⟩
  go_wp2
  go_ret
  exact ⟨rfl, rfl⟩
theorem ent_clauseWrong : Ent Tryz.prog 92 := Ent.of Tryz.func92 (by kernel_rfl) (by kernel_rfl)
set_option maxRecDepth 100000 in
theorem clauseRight (v : SV) (l : List Int) (w : World) (h : Hid (IntsAt w v l)) : Calls Tryz.prog 59 #[.slice v.A v.n v.c] w fun e w' => e = .returned (.bool (clauseB l)) ∧ Below w.heap.size w w' := by
  obtain ⟨A, n, c⟩ := v
  obtain ⟨h1, h2, h3, h4⟩ := h.out
  dsimp only at h1 h2 h4 ⊢
  have HR := Lib.hid h1
  have HL := Lib.hid h2
  clear h1 h2 h h3
  by_cases hn : n ≤ 4096
  · have e1 : decide ((n : Int) ≤ 4096) = true := by simp; omega
    have hp := containsf_lit A n c l 92 #[] (fun x => !litB x) w HR HL (by omega) ent_clauseWrong (Lib.hid (fun x _ W hW => (clauseWrong x W).mono fun e w' ⟨he, hw⟩ => ⟨he, hw ▸ Below.refl _ _⟩))
    have HP := Lib.hid hp
    have E : Hid (clauseB l = !l.any fun x => !litB x) := by show clauseB l = _; unfold clauseB; rw [HL.out]; simp [hn]
    clear hp hn
    go_enter Tryz.func59, Tryz.ntmps59
    go_wp2_with fail
    refine HP.out.mono ?_
    rintro e w' ⟨rfl, hb⟩
    have HB := Lib.hid hb
    clear hb
    go_wp2
    go_ret
    exact ⟨ret_bool E.out.symm, HB.out⟩
  · have e1 : decide ((n : Int) ≤ 4096) = false := by simp; omega
    have E : Hid (clauseB l = false) := by show clauseB l = _; unfold clauseB; rw [HL.out]; simp [hn]
    clear hn
    go_enter Tryz.func59, Tryz.ntmps59
    go_wp2
    go_ret
    exact ⟨ret_bool E.out.symm, Below.refl _ _⟩

end Go.Proofs.YtkpcpclaadgnbaaGreatDoor
