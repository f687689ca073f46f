/-
  Steps with one that is not right: plain laws.
-/
import Derived.Test.YteglgcfbmjlnkaaDoorOrderP
set_option linter.unusedVariables false
set_option linter.unusedSimpArgs false
namespace Go.Proofs.YteglgcfbmjlnkaaDoor
open Go.RowKit

theorem checkF_at : ∀ (L : List (StV × Stp)) (last : Int) (i k : Nat) (y : StV × Stp), checkF last i L = (-1, 0) → k < L.length → rightS y.2 = false → checkF last i (L.set k y) = (((i + k : Nat) : Int), 70)
  | [], _, _, _, _, _, h, _ => by simp at h
  | p :: L, last, i, 0, y, _, _, hy => by
    show checkF last i (y :: L) = _
    unfold checkF
    rw [hy]
    simp
  | p :: L, last, i, k + 1, y, hc, hk, hy => by
    obtain ⟨h1, h2, h3⟩ := checkF_cons hc
    show checkF last i (p :: L.set k y) = _
    unfold checkF
    rw [h1, h2]
    simp only [Bool.and_self, if_true]
    rw [checkF_at L p.2.id (i + 1) k y h3 (by simpa using hk) hy]
    congr 2
    omega
theorem checkS_at {L : List (StV × Stp)} {k : Nat} {y : StV × Stp} (hc : checkS L = (-1, 0)) (hl : L.length ≤ 262144) (hk : k < L.length) (hy : rightS y.2 = false) : checkS (L.set k y) = ((k : Int), 70) := by
  unfold checkS at hc ⊢
  rw [if_neg (by omega)] at hc
  rw [if_neg (by rw [List.length_set]; omega), checkF_at L 0 0 k y hc hk hy, Nat.zero_add]
theorem writeS_at {L : List (StV × Stp)} {k : Nat} {y : StV × Stp} (hc : checkS L = (-1, 0)) (hl : L.length ≤ 262144) (hk : k < L.length) (hy : rightS y.2 = false) : writeS (L.set k y) = ([], (k : Int), 70) := by
  unfold writeS
  rw [checkS_at hc hl hk hy, if_neg (show ¬ ((70 : Int) = 0) by decide)]
theorem wrong_hint (d : Bool) (i : Int) (l h : List Int) {z : Int} (hz : z = 0 ∨ 1073741824 < z ∨ z < -1073741824) : rightS ⟨d, i, l, h ++ [z]⟩ = false := by
  have hb : hintBad d z = true := by
    unfold hintBad
    rcases hz with h0 | h0 | h0
    · subst h0; rfl
    · rw [show decide (1073741824 < z) = true by simpa using h0]; simp
    · rw [show decide (z < -1073741824) = true by simpa using h0]; simp
  unfold rightS
  rw [List.any_append]
  simp [hb]
theorem wrong_lit (d : Bool) (i : Int) (h : List Int) : rightS ⟨d, i, [1, 0], h⟩ = false := by
  unfold rightS
  rw [show clauseB [1, 0] = false by decide]
  simp
theorem wrong_del (i : Int) (h : List Int) : rightS ⟨true, i, [1], h⟩ = false := right_false3 ⟨rfl, by simp⟩
end Go.Proofs.YteglgcfbmjlnkaaDoor
