/-
  Steps in another order: plain laws.
-/
import Derived.Test.YteglgcfbmjlnkaaDoorTextL
set_option linter.unusedVariables false
set_option linter.unusedSimpArgs false
namespace Go.Proofs.YteglgcfbmjlnkaaDoor
open Go.RowKit

/-- The first step that does not fit, or -1. -/
def badF (last : Int) (i : Nat) : List (StV × Stp) → Int
  | [] => -1
  | p :: r => if fitsB p.2 last then badF p.2.id (i + 1) r else (i : Int)
theorem badF_ge : ∀ (L : List (StV × Stp)) (last : Int) (i : Nat), badF last i L = -1 ∨ (i : Int) ≤ badF last i L
  | [], _, _ => .inl rfl
  | p :: r, last, i => by
    unfold badF
    split
    · rcases badF_ge r p.2.id (i + 1) with h | h
      · exact .inl h
      · right; omega
    · right; omega
theorem checkF_bad : ∀ (L : List (StV × Stp)) (last : Int) (i : Nat), (∀ p ∈ L, rightS p.2 = true) → checkF last i L = (badF last i L, if badF last i L < 0 then 0 else 70)
  | [], _, _, _ => rfl
  | p :: r, last, i, h => by
    unfold checkF badF
    rw [h p (by simp)]
    cases hf : fitsB p.2 last with
    | true =>
      simp only [Bool.and_self, if_true]
      exact checkF_bad r _ _ (fun q hq => h q (by simp [hq]))
    | false =>
      simp only [Bool.and_false, Bool.false_eq_true, if_false]
      rw [if_neg (by omega)]
theorem readF_bad : ∀ (L : List (StV × Stp)) (last : Int) (i : Nat) (acc : List Stp), (∀ p ∈ L, rightS p.2 = true) → acc.length + L.length ≤ 262144 → 0 ≤ badF last i L → readF last i acc (Lib.split (textS L) [10]) = ([], badF last i L + 1, 70)
  | [], last, i, acc, _, _, h => by simp [badF] at h
  | p :: r, last, i, acc, h, hl, hb => by
    rw [split_text]
    unfold readF
    rw [over_line, (parseS_iff _ _).2 ⟨h p (by simp), rfl⟩]
    unfold badF at hb ⊢
    cases hf : fitsB p.2 last with
    | true =>
      rw [hf] at hb
      simp only [Bool.false_eq_true, if_false, if_true, hf] at hb ⊢
      rw [if_neg (show ¬ acc.length = 262144 by simp at hl; omega)]
      exact readF_bad r p.2.id (i + 1) (acc ++ [p.2]) (fun q hq => h q (by simp [hq])) (by simp at hl ⊢; omega) hb
    | false => simp [hf]
theorem readS_bad {L : List (StV × Stp)} (h : ∀ p ∈ L, rightS p.2 = true) (hl : L.length ≤ 262144) (ht : (textS L).length ≤ 16777216) (hb : 0 ≤ badF 0 0 L) : readS (textS L) = ([], badF 0 0 L + 1, 70) := by
  unfold readS
  rw [if_neg (by omega), readF_bad L 0 0 [] h (by simpa using hl) hb]
/-- Two members change places. -/
def swapL {α : Type} (L : List α) (i k : Nat) (x y : α) : List α := (L.set i y).set k x
theorem swapL_mem {α : Type} {L : List α} {i k : Nat} {x y : α} (hx : L[i]? = some x) (hy : L[k]? = some y) : ∀ p ∈ swapL L i k x y, p ∈ L := by
  intro p hp
  unfold swapL at hp
  rcases List.mem_or_eq_of_mem_set hp with h | h
  · rcases List.mem_or_eq_of_mem_set h with h | h
    · exact h
    · subst h; exact List.mem_of_getElem? hy
  · subst h; exact List.mem_of_getElem? hx
theorem swapL_len {α : Type} (L : List α) (i k : Nat) (x y : α) : (swapL L i k x y).length = L.length := by unfold swapL; simp
end Go.Proofs.YteglgcfbmjlnkaaDoor
