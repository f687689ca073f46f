/-
  What is written is read back: plain laws of readS and textS.
-/
import Derived.Test.YteglgcfbmjlnkaaDoorReadC
import Derived.Test.YteglgcfbmjlnkaaDoorWrite
set_option linter.unusedVariables false
set_option linter.unusedSimpArgs false
namespace Go.Proofs.YteglgcfbmjlnkaaDoor
open Go.RowKit

theorem line_head (s : Stp) : ∃ c r, lineS s = c :: r ∧ c ≠ 99 := by
  unfold lineS
  cases hd : Lib.itoa s.id with
  | nil => exact absurd hd (itoa_ne _)
  | cons c t =>
    refine ⟨c, _, by rw [List.cons_append, List.cons_append], fun e => ?_⟩
    subst e
    exact (itoa_free s.id).2.2.2 (by rw [hd]; simp)
theorem over_line (s : Stp) : overS (lineS s) = false := by
  obtain ⟨c, r, h, hc⟩ := line_head s
  rw [h]
  unfold overS
  simp [Lib.hasPrefix, List.isPrefixOf, hc, Ne.symm hc]
theorem text_cons (p : StV × Stp) (L : List (StV × Stp)) : textS (p :: L) = lineS p.2 ++ 10 :: textS L := by
  unfold textS
  rw [List.flatMap_cons]
  simp
theorem split_text (p : StV × Stp) (L : List (StV × Stp)) : Lib.split (textS (p :: L)) [10] = lineS p.2 :: Lib.split (textS L) [10] := by
  rw [text_cons, split_cons 10 _ _ (line_free p.2)]
theorem checkF_cons {last : Int} {i : Nat} {p : StV × Stp} {L : List (StV × Stp)} (h : checkF last i (p :: L) = (-1, 0)) : rightS p.2 = true ∧ fitsB p.2 last = true ∧ checkF p.2.id (i + 1) L = (-1, 0) := by
  unfold checkF at h
  cases hr : rightS p.2 with
  | false => rw [hr] at h; simp at h
  | true =>
    cases hf : fitsB p.2 last with
    | false => rw [hr, hf] at h; simp at h
    | true =>
      rw [hr, hf] at h
      exact ⟨rfl, rfl, h⟩
/-- The text of steps that fit, behind others. -/
theorem readF_text : ∀ (L : List (StV × Stp)) (last : Int) (i j : Nat) (acc : List Stp), checkF last j L = (-1, 0) → acc.length + L.length ≤ 262144 → readF last i acc (Lib.split (textS L) [10]) = (acc ++ L.map (·.2), 0, 0)
  | [], last, i, j, acc, _, _ => by
    have h : Lib.split (textS []) [10] = [[]] := by rfl
    rw [h]
    unfold readF
    rw [show overS [] = true from rfl, if_pos rfl]
    unfold readF
    simp
  | p :: L, last, i, j, acc, h, hl => by
    obtain ⟨h1, h2, h3⟩ := checkF_cons h
    rw [split_text]
    unfold readF
    rw [over_line, (parseS_iff _ _).2 ⟨h1, rfl⟩]
    simp only [Bool.false_eq_true, if_false, h2, if_true]
    rw [if_neg (by simp at hl; omega), readF_text L p.2.id (i + 1) (j + 1) _ h3 (by simp at hl ⊢; omega)]
    simp
theorem readS_text {L : List (StV × Stp)} (h : checkF 0 0 L = (-1, 0)) (hl : L.length ≤ 262144) (ht : (textS L).length ≤ 16777216) : readS (textS L) = (L.map (·.2), 0, 0) := by
  unfold readS
  rw [if_neg (by omega), readF_text L 0 0 0 [] h (by simpa using hl)]
  simp
/-- The first check index does not matter. -/
theorem checkF_shift : ∀ (L : List (StV × Stp)) (last : Int) (i j : Nat), checkF last i L = (-1, 0) → checkF last j L = (-1, 0)
  | [], _, _, _, _ => rfl
  | p :: L, last, i, j, h => by
    obtain ⟨h1, h2, h3⟩ := checkF_cons h
    unfold checkF
    rw [h1, h2]
    simp only [Bool.and_self, if_true]
    exact checkF_shift L _ _ _ h3
/-- What fits behind something fits alone. -/
theorem checkF_zero {L : List (StV × Stp)} {last : Int} {i : Nat} (h : checkF last i L = (-1, 0)) : checkF 0 0 L = (-1, 0) := by
  cases L with
  | nil => rfl
  | cons p L =>
    obtain ⟨h1, h2, h3⟩ := checkF_cons h
    have hf : fitsB p.2 0 = true := by
      obtain ⟨⟨a1, _⟩, a2, _⟩ := right_parts h1
      unfold fitsB
      by_cases h0 : p.2.id = 0
      · rcases a2 with a2 | a2
        · rw [a2, h0]; rfl
        · exact absurd h0 a2
      · rw [decide_eq_true (show 0 < p.2.id by omega)]; rfl
    unfold checkF
    rw [h1, hf]
    simp only [Bool.and_self, if_true]
    exact checkF_shift L _ _ _ h3
theorem checkF_drop : ∀ (L : List (StV × Stp)) (last : Int) (i k : Nat), checkF last i L = (-1, 0) → checkF 0 0 (L.drop k) = (-1, 0)
  | L, last, i, 0, h => checkF_zero h
  | [], _, _, k + 1, _ => rfl
  | p :: L, last, i, k + 1, h => checkF_drop L _ _ k (checkF_cons h).2.2
theorem checkF_take : ∀ (L : List (StV × Stp)) (last : Int) (i k : Nat), checkF last i L = (-1, 0) → checkF last i (L.take k) = (-1, 0)
  | L, last, i, 0, h => rfl
  | [], _, _, k + 1, _ => rfl
  | p :: L, last, i, k + 1, h => by
    obtain ⟨h1, h2, h3⟩ := checkF_cons h
    rw [List.take_succ_cons]
    unfold checkF
    rw [h1, h2]
    simp only [Bool.and_self, if_true]
    exact checkF_take L _ _ k h3
theorem textS_append (L M : List (StV × Stp)) : textS (L ++ M) = textS L ++ textS M := by unfold textS; rw [List.flatMap_append]
/-- Proofs with the same text are the same. -/
theorem text_inj {L M : List (StV × Stp)} (h1 : checkF 0 0 L = (-1, 0)) (h2 : checkF 0 0 M = (-1, 0)) (l1 : L.length ≤ 262144) (l2 : M.length ≤ 262144) (t1 : (textS L).length ≤ 16777216) (h : textS L = textS M) : L.map (·.2) = M.map (·.2) := by
  have a := readS_text h1 l1 t1
  have b := readS_text h2 l2 (by rw [← h]; exact t1)
  rw [h, b] at a
  exact (congrArg Prod.fst a).symm
theorem text_of_map {L M : List (StV × Stp)} (h : L.map (·.2) = M.map (·.2)) : textS L = textS M := by
  have e : ∀ (L : List (StV × Stp)), textS L = (L.map (·.2)).flatMap fun s => lineS s ++ [10] := fun L => by
    unfold textS
    rw [List.flatMap_map]
  rw [e, e, h]
end Go.Proofs.YteglgcfbmjlnkaaDoor
