/-
  Many equal steps, many equal lines: plain laws for LratextSmall.
-/
import Derived.Test.YteglgcfbmjlnkaaGreatDoorWrite
import Derived.Test.YteglgcfbmjlnkaaGreatDoorReadC
import Derived.Lib.Repeat
import Derived.Lib.Join
set_option linter.unusedVariables false
set_option linter.unusedSimpArgs false
namespace Go.Proofs.YteglgcfbmjlnkaaGreatDoor
open Go.RowKit

theorem checkF_rep {v : StV} {s : Stp} (hr : rightS s = true) (hf : fitsB s s.id = true) : ∀ (k i : Nat), checkF s.id i (List.replicate k (v, s)) = (-1, 0)
  | 0, _ => rfl
  | k + 1, i => by
    rw [List.replicate_succ]
    unfold checkF
    show (if rightS s && fitsB s s.id then _ else _) = _
    rw [hr, hf]
    exact checkF_rep hr hf k (i + 1)
theorem checkF_rep0 {v : StV} {s : Stp} (hr : rightS s = true) (h0 : fitsB s 0 = true) (hf : fitsB s s.id = true) (k : Nat) : checkF 0 0 (List.replicate k (v, s)) = (-1, 0) := by
  cases k with
  | zero => rfl
  | succ k =>
    rw [List.replicate_succ]
    unfold checkF
    show (if rightS s && fitsB s 0 then _ else _) = _
    rw [hr, h0]
    exact checkF_rep hr hf k 1
theorem checkS_many {v : StV} {s : Stp} {k : Nat} (h : 262144 < k) : checkS (List.replicate k (v, s)) = (-1, 5) := by
  unfold checkS
  rw [if_pos (by rw [List.length_replicate]; exact h)]
theorem checkS_rep {v : StV} {s : Stp} {k : Nat} (hk : k ≤ 262144) (hr : rightS s = true) (h0 : fitsB s 0 = true) (hf : fitsB s s.id = true) : checkS (List.replicate k (v, s)) = (-1, 0) := by
  unfold checkS
  rw [if_neg (by rw [List.length_replicate]; omega)]
  exact checkF_rep0 hr h0 hf k
/-- Hints that are all 1. -/
theorem right_hints (del : Bool) (k : Nat) (hk : k ≤ 65536) : rightS ⟨del, 1, [], List.replicate k 1⟩ = true := by
  unfold rightS
  have h1 : (List.replicate k (1 : Int)).any (hintBad del) = false := by
    rw [List.any_eq_false]
    intro x hx
    rw [(List.mem_replicate.1 hx).2]
    cases del <;> decide
  dsimp only
  rw [h1, List.length_replicate, decide_eq_true hk]
  cases del <;> rfl
theorem wrong_hints (del : Bool) (k : Nat) (hk : 65536 < k) : rightS ⟨del, 1, [], List.replicate k 1⟩ = false := by
  unfold rightS
  dsimp only
  rw [List.length_replicate, decide_eq_false (Nat.not_le.2 hk)]
  simp
theorem sp_one : (sp 1).length = 2 := by decide +kernel
theorem itoa_one : (Lib.itoa 1).length = 1 := by decide +kernel
theorem line_hints (k : Nat) : (lineS ⟨true, 1, [], List.replicate k 1⟩).length = 2 * k + 5 := by
  unfold lineS
  have h1 : (List.flatMap sp (List.replicate k (1 : Int))).length = 2 * k := by
    induction k with
    | zero => rfl
    | succ k ih =>
      rw [List.replicate_succ, List.flatMap_cons, List.length_append, ih, sp_one]
      omega
  dsimp only
  rw [if_pos rfl]
  simp only [List.length_append, h1, itoa_one, List.length_cons, List.length_nil]
  omega
theorem text_rep (v : StV) (s : Stp) (n : Nat) : (textS (List.replicate n (v, s))).length = n * ((lineS s).length + 1) := by
  induction n with
  | zero => simp [textS]
  | succ n ih =>
    unfold textS at ih ⊢
    rw [List.replicate_succ, List.flatMap_cons, List.length_append, ih, List.length_append, Nat.succ_mul]
    show (lineS s).length + 1 + _ = _
    omega
theorem write_long (v : StV) : writeS (List.replicate 129 (v, (⟨true, 1, [], List.replicate 65536 1⟩ : Stp))) = ([], -1, 3) := by
  unfold writeS
  rw [checkS_rep (by omega) (right_hints true _ (Nat.le_refl _)) rfl rfl]
  rw [if_pos rfl, if_pos (by rw [text_rep, line_hints]; omega)]
/-! ### lines that are alike -/
theorem joinB_rep (c : UInt8) (w : List UInt8) : ∀ n, joinB c (List.replicate n w ++ [[]]) = Lib.repeatL (w ++ [c]) n
  | 0 => rfl
  | n + 1 => by
    rw [List.replicate_succ, List.cons_append, joinB_cons _ _ _ (by simp), joinB_rep c w n]
    show _ = (w ++ [c]) ++ Lib.repeatL (w ++ [c]) n
    simp
def lineD : List UInt8 := [49, 32, 100, 32, 48]
theorem parse_lineD : parseS lineD = some ⟨true, 1, [], []⟩ := by decide +kernel
theorem readF_rep : ∀ (k i : Nat) (last : Int) (acc : List Stp), acc.length = i → (last = 0 ∨ last = 1) → 0 < k → i + k = 262145 → readF last i acc (List.replicate k lineD ++ [[]]) = ([], 262145, 5)
  | 0, _, _, _, _, _, h, _ => absurd h (by omega)
  | k + 1, i, last, acc, ha, hl, _, hk => by
    rw [List.replicate_succ, List.cons_append]
    unfold readF
    rw [if_neg (show ¬ (overS lineD = true) by decide +kernel), parse_lineD]
    dsimp only
    have hf : fitsB ⟨true, 1, [], []⟩ last = true := by rcases hl with rfl | rfl <;> rfl
    rw [if_pos hf]
    by_cases h1 : acc.length = 262144
    · rw [if_pos h1]
      have : (i : Int) + 1 = 262145 := by omega
      rw [this]
    · rw [if_neg h1]
      exact readF_rep k (i + 1) 1 _ (by simp [ha]) (.inr rfl) (by omega) (by omega)
theorem readS_many : readS (Lib.repeatL [49, 32, 100, 32, 48, 10] 262145) = ([], 262145, 5) := by
  unfold readS
  rw [if_neg (by rw [Lib.repeatL_length]; show ¬ (16777216 < 262145 * 6); omega)]
  have h1 := joinB_rep 10 lineD 262145
  rw [show lineD ++ [10] = [49, 32, 100, 32, 48, 10] from rfl] at h1
  rw [← h1, split_join 10 _ (fun h => by have := congrArg List.length h; rw [List.length_append] at this; simp only [List.length_cons, List.length_nil] at this; omega) (fun w hw => by
    rcases List.mem_append.1 hw with h | h
    · rw [(List.mem_replicate.1 h).2]; decide
    · rw [List.mem_singleton.1 h]; decide)]
  exact readF_rep 262145 0 0 [] rfl (.inl rfl) (by omega) (by omega)
theorem readS_long : readS (Lib.repeatL [99] 16777217) = ([], 0, 3) := by
  unfold readS
  rw [if_pos (by rw [Lib.repeatL_length]; show 16777216 < 16777217 * 1; omega)]
/-- A join of at most five short words is short. -/
theorem join_len (sep : UInt8) : ∀ (l : List (List UInt8)), (∀ w ∈ l, w.length ≤ 10) → (Lib.join l [sep]).length ≤ 11 * l.length
  | [], _ => by simp [Lib.join]
  | [w], h => by
    rw [Lib.join_one]
    have := h w (by simp)
    simp
    omega
  | w :: v :: r, h => by
    have ih := join_len sep (v :: r) (fun u hu => h u (by simp only [List.mem_cons] at hu ⊢; exact .inr hu))
    have hw := h w (by simp)
    rw [Lib.join_cons] at ih ⊢
    unfold Lib.joinTail at ih ⊢
    simp only [List.length_append, List.length_cons, List.map_cons, List.flatten_cons, List.length_nil] at ih ⊢
    omega
end Go.Proofs.YteglgcfbmjlnkaaGreatDoor
