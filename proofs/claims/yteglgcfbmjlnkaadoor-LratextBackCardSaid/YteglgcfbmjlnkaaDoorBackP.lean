/-
  What Read does at any string, and with lines put in that are passed over: plain laws.
-/
import Derived.Test.YteglgcfbmjlnkaaDoorTextL
import Derived.Lib.Join
set_option linter.unusedVariables false
set_option linter.unusedSimpArgs false
namespace Go.Proofs.YteglgcfbmjlnkaaDoor
open Go.RowKit

theorem readF_ends : ∀ (ls : List (List UInt8)) (last : Int) (i : Nat) (acc : List Stp), acc.length + ls.length < 262144 →
    (∃ ys, readF last i acc ls = (acc ++ ys, 0, 0) ∧ ys.length ≤ ls.length ∧ ∀ (L : List (StV × Stp)) (j : Nat), L.map (·.2) = ys → checkF last j L = (-1, 0)) ∨ (∃ (n e : Int), readF last i acc ls = ([], n, e) ∧ 1 ≤ n ∧ (e = 71 ∨ e = 70))
  | [], last, i, acc, _ => .inl ⟨[], by rw [List.append_nil]; rfl, Nat.le_refl _, fun L j h => by
      cases L with
      | nil => rfl
      | cons p L => simp at h⟩
  | t :: r, last, i, acc, hl => by
    unfold readF
    cases ho : overS t with
    | true =>
      rw [if_pos rfl]
      rcases readF_ends r last (i + 1) acc (by simp at hl; omega) with ⟨ys, h1, h0, h2⟩ | h
      · exact .inl ⟨ys, h1, by simp; omega, h2⟩
      · exact .inr h
    | false =>
      simp only [Bool.false_eq_true, if_false]
      cases hp : parseS t with
      | none => exact .inr ⟨(i : Int) + 1, 71, rfl, by omega, .inl rfl⟩
      | some x =>
        dsimp only
        cases hf : fitsB x last with
        | false => exact .inr ⟨(i : Int) + 1, 70, rfl, by omega, .inr rfl⟩
        | true =>
          rw [if_pos rfl, if_neg (by simp at hl; omega)]
          rcases readF_ends r x.id (i + 1) (acc ++ [x]) (by simp at hl ⊢; omega) with ⟨ys, h1, h0, h2⟩ | h
          · refine .inl ⟨x :: ys, by rw [h1]; simp, by simp; omega, fun L j hL => ?_⟩
            cases L with
            | nil => simp at hL
            | cons p L =>
              simp only [List.map_cons, List.cons.injEq] at hL
              unfold checkF
              rw [hL.1, ((parseS_iff _ _).1 hp).1, hf]
              simp only [Bool.and_self, if_true]
              exact h2 L (j + 1) hL.2
          · exact .inr h
theorem readS_ends {t : List UInt8} (ht : t.length ≤ 10000) : (∃ ys, readS t = (ys, 0, 0) ∧ ys.length ≤ 20000 ∧ ∀ (L : List (StV × Stp)), L.map (·.2) = ys → checkF 0 0 L = (-1, 0)) ∨ (∃ (n e : Int), readS t = ([], n, e) ∧ 1 ≤ n ∧ (e = 71 ∨ e = 70)) := by
  have hs : (Lib.split t [10]).length ≤ t.length + 1 := by
    have key : ∀ (l : List (List UInt8)), l.length ≤ (joinB 10 l).length + 1 := by
      intro l
      induction l with
      | nil => simp
      | cons w l ih =>
        cases l with
        | nil => simp
        | cons v r =>
          rw [joinB_cons _ _ _ (by simp)]
          simp only [List.length_append, List.length_cons] at ih ⊢
          omega
    have h1 := key (Lib.split t [10])
    rw [(split_spec 10 t).2.2] at h1
    exact h1
  unfold readS
  rw [if_neg (by omega)]
  rcases readF_ends (Lib.split t [10]) 0 0 [] (by simp; omega) with ⟨ys, h1, h0, h2⟩ | h
  · exact .inl ⟨ys, by rw [h1]; rfl, by omega, fun L hL => h2 L 0 hL⟩
  · exact .inr h
theorem readF_shift : ∀ (ls : List (List UInt8)) (last : Int) (i j : Nat) (acc X : List Stp), readF last i acc ls = (X, 0, 0) → readF last j acc ls = (X, 0, 0)
  | [], _, _, _, _, _, h => h
  | t :: r, last, i, j, acc, X, h => by
    unfold readF at h ⊢
    split at h
    · rename_i ho
      rw [if_pos ho]
      exact readF_shift r _ _ _ _ _ h
    · rename_i ho
      rw [if_neg ho]
      cases hp : parseS t with
      | none =>
        rw [hp] at h
        injection h with h1 h2
        injection h2 with h2 h3
        cases h3
      | some x =>
        rw [hp] at h
        dsimp only at h ⊢
        split at h
        · rename_i hf
          rw [if_pos hf]
          split at h
          · injection h with h1 h2
            injection h2 with h2 h3
            cases h3
          · rename_i hn
            rw [if_neg hn]
            exact readF_shift r _ _ _ _ _ h
        · injection h with h1 h2
          injection h2 with h2 h3
          cases h3
theorem readF_mid : ∀ (mid post : List (List UInt8)) (last : Int) (i : Nat) (acc X : List Stp), (∀ t ∈ mid, overS t = true) → readF last i acc post = (X, 0, 0) → readF last i acc (mid ++ post) = (X, 0, 0)
  | [], _, _, _, _, _, _, h => h
  | t :: mid, post, last, i, acc, X, ho, h => by
    rw [List.cons_append]
    unfold readF
    rw [if_pos (ho t (by simp))]
    exact readF_mid mid post last (i + 1) acc X (fun u hu => ho u (by simp [hu])) (readF_shift post _ _ _ _ _ h)
theorem readF_insert : ∀ (pre mid post : List (List UInt8)) (last : Int) (i : Nat) (acc X : List Stp), (∀ t ∈ mid, overS t = true) → readF last i acc (pre ++ post) = (X, 0, 0) → readF last i acc (pre ++ (mid ++ post)) = (X, 0, 0)
  | [], mid, post, last, i, acc, X, ho, h => readF_mid mid post last i acc X ho h
  | t :: pre, mid, post, last, i, acc, X, ho, h => by
    rw [List.cons_append] at h ⊢
    unfold readF at h ⊢
    split at h
    · rename_i hv
      rw [if_pos hv]
      exact readF_insert pre mid post _ _ _ _ ho h
    · rename_i hv
      rw [if_neg hv]
      cases hp : parseS t with
      | none =>
        rw [hp] at h
        injection h with h1 h2
        injection h2 with h2 h3
        cases h3
      | some x =>
        rw [hp] at h
        dsimp only at h ⊢
        split at h
        · rename_i hf
          rw [if_pos hf]
          split at h
          · injection h with h1 h2
            injection h2 with h2 h3
            cases h3
          · rename_i hn
            rw [if_neg hn]
            exact readF_insert pre mid post _ _ _ _ ho h
        · injection h with h1 h2
          injection h2 with h2 h3
          cases h3
theorem join_joinB (c : UInt8) : ∀ (l : List (List UInt8)), Lib.join l [c] = joinB c l
  | [] => rfl
  | [w] => Lib.join_one w [c]
  | w :: v :: r => by
    have ih := join_joinB c (v :: r)
    rw [Lib.join_cons] at ih ⊢
    rw [joinB_cons _ _ _ (by simp), ← ih]
    unfold Lib.joinTail
    simp
def comments : List (List UInt8) := [[99, 32, 49, 32, 48, 32, 48], [], [99]]
theorem comments_over : ∀ t ∈ comments, overS t = true := by decide
theorem comments_free : ∀ t ∈ comments, (10 : UInt8) ∉ t := by decide
/-- The lines of a text, with the comments put in. -/
def insC (t : List UInt8) (i : Nat) : List (List UInt8) := (Lib.split t [10]).take i ++ (comments ++ (Lib.split t [10]).drop i)
theorem readS_insert {t : List UInt8} {i : Nat} {X : List Stp} (h : readS t = (X, 0, 0)) (hl : (Lib.join (insC t i) [10]).length ≤ 16777216) : readS (Lib.join (insC t i) [10]) = (X, 0, 0) := by
  have hne : insC t i ≠ [] := by unfold insC comments; simp
  have hfr : ∀ w ∈ insC t i, (10 : UInt8) ∉ w := by
    intro w hw
    unfold insC at hw
    rcases List.mem_append.1 hw with hw | hw
    · exact (split_spec 10 t).2.1 w (List.mem_of_mem_take hw)
    · rcases List.mem_append.1 hw with hw | hw
      · exact comments_free w hw
      · exact (split_spec 10 t).2.1 w (List.mem_of_mem_drop hw)
  unfold readS at h ⊢
  rw [if_neg (by omega)]
  split at h
  · injection h with h1 h2
    injection h2 with h2 h3
    cases h3
  · rw [join_joinB, split_join 10 _ hne hfr]
    refine readF_insert _ _ _ _ _ _ _ comments_over ?_
    rw [List.take_append_drop]
    exact h
theorem joinB_len (c : UInt8) : ∀ (l : List (List UInt8)), (joinB c l).length ≤ (l.map List.length).sum + l.length
  | [] => by simp [joinB]
  | [w] => by simp [joinB]
  | w :: v :: r => by
    have ih := joinB_len c (v :: r)
    rw [joinB_cons _ _ _ (by simp)]
    simp only [List.length_append, List.length_cons, List.map_cons, List.sum_cons] at ih ⊢
    omega
theorem joinB_len2 (c : UInt8) : ∀ (l : List (List UInt8)), (l.map List.length).sum + l.length ≤ (joinB c l).length + 1
  | [] => by simp [joinB]
  | [w] => by simp [joinB]
  | w :: v :: r => by
    have ih := joinB_len2 c (v :: r)
    rw [joinB_cons _ _ _ (by simp)]
    simp only [List.length_append, List.length_cons, List.map_cons, List.sum_cons] at ih ⊢
    omega
theorem insC_len (t : List UInt8) (i : Nat) : (Lib.join (insC t i) [10]).length ≤ t.length + 20 ∧ (insC t i).length = (Lib.split t [10]).length + 3 ∧ (Lib.split t [10]).length ≤ t.length + 1 := by
  have h1 := joinB_len2 10 (Lib.split t [10])
  rw [(split_spec 10 t).2.2] at h1
  have hlen : (insC t i).length = (Lib.split t [10]).length + 3 := by
    unfold insC comments
    simp only [List.length_append, List.length_take, List.length_drop, List.length_cons, List.length_nil]
    omega
  have hsum : ((insC t i).map List.length).sum = ((Lib.split t [10]).map List.length).sum + 8 := by
    unfold insC comments
    have e : ((Lib.split t [10]).map List.length).sum = (((Lib.split t [10]).take i).map List.length).sum + (((Lib.split t [10]).drop i).map List.length).sum := by
      rw [← List.sum_append, ← List.map_append, List.take_append_drop]
    rw [e]
    simp only [List.map_append, List.sum_append, List.map_cons, List.map_nil, List.sum_cons, List.sum_nil, List.length_cons, List.length_nil]
    omega
  refine ⟨?_, hlen, by omega⟩
  rw [join_joinB]
  have h2 := joinB_len 10 (insC t i)
  omega
end Go.Proofs.YteglgcfbmjlnkaaDoor
