/-
  What Parse's range over numbers comes to: plain lists.
-/
import Derived.Test.YteglgcfbmjlnkaaGreatDoorIter
set_option linter.unusedVariables false
set_option linter.unusedSimpArgs false
namespace Go.Proofs.YteglgcfbmjlnkaaGreatDoor
open Go.RowKit

section
variable {Ws : List ByteArray}
def stOf (del : Bool) (pre : List (Yw Ws)) : PS := pre.foldl (fun p x => (putN p x.1.2).1) (startP del)
theorem stOf_nil (del : Bool) : stOf del ([] : List (Yw Ws)) = startP del := rfl
theorem stOf_snoc (del : Bool) (pre : List (Yw Ws)) (x : Yw Ws) : stOf del (pre ++ [x]) = (putN (stOf del pre) x.1.2).1 := by simp [stOf]
/-- None was the last. -/
def onW (del : Bool) (pre : List (Yw Ws)) : Prop := ∀ (i : Nat) (x : Yw Ws), pre[i]? = some x → (putN (stOf del (pre.take i)) x.1.2).2 = false
theorem onW_nil (del : Bool) : onW del ([] : List (Yw Ws)) := fun i x h => by simp at h
theorem onW_snoc {del : Bool} {pre : List (Yw Ws)} {x : Yw Ws} (h : onW del pre) (hx : (putN (stOf del pre) x.1.2).2 = false) : onW del (pre ++ [x]) := by
  intro i y hy
  rcases Nat.lt_trichotomy i pre.length with hi | hi | hi
  · rw [List.getElem?_append_left hi] at hy
    rw [List.take_append_of_le_length (by omega)]
    exact h i y hy
  · subst hi
    rw [List.getElem?_append_right (Nat.le_refl _)] at hy
    simp at hy
    subst hy
    rw [List.take_append_of_le_length (Nat.le_refl _), List.take_of_length_le (Nat.le_refl _)]
    exact hx
  · rw [List.getElem?_eq_none (by simp; omega)] at hy
    cases hy
theorem i64_yw (x : Yw Ws) : I64 x.1.2 := by
  obtain ⟨s, _, h⟩ := x.2
  exact Lib.atoiAll_bounds (numW_some h).2
theorem run_take {del : Bool} {xs : List (Yw Ws)} (hi : YIdx xs) (ho : onW del xs) : ∀ k, k ≤ xs.length → runN (startP del) (Ws.map (·.data.toList)) = runN (stOf del (xs.take k)) ((Ws.drop k).map (·.data.toList)) := by
  intro k
  induction k with
  | zero => intro _; rfl
  | succ k ih =>
    intro hk
    have hx : xs[k]? = some (xs[k]'(by omega)) := List.getElem?_eq_getElem _
    generalize xs[k]'(by omega) = x at hx
    obtain ⟨s, hs, hn⟩ := x.2
    rw [hi k x hx] at hs
    rw [ih (by omega), take_snoc hx, stOf_snoc]
    have hd : Ws.drop k = s :: Ws.drop (k + 1) := by
      obtain ⟨hk', he⟩ := List.getElem?_eq_some_iff.1 hs
      rw [← he, List.drop_eq_getElem_cons hk']
    rw [hd, List.map_cons, runN, hn]
    dsimp only
    rw [ho k x hx]
    simp
theorem run_all {del : Bool} {xs : List (Yw Ws)} (ha : YAll xs) (ho : onW del xs) : runN (startP del) (Ws.map (·.data.toList)) = stOf del xs := by
  have h1 := run_take ha.1 ho xs.length (Nat.le_refl _)
  rw [List.take_of_length_le (Nat.le_refl _)] at h1
  rw [h1]
  rcases ha.2 with h2 | ⟨s, h2, h3⟩
  · rw [List.drop_eq_nil_of_le (by omega)]
    rfl
  · have hd : Ws.drop xs.length = s :: Ws.drop (xs.length + 1) := by
      obtain ⟨hk', he⟩ := List.getElem?_eq_some_iff.1 h2
      rw [← he, List.drop_eq_getElem_cons hk']
    rw [hd, List.map_cons, runN, h3]
theorem run_stop {del : Bool} {pre : List (Yw Ws)} {x : Yw Ws} (hi : YIdx (pre ++ [x])) (ho : onW del pre) (hx : (putN (stOf del pre) x.1.2).2 = true) : runN (startP del) (Ws.map (·.data.toList)) = stOf del (pre ++ [x]) := by
  have hi' : YIdx pre := fun i p hp => hi i p (by rw [List.getElem?_append_left (List.getElem?_eq_some_iff.1 hp).1]; exact hp)
  have h1 := run_take hi' ho pre.length (Nat.le_refl _)
  rw [List.take_of_length_le (Nat.le_refl _)] at h1
  rw [h1, stOf_snoc]
  obtain ⟨s, hs, hn⟩ := x.2
  rw [hi pre.length x (by simp)] at hs
  have hd : Ws.drop pre.length = s :: Ws.drop (pre.length + 1) := by
    obtain ⟨hk', he⟩ := List.getElem?_eq_some_iff.1 hs
    rw [← he, List.drop_eq_getElem_cons hk']
  rw [hd, List.map_cons, runN, hn]
  dsimp only
  rw [hx]
  simp
/-- What holds of the state. -/
structure PSok (k : Nat) (p : PS) : Prop where
  id : I64 p.s.id
  lits : ∀ u ∈ p.s.lits, I64 u
  hints : ∀ u ∈ p.s.hints, I64 u
  ll : p.s.lits.length ≤ k
  hl : p.s.hints.length ≤ k
  part : p.part ≤ k + 1
  count : p.count ≤ k
theorem psok_start (del : Bool) : PSok 0 (startP del) := ⟨⟨by simp [startP], by simp [startP]⟩, fun u h => by simp [startP] at h, fun u h => by simp [startP] at h, by simp [startP], by simp [startP], by simp only [startP]; split <;> omega, by simp [startP]⟩
theorem psok_put {k : Nat} {p : PS} (h : PSok k p) {n : Int} (hn : I64 n) : PSok (k + 1) (putN p n).1 := by
  obtain ⟨h1, h2, h3, h4, h5, h6, h7⟩ := h
  unfold putN
  split
  · exact ⟨hn, h2, h3, by dsimp only; omega, by dsimp only; omega, by dsimp only; omega, by dsimp only; omega⟩
  · split
    · exact ⟨h1, h2, h3, by dsimp only; omega, by dsimp only; omega, by dsimp only; omega, by dsimp only; omega⟩
    · split
      · refine ⟨h1, fun u hu => ?_, h3, by simp; omega, by dsimp only; omega, by dsimp only; omega, by dsimp only; omega⟩
        rcases List.mem_append.1 hu with hu | hu
        · exact h2 u hu
        · obtain rfl := List.mem_singleton.1 hu; exact hn
      · refine ⟨h1, h2, fun u hu => ?_, by dsimp only; omega, by simp; omega, by dsimp only; omega, by dsimp only; omega⟩
        rcases List.mem_append.1 hu with hu | hu
        · exact h3 u hu
        · obtain rfl := List.mem_singleton.1 hu; exact hn
theorem psok (del : Bool) (pre : List (Yw Ws)) : PSok pre.length (stOf del pre) := by
  have key : ∀ k, k ≤ pre.length → PSok k (stOf del (pre.take k)) := by
    intro k
    induction k with
    | zero => intro _; exact psok_start del
    | succ k ih =>
      intro hk
      have hx : pre[k]? = some (pre[k]'(by omega)) := List.getElem?_eq_getElem _
      rw [take_snoc hx, stOf_snoc]
      exact psok_put (ih (by omega)) (i64_yw _)
  have h := key pre.length (Nat.le_refl _)
  rwa [List.take_of_length_le (Nat.le_refl _)] at h
theorem put_del (p : PS) (n : Int) : (putN p n).1.s.del = p.s.del := by
  unfold putN
  split
  · rfl
  · split
    · rfl
    · split <;> rfl
theorem stOf_del (del : Bool) (pre : List (Yw Ws)) : (stOf del pre).s.del = del := by
  have key : ∀ k, k ≤ pre.length → (stOf del (pre.take k)).s.del = del := by
    intro k
    induction k with
    | zero => intro _; rfl
    | succ k ih =>
      intro hk
      have hx : pre[k]? = some (pre[k]'(by omega)) := List.getElem?_eq_getElem _
      rw [take_snoc hx, stOf_snoc, put_del]
      exact ih (by omega)
  have h := key pre.length (Nat.le_refl _)
  rwa [List.take_of_length_le (Nat.le_refl _)] at h
end
end Go.Proofs.YteglgcfbmjlnkaaGreatDoor
