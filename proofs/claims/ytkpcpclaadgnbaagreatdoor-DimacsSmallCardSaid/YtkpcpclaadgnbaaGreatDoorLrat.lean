/-
  Steps of proofs, their lines, and what a line says: plain lists. No program in sight.
-/
import Derived.Test.YtkpcpclaadgnbaaGreatDoorNum
import Derived.Lib.Split
set_option linter.unusedVariables false
set_option linter.unusedSimpArgs false
namespace Go.Proofs.YtkpcpclaadgnbaaGreatDoor
open Go.Lib

/-! ### Cutting at a byte -/
theorem index_one_none (c : UInt8) : ∀ (s : List UInt8), c ∉ s → index s [c] = -1
  | [], _ => rfl
  | b :: l, h => by
    have h1 : ¬ c = b := fun e => h (by simp [e])
    have h2 : c ∉ l := fun e => h (by simp [e])
    unfold index
    rw [index_one_none c l h2, if_neg (by simp [List.isPrefixOf, h1])]
    rfl
theorem index_one (c : UInt8) : ∀ (p r : List UInt8), c ∉ p → index (p ++ c :: r) [c] = p.length
  | [], r, _ => by unfold index; simp [List.isPrefixOf]
  | b :: p, r, h => by
    have h1 : ¬ c = b := fun e => h (by simp [e])
    have h2 : c ∉ p := fun e => h (by simp [e])
    rw [List.cons_append]
    unfold index
    rw [index_one c p r h2, if_neg (by simp [List.isPrefixOf, h1]), if_neg (by simp)]
    simp
theorem split_none (c : UInt8) (s : List UInt8) (h : c ∉ s) : split s [c] = [s] := by
  unfold split
  rw [count_miss (index_one_none c s h)]
  rfl
theorem split_cons (c : UInt8) (p r : List UInt8) (h : c ∉ p) : split (p ++ c :: r) [c] = p :: split r [c] := by
  unfold split
  have hi := index_one c p r h
  rw [count_hit (i := p.length) (by simp) hi]
  have hd : (p ++ c :: r).drop (p.length + [c].length) = r := by simp
  rw [hd, Nat.add_comm 1, splitK, if_neg (by rw [hi]; simp), hi]
  have h1 : ((p.length : Int)).toNat = p.length := by omega
  rw [h1, hd]
  simp
/-- Words with a byte between them. -/
def joinB (c : UInt8) : List (List UInt8) → List UInt8
  | [] => []
  | [w] => w
  | w :: v :: r => w ++ c :: joinB c (v :: r)
theorem joinB_cons (c : UInt8) (w : List UInt8) (l : List (List UInt8)) (h : l ≠ []) : joinB c (w :: l) = w ++ c :: joinB c l := by
  cases l with
  | nil => exact absurd rfl h
  | cons v r => rfl
theorem split_join (c : UInt8) : ∀ (l : List (List UInt8)), l ≠ [] → (∀ w ∈ l, c ∉ w) → split (joinB c l) [c] = l
  | [], h, _ => absurd rfl h
  | [w], _, h => split_none c w (h w (by simp))
  | w :: v :: r, _, h => by
    show split (w ++ c :: joinB c (v :: r)) [c] = _
    rw [split_cons c w _ (h w (by simp)), split_join c (v :: r) (by simp) (fun x hx => h x (by simp [hx]))]
/-- The pieces: none holds the byte, and put together they are the whole. -/
theorem split_spec (c : UInt8) (s : List UInt8) : split s [c] ≠ [] ∧ (∀ w ∈ split s [c], c ∉ w) ∧ joinB c (split s [c]) = s := by
  have key : ∀ (n : Nat) (s : List UInt8), s.length = n → split s [c] ≠ [] ∧ (∀ w ∈ split s [c], c ∉ w) ∧ joinB c (split s [c]) = s := by
    intro n
    induction n using Nat.strongRecOn with
    | _ n ih =>
      intro s hs
      by_cases hc : c ∈ s
      · obtain ⟨p, r, rfl, hp⟩ : ∃ p r, s = p ++ c :: r ∧ c ∉ p := by
          obtain ⟨p, r, h1, h2⟩ := List.append_of_mem hc |> fun _ => List.eq_append_cons_of_mem hc
          exact ⟨p, r, h1, h2⟩
        rw [split_cons c p r hp]
        obtain ⟨h1, h2, h3⟩ := ih r.length (by simp at hs; omega) r rfl
        refine ⟨by simp, fun w hw => ?_, ?_⟩
        · rcases List.mem_cons.1 hw with rfl | hw
          · exact hp
          · exact h2 w hw
        · rw [joinB_cons c p _ h1, h3]
      · rw [split_none c s hc]
        exact ⟨by simp, fun w hw => by obtain rfl := List.mem_singleton.1 hw; exact hc, rfl⟩
  exact key s.length s rfl

/-! ### Steps -/
structure Stp where
  del : Bool
  id : Int
  lits : List Int
  hints : List Int
deriving DecidableEq
def litB (l : Int) : Bool := !(l == 0) && decide (-1048576 ≤ l) && decide (l ≤ 1048576)
def hintBad (del : Bool) (h : Int) : Bool := (h == 0) || decide (1073741824 < h) || decide (h < -1073741824) || (del && decide (h < 0))
def clauseB (l : List Int) : Bool := decide (l.length ≤ 4096) && !l.any fun x => !litB x
def rightS (s : Stp) : Bool :=
  (decide (0 ≤ s.id) && decide (s.id ≤ 1073741824)) && (s.del || !(s.id == 0)) && !(s.del && decide (0 < s.lits.length)) && clauseB s.lits && (decide (s.hints.length ≤ 65536) && !s.hints.any (hintBad s.del))

/-- The words of a step's line. -/
def wordsS (s : Stp) : List (List UInt8) := itoa s.id :: ((if s.del then [[100]] else s.lits.map itoa ++ [[48]]) ++ (s.hints.map itoa ++ [[48]]))
def sp (n : Int) : List UInt8 := 32 :: itoa n
def lineS (s : Stp) : List UInt8 := itoa s.id ++ (if s.del then [32, 100] else s.lits.flatMap sp ++ [32, 48]) ++ (s.hints.flatMap sp ++ [32, 48])

theorem joinB_append (c : UInt8) : ∀ (l m : List (List UInt8)), l ≠ [] → joinB c (l ++ m) = joinB c l ++ m.flatMap (fun w => c :: w)
  | [], _, h => absurd rfl h
  | [w], [], _ => by simp
  | [w], v :: r, _ => by
    show joinB c (w :: v :: r) = w ++ _
    have h1 := joinB_append c [v] r (by simp)
    simp only [List.cons_append, List.nil_append] at h1
    rw [joinB_cons c w _ (by simp), h1]
    simp [joinB]
  | w :: v :: r, m, _ => by
    have := joinB_append c (v :: r) m (by simp)
    simp only [List.cons_append] at this ⊢
    rw [joinB_cons c w _ (by simp), joinB_cons c w _ (by simp), this]
    simp
theorem flatMap_sp (l : List Int) : (l.map itoa).flatMap (fun w => (32 : UInt8) :: w) = l.flatMap sp := by
  induction l with
  | nil => rfl
  | cons n l ih => simp only [List.map_cons, List.flatMap_cons, ih]; rfl
theorem join_words (s : Stp) : joinB 32 (wordsS s) = lineS s := by
  unfold wordsS lineS
  have h := joinB_append 32 [itoa s.id] ((if s.del then [[100]] else s.lits.map itoa ++ [[48]]) ++ (s.hints.map itoa ++ [[48]])) (by simp)
  simp only [List.cons_append, List.nil_append] at h
  rw [h]
  cases hd : s.del <;> simp [joinB, flatMap_sp, List.flatMap_append]
theorem words_free (s : Stp) (c : UInt8) (h1 : ∀ n, c ∉ itoa n) (h2 : c ≠ 100) (h3 : c ≠ 48) : ∀ w ∈ wordsS s, c ∉ w := by
  intro w hw
  unfold wordsS at hw
  have hi : ∀ l : List Int, w ∈ l.map itoa → c ∉ w := fun l hl => by
    obtain ⟨n, _, rfl⟩ := List.mem_map.1 hl
    exact h1 n
  rcases List.mem_cons.1 hw with rfl | hw
  · exact h1 _
  · rcases List.mem_append.1 hw with hw | hw
    · cases hd : s.del with
      | true => rw [hd, if_pos rfl] at hw; obtain rfl := List.mem_singleton.1 hw; simp [h2]
      | false =>
        rw [hd, if_neg (by simp)] at hw
        rcases List.mem_append.1 hw with hw | hw
        · exact hi _ hw
        · obtain rfl := List.mem_singleton.1 hw; simp [h3]
    · rcases List.mem_append.1 hw with hw | hw
      · exact hi _ hw
      · obtain rfl := List.mem_singleton.1 hw; simp [h3]
theorem split_line (s : Stp) : split (lineS s) [32] = wordsS s := by
  rw [← join_words]
  exact split_join 32 _ (by simp [wordsS]) (words_free s 32 (fun n => (itoa_free n).1) (by decide) (by decide))
theorem line_free (s : Stp) : (10 : UInt8) ∉ lineS s := by
  have hi : ∀ l : List Int, (10 : UInt8) ∉ l.flatMap sp := fun l h => by
    obtain ⟨n, _, hn⟩ := List.mem_flatMap.1 h
    unfold sp at hn
    rcases List.mem_cons.1 hn with h0 | h0
    · revert h0; decide
    · exact (itoa_free n).2.1 h0
  intro h
  unfold lineS at h
  simp only [List.mem_append] at h
  rcases h with (h | h) | h | h
  · exact (itoa_free _).2.1 h
  · split at h
    · revert h; decide
    · rcases List.mem_append.1 h with h | h
      · exact hi _ h
      · revert h; decide
  · exact hi _ h
  · revert h; decide

/-! ### Parsing: what the program's loop holds -/
structure PS where
  part : Nat
  count : Nat
  s : Stp
/-- One number more: the state, and whether it is the last. -/
def putN (p : PS) (n : Int) : PS × Bool :=
  if p.count = 0 then (⟨p.part, 1, { p.s with id := n }⟩, false)
  else if n = 0 then (⟨p.part + 1, p.count + 1, p.s⟩, decide (p.part + 1 = 2))
  else if p.part = 0 then (⟨p.part, p.count + 1, { p.s with lits := p.s.lits ++ [n] }⟩, false)
  else (⟨p.part, p.count + 1, { p.s with hints := p.s.hints ++ [n] }⟩, false)
def runN : PS → List (List UInt8) → PS
  | p, [] => p
  | p, w :: r => match numW w with
    | none => p
    | some n => if (putN p n).2 then (putN p n).1 else runN (putN p n).1 r
def delW (W : List (List UInt8)) : Bool := match W with
  | _ :: w :: _ => decide (w = [100])
  | _ => false
def dropW (W : List (List UInt8)) : List (List UInt8) := if delW W then W.take 1 ++ W.drop 2 else W
def startP (del : Bool) : PS := ⟨if del then 1 else 0, 0, ⟨del, 0, [], []⟩⟩
def endP (text : List UInt8) : PS := runN (startP (delW (split text [32]))) (dropW (split text [32]))
/-- What Parse returns. -/
def parseS (text : List UInt8) : Option Stp :=
  if (endP text).count = (dropW (split text [32])).length ∧ (endP text).part = 2 ∧ rightS (endP text).s = true ∧ lineS (endP text).s = text then some (endP text).s else none

theorem runN_append : ∀ (l : List Int) (r : List (List UInt8)) (p : PS), p.count ≠ 0 → (∀ n ∈ l, I64 n ∧ n ≠ 0) →
    runN p (l.map itoa ++ r) = runN ⟨p.part, p.count + l.length, if p.part = 0 then { p.s with lits := p.s.lits ++ l } else { p.s with hints := p.s.hints ++ l }⟩ r
  | [], r, p, _, _ => by cases p with | mk a b s => cases s; simp
  | n :: l, r, p, hp, h => by
    have hn := h n (by simp)
    rw [List.map_cons, List.cons_append, runN, numW_itoa hn.1]
    simp only
    by_cases h0 : p.part = 0
    · have e : putN p n = (⟨p.part, p.count + 1, { p.s with lits := p.s.lits ++ [n] }⟩, false) := by
        unfold putN; rw [if_neg hp, if_neg hn.2, if_pos h0]
      rw [e]
      simp only [Bool.false_eq_true, if_false]
      rw [runN_append l r _ (by simp) (fun m hm => h m (by simp [hm]))]
      simp only [h0, if_true, List.length_cons, List.append_assoc, List.cons_append, List.nil_append]
      congr 2
      omega
    · have e : putN p n = (⟨p.part, p.count + 1, { p.s with hints := p.s.hints ++ [n] }⟩, false) := by
        unfold putN; rw [if_neg hp, if_neg hn.2, if_neg h0]
      rw [e]
      simp only [Bool.false_eq_true, if_false]
      rw [runN_append l r _ (by simp) (fun m hm => h m (by simp [hm]))]
      simp only [h0, if_false, List.length_cons, List.append_assoc, List.cons_append, List.nil_append]
      congr 2
      omega
theorem runN_zero (p : PS) (r : List (List UInt8)) (hp : p.count ≠ 0) (h1 : p.part ≠ 1) : runN p ([48] :: r) = runN ⟨p.part + 1, p.count + 1, p.s⟩ r := by
  rw [runN, ← itoa_zero, numW_itoa ⟨by omega, by omega⟩]
  simp only
  have e : putN p 0 = (⟨p.part + 1, p.count + 1, p.s⟩, false) := by
    unfold putN; rw [if_neg hp, if_pos rfl]; simp [h1]
  rw [e]
  simp
theorem runN_last (p : PS) (r : List (List UInt8)) (hp : p.count ≠ 0) (h1 : p.part = 1) : runN p ([48] :: r) = ⟨2, p.count + 1, p.s⟩ := by
  rw [runN, ← itoa_zero, numW_itoa ⟨by omega, by omega⟩]
  simp only
  have e : putN p 0 = (⟨p.part + 1, p.count + 1, p.s⟩, true) := by
    unfold putN; rw [if_neg hp, if_pos rfl]; simp [h1]
  rw [e]
  simp [h1]
theorem right_parts {s : Stp} (h : rightS s = true) : (0 ≤ s.id ∧ s.id ≤ 1073741824) ∧ (s.del = true ∨ s.id ≠ 0) ∧ (s.del = true → s.lits = []) ∧ (s.lits.length ≤ 4096 ∧ ∀ x ∈ s.lits, x ≠ 0 ∧ -1048576 ≤ x ∧ x ≤ 1048576) ∧ s.hints.length ≤ 65536 ∧ ∀ x ∈ s.hints, x ≠ 0 ∧ -1073741824 ≤ x ∧ x ≤ 1073741824 ∧ (s.del = true → 0 < x) := by
  unfold rightS clauseB at h
  simp only [Bool.and_eq_true, Bool.or_eq_true, Bool.not_eq_true', decide_eq_true_eq, List.any_eq_false, Bool.and_eq_false_iff, decide_eq_false_iff_not, beq_eq_false_iff_ne] at h
  obtain ⟨⟨⟨⟨h1, h2⟩, h3⟩, h4, h5⟩, h6, h7⟩ := h
  refine ⟨h1, ?_, fun hd => ?_, ⟨h4, fun x hx => ?_⟩, h6, fun x hx => ?_⟩
  · exact h2
  · rcases h3 with h3 | h3
    · rw [hd] at h3; cases h3
    · exact List.eq_nil_of_length_eq_zero (by omega)
  · have := h5 x hx
    unfold litB at this
    simp only [Bool.not_eq_true', Bool.and_eq_true, decide_eq_true_eq, beq_eq_false_iff_ne, Bool.not_eq_false] at this
    exact ⟨this.1.1, this.1.2, this.2⟩
  · have := h7 x hx
    unfold hintBad at this
    simp only [Bool.or_eq_true, Bool.and_eq_true, decide_eq_true_eq, beq_iff_eq, not_or, not_and] at this
    exact ⟨this.1.1.1, by omega, by omega, fun hd => by have := this.2 hd; omega⟩
theorem delW_line (s : Stp) : delW (wordsS s) = s.del := by
  unfold wordsS delW
  cases hd : s.del with
  | true => simp
  | false =>
    simp only [Bool.false_eq_true, if_false]
    have hne : ∀ n : Int, itoa n ≠ [100] := fun n e => (itoa_free n).2.2.1 (by rw [e]; simp)
    cases hl : s.lits with
    | nil => simp
    | cons n l => simp [hne n]
theorem endP_line {s : Stp} (h : rightS s = true) : (endP (lineS s)).count = (dropW (split (lineS s) [32])).length ∧ (endP (lineS s)).part = 2 ∧ (endP (lineS s)).s = s := by
  obtain ⟨h1, h2, h3, ⟨_, h4⟩, _, h5⟩ := right_parts h
  have hid : I64 s.id := ⟨by omega, by omega⟩
  have hH : ∀ n ∈ s.hints, I64 n ∧ n ≠ 0 := fun n hn => by
    obtain ⟨a, b, c, _⟩ := h5 n hn
    exact ⟨⟨by omega, by omega⟩, a⟩
  have hL : ∀ n ∈ s.lits, I64 n ∧ n ≠ 0 := fun n hn => by
    obtain ⟨a, b, c⟩ := h4 n hn
    exact ⟨⟨by omega, by omega⟩, a⟩
  obtain ⟨del, id, lits, hints⟩ := s
  dsimp only at hid hH hL h3
  unfold endP
  rw [split_line, delW_line]
  unfold dropW
  rw [delW_line]
  unfold wordsS
  dsimp only
  cases del with
  | true =>
    obtain rfl := h3 rfl
    simp only [if_true, List.cons_append, List.nil_append, List.take_succ_cons, List.take_zero, List.drop_succ_cons, List.drop_zero, startP]
    rw [runN, numW_itoa hid]
    simp only [putN, if_true, Bool.false_eq_true, if_false]
    rw [runN_append _ _ _ (by simp) hH, runN_last _ _ (by simp) rfl]
    simp; omega
  | false =>
    simp only [Bool.false_eq_true, if_false, startP]
    rw [runN, numW_itoa hid]
    simp only [putN, if_true, Bool.false_eq_true, if_false, List.append_assoc]
    rw [runN_append _ _ _ (by simp) hL]
    simp only [if_true, List.nil_append, List.cons_append]
    rw [runN_zero _ _ (by simp) (by simp), runN_append _ _ _ (by simp) hH, runN_last _ _ (by simp) rfl]
    simp; omega
/-- What a line says: the one right step whose line it is. -/
theorem parseS_iff (text : List UInt8) (s : Stp) : parseS text = some s ↔ rightS s = true ∧ lineS s = text := by
  constructor
  · intro h
    unfold parseS at h
    split at h
    · rename_i hc
      injection h with h
      subst h
      exact ⟨hc.2.2.1, hc.2.2.2⟩
    · cases h
  · rintro ⟨hr, rfl⟩
    obtain ⟨h1, h2, h3⟩ := endP_line hr
    unfold parseS
    rw [if_pos ⟨h1, h2, by rw [h3]; exact hr, by rw [h3]⟩, h3]
theorem line_inj {s t : Stp} (hs : rightS s = true) (ht : rightS t = true) (h : lineS s = lineS t) : s = t := by
  have h1 := (parseS_iff (lineS s) s).2 ⟨hs, rfl⟩
  have h2 := (parseS_iff (lineS s) t).2 ⟨ht, h.symm⟩
  rw [h1] at h2
  exact Option.some.inj h2
theorem parseS_none (text : List UInt8) : parseS text = none ↔ ∀ s, rightS s = true → lineS s ≠ text := by
  constructor
  · intro h s hs hl
    rw [(parseS_iff text s).2 ⟨hs, hl⟩] at h
    cases h
  · intro h
    cases hp : parseS text with
    | none => rfl
    | some s =>
      obtain ⟨h1, h2⟩ := (parseS_iff text s).1 hp
      exact absurd h2 (h s h1)
end Go.Proofs.YtkpcpclaadgnbaaGreatDoor
