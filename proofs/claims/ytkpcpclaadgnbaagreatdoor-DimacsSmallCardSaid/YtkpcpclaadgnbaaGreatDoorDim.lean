/-
  Formulas, their texts, and what a text says: plain lists. No program in sight.
-/
import Derived.Test.YtkpcpclaadgnbaaGreatDoorLrat
import Derived.Lib.Strings
set_option linter.unusedVariables false
set_option linter.unusedSimpArgs false
namespace Go.Proofs.YtkpcpclaadgnbaaGreatDoor
open Go.Lib

structure Fm where
  vars : Int
  cls : List (List Int)
deriving DecidableEq
def F0 : Fm := ⟨0, []⟩

/-! ### literals, as words -/
def litW (w : List UInt8) : Option Int := match numW w with
  | some n => if litB n then some n else none
  | none => none
theorem lit_parts {l : Int} (h : litB l = true) : l ≠ 0 ∧ -1048576 ≤ l ∧ l ≤ 1048576 := by
  unfold litB at h
  simp only [Bool.and_eq_true, Bool.not_eq_true', beq_eq_false_iff_ne, decide_eq_true_eq] at h
  exact ⟨h.1.1, h.1.2, h.2⟩
theorem lit_mk {l : Int} (h0 : l ≠ 0) (h1 : -1048576 ≤ l) (h2 : l ≤ 1048576) : litB l = true := by
  unfold litB
  simp only [Bool.and_eq_true, Bool.not_eq_true', beq_eq_false_iff_ne, decide_eq_true_eq]
  exact ⟨⟨h0, h1⟩, h2⟩
theorem lit_i64 {l : Int} (h : litB l = true) : I64 l := by
  have := lit_parts h
  exact ⟨by omega, by omega⟩
theorem litW_iff (w : List UInt8) (l : Int) : litW w = some l ↔ litB l = true ∧ itoa l = w := by
  constructor
  · intro h
    unfold litW at h
    cases hn : numW w with
    | none => rw [hn] at h; cases h
    | some n =>
      rw [hn] at h
      dsimp only at h
      split at h
      · rename_i hl
        injection h with h
        subst h
        exact ⟨hl, (numW_some hn).1.symm⟩
      · cases h
  · rintro ⟨h1, rfl⟩
    unfold litW
    rw [numW_itoa (lit_i64 h1)]
    dsimp only
    rw [if_pos h1]
theorem litW_zero : litW [48] = none := by
  cases h : litW [48] with
  | none => rfl
  | some l =>
    obtain ⟨h1, h2⟩ := (litW_iff _ _).1 h
    rw [← itoa_zero] at h2
    have := itoa_inj h2
    exact absurd this (lit_parts h1).1
theorem itoa_not_zero {l : Int} (h : litB l = true) : itoa l ≠ [48] := by
  rw [← itoa_zero]
  exact fun e => (lit_parts h).1 (itoa_inj e)

/-! ### lines, headers, texts -/
def hdS (vars count : Int) : List UInt8 := [112, 32, 99, 110, 102, 32] ++ itoa vars ++ 32 :: itoa count
def lnS (c : List Int) : List UInt8 := c.flatMap (fun l => itoa l ++ [32]) ++ [48]
def hdOk (vars count : Int) : Bool := decide (0 ≤ vars) && decide (vars ≤ 1048576) && (decide (0 ≤ count) && decide (count ≤ 262144))
theorem hdOk_parts {v n : Int} (h : hdOk v n = true) : 0 ≤ v ∧ v ≤ 1048576 ∧ 0 ≤ n ∧ n ≤ 262144 := by
  unfold hdOk at h
  simp only [Bool.and_eq_true, decide_eq_true_eq] at h
  exact ⟨h.1.1, h.1.2, h.2.1, h.2.2⟩
theorem hdOk_mk {v n : Int} (h0 : 0 ≤ v) (h1 : v ≤ 1048576) (h2 : 0 ≤ n) (h3 : n ≤ 262144) : hdOk v n = true := by
  unfold hdOk
  simp only [Bool.and_eq_true, decide_eq_true_eq]
  exact ⟨⟨h0, h1⟩, h2, h3⟩
def hdW (v n : Int) : List (List UInt8) := [[112], [99, 110, 102], itoa v, itoa n]
theorem hd_join (v n : Int) : joinB 32 (hdW v n) = hdS v n := by
  unfold hdW hdS joinB joinB joinB joinB
  simp
theorem hd_split (v n : Int) : split (hdS v n) [32] = hdW v n := by
  rw [← hd_join]
  refine split_join 32 _ (by simp [hdW]) (fun w hw => ?_)
  simp only [hdW, List.mem_cons, List.not_mem_nil, or_false] at hw
  rcases hw with rfl | rfl | rfl | rfl
  · decide
  · decide
  · exact (itoa_free _).1
  · exact (itoa_free _).1
theorem hd_free (v n : Int) : (10 : UInt8) ∉ hdS v n := by
  unfold hdS
  intro h
  simp only [List.mem_append, List.mem_cons] at h
  rcases h with (h | h) | h | h
  · revert h; decide
  · exact (itoa_free _).2.1 h
  · revert h; decide
  · exact (itoa_free _).2.1 h
/-- What a header says. -/
def parseH (t : List UInt8) : Option (Int × Int) := match split t [32] with
  | [_, _, a, b] => match atoiAll a, atoiAll b with
    | .ok v, .ok n => if hdOk v n = true ∧ hdS v n = t then some (v, n) else none
    | _, _ => none
  | _ => none
theorem parseH_iff (t : List UInt8) (v n : Int) : parseH t = some (v, n) ↔ hdOk v n = true ∧ hdS v n = t := by
  constructor
  · intro h
    unfold parseH at h
    split at h
    · split at h
      · split at h
        · rename_i hc
          injection h with h
          obtain ⟨rfl, rfl⟩ := Prod.mk.inj h
          exact hc
        · cases h
      · cases h
    · cases h
  · rintro ⟨h1, rfl⟩
    have hp := hdOk_parts h1
    unfold parseH
    rw [hd_split]
    unfold hdW
    dsimp only
    rw [atoi_itoa ⟨by omega, by omega⟩, atoi_itoa ⟨by omega, by omega⟩]
    dsimp only
    rw [if_pos ⟨h1, rfl⟩]

/-! ### reading -/
def overD (l : List UInt8) : Bool := l.all (· == 32) || (l == [99]) || hasPrefix l [99, 32]
structure Rs where
  cls : List (List Int)
  c : List Int
  begun : Bool
def zRs : Rs := ⟨[], [], false⟩
def stepW (vars : Int) (count : Nat) (st : Rs) (w : List UInt8) : Int × Rs :=
  match (if w = [48] then some 0 else litW w) with
  | none => (61, st)
  | some l => if vars < (l.natAbs : Int) then (62, st) else if st.cls.length = count then (63, st) else if w ≠ [48] ∧ st.c.length = 4096 then (5, st) else if w = [48] then (0, ⟨st.cls ++ [st.c], [], false⟩) else (0, ⟨st.cls, st.c ++ [l], true⟩)
def runW (vars : Int) (count : Nat) : Rs → List (Nat × List UInt8) → Int × Int × Rs
  | st, [] => (0, 0, st)
  | st, p :: r => if (stepW vars count st p.2).1 = 0 then runW vars count (stepW vars count st p.2).2 r else ((p.1 : Int), (stepW vars count st p.2).1, st)
def wordsL (l : List UInt8) : List (List UInt8) := (split l [32]).filter fun w => !w.isEmpty
def wordsD : List (List UInt8) → Nat → List (Nat × List UInt8)
  | [], _ => []
  | l :: r, i => (if overD l then [] else (wordsL l).map fun w => (i + 1, w)) ++ wordsD r (i + 1)
/-- The first line that is not passed over. -/
def headD : Nat → List (List UInt8) → Option (Nat × List UInt8 × List (List UInt8))
  | _, [] => none
  | i, l :: r => if overD l then headD (i + 1) r else some (i, l, r)
def endD (v : Int) (n : Nat) (lines : Nat) (q : Int × Int × Rs) : Fm × Int × Int :=
  if q.2.1 ≠ 0 then (F0, q.1, q.2.1) else if q.2.2.begun = true ∨ q.2.2.cls.length < n then (F0, (lines : Int) + 1, 63) else (⟨v, q.2.2.cls⟩, 0, 0)
def readL (lines : List (List UInt8)) : Fm × Int × Int :=
  match headD 0 lines with
  | none => (F0, (lines.length : Int) + 1, 60)
  | some (h, l, r) => match parseH l with
    | none => (F0, (h : Int) + 1, 60)
    | some (v, n) => endD v n.toNat lines.length (runW v n.toNat zRs (wordsD r (h + 1)))
def readD (t : List UInt8) : Fm × Int × Int := if 4194304 < t.length then (F0, 0, 3) else readL (split t [10])

/-! ### right formulas, and writing -/
def litIn (v : Int) (l : Int) : Bool := litB l && decide ((l.natAbs : Int) ≤ v)
def checkG (v : Int) (i : Nat) : List (List Int) → Int × Int
  | [] => (-1, 0)
  | c :: r => if clauseB c then (if c.any (fun l => !litIn v l) then ((i : Int), 51) else checkG v (i + 1) r) else ((i : Int), 20)
def checkD (f : Fm) : Int × Int := if f.vars < 0 ∨ 1048576 < f.vars then (-1, 50) else if 262144 < f.cls.length then (-1, 5) else checkG f.vars 0 f.cls
def txS (c : List (List Int)) : List UInt8 := c.flatMap fun x => lnS x ++ [10]
def textD (f : Fm) : List UInt8 := hdS f.vars f.cls.length ++ 10 :: txS f.cls
def writeD (f : Fm) : List UInt8 × Int := if (checkD f).2 = 0 then (if 4194304 < (textD f).length then ([], 3) else (textD f, 0)) else ([], (checkD f).2)
def canonD (t : List UInt8) : List UInt8 × Int × Int := if (readD t).2.2 = 0 then ((writeD (readD t).1).1, 0, (writeD (readD t).1).2) else ([], (readD t).2.1, (readD t).2.2)
end Go.Proofs.YtkpcpclaadgnbaaGreatDoor
