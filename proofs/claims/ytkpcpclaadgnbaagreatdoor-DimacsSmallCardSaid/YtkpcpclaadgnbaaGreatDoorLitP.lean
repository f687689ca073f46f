/-
  What lits.Read's loop comes to: plain lists.
-/
import Derived.Test.YtkpcpclaadgnbaaGreatDoorDim
set_option linter.unusedVariables false
set_option linter.unusedSimpArgs false
namespace Go.Proofs.YtkpcpclaadgnbaaGreatDoor
open Go.Lib

def goL : Nat → Nat → List UInt8 → Nat
  | _, n, [] => n
  | i, n, c :: r => if c = 45 ∧ i = 0 then goL (i + 1) n r else if (48 ≤ c.toNat ∧ c.toNat ≤ 57) ∧ n ≤ 1048576 then goL (i + 1) (10 * n + (c.toNat - 48)) r else 0
def ofL (n : Nat) (neg : Bool) : Int × Int := if n < 1 ∨ 1048576 < n then (0, 10) else (if neg then -(n : Int) else (n : Int), 0)
def textL (l : Int) : List UInt8 := if litB l then itoa l else []
def negL (s : List UInt8) : Bool := match s with
  | c :: _ => c == 45
  | [] => false
def readW (s : List UInt8) : Int × Int := if textL (ofL (goL 0 0 s) (negL s)).1 = s then ofL (goL 0 0 s) (negL s) else (0, 10)
def litR (s : List UInt8) : Int × Int := match litW s with
  | some l => (l, 0)
  | none => (0, 10)
theorem goL_dig : ∀ (ds : List UInt8) (i n : Nat), (∀ c ∈ ds, DigB c) → valD n ds ≤ 1048576 → goL i n ds = valD n ds
  | [], _, _, _, _ => rfl
  | c :: r, i, n, hd, hv => by
    have hc := hd c (by simp)
    have hm := valD_mono r (n * 10 + (c.toNat - 48))
    rw [valD_cons] at hv
    unfold goL
    have h45 : ¬ (c = 45 ∧ i = 0) := by
      rintro ⟨rfl, _⟩
      revert hc
      decide
    rw [if_neg h45, if_pos ⟨⟨hc.1, hc.2⟩, by omega⟩, valD_cons, Nat.mul_comm 10 n]
    exact goL_dig r (i + 1) _ (fun x hx => hd x (by simp [hx])) hv
theorem goL_itoa {l : Int} (h : litB l = true) : goL 0 0 (itoa l) = l.natAbs ∧ negL (itoa l) = decide (l < 0) := by
  have hp := lit_parts h
  by_cases h0 : l < 0
  · rw [itoa_neg' h0]
    constructor
    · unfold goL
      rw [if_pos ⟨rfl, rfl⟩]
      have h1 := goL_dig (decDigits l.natAbs) 1 0 (decDigits_dig _) (by rw [decDigits_val]; omega)
      rw [h1, decDigits_val]
    · unfold negL
      rw [decide_eq_true h0]
      rfl
  · rw [itoa_pos' (by omega)]
    constructor
    · have h1 := goL_dig (decDigits l.toNat) 0 0 (decDigits_dig _) (by rw [decDigits_val]; omega)
      rw [h1, decDigits_val]
      omega
    · rw [decide_eq_false h0]
      have hd := decDigits_dig l.toNat
      cases hc : decDigits l.toNat with
      | nil => rfl
      | cons c r =>
        have := hd c (by rw [hc]; simp)
        unfold negL
        cases h45 : (c == 45) with
        | false => exact h45
        | true =>
          have : c = 45 := by simpa using h45
          subst this
          exact absurd (hd 45 (by rw [hc]; simp)) (by decide)
theorem ofL_some {n : Nat} {neg : Bool} (h1 : 1 ≤ n) (h2 : n ≤ 1048576) : ofL n neg = (if neg then -(n : Int) else (n : Int), 0) ∧ litB (if neg then -(n : Int) else (n : Int)) = true := by
  refine ⟨by unfold ofL; rw [if_neg (by omega)], ?_⟩
  cases neg
  · exact lit_mk (show (n : Int) ≠ 0 by omega) (show _ ≤ (n : Int) by omega) (show (n : Int) ≤ _ by omega)
  · exact lit_mk (show -(n : Int) ≠ 0 by omega) (show _ ≤ -(n : Int) by omega) (show -(n : Int) ≤ _ by omega)
theorem readW_lit (s : List UInt8) : readW s = litR s := by
  unfold litR
  cases h : litW s with
  | some l =>
    obtain ⟨h1, rfl⟩ := (litW_iff _ _).1 h
    obtain ⟨h2, h3⟩ := goL_itoa h1
    have hp := lit_parts h1
    have ho : ofL (goL 0 0 (itoa l)) (negL (itoa l)) = (l, 0) := by
      rw [h2, h3]
      unfold ofL
      rw [if_neg (by omega)]
      by_cases h0 : l < 0
      · rw [decide_eq_true h0, if_pos rfl]
        congr 1
        omega
      · rw [decide_eq_false h0, if_neg (by simp)]
        congr 1
        omega
    unfold readW
    rw [ho]
    dsimp only
    unfold textL
    rw [if_pos h1, if_pos rfl]
  | none =>
    unfold readW
    by_cases hr : 1 ≤ goL 0 0 s ∧ goL 0 0 s ≤ 1048576
    · obtain ⟨h1, h2⟩ := ofL_some (neg := negL s) hr.1 hr.2
      rw [h1]
      dsimp only
      rw [if_neg]
      intro hc
      unfold textL at hc
      rw [if_pos h2] at hc
      rw [(litW_iff _ _).2 ⟨h2, hc⟩] at h
      cases h
    · have h1 : ofL (goL 0 0 s) (negL s) = (0, 10) := by
        unfold ofL
        rw [if_pos (by omega)]
      rw [h1]
      split <;> rfl
end Go.Proofs.YtkpcpclaadgnbaaGreatDoor
