/-
  The tokens of a text: plain functions of bytes. No program in sight.
-/
import Derived.Lib.Strings
set_option linter.unusedVariables false
set_option linter.unusedSimpArgs false
namespace Go.Proofs.YtehcpcpmcngnjaaDoor

/-- A token: kind, bytes, place, the place behind it. -/
structure Tk where
  kind : Nat
  text : List UInt8
  at' : Nat
  fin : Nat
deriving DecidableEq
def letterB (c : UInt8) : Bool := decide (97 ≤ c.toNat) && decide (c.toNat ≤ 122)
def digitB (c : UInt8) : Bool := decide (48 ≤ c.toNat) && decide (c.toNat ≤ 57)
def partB (c : UInt8) : Bool := decide (c.toNat = 46) || (decide (c.toNat = 95) || (letterB c || digitB c))
def blankB (c : UInt8) : Bool := decide (c.toNat = 9) || (decide (c.toNat = 10) || (decide (c.toNat = 13) || decide (c.toNat = 32)))
/-- How many bytes are blanks and remarks; true: within a remark. -/
def skipG : Bool → List UInt8 → Nat
  | _, [] => 0
  | true, c :: r => 1 + skipG (decide (c.toNat ≠ 10)) r
  | false, c :: r => if c.toNat = 35 then 1 + skipG true r else if blankB c then 1 + skipG false r else 0
/-- How many digits are at the beginning. -/
def digsT : List UInt8 → Nat
  | [] => 0
  | c :: r => if digitB c then digsT r + 1 else 0
/-- How many bytes that go on with a word. -/
def partsT : List UInt8 → Nat
  | [] => 0
  | c :: r => if partB c then partsT r + 1 else 0
def pairT (k : Nat) : List UInt8 := match k with
  | 0 => [60, 60]
  | 1 => [62, 62]
  | 2 => [61, 61]
  | 3 => [33, 61]
  | _ => [60, 61]
def singleT : List UInt8 := [43, 45, 42, 47, 37, 38, 124, 94, 60, 126, 63, 58, 61, 44, 64, 40, 41, 91, 93, 123, 125]
/-- How many bytes the sign at the beginning has; the pairs from the k-th on. -/
def signF (t : List UInt8) : Nat → Nat → Nat
  | 0, _ => match t with
    | [] => 0
    | c :: _ => if singleT.contains c then 1 else 0
  | f + 1, k => if (pairT k).isPrefixOf t then 2 else signF t f (k + 1)
def signT (t : List UInt8) : Nat := signF t 5 0
/-- The kind and the length of the token at the beginning of a text that is not empty; kind 0: none. -/
def tokT : List UInt8 → Nat × Nat
  | [] => (0, 0)
  | c :: r =>
    if letterB c then (1, 1 + partsT r)
    else if digitB c then
      match (c :: r).drop (digsT (c :: r)) with
      | d :: e :: r' => if d.toNat = 58 ∧ digitB e = true then (3, digsT (c :: r) + 1 + digsT (e :: r')) else (2, digsT (c :: r))
      | _ => (2, digsT (c :: r))
    else if 0 < signT (c :: r) then (4, signT (c :: r))
    else (0, 0)
/-- Next: kind and place of the first token from a place on, and the place behind it; kind 0 at the end, or where none begins (then true). -/
def nextT (t : List UInt8) (at' : Nat) : Nat × Nat × Nat × Bool :=
  let a := at' + skipG false (t.drop at')
  if a = t.length then (0, a, a, false)
  else
    let k := tokT (t.drop a)
    if k.1 = 0 then (0, a, a, true) else (k.1, a, a + k.2, false)
def cutB (t : List UInt8) (a b : Nat) : List UInt8 := (t.drop a).take (b - a)
/-- The number that digits are, and an error. -/
def valF (n : Nat) : List UInt8 → Nat × Nat
  | [] => (n, 0)
  | c :: r => if 1000000000 < 10 * n + (c.toNat - 48) then (0, 281) else valF (10 * n + (c.toNat - 48)) r
def valT (t : List UInt8) : Nat × Nat := if t = [] ∨ digsT t < t.length then (0, 280) else valF 0 t
/-- What stands before the first byte of a kind, behind it, and whether there is one. -/
def cut1 (b : UInt8) : List UInt8 → List UInt8 × List UInt8 × Bool
  | [] => ([], [], false)
  | c :: r => if c = b then ([], r, true) else (c :: (cut1 b r).1, (cut1 b r).2)
def litT (t : List UInt8) : Nat × Nat × Nat :=
  if (cut1 58 t).2.2 = false ∨ (valT (cut1 58 t).1).2 = 280 ∨ (valT (cut1 58 t).2.1).2 = 280 then (0, 0, 280)
  else if (valT (cut1 58 t).1).2 ≠ 0 ∨ (valT (cut1 58 t).2.1).2 ≠ 0 then (0, 0, 281)
  else ((valT (cut1 58 t).1).1, (valT (cut1 58 t).2.1).1, 0)
theorem skipG_le : ∀ (b : Bool) (l : List UInt8), skipG b l ≤ l.length
  | _, [] => by cases ‹Bool› <;> simp [skipG]
  | true, c :: r => by
    have := skipG_le (decide (c.toNat ≠ 10)) r
    simp only [skipG, List.length_cons]
    omega
  | false, c :: r => by
    have h1 := skipG_le true r
    have h2 := skipG_le false r
    simp only [skipG, List.length_cons]
    split
    · omega
    · split <;> omega
theorem digsT_le : ∀ l : List UInt8, digsT l ≤ l.length
  | [] => by simp [digsT]
  | c :: r => by
    have := digsT_le r
    simp only [digsT, List.length_cons]
    split <;> omega
theorem partsT_le : ∀ l : List UInt8, partsT l ≤ l.length
  | [] => by simp [partsT]
  | c :: r => by
    have := partsT_le r
    simp only [partsT, List.length_cons]
    split <;> omega
theorem pairT_two (k : Nat) : (pairT k).length = 2 := by unfold pairT; split <;> rfl
theorem signF_le (t : List UInt8) : ∀ f k, signF t f k ≤ t.length
  | 0, k => by
    unfold signF
    split
    · omega
    · split <;> simp
  | f + 1, k => by
    unfold signF
    split
    · rename_i h
      have h1 := (List.isPrefixOf_iff_prefix.1 h).length_le
      rw [pairT_two] at h1
      exact h1
    · exact signF_le t f (k + 1)
theorem tokT_ok (l : List UInt8) (hk : (tokT l).1 ≠ 0) : 1 ≤ (tokT l).2 ∧ (tokT l).2 ≤ l.length ∧ (tokT l).1 ≤ 4 := by
  cases l with
  | nil => exact absurd rfl hk
  | cons c r =>
    have hd := digsT_le (c :: r)
    have hp := partsT_le r
    have hs := signF_le (c :: r) 5 0
    rw [tokT] at hk ⊢
    split at hk
    · rename_i h
      rw [if_pos h]
      simp only [List.length_cons]
      omega
    · rename_i h
      rw [if_neg h]
      split at hk
      · rename_i h2
        rw [if_pos h2]
        have h3 : 1 ≤ digsT (c :: r) := by simp only [digsT]; rw [if_pos h2]; omega
        have hlen := List.length_drop (i := digsT (c :: r)) (l := c :: r)
        cases hdr : (c :: r).drop (digsT (c :: r)) with
        | nil => exact ⟨h3, hd, by simp⟩
        | cons d r1 =>
          rw [hdr] at hlen
          cases r1 with
          | nil => exact ⟨h3, hd, by simp⟩
          | cons e r2 =>
            dsimp only
            have he := digsT_le (e :: r2)
            rw [List.length_cons] at hlen
            split
            · exact ⟨by dsimp only; omega, by dsimp only; omega, by dsimp only; omega⟩
            · exact ⟨h3, hd, by simp⟩
      · rename_i h2
        rw [if_neg h2]
        split at hk
        · rename_i h3
          rw [if_pos h3]
          exact ⟨h3, hs, by simp⟩
        · exact absurd rfl hk
theorem nextT_ok (t : List UInt8) (a : Nat) (ha : a ≤ t.length) : a ≤ (nextT t a).2.1 ∧ (nextT t a).2.1 ≤ t.length ∧ (nextT t a).1 ≤ 4 ∧ ((nextT t a).1 ≠ 0 → (nextT t a).2.1 < (nextT t a).2.2.1 ∧ (nextT t a).2.2.1 ≤ t.length) ∧ ((nextT t a).1 = 0 → (nextT t a).2.2.1 = (nextT t a).2.1) := by
  have h1 := skipG_le false (t.drop a)
  rw [List.length_drop] at h1
  unfold nextT
  dsimp only
  split
  · rename_i h
    exact ⟨by dsimp only; omega, by dsimp only; omega, by simp, fun h => absurd rfl h, fun _ => rfl⟩
  · rename_i h
    split
    · exact ⟨by dsimp only; omega, by dsimp only; omega, by simp, fun h => absurd rfl h, fun _ => rfl⟩
    · rename_i h2
      obtain ⟨h3, h4, h5⟩ := tokT_ok _ h2
      rw [List.length_drop] at h4
      refine ⟨by dsimp only; omega, by dsimp only; omega, h5, fun _ => ⟨by dsimp only; omega, by dsimp only; omega⟩, fun h => absurd h h2⟩
/-- What the iterator of all tokens yields from a place on: kind, place, end, whether none begins there. -/
abbrev Yt := Nat × Nat × Nat × Bool
def ylT (t : List UInt8) : Nat → Nat → List Yt
  | 0, _ => []
  | f + 1, a => nextT t a :: if (nextT t a).1 = 0 then [] else ylT t f (nextT t a).2.2.1
/-- The whole of a text. -/
def allT (t : List UInt8) : List Yt := ylT t (t.length + 2) 0
def tkY (t : List UInt8) (y : Yt) : Tk := ⟨y.1, cutB t y.2.1 y.2.2.1, y.2.1, y.2.2.1⟩
/-- The tokens among them, and where none begins. -/
def toksY (t : List UInt8) (L : List Yt) : List Tk := (L.filter fun y => decide (y.1 ≠ 0)).map (tkY t)
def badY (L : List Yt) : Option Nat := (L.find? fun y => y.2.2.2).map fun y => y.2.1
end Go.Proofs.YtehcpcpmcngnjaaDoor
