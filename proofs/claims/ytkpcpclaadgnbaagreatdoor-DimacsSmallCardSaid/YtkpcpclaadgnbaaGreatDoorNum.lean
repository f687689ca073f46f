/-
  Decimal numerals as lists of bytes. No program in sight.
-/
import Derived.Lib.ItoaNum
import Derived.Lib.AtoiAll
set_option linter.unusedVariables false
set_option linter.unusedSimpArgs false
namespace Go.Proofs.YtkpcpclaadgnbaaGreatDoor
open Go.Lib

/-- The bytes are digits. -/
def DigB (c : UInt8) : Prop := 48 ≤ c.toNat ∧ c.toNat ≤ 57
instance (c : UInt8) : Decidable (DigB c) := by unfold DigB; exact inferInstance
/-- What digits spell behind a number. -/
def valD (acc : Nat) (l : List UInt8) : Nat := l.foldl (fun a c => a * 10 + (c.toNat - 48)) acc
theorem valD_nil (a : Nat) : valD a [] = a := rfl
theorem valD_cons (a : Nat) (c : UInt8) (l : List UInt8) : valD a (c :: l) = valD (a * 10 + (c.toNat - 48)) l := by unfold valD; rw [List.foldl_cons]
theorem valD_snoc (a : Nat) (l : List UInt8) (c : UInt8) : valD a (l ++ [c]) = valD a l * 10 + (c.toNat - 48) := by
  unfold valD; rw [List.foldl_append]; rfl
theorem valD_mono (l : List UInt8) : ∀ a, a ≤ valD a l := by
  induction l with
  | nil => intro a; exact Nat.le_refl _
  | cons c l ih => intro a; rw [valD_cons]; exact Nat.le_trans (by omega) (ih _)

theorem dig_ofNat {d : Nat} (h : d < 10) : (UInt8.ofNat (48 + d)).toNat = 48 + d := by
  exact UInt8.toNat_ofNat_of_lt (by show 48 + d < 256; omega)
theorem ofNat_dig {c : UInt8} (h : DigB c) : UInt8.ofNat (48 + (c.toNat - 48)) = c := by
  obtain ⟨h1, h2⟩ := h
  rw [show 48 + (c.toNat - 48) = c.toNat by omega]
  simp
theorem decDigits_small {u : Nat} (h : u < 10) : decDigits u = [UInt8.ofNat (48 + u)] := by rw [decDigits, dif_pos h]
theorem decDigits_big {u : Nat} (h : 10 ≤ u) : decDigits u = decDigits (u / 10) ++ [UInt8.ofNat (48 + u % 10)] := by rw [decDigits, dif_neg (by omega)]
theorem decDigits_dig (u : Nat) : ∀ c ∈ decDigits u, DigB c := by
  induction u using Nat.strongRecOn with
  | _ u ih =>
    intro c hc
    by_cases h : u < 10
    · rw [decDigits_small h] at hc
      obtain rfl := List.mem_singleton.1 hc
      unfold DigB; rw [dig_ofNat h]; omega
    · rw [decDigits_big (by omega), List.mem_append] at hc
      rcases hc with hc | hc
      · exact ih (u / 10) (by omega) c hc
      · obtain rfl := List.mem_singleton.1 hc
        unfold DigB; rw [dig_ofNat (by omega)]; omega
theorem decDigits_ne (u : Nat) : decDigits u ≠ [] := by
  by_cases h : u < 10
  · rw [decDigits_small h]; simp
  · rw [decDigits_big (by omega)]; simp
theorem decDigits_val (u : Nat) : valD 0 (decDigits u) = u := by
  induction u using Nat.strongRecOn with
  | _ u ih =>
    by_cases h : u < 10
    · rw [decDigits_small h]; simp only [valD_cons, valD_nil]; rw [dig_ofNat h]; omega
    · rw [decDigits_big (by omega), valD_snoc, ih _ (by omega), dig_ofNat (by omega)]; omega
theorem decDigits_head {u : Nat} {c : UInt8} {r : List UInt8} (h : decDigits u = c :: r) (h0 : c.toNat = 48) : u = 0 ∧ r = [] := by
  induction u using Nat.strongRecOn generalizing r with
  | _ u ih =>
    by_cases hu : u < 10
    · rw [decDigits_small hu] at h
      injection h with h1 h2
      subst h1
      rw [dig_ofNat hu] at h0
      exact ⟨by omega, h2.symm⟩
    · rw [decDigits_big (by omega)] at h
      cases hd : decDigits (u / 10) with
      | nil => exact absurd hd (decDigits_ne _)
      | cons d t =>
        rw [hd] at h
        injection h with h1 h2
        subst h1
        have := (ih (u / 10) (by omega) hd).1
        omega
/-- A row of digits that is no longer than it need be is the numeral of what it spells. -/
theorem decDigits_of (l : List UInt8) (hd : ∀ c ∈ l, DigB c) (hne : l ≠ []) (hz : ∀ c r, l = c :: r → c.toNat = 48 → r = []) : decDigits (valD 0 l) = l := by
  have key : ∀ (n : Nat) (l : List UInt8), l.length = n → (∀ c ∈ l, DigB c) → l ≠ [] → (∀ c r, l = c :: r → c.toNat = 48 → r = []) → decDigits (valD 0 l) = l := by
    intro n
    induction n with
    | zero => intro l hl _ hne; exact absurd (List.eq_nil_of_length_eq_zero hl) hne
    | succ n ih =>
      intro l hl hd hne hz
      obtain ⟨r, c, rfl⟩ : ∃ r c, l = r ++ [c] := ⟨l.dropLast, l.getLast hne, (List.dropLast_concat_getLast hne).symm⟩
      have hc : DigB c := hd c (by simp)
      have hc' := hc
      unfold DigB at hc'
      rw [valD_snoc]
      by_cases hr : r = []
      · subst hr
        rw [valD_nil, decDigits_small (by omega)]
        simp only [List.nil_append]
        rw [show 0 * 10 + (c.toNat - 48) = c.toNat - 48 by omega, ofNat_dig hc]
      · have hr' := ih r (by simp at hl; omega) (fun x hx => hd x (by simp [hx])) hr (fun x t ht h0 => by
          subst ht
          have := hz x (t ++ [c]) rfl h0
          simp at this)
        have h1 : 1 ≤ valD 0 r := by
          cases r with
          | nil => exact absurd rfl hr
          | cons x t =>
            have hx : DigB x := hd x (by simp)
            unfold DigB at hx
            have hx0 : x.toNat ≠ 48 := fun h0 => by
              have := hz x (t ++ [c]) rfl h0
              simp at this
            rw [valD_cons]
            exact Nat.le_trans (by omega) (valD_mono t _)
        rw [decDigits_big (by omega), show (valD 0 r * 10 + (c.toNat - 48)) / 10 = valD 0 r by omega, show (valD 0 r * 10 + (c.toNat - 48)) % 10 = c.toNat - 48 by omega, hr', ofNat_dig hc]
  exact key l.length l rfl hd hne hz
theorem parseUint10_dig (l : List UInt8) : ∀ acc, (∀ c ∈ l, DigB c) → valD acc l < 18446744073709551616 → parseUint10 acc l = .ok (valD acc l) := by
  induction l with
  | nil => intro acc _ _; rfl
  | cons c r ih =>
    intro acc hd hv
    have hc : DigB c := hd c (by simp)
    have hc' := hc
    unfold DigB at hc'
    rw [valD_cons] at hv ⊢
    have hm := valD_mono r (acc * 10 + (c.toNat - 48))
    rw [parseUint10, if_pos hc', if_neg (by omega), if_neg (by omega)]
    exact ih _ (fun x hx => hd x (by simp [hx])) hv

/-- Numbers of 64 bits. -/
def I64 (r : Int) : Prop := -9223372036854775808 ≤ r ∧ r ≤ 9223372036854775807
theorem itoa_neg' {n : Int} (h : n < 0) : itoa n = 45 :: decDigits n.natAbs := by unfold itoa; rw [if_pos h]
theorem itoa_pos' {n : Int} (h : 0 ≤ n) : itoa n = decDigits n.toNat := by unfold itoa; rw [if_neg (by omega)]
theorem itoa_ne (n : Int) : itoa n ≠ [] := by
  by_cases h : n < 0
  · rw [itoa_neg' h]; simp
  · rw [itoa_pos' (by omega)]; exact decDigits_ne _
theorem itoa_bytes (n : Int) : ∀ c ∈ itoa n, c.toNat = 45 ∨ DigB c := by
  intro c hc
  by_cases h : n < 0
  · rw [itoa_neg' h] at hc
    rcases List.mem_cons.1 hc with rfl | hc
    · exact .inl rfl
    · exact .inr (decDigits_dig _ c hc)
  · rw [itoa_pos' (by omega)] at hc
    exact .inr (decDigits_dig _ c hc)
theorem itoa_free (n : Int) : (32 : UInt8) ∉ itoa n ∧ (10 : UInt8) ∉ itoa n ∧ (100 : UInt8) ∉ itoa n ∧ (99 : UInt8) ∉ itoa n := by
  refine ⟨?_, ?_, ?_, ?_⟩ <;>
  · intro hc
    have := itoa_bytes n _ hc
    unfold DigB at this
    revert this
    decide
theorem decDigits_inj {a b : Nat} (h : decDigits a = decDigits b) : a = b := by
  rw [← decDigits_val a, ← decDigits_val b, h]
theorem itoa_inj {a b : Int} (h : itoa a = itoa b) : a = b := by
  have hh : ∀ (n : Int) (u : Nat), n < 0 → decDigits u ≠ 45 :: decDigits n.natAbs := fun n u _ e => by
    have := decDigits_dig u 45 (by rw [e]; simp)
    unfold DigB at this
    revert this
    decide
  by_cases h1 : a < 0 <;> by_cases h2 : b < 0
  · rw [itoa_neg' h1, itoa_neg' h2] at h
    injection h with _ h
    have := decDigits_inj h
    omega
  · rw [itoa_neg' h1, itoa_pos' (by omega)] at h
    exact absurd h.symm (hh a _ h1)
  · rw [itoa_pos' (by omega), itoa_neg' h2] at h
    exact absurd h (hh b _ h2)
  · rw [itoa_pos' (by omega), itoa_pos' (by omega)] at h
    have := decDigits_inj h
    omega
theorem itoa_zero : itoa 0 = [48] := by rw [itoa_pos' (by omega)]; exact decDigits_small (by decide)
theorem parseMag_dec (u : Nat) (h : u < 18446744073709551616) : parseMag (decDigits u) = .ok u := by
  unfold parseMag
  rw [if_neg (decDigits_ne u), parseUint10_dig _ _ (decDigits_dig u) (by rw [decDigits_val]; exact h), decDigits_val]
theorem atoi_itoa {n : Int} (h : I64 n) : atoiAll (itoa n) = .ok n := by
  obtain ⟨h1, h2⟩ := h
  by_cases hn : n < 0
  · rw [itoa_neg' hn]
    unfold atoiAll
    simp only
    rw [if_pos (by decide), parseMag_dec _ (by omega)]
    simp only
    rw [if_neg (fun hh => hh.1 (by decide)), if_neg (by omega), if_pos (by decide)]
    congr 1
    omega
  · rw [itoa_pos' (by omega)]
    cases hd : decDigits n.toNat with
    | nil => exact absurd hd (decDigits_ne _)
    | cons c r =>
      have hc : DigB c := decDigits_dig n.toNat c (by rw [hd]; simp)
      unfold DigB at hc
      unfold atoiAll
      simp only
      rw [if_neg (by omega), ← hd, parseMag_dec _ (by omega)]
      simp only
      rw [if_neg (by omega), if_neg (by omega), if_neg (by omega)]
      congr 1
      omega

/-- A word is the numeral of a number of 64 bits. -/
def numW (w : List UInt8) : Option Int := match atoiAll w with
  | .ok n => if itoa n = w then some n else none
  | _ => none
theorem numW_itoa {n : Int} (h : I64 n) : numW (itoa n) = some n := by
  unfold numW
  rw [atoi_itoa h]
  simp
theorem numW_some {w : List UInt8} {n : Int} (h : numW w = some n) : w = itoa n ∧ atoiAll w = .ok n := by
  unfold numW at h
  cases ha : atoiAll w with
  | ok m =>
    rw [ha] at h
    simp only at h
    split at h
    · rename_i e
      injection h with h
      subst h
      exact ⟨e.symm, rfl⟩
    · cases h
  | _ => rw [ha] at h; cases h
end Go.Proofs.YtkpcpclaadgnbaaGreatDoor
