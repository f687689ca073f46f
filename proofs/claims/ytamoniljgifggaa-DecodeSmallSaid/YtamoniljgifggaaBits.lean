/-
  The lowest bit of words of 64 bits, and what operations do to it.
-/
import Derived.Laws.BitsAllLaws
import Derived.Laws.Bits64
set_option linter.unusedVariables false
set_option linter.unusedSimpArgs false
namespace Go.Proofs.Ytamoniljgifggaa

def U64 (u : Int) : Prop := 0 ≤ u ∧ u < 18446744073709551616
def bit0 (u : Int) : Bool := decide (u % 2 = 1)

theorem nat_and_mod2 (a b : Nat) : (a &&& b) % 2 = 1 ↔ a % 2 = 1 ∧ b % 2 = 1 := by
  have h := Nat.testBit_and a b 0
  simp only [Nat.testBit_zero] at h
  by_cases e0 : (a &&& b) % 2 = 1 <;> by_cases e1 : a % 2 = 1 <;> by_cases e2 : b % 2 = 1 <;> simp_all
theorem nat_xor_mod2 (a b : Nat) : (a ^^^ b) % 2 = 1 ↔ ¬ (a % 2 = 1 ↔ b % 2 = 1) := by
  have h := Nat.testBit_xor a b 0
  simp only [Nat.testBit_zero] at h
  by_cases e0 : (a ^^^ b) % 2 = 1 <;> by_cases e1 : a % 2 = 1 <;> by_cases e2 : b % 2 = 1 <;> simp_all

theorem bit0_nat (a : Nat) : bit0 (a : Int) = decide (a % 2 = 1) := by
  unfold bit0
  rw [decide_eq_decide]
  omega
theorem u64_and_bit (u v : Int) (hu : U64 u) (hv : U64 v) : U64 (bits .and .u64 u v) ∧ bit0 (bits .and .u64 u v) = (bit0 u && bit0 v) := by
  obtain ⟨hu0, hu1⟩ := hu
  obtain ⟨hv0, hv1⟩ := hv
  obtain ⟨a, rfl⟩ := Int.eq_ofNat_of_zero_le hu0
  obtain ⟨b, rfl⟩ := Int.eq_ofNat_of_zero_le hv0
  rw [u64_and_nat a b (by omega) (by omega)]
  have hlt : a &&& b < 2 ^ 64 := Nat.and_lt_two_pow _ (by omega)
  refine ⟨⟨by omega, by omega⟩, ?_⟩
  rw [bit0_nat, bit0_nat, bit0_nat, Bool.eq_iff_iff]
  simp only [decide_eq_true_eq, Bool.and_eq_true]
  exact nat_and_mod2 a b
theorem u64_not_bit (u : Int) (hu : U64 u) : U64 (bits .xor .u64 IntKind.u64.max u) ∧ bit0 (bits .xor .u64 IntKind.u64.max u) = !bit0 u := by
  obtain ⟨hu0, hu1⟩ := hu
  obtain ⟨a, rfl⟩ := Int.eq_ofNat_of_zero_le hu0
  have hm : IntKind.u64.max = ((18446744073709551615 : Nat) : Int) := by simp [IntKind.max, IntKind.bits, IntKind.signed]
  rw [hm, u64_xor_nat _ a (by omega) (by omega)]
  have hlt : 18446744073709551615 ^^^ a < 2 ^ 64 := Nat.xor_lt_two_pow (by omega) (by omega)
  refine ⟨⟨by omega, by omega⟩, ?_⟩
  rw [bit0_nat, bit0_nat, Bool.eq_iff_iff]
  simp only [decide_eq_true_eq, Bool.not_eq_true', decide_eq_false_iff_not]
  rw [nat_xor_mod2]
  omega
theorem u64_one (u : Int) (hu : U64 u) : (bits .and .u64 u 1 == 1) = bit0 u := by
  obtain ⟨hu0, hu1⟩ := hu
  obtain ⟨a, rfl⟩ := Int.eq_ofNat_of_zero_le hu0
  have h := u64_and_nat a 1 (by omega) (by omega)
  have e : ((1 : Nat) : Int) = 1 := rfl
  rw [e] at h
  rw [h, Nat.and_one_is_mod, bit0_nat, Bool.eq_iff_iff]
  simp only [beq_iff_eq, decide_eq_true_eq]
  omega
/-- What a reference is, by the word of its node. -/
def wordR (u r : Int) : Int := if r % 2 = 1 then bits .xor .u64 IntKind.u64.max u else u
theorem wordR_bit (u r : Int) (hu : U64 u) : U64 (wordR u r) ∧ bit0 (wordR u r) = (bit0 u != decide (r % 2 = 1)) := by
  unfold wordR
  by_cases h : r % 2 = 1
  · rw [if_pos h]
    obtain ⟨h1, h2⟩ := u64_not_bit u hu
    exact ⟨h1, by rw [h2]; cases bit0 u <;> simp [h]⟩
  · rw [if_neg h]
    exact ⟨hu, by cases bit0 u <;> simp [h]⟩
end Go.Proofs.Ytamoniljgifggaa
