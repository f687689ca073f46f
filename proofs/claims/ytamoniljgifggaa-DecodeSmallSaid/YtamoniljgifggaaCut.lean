/-
  Contracts of bitword.Cut and Bit.
-/
import Derived.Test.YtamoniljgifggaaWord
set_option linter.unusedVariables false
set_option linter.unusedSimpArgs false
namespace Go.Proofs.Ytamoniljgifggaa
open Go.RowKit

def U32 (x : Int) : Prop := 0 ≤ x ∧ x ≤ 4294967295
/-- Bit k of a number. -/
def bitN (x : Int) (k : Nat) : Bool := decide (x / 2 ^ k % 2 = 1)

theorem and_most (x : Int) (n : Nat) (hx : U32 x) (hn : n ≤ 16) : bits .and .u32 x (2 ^ n - 1) = x % 2 ^ n := by
  obtain ⟨a, rfl⟩ := Int.eq_ofNat_of_zero_le hx.1
  have hp := pow_small hn
  have e : ((2 ^ n - 1 : Nat) : Int) = (2 : Int) ^ n - 1 := by
    have h2 : 0 < 2 ^ n := Nat.pow_pos (by omega)
    have : ((2 ^ n : Nat) : Int) = (2 : Int) ^ n := by simp
    omega
  have h1 := hx.2
  rw [← e, u32_and_nat a (2 ^ n - 1) (by omega) (by omega), Nat.and_two_pow_sub_one_eq_mod]
  simp

theorem cutC (x : Int) (n : Nat) (w : World) (hx : U32 x) (h1 : 1 ≤ n) (h16 : n ≤ 16) :
    Calls Try.prog 42 #[.int .u32 x, .int .i64 n] w fun e w' => e = .returned (.tuple #[.int .u32 (x % 2 ^ n), .int .i64 0]) ∧ w = w' := by
  have hwe : widthE (n : Int) = 0 := by unfold widthE; rw [if_pos (by omega)]
  have hc := mostC n w (by omega) (by omega)
  rw [hwe, if_pos (by omega), Int.toNat_natCast] at hc
  have HC := Lib.hid hc
  have HA := Lib.hid (and_most x n hx h16)
  clear hc hwe
  go_enter Try.func42, Try.ntmps42
  go_wp2_with fail
  refine HC.out.mono ?_
  rintro e w' ⟨rfl, rfl⟩
  go_wp2
  go_ret2
  refine ⟨?_, rfl⟩
  show Ending.returned (.tuple #[.int .u32 (bits .and .u32 x (2 ^ n - 1)), .int .i64 0]) = _
  rw [HA.out]
theorem shr_bit (x : Int) (k : Nat) (hx : U32 x) : (bits .and .u32 (x / 2 ^ k) 1 == 1) = bitN x k := by
  obtain ⟨a, rfl⟩ := Int.eq_ofNat_of_zero_le hx.1
  have e : ((a : Int) / 2 ^ k) = ((a / 2 ^ k : Nat) : Int) := by simp
  have h1 := hx.2
  have h2 : a / 2 ^ k ≤ a := Nat.div_le_self _ _
  unfold bitN
  rw [e, show (1 : Int) = ((1 : Nat) : Int) from rfl, u32_and_nat _ 1 (by omega) (by omega), Nat.and_one_is_mod]
  rw [Bool.eq_iff_iff]
  simp
theorem bitC (x : Int) (k : Nat) (w : World) (hx : U32 x) (hk : k < 16) :
    Calls Try.prog 43 #[.int .u32 x, .int .i64 k] w fun e w' => e = .returned (.bool (bitN x k)) ∧ w = w' := by
  have HS := Lib.hid (shr_bit x k hx)
  obtain ⟨hx0, hx1⟩ := hx
  have e1 : decide ((0 : Int) ≤ (k : Int)) = true := by simp
  have e2 : decide ((k : Int) < 32) = true := by simp; omega
  go_enter Try.func43, Try.ntmps43
  go_wp2
  go_ret
  refine ⟨ret_bool ?_, rfl⟩
  rw [← HS.out]
end Go.Proofs.Ytamoniljgifggaa
