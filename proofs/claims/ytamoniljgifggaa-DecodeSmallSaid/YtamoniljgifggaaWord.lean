/-
  Contracts of bitword.truth, Most, FromBits and of sums.Value.
-/
import Derived.Test.YtamoniljgifggaaTells
set_option linter.unusedVariables false
set_option linter.unusedSimpArgs false
namespace Go.Proofs.Ytamoniljgifggaa
open Go.RowKit

theorem truthC (b : Bool) (w : World) : Calls Try.prog 94 #[.bool b] w fun e w' => e = .returned (.int .u32 (bitI b)) ∧ w = w' := by
  cases b
  all_goals
    go_enter Try.func94, Try.ntmps94
    go_wp2
    go_ret
    exact ⟨rfl, rfl⟩

theorem pow_small {k : Nat} (h : k ≤ 16) : (2 : Int) ^ k ≤ 65536 ∧ 1 ≤ (2 : Int) ^ k := by
  have h1 : 2 ^ k ≤ 2 ^ 16 := Nat.pow_le_pow_right (by omega) h
  have h2 : 0 < 2 ^ k := Nat.pow_pos (by omega)
  have : ((2 ^ k : Nat) : Int) = (2 : Int) ^ k := by simp
  omega
/-- The error of a width. -/
def widthE (n : Int) : Int := if 1 ≤ n ∧ n ≤ 16 then 0 else 220

theorem mostC (n : Int) (w : World) (h0 : 0 ≤ n) (h1 : n ≤ 1000000000) :
    Calls Try.prog 78 #[.int .i64 n] w fun e w' => e = .returned (.tuple #[.int .u32 (if 1 ≤ n ∧ n ≤ 16 then 2 ^ n.toNat - 1 else 0), .int .i64 (widthE n)]) ∧ w = w' := by
  unfold widthE
  by_cases h : 1 ≤ n ∧ n ≤ 16
  · rw [if_pos h, if_pos h]
    obtain ⟨ha, hb⟩ := h
    have hp := pow_small (k := n.toNat) (by omega)
    have hw : ((2 : Int) ^ n.toNat % 4294967296 - 1) % 4294967296 = 2 ^ n.toNat - 1 := by omega
    have HW := Lib.hid hw
    clear hw hp
    go_enter Try.func78, Try.ntmps78
    go_wp2
    go_ret2
    refine ⟨?_, rfl⟩
    show Ending.returned (.tuple #[.int .u32 (((2 : Int) ^ n.toNat % 4294967296 - 1) % 4294967296), .int .i64 0]) = _
    rw [HW.out]
  · rw [if_neg h, if_neg h]
    by_cases ha : n < 1
    · go_enter Try.func78, Try.ntmps78
      go_wp2
      go_ret2
      exact ⟨rfl, rfl⟩
    · have hb : 16 < n := by omega
      clear h
      go_enter Try.func78, Try.ntmps78
      go_wp2
      go_ret2
      exact ⟨rfl, rfl⟩

/-- The number with these bits, the least one first. -/
def numB : List Bool → Int
  | [] => 0
  | b :: l => bitI b + 2 * numB l
theorem bitI_01 (b : Bool) : 0 ≤ bitI b ∧ bitI b ≤ 1 := by cases b <;> simp [bitI]
theorem numB_snoc (l : List Bool) (b : Bool) : numB (l ++ [b]) = numB l + bitI b * 2 ^ l.length := by
  induction l with
  | nil => simp [numB]
  | cons x l ih =>
    simp only [List.cons_append, numB, ih, List.length_cons, Int.pow_succ]
    have e : 2 * (bitI b * 2 ^ l.length) = bitI b * (2 ^ l.length * 2) := by rw [Int.mul_left_comm, Int.mul_comm 2]
    omega
theorem numB_lt (l : List Bool) : 0 ≤ numB l ∧ numB l < 2 ^ l.length := by
  induction l with
  | nil => simp [numB]
  | cons x l ih =>
    have := bitI_01 x
    simp only [numB, List.length_cons, Int.pow_succ]
    omega
theorem or_pow (x : Int) (k : Nat) (h0 : 0 ≤ x) (h1 : x < 2 ^ k) (hk : k ≤ 16) : bits .or .u32 x (2 ^ k) = x + 2 ^ k := by
  obtain ⟨a, rfl⟩ := Int.eq_ofNat_of_zero_le h0
  have hp := pow_small hk
  have e : ((2 ^ k : Nat) : Int) = (2 : Int) ^ k := by simp
  have ha : a < 2 ^ k := by omega
  have h2 := Nat.two_pow_add_eq_or_of_lt ha 1
  rw [← e]
  have h3 : 2 ^ k ≤ 65536 := by omega
  have h4 : bits .or .u32 (a : Int) ((2 ^ k : Nat) : Int) = ((a ||| 2 ^ k : Nat) : Int) := u32_or_nat a (2 ^ k) (by omega) (by omega)
  rw [h4, Nat.or_comm]
  simp only [Nat.mul_one] at h2
  rw [← h2]
  omega
theorem or_zero (x : Int) (h0 : 0 ≤ x) (h1 : x ≤ 65536) : bits .or .u32 x 0 = x := by
  obtain ⟨a, rfl⟩ := Int.eq_ofNat_of_zero_le h0
  have h := u32_or_nat a 0 (by omega) (by omega)
  simpa using h

set_option maxRecDepth 100000 in
theorem fromBits (A : Option Addr) (n c : Nat) (l : List Bool) (w : World) (hr : Hid (Rd w A (l.map Value.bool))) (hl : Hid (l.length = n)) (h1 : 1 ≤ n) (h16 : n ≤ 16) :
    Calls Try.prog 77 #[.slice A n c] w fun e w' => e = .returned (.tuple #[.int .u32 (numB l), .int .i64 0]) ∧ w = w' := by
  have hwe : widthE (n : Int) = 0 := by unfold widthE; rw [if_pos (by omega)]
  have hc := mostC n w (by omega) (by omega)
  rw [hwe] at hc
  have HC := Lib.hid hc
  clear hc hwe
  go_enter Try.func77, Try.ntmps77
  go_wp2_with fail
  refine HC.out.mono ?_
  rintro e w' ⟨rfl, rfl⟩
  clear HC
  go_wp2
  go_loopw [6, 20] (fun v i wr => ∃ (k : Nat) (X : Int), k ≤ n ∧ i = .int .i64 k ∧ v = .int .u32 X ∧ Hid (X = numB (l.take k)) ∧ w = wr) (fun _ i _ => n - (intOf i).toNat)
  case atStart => exact ⟨0, 0, Nat.zero_le _, rfl, rfl, rfl, rfl⟩
  case round =>
    obtain ⟨k, X, hk, rfl, rfl, HX, rfl⟩ := hrel
    by_cases hlt : k < n
    · obtain ⟨b1, o1, b, rfl, hb, hc1⟩ := hr.out.getm hl.out hlt
      have HY := Lib.hid hb
      clear hb
      go_wp2_with fail
      refine (truthC b w).mono ?_
      rintro e w' ⟨rfl, rfl⟩
      have hX := numB_lt (l.take k)
      rw [← HX.out, List.length_take, Nat.min_eq_left (by rw [hl.out]; omega)] at hX
      have hn := numB_snoc (l.take k) b
      rw [← take_snoc HY.out, ← HX.out, List.length_take, Nat.min_eq_left (by rw [hl.out]; omega)] at hn
      have hps := pow_small (k := k) (by omega)
      have ho1 := or_pow X k hX.1 hX.2 (by omega)
      have ho0 := or_zero X hX.1 (by omega)
      have hmod : (2 : Int) ^ k % 4294967296 = 2 ^ k := by omega
      have HN := Lib.hid hn; have HO1 := Lib.hid ho1; have HO0 := Lib.hid ho0; have HMo := Lib.hid hmod
      clear hn hX ho1 ho0 hmod hps
      cases b
      · go_wp2
        go_roundw
        case rel =>
          refine ⟨k + 1, X, by omega, by go_num, ?_, ?_, trivial⟩
          · simp [bitI]; exact HO0.out
          · show _ = _
            rw [HN.out]
            simp [bitI]
        case measure => simp [intOf]; omega
      · go_wp2
        go_roundw
        case rel =>
          refine ⟨k + 1, X + 2 ^ k, by omega, by go_num, ?_, ?_, trivial⟩
          · simp [bitI]; rw [HMo.out]; exact HO1.out
          · show _ = _
            rw [HN.out]
            simp [bitI]
        case measure => simp [intOf]; omega
    · obtain rfl : n = k := by omega
      go_wp2
      go_ret2
      have hx := HX.out
      rw [List.take_of_length_le (by rw [hl.out]; omega)] at hx
      rw [← hx]
      exact ⟨rfl, rfl⟩

set_option maxRecDepth 100000 in
theorem sumsValue (A A2 : Option Addr) (n c c2 : Nat) (l : List Bool) (w : World) (hr : Hid (Rd w A (l.map Value.bool))) (hl : Hid (l.length = n)) (h1 : 1 ≤ n) (h16 : n ≤ 16) :
    Calls Try.prog 40 #[.slice A2 n c2, .slice A n c] w fun e w' => e = .returned (.tuple #[.int .u32 (numB l), .int .i64 0]) ∧ w = w' := by
  go_enter Try.func40, Try.ntmps40
  go_wp2_with fail
  refine (fromBits A n c l w hr hl h1 h16).mono ?_
  rintro e w' ⟨rfl, rfl⟩
  have hb : ((n : Int) == (n : Int)) = true := by simp
  go_wp2
  go_ret2
  exact ⟨rfl, rfl⟩
end Go.Proofs.Ytamoniljgifggaa
