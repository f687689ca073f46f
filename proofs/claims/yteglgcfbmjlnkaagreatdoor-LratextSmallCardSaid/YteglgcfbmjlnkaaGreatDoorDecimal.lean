/-
  The reference's decimal.
-/
import Derived.Test.YteglgcfbmjlnkaaGreatDoorLine
import Derived.Deep.QuietTactic
import Derived.BigQuiet
set_option linter.unusedVariables false
set_option linter.unusedSimpArgs false
namespace Go.Proofs.YteglgcfbmjlnkaaGreatDoor
open Go.RowKit

theorem itoa_dig {n : Int} (h0 : 0 ≤ n) (h : n < 10) : Lib.itoa n = [UInt8.ofNat (48 + n.toNat)] := by
  rw [itoa_pos' h0, decDigits_small (by omega)]
theorem itoa_minus {n : Int} (h0 : n < 0) : Lib.itoa n = 45 :: Lib.itoa (-n) := by
  rw [itoa_neg' h0, itoa_pos' (by omega)]
  congr 2
  omega
theorem itoa_ten {q r : Int} (hq : 1 ≤ q) (h0 : 0 ≤ r) (h : r < 10) : Lib.itoa (10 * q + r) = Lib.itoa q ++ Lib.itoa r := by
  rw [itoa_pos' (by omega), itoa_pos' (by omega), itoa_dig h0 h, decDigits_big (by omega)]
  congr 2
  · congr 1; omega
  · congr 2; omega
theorem itoa_ten_neg {q r : Int} (hq : q ≤ -1) (h0 : r ≤ 0) (h : -10 < r) : Lib.itoa (10 * q + r) = Lib.itoa q ++ Lib.itoa (-r) := by
  rw [itoa_minus (by omega), itoa_minus (n := q) (by omega), show -(10 * q + r) = 10 * (-q) + (-r) by omega, itoa_ten (by omega) (by omega) (by omega)]
  rfl
set_option maxRecDepth 100000 in
set_option maxHeartbeats 2000000 in
theorem decPos : ∀ (m : Nat) (n : Int), n.natAbs ≤ m → 0 ≤ n → n ≤ 9223372036854775807 → ∀ w, Calls Tryz.prog 53 #[.int .i64 n] w fun e w' => e = .returned (.string (str (Lib.itoa n))) ∧ ∃ k, w.drewN k = w' := by
  intro m
  induction m using Nat.strongRecOn with
  | ind m ih =>
    intro n hm h0 hn w
    have e1 : decide (n < 0) = false := by simp; omega
    by_cases h1 : n < 10
    · have e2 : decide (n < 10) = true := by simpa using h1
      clear ih hm
      rcases (by omega : n = 0 ∨ n = 1 ∨ n = 2 ∨ n = 3 ∨ n = 4 ∨ n = 5 ∨ n = 6 ∨ n = 7 ∨ n = 8 ∨ n = 9) with rfl | rfl | rfl | rfl | rfl | rfl | rfl | rfl | rfl | rfl
      all_goals
        go_enter Tryz.func53, Tryz.ntmps53
        go_wp2
        go_ret
        refine ⟨congrArg (fun x => Ending.returned (.string x)) (data_inj ?_), 0, rfl⟩
        rw [str_data, itoa_dig (by omega) (by omega)]
        rfl
    · have e2 : decide (n < 10) = false := by simp; omega
      obtain ⟨q, hq⟩ : ∃ q, n / 10 = q := ⟨_, rfl⟩
      obtain ⟨r, hr⟩ : ∃ r, n % 10 = r := ⟨_, rfl⟩
      have hn' : n = 10 * q + r := by omega
      have hr0 : 0 ≤ r ∧ r < 10 := by omega
      have hq1 : 1 ≤ q := by omega
      have t1 : n.tdiv 10 = q := by rw [Int.tdiv_eq_ediv_of_nonneg h0]; exact hq
      have t2 : n.tmod 10 = r := by rw [Int.tmod_eq_emod_of_nonneg h0]; exact hr
      have hwq : IntKind.i64.wrap q = q := by rw [IntKind.wrap_i64]; omega
      have HC : Hid (∀ W, Calls Tryz.prog 53 #[.int .i64 q] W fun e w' => e = .returned (.string (str (Lib.itoa q))) ∧ ∃ k, W.drewN k = w') := fun W => ih q.natAbs (by omega) q (Nat.le_refl _) (by omega) (by omega) W
      have HE := Lib.hid (itoa_ten hq1 hr0.1 hr0.2)
      rw [← hn'] at HE
      have hqs : (str (Lib.itoa q)).size ≤ 21 := itoa_size q ⟨by omega, by omega⟩
      clear ih hm hq hr hn' hq1 h1 h0
      have hx0 : (⟨#[48, 49, 50, 51, 52, 53, 54, 55, 56, 57]⟩ : ByteArray).extract 0 1 = str [48] := rfl
      have hs0 : (str [48]).size = 1 := rfl
      have hx1 : (⟨#[48, 49, 50, 51, 52, 53, 54, 55, 56, 57]⟩ : ByteArray).extract 1 2 = str [49] := rfl
      have hs1 : (str [49]).size = 1 := rfl
      have hx2 : (⟨#[48, 49, 50, 51, 52, 53, 54, 55, 56, 57]⟩ : ByteArray).extract 2 3 = str [50] := rfl
      have hs2 : (str [50]).size = 1 := rfl
      have hx3 : (⟨#[48, 49, 50, 51, 52, 53, 54, 55, 56, 57]⟩ : ByteArray).extract 3 4 = str [51] := rfl
      have hs3 : (str [51]).size = 1 := rfl
      have hx4 : (⟨#[48, 49, 50, 51, 52, 53, 54, 55, 56, 57]⟩ : ByteArray).extract 4 5 = str [52] := rfl
      have hs4 : (str [52]).size = 1 := rfl
      have hx5 : (⟨#[48, 49, 50, 51, 52, 53, 54, 55, 56, 57]⟩ : ByteArray).extract 5 6 = str [53] := rfl
      have hs5 : (str [53]).size = 1 := rfl
      have hx6 : (⟨#[48, 49, 50, 51, 52, 53, 54, 55, 56, 57]⟩ : ByteArray).extract 6 7 = str [54] := rfl
      have hs6 : (str [54]).size = 1 := rfl
      have hx7 : (⟨#[48, 49, 50, 51, 52, 53, 54, 55, 56, 57]⟩ : ByteArray).extract 7 8 = str [55] := rfl
      have hs7 : (str [55]).size = 1 := rfl
      have hx8 : (⟨#[48, 49, 50, 51, 52, 53, 54, 55, 56, 57]⟩ : ByteArray).extract 8 9 = str [56] := rfl
      have hs8 : (str [56]).size = 1 := rfl
      have hx9 : (⟨#[48, 49, 50, 51, 52, 53, 54, 55, 56, 57]⟩ : ByteArray).extract 9 10 = str [57] := rfl
      have hs9 : (str [57]).size = 1 := rfl
      have hw1 : IntKind.i64.wrap 1 = 1 := by rw [IntKind.wrap_i64]; omega
      have hw2 : IntKind.i64.wrap 2 = 2 := by rw [IntKind.wrap_i64]; omega
      have hw3 : IntKind.i64.wrap 3 = 3 := by rw [IntKind.wrap_i64]; omega
      have hw4 : IntKind.i64.wrap 4 = 4 := by rw [IntKind.wrap_i64]; omega
      have hw5 : IntKind.i64.wrap 5 = 5 := by rw [IntKind.wrap_i64]; omega
      have hw6 : IntKind.i64.wrap 6 = 6 := by rw [IntKind.wrap_i64]; omega
      have hw7 : IntKind.i64.wrap 7 = 7 := by rw [IntKind.wrap_i64]; omega
      have hw8 : IntKind.i64.wrap 8 = 8 := by rw [IntKind.wrap_i64]; omega
      have hw9 : IntKind.i64.wrap 9 = 9 := by rw [IntKind.wrap_i64]; omega
      have hw10 : IntKind.i64.wrap 10 = 10 := by rw [IntKind.wrap_i64]; omega
      rcases (by omega : r = 0 ∨ r = 1 ∨ r = 2 ∨ r = 3 ∨ r = 4 ∨ r = 5 ∨ r = 6 ∨ r = 7 ∨ r = 8 ∨ r = 9) with rfl | rfl | rfl | rfl | rfl | rfl | rfl | rfl | rfl | rfl
      all_goals
        go_enter Tryz.func53, Tryz.ntmps53
        go_wp2_with fail
        go_quiet ((go_at_call 53; exact Calls.quiet_of ((HC.out _).mono fun e w' ⟨he, k, hk⟩ => ⟨he, k, hk.symm⟩)))
        go_wp2
        go_ret
        refine ⟨congrArg (fun x => Ending.returned (.string x)) (data_inj ?_), _, rfl⟩
        rw [cat_data, str_data, str_data, str_data, HE.out]
        congr 1
        rw [itoa_dig (by omega) (by omega)]
        rfl
set_option maxRecDepth 100000 in
set_option maxHeartbeats 2000000 in
theorem decNeg : ∀ (m : Nat) (n : Int), n.natAbs ≤ m → n < 0 → -9223372036854775808 ≤ n → ∀ w, Calls Tryz.prog 53 #[.int .i64 n] w fun e w' => e = .returned (.string (str (Lib.itoa n))) ∧ ∃ k, w.drewN k = w' := by
  intro m
  induction m using Nat.strongRecOn with
  | ind m ih =>
    intro n hm h0 hn w
    have e1 : decide (n < 0) = true := by simpa using h0
    by_cases h1 : -10 < n
    · have e2 : decide (-10 < n) = true := by simpa using h1
      have hw : IntKind.i64.wrap (-n) = -n := by rw [IntKind.wrap_i64]; omega
      have HC : Hid (∀ W, Calls Tryz.prog 53 #[.int .i64 (-n)] W fun e w' => e = .returned (.string (str (Lib.itoa (-n)))) ∧ ∃ k, W.drewN k = w') := fun W => decPos _ (-n) (Nat.le_refl _) (by omega) (by omega) W
      have HE := Lib.hid (itoa_minus h0)
      have hrs : (str (Lib.itoa (-n))).size ≤ 21 := itoa_size (-n) ⟨by omega, by omega⟩
      clear ih
      go_enter Tryz.func53, Tryz.ntmps53
      go_wp2_with fail
      refine (HC.out _).mono ?_
      rintro e w1 ⟨rfl, k, rfl⟩
      go_wp2
      go_ret
      refine ⟨congrArg (fun x => Ending.returned (.string x)) (data_inj ?_), k, rfl⟩
      rw [cat_data, str_data, str_data, HE.out]
      rfl
    · have e2 : decide (-10 < n) = false := by simp; omega
      obtain ⟨q, hq⟩ : ∃ q, n.tdiv 10 = q := ⟨_, rfl⟩
      obtain ⟨r, hr⟩ : ∃ r, n.tmod 10 = r := ⟨_, rfl⟩
      have hn' : n = 10 * q + r := by rw [← hq, ← hr]; exact (Int.mul_tdiv_add_tmod n 10).symm
      have hr0 : r ≤ 0 ∧ -10 < r := by
        have h2 := Int.tmod_lt_of_pos (-n) (show (0 : Int) < 10 by omega)
        have h3 := Int.tmod_nonneg 10 (show 0 ≤ -n by omega)
        rw [Int.neg_tmod, hr] at h2 h3
        omega
      have hq1 : q ≤ -1 := by omega
      have hwr : IntKind.i64.wrap (-r) = -r := by rw [IntKind.wrap_i64]; omega
      have hwq : IntKind.i64.wrap q = q := by rw [IntKind.wrap_i64]; omega
      have hwrr : IntKind.i64.wrap r = r := by rw [IntKind.wrap_i64]; omega
      have HC : Hid (∀ W, Calls Tryz.prog 53 #[.int .i64 q] W fun e w' => e = .returned (.string (str (Lib.itoa q))) ∧ ∃ k, W.drewN k = w') := fun W => ih q.natAbs (by omega) q (Nat.le_refl _) (by omega) (by omega) W
      have HC2 : Hid (∀ W, Calls Tryz.prog 53 #[.int .i64 (-r)] W fun e w' => e = .returned (.string (str (Lib.itoa (-r)))) ∧ ∃ k, W.drewN k = w') := fun W => decPos _ (-r) (Nat.le_refl _) (by omega) (by omega) W
      have HE := Lib.hid (itoa_ten_neg hq1 hr0.1 hr0.2)
      rw [← hn'] at HE
      have hqs : (str (Lib.itoa q)).size ≤ 21 := itoa_size q ⟨by omega, by omega⟩
      have hrs : (str (Lib.itoa (-r))).size ≤ 21 := itoa_size (-r) ⟨by omega, by omega⟩
      clear ih hm hn' hq1 h1 h0
      go_enter Tryz.func53, Tryz.ntmps53
      go_wp2_with fail
      refine (HC.out _).mono ?_
      rintro e w1 ⟨rfl, k, rfl⟩
      go_wp2_with fail
      refine (HC2.out _).mono ?_
      rintro e w1 ⟨rfl, k2, rfl⟩
      go_wp2
      go_ret
      refine ⟨congrArg (fun x => Ending.returned (.string x)) (data_inj ?_), k + k2, by first | rfl | exact (World.drewN_drewN _ _ _).symm⟩
      rw [cat_data, str_data, str_data, str_data, HE.out]
theorem decimalC (n : Int) (hn : Hid (I64 n)) (w : World) : Calls Tryz.prog 53 #[.int .i64 n] w fun e w' => e = .returned (.string (str (Lib.itoa n))) ∧ Below w.heap.size w w' := by
  have h : Calls Tryz.prog 53 #[.int .i64 n] w fun e w' => e = .returned (.string (str (Lib.itoa n))) ∧ ∃ k, w.drewN k = w' := by
    rcases (by omega : n < 0 ∨ 0 ≤ n) with h | h
    · exact decNeg _ n (Nat.le_refl _) h hn.out.1 w
    · exact decPos _ n (Nat.le_refl _) h hn.out.2 w
  refine h.mono ?_
  rintro e w' ⟨rfl, k, rfl⟩
  exact ⟨rfl, below_drewN _ _⟩
end Go.Proofs.YteglgcfbmjlnkaaGreatDoor
