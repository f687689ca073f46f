/-
  The reference's decimal, Header, Text, Line, Write.
-/
import Derived.Test.YtkpcpclaadgnbaaGreatDoorRefN6
import Derived.Test.YtkpcpclaadgnbaaGreatDoorCanon6
import Derived.Deep.QuietTactic
import Derived.BigQuiet
set_option linter.unusedVariables false
set_option linter.unusedSimpArgs false
namespace Go.Proofs.YtkpcpclaadgnbaaGreatDoor
open Go.RowKit Go.PlainAid

theorem itoa_size (n : Int) (h : I64 n) : (str (Lib.itoa n)).size ≤ 21 := by
  rw [str_size]
  exact itoa_len n h
theorem itoa_dig {n : Int} (h0 : 0 ≤ n) (h : n < 10) : Lib.itoa n = [UInt8.ofNat (48 + n.toNat)] := by
  rw [itoa_pos' h0, decDigits_small (by omega)]
theorem itoa_minus {n : Int} (h0 : n < 0) : Lib.itoa n = 45 :: Lib.itoa (-n) := by
  rw [itoa_neg' h0, itoa_pos' (by omega)]
  congr 2
  omega
theorem itoa_ten {q r : Int} (hq : 1 ≤ q) (h0 : 0 ≤ r) (h : r < 10) : Lib.itoa (10 * q + r) = Lib.itoa q ++ Lib.itoa r := by
  rw [itoa_pos' (by omega), itoa_pos' (by omega), itoa_dig h0 h, decDigits_big (by omega)]
  congr 2
  · congr 1; omega
  · congr 2; omega
set_option maxRecDepth 100000 in
set_option maxHeartbeats 2000000 in
theorem decPos : ∀ (m : Nat) (n : Int), n.natAbs ≤ m → 0 ≤ n → n ≤ 9223372036854775807 → ∀ w, Calls Tryz.prog 82 #[.int .i64 n] w fun e w' => e = .returned (.string (str (Lib.itoa n))) ∧ ∃ k, w.drewN k = w' := by
  intro m
  induction m using Nat.strongRecOn with
  | ind m ih =>
    intro n hm h0 hn w
    by_cases h1 : n < 10
    · have e2 : decide (n < 10) = true := by simpa using h1
      clear ih hm
      rcases (by omega : n = 0 ∨ n = 1 ∨ n = 2 ∨ n = 3 ∨ n = 4 ∨ n = 5 ∨ n = 6 ∨ n = 7 ∨ n = 8 ∨ n = 9) with rfl | rfl | rfl | rfl | rfl | rfl | rfl | rfl | rfl | rfl
      all_goals
        go_enter Tryz.func82, Tryz.ntmps82
        go_wp2
        go_ret
        refine ⟨congrArg (fun x => Ending.returned (.string x)) (data_inj ?_), 0, rfl⟩
        rw [str_data, itoa_dig (by omega) (by omega)]
        rfl
    · have e2 : decide (n < 10) = false := by simp; omega
      obtain ⟨q, hq⟩ : ∃ q, n / 10 = q := ⟨_, rfl⟩
      obtain ⟨r, hr⟩ : ∃ r, n % 10 = r := ⟨_, rfl⟩
      have hn' : n = 10 * q + r := by omega
      have hr0 : 0 ≤ r ∧ r < 10 := by omega
      have hq1 : 1 ≤ q := by omega
      have t1 : n.tdiv 10 = q := by rw [Int.tdiv_eq_ediv_of_nonneg h0]; exact hq
      have t2 : n.tmod 10 = r := by rw [Int.tmod_eq_emod_of_nonneg h0]; exact hr
      have hwq : IntKind.i64.wrap q = q := by rw [IntKind.wrap_i64]; omega
      have HC : Hid (∀ W, Calls Tryz.prog 82 #[.int .i64 q] W fun e w' => e = .returned (.string (str (Lib.itoa q))) ∧ ∃ k, W.drewN k = w') := fun W => ih q.natAbs (by omega) q (Nat.le_refl _) (by omega) (by omega) W
      have HE := Lib.hid (itoa_ten hq1 hr0.1 hr0.2)
      rw [← hn'] at HE
      have hqs : (str (Lib.itoa q)).size ≤ 21 := itoa_size q ⟨by omega, by omega⟩
      clear ih hm hq hr hn' hq1 h1 h0
      have hx0 : (⟨#[48, 49, 50, 51, 52, 53, 54, 55, 56, 57]⟩ : ByteArray).extract 0 1 = str [48] := rfl
      have hs0 : (str [48]).size = 1 := rfl
      have hx1 : (⟨#[48, 49, 50, 51, 52, 53, 54, 55, 56, 57]⟩ : ByteArray).extract 1 2 = str [49] := rfl
      have hs1 : (str [49]).size = 1 := rfl
      have hx2 : (⟨#[48, 49, 50, 51, 52, 53, 54, 55, 56, 57]⟩ : ByteArray).extract 2 3 = str [50] := rfl
      have hs2 : (str [50]).size = 1 := rfl
      have hx3 : (⟨#[48, 49, 50, 51, 52, 53, 54, 55, 56, 57]⟩ : ByteArray).extract 3 4 = str [51] := rfl
      have hs3 : (str [51]).size = 1 := rfl
      have hx4 : (⟨#[48, 49, 50, 51, 52, 53, 54, 55, 56, 57]⟩ : ByteArray).extract 4 5 = str [52] := rfl
      have hs4 : (str [52]).size = 1 := rfl
      have hx5 : (⟨#[48, 49, 50, 51, 52, 53, 54, 55, 56, 57]⟩ : ByteArray).extract 5 6 = str [53] := rfl
      have hs5 : (str [53]).size = 1 := rfl
      have hx6 : (⟨#[48, 49, 50, 51, 52, 53, 54, 55, 56, 57]⟩ : ByteArray).extract 6 7 = str [54] := rfl
      have hs6 : (str [54]).size = 1 := rfl
      have hx7 : (⟨#[48, 49, 50, 51, 52, 53, 54, 55, 56, 57]⟩ : ByteArray).extract 7 8 = str [55] := rfl
      have hs7 : (str [55]).size = 1 := rfl
      have hx8 : (⟨#[48, 49, 50, 51, 52, 53, 54, 55, 56, 57]⟩ : ByteArray).extract 8 9 = str [56] := rfl
      have hs8 : (str [56]).size = 1 := rfl
      have hx9 : (⟨#[48, 49, 50, 51, 52, 53, 54, 55, 56, 57]⟩ : ByteArray).extract 9 10 = str [57] := rfl
      have hs9 : (str [57]).size = 1 := rfl
      have hw1 : IntKind.i64.wrap 1 = 1 := by rw [IntKind.wrap_i64]; omega
      have hw2 : IntKind.i64.wrap 2 = 2 := by rw [IntKind.wrap_i64]; omega
      have hw3 : IntKind.i64.wrap 3 = 3 := by rw [IntKind.wrap_i64]; omega
      have hw4 : IntKind.i64.wrap 4 = 4 := by rw [IntKind.wrap_i64]; omega
      have hw5 : IntKind.i64.wrap 5 = 5 := by rw [IntKind.wrap_i64]; omega
      have hw6 : IntKind.i64.wrap 6 = 6 := by rw [IntKind.wrap_i64]; omega
      have hw7 : IntKind.i64.wrap 7 = 7 := by rw [IntKind.wrap_i64]; omega
      have hw8 : IntKind.i64.wrap 8 = 8 := by rw [IntKind.wrap_i64]; omega
      have hw9 : IntKind.i64.wrap 9 = 9 := by rw [IntKind.wrap_i64]; omega
      have hw10 : IntKind.i64.wrap 10 = 10 := by rw [IntKind.wrap_i64]; omega
      rcases (by omega : r = 0 ∨ r = 1 ∨ r = 2 ∨ r = 3 ∨ r = 4 ∨ r = 5 ∨ r = 6 ∨ r = 7 ∨ r = 8 ∨ r = 9) with rfl | rfl | rfl | rfl | rfl | rfl | rfl | rfl | rfl | rfl
      all_goals
        go_enter Tryz.func82, Tryz.ntmps82
        go_wp2_with fail
        go_quiet ((go_at_call 82; exact Calls.quiet_of ((HC.out _).mono fun e w' ⟨he, k, hk⟩ => ⟨he, k, hk.symm⟩)))
        go_wp2
        go_ret
        refine ⟨congrArg (fun x => Ending.returned (.string x)) (data_inj ?_), _, rfl⟩
        rw [cat_data, str_data, str_data, str_data, HE.out]
        congr 1
        rw [itoa_dig (by omega) (by omega)]
        rfl
theorem decimal6 (n : Int) (h0 : 0 ≤ n) (h1 : n ≤ 9223372036854775807) (w : World) : Calls Tryz.prog 82 #[.int .i64 n] w fun e w' => e = .returned (.string (str (Lib.itoa n))) ∧ Below w.heap.size w w' := by
  refine (decPos _ n (Nat.le_refl _) h0 h1 w).mono ?_
  rintro e w' ⟨rfl, k, rfl⟩
  exact ⟨rfl, below_drewN _ _⟩
set_option maxRecDepth 100000 in
set_option maxHeartbeats 1000000 in
theorem headerQ (v n : Int) (w : World) (hv0 : 0 ≤ v) (hv1 : v ≤ 1048576) (hn0 : 0 ≤ n) (hn1 : n ≤ 262144) : Calls Tryz.prog 42 #[.int .i64 v, .int .i64 n] w fun e w' => e = .returned (.string (str (hdS v n))) ∧ Below w.heap.size w w' := by
  have s1 : (str (Lib.itoa v)).size ≤ 21 := itoa_size v ⟨by omega, by omega⟩
  have s2 : (str (Lib.itoa n)).size ≤ 21 := itoa_size n ⟨by omega, by omega⟩
  have s3 : ((⟨#[112, 32, 99, 110, 102, 32]⟩ : ByteArray) ++ str (Lib.itoa v)).size ≤ 30 := by rw [cat_size]; show 6 + _ ≤ _; omega
  have s4 : (((⟨#[112, 32, 99, 110, 102, 32]⟩ : ByteArray) ++ str (Lib.itoa v)) ++ ⟨#[32]⟩).size ≤ 31 := by rw [cat_size]; show _ + 1 ≤ _; omega
  have s5 : (⟨#[112, 32, 99, 110, 102, 32]⟩ : ByteArray).size = 6 := rfl
  have s6 : (⟨#[32]⟩ : ByteArray).size = 1 := rfl
  go_enter Tryz.func42, Tryz.ntmps42
  go_wp2_with fail
  refine (decimal6 v hv0 (by omega) w).mono ?_
  rintro e w1 ⟨rfl, hb⟩
  have HB1 := Lib.hid hb
  clear hb
  go_wp2_with fail
  refine (decimal6 n hn0 (by omega) w1).mono ?_
  rintro e w2 ⟨rfl, hb⟩
  have HB2 := Lib.hid (bthen HB1.out hb)
  clear hb
  go_wp2
  go_ret
  refine ⟨congrArg (fun x => Ending.returned (.string x)) (data_inj ?_), HB2.out⟩
  rw [cat_data, cat_data, cat_data, str_data, str_data, str_data]
  unfold hdS
  simp
def decOf (N n : Nat) (out : List UInt8) : Prop := (n = 0 ∧ Lib.decDigits N = out) ∨ (1 ≤ n ∧ Lib.decDigits N = Lib.decDigits n ++ out)
theorem decOf.step {N n : Nat} {out : List UInt8} (h : decOf N n out) (hn : 1 ≤ n) : decOf N (n / 10) (UInt8.ofNat (48 + n % 10) :: out) := by
  rcases h with ⟨h0, _⟩ | ⟨_, h1⟩
  · omega
  · by_cases hb : n < 10
    · refine .inl ⟨by omega, ?_⟩
      rw [h1, decDigits_small hb, show n % 10 = n by omega]
      rfl
    · refine .inr ⟨by omega, ?_⟩
      rw [h1, decDigits_big (by omega), List.append_assoc]
      rfl
set_option maxRecDepth 100000 in
set_option maxHeartbeats 2000000 in
theorem decimal1 (N : Nat) (w : World) (hN : 1 ≤ N) (hN2 : N ≤ 1048576) : Calls Tryz.prog 108 #[.int .i64 (N : Int)] w fun e w' => e = .returned (.string (str (Lib.decDigits N))) ∧ w = w' := by
  go_enter Tryz.func108, Tryz.ntmps108
  go_wp2_with fail
  go_loopw [0, 3] (fun v0 v3 wr => ∃ (n : Nat) (out : List UInt8), v0 = .int .i64 n ∧ v3 = .string (str out) ∧ n ≤ 1048576 ∧ out.length ≤ 1048576 - n ∧ Hid (decOf N n out) ∧ w = wr) (fun v0 _ _ => (intOf v0).toNat)
  case atStart => exact ⟨N, [], rfl, rfl, hN2, Nat.zero_le _, .inr ⟨hN, by simp⟩, rfl⟩
  case round =>
    obtain ⟨n, out, rfl, rfl, hn, hol, HD, rfl⟩ := hrel
    by_cases h0 : 0 < n
    · have e1 : decide ((0 : Int) < (n : Int)) = true := by simp; omega
      have HS := Lib.hid (HD.out.step h0)
      obtain ⟨q, hq⟩ : ∃ q, n / 10 = q := ⟨_, rfl⟩
      obtain ⟨r, hr⟩ : ∃ r, n % 10 = r := ⟨_, rfl⟩
      rw [hq, hr] at HS
      have hr9 : r < 10 := by omega
      have hqn : q < n := by omega
      have t1 : (n : Int).tdiv 10 = (q : Int) := by rw [Int.tdiv_eq_ediv_of_nonneg (by omega)]; omega
      have t2 : (n : Int).tmod 10 = (r : Int) := by rw [Int.tmod_eq_emod_of_nonneg (by omega)]; omega
      have t3 : (n : Int) / 10 = (q : Int) := by omega
      have t4 : (n : Int) % 10 = (r : Int) := by omega
      have hwq : IntKind.i64.wrap (q : Int) = (q : Int) := by rw [IntKind.wrap_i64]; omega
      have hos : (str out).size ≤ 1048576 := by rw [str_size]; omega
      clear hq hr
      rcases (by omega : r = 0 ∨ r = 1 ∨ r = 2 ∨ r = 3 ∨ r = 4 ∨ r = 5 ∨ r = 6 ∨ r = 7 ∨ r = 8 ∨ r = 9) with rfl | rfl | rfl | rfl | rfl | rfl | rfl | rfl | rfl | rfl
      · have hx : (⟨#[48, 49, 50, 51, 52, 53, 54, 55, 56, 57]⟩ : ByteArray).extract 0 1 = str [48] := rfl
        have hxs : (str [48]).size = 1 := rfl
        have HO : Hid (str [48] ++ str out = str (UInt8.ofNat (48 + 0) :: out)) := data_inj (by rw [cat_data, str_data, str_data, str_data]; rfl)
        go_wp2_with fail
        go_roundw
        case rel => exact ⟨q, UInt8.ofNat (48 + 0) :: out, rfl, by rw [HO.out], by omega, by simp; omega, HS, trivial⟩
        case measure => simp [intOf]; omega
      · have hx : (⟨#[48, 49, 50, 51, 52, 53, 54, 55, 56, 57]⟩ : ByteArray).extract 1 2 = str [49] := rfl
        have hxs : (str [49]).size = 1 := rfl
        have HO : Hid (str [49] ++ str out = str (UInt8.ofNat (48 + 1) :: out)) := data_inj (by rw [cat_data, str_data, str_data, str_data]; rfl)
        go_wp2_with fail
        go_roundw
        case rel => exact ⟨q, UInt8.ofNat (48 + 1) :: out, rfl, by rw [HO.out], by omega, by simp; omega, HS, trivial⟩
        case measure => simp [intOf]; omega
      · have hx : (⟨#[48, 49, 50, 51, 52, 53, 54, 55, 56, 57]⟩ : ByteArray).extract 2 3 = str [50] := rfl
        have hxs : (str [50]).size = 1 := rfl
        have HO : Hid (str [50] ++ str out = str (UInt8.ofNat (48 + 2) :: out)) := data_inj (by rw [cat_data, str_data, str_data, str_data]; rfl)
        go_wp2_with fail
        go_roundw
        case rel => exact ⟨q, UInt8.ofNat (48 + 2) :: out, rfl, by rw [HO.out], by omega, by simp; omega, HS, trivial⟩
        case measure => simp [intOf]; omega
      · have hx : (⟨#[48, 49, 50, 51, 52, 53, 54, 55, 56, 57]⟩ : ByteArray).extract 3 4 = str [51] := rfl
        have hxs : (str [51]).size = 1 := rfl
        have HO : Hid (str [51] ++ str out = str (UInt8.ofNat (48 + 3) :: out)) := data_inj (by rw [cat_data, str_data, str_data, str_data]; rfl)
        go_wp2_with fail
        go_roundw
        case rel => exact ⟨q, UInt8.ofNat (48 + 3) :: out, rfl, by rw [HO.out], by omega, by simp; omega, HS, trivial⟩
        case measure => simp [intOf]; omega
      · have hx : (⟨#[48, 49, 50, 51, 52, 53, 54, 55, 56, 57]⟩ : ByteArray).extract 4 5 = str [52] := rfl
        have hxs : (str [52]).size = 1 := rfl
        have HO : Hid (str [52] ++ str out = str (UInt8.ofNat (48 + 4) :: out)) := data_inj (by rw [cat_data, str_data, str_data, str_data]; rfl)
        go_wp2_with fail
        go_roundw
        case rel => exact ⟨q, UInt8.ofNat (48 + 4) :: out, rfl, by rw [HO.out], by omega, by simp; omega, HS, trivial⟩
        case measure => simp [intOf]; omega
      · have hx : (⟨#[48, 49, 50, 51, 52, 53, 54, 55, 56, 57]⟩ : ByteArray).extract 5 6 = str [53] := rfl
        have hxs : (str [53]).size = 1 := rfl
        have HO : Hid (str [53] ++ str out = str (UInt8.ofNat (48 + 5) :: out)) := data_inj (by rw [cat_data, str_data, str_data, str_data]; rfl)
        go_wp2_with fail
        go_roundw
        case rel => exact ⟨q, UInt8.ofNat (48 + 5) :: out, rfl, by rw [HO.out], by omega, by simp; omega, HS, trivial⟩
        case measure => simp [intOf]; omega
      · have hx : (⟨#[48, 49, 50, 51, 52, 53, 54, 55, 56, 57]⟩ : ByteArray).extract 6 7 = str [54] := rfl
        have hxs : (str [54]).size = 1 := rfl
        have HO : Hid (str [54] ++ str out = str (UInt8.ofNat (48 + 6) :: out)) := data_inj (by rw [cat_data, str_data, str_data, str_data]; rfl)
        go_wp2_with fail
        go_roundw
        case rel => exact ⟨q, UInt8.ofNat (48 + 6) :: out, rfl, by rw [HO.out], by omega, by simp; omega, HS, trivial⟩
        case measure => simp [intOf]; omega
      · have hx : (⟨#[48, 49, 50, 51, 52, 53, 54, 55, 56, 57]⟩ : ByteArray).extract 7 8 = str [55] := rfl
        have hxs : (str [55]).size = 1 := rfl
        have HO : Hid (str [55] ++ str out = str (UInt8.ofNat (48 + 7) :: out)) := data_inj (by rw [cat_data, str_data, str_data, str_data]; rfl)
        go_wp2_with fail
        go_roundw
        case rel => exact ⟨q, UInt8.ofNat (48 + 7) :: out, rfl, by rw [HO.out], by omega, by simp; omega, HS, trivial⟩
        case measure => simp [intOf]; omega
      · have hx : (⟨#[48, 49, 50, 51, 52, 53, 54, 55, 56, 57]⟩ : ByteArray).extract 8 9 = str [56] := rfl
        have hxs : (str [56]).size = 1 := rfl
        have HO : Hid (str [56] ++ str out = str (UInt8.ofNat (48 + 8) :: out)) := data_inj (by rw [cat_data, str_data, str_data, str_data]; rfl)
        go_wp2_with fail
        go_roundw
        case rel => exact ⟨q, UInt8.ofNat (48 + 8) :: out, rfl, by rw [HO.out], by omega, by simp; omega, HS, trivial⟩
        case measure => simp [intOf]; omega
      · have hx : (⟨#[48, 49, 50, 51, 52, 53, 54, 55, 56, 57]⟩ : ByteArray).extract 9 10 = str [57] := rfl
        have hxs : (str [57]).size = 1 := rfl
        have HO : Hid (str [57] ++ str out = str (UInt8.ofNat (48 + 9) :: out)) := data_inj (by rw [cat_data, str_data, str_data, str_data]; rfl)
        go_wp2_with fail
        go_roundw
        case rel => exact ⟨q, UInt8.ofNat (48 + 9) :: out, rfl, by rw [HO.out], by omega, by simp; omega, HS, trivial⟩
        case measure => simp [intOf]; omega
    · have e1 : decide ((0 : Int) < (n : Int)) = false := by simp; omega
      have E : Hid (Lib.decDigits N = out) := by
        rcases HD.out with ⟨_, h⟩ | ⟨h, _⟩
        · exact h
        · omega
      go_wp2_with fail
      go_ret
      exact ⟨by rw [E.out]; rfl, rfl⟩
set_option maxRecDepth 100000 in
theorem textQ (l : Int) (w : World) (hb : litB l = true) : Calls Tryz.prog 81 #[.int .i64 l] w fun e w' => e = .returned (.string (str (Lib.itoa l))) ∧ w = w' := by
  obtain ⟨h0, h1, h2⟩ := lit_parts hb
  by_cases hn : l < 0
  · obtain ⟨m, hm⟩ : ∃ m : Nat, -l = (m : Int) := ⟨l.natAbs, by omega⟩
    have e1 : decide (l < 0) = true := by simpa using hn
    have hw : IntKind.i64.wrap (-l) = (m : Int) := by rw [IntKind.wrap_i64]; omega
    have E : Hid (Lib.itoa l = 45 :: Lib.decDigits m) := by show _ = _; rw [itoa_neg' hn]; congr 2; omega
    have hd := decimal1 m w (by omega) (by omega)
    have HD := Lib.hid hd
    have s1 : (str (Lib.decDigits m)).size ≤ 30 := by
      have := itoa_size l ⟨by omega, by omega⟩
      rw [str_size, E.out] at this
      rw [str_size]
      simp at this
      omega
    have s2 : (⟨#[45]⟩ : ByteArray).size = 1 := rfl
    clear hd h0 h1 h2 hn
    go_enter Tryz.func81, Tryz.ntmps81
    go_wp2_with fail
    refine (litRightQ l w).mono ?_
    rintro e w' ⟨rfl, rfl⟩
    rw [hb]
    clear hm
    go_wp2_with fail
    refine HD.out.mono ?_
    rintro e w' ⟨rfl, rfl⟩
    go_wp2
    go_ret
    refine ⟨congrArg (fun x => Ending.returned (.string x)) (data_inj ?_), rfl⟩
    rw [cat_data, str_data, str_data, E.out]
    rfl
  · obtain ⟨m, rfl⟩ : ∃ m : Nat, l = (m : Int) := ⟨l.toNat, by omega⟩
    have e1 : decide ((m : Int) < 0) = false := by simp
    have E : Hid (Lib.itoa (m : Int) = Lib.decDigits m) := by show _ = _; rw [itoa_pos' (by omega)]; rfl
    have HD := Lib.hid (decimal1 m w (by omega) (by omega))
    clear h0 h1 h2 hn
    go_enter Tryz.func81, Tryz.ntmps81
    go_wp2_with fail
    refine (litRightQ (m : Int) w).mono ?_
    rintro e w' ⟨rfl, rfl⟩
    rw [hb]
    go_wp2_with fail
    refine HD.out.mono ?_
    rintro e w' ⟨rfl, rfl⟩
    go_wp2
    go_ret
    exact ⟨by rw [E.out]; rfl, rfl⟩
theorem str_cat6 (a b : List UInt8) : str a ++ str b = str (a ++ b) := data_inj (by rw [cat_data, str_data, str_data, str_data])
theorem str_snoc6 (a : List UInt8) (b : UInt8) : str a ++ ⟨#[b]⟩ = str (a ++ [b]) := data_inj (by rw [cat_data, str_data, str_data])
theorem lnP_lenQ {c : List Int} (h : ∀ l ∈ c, litB l = true) (k : Nat) : (lnP (c.take k)).length ≤ 22 * c.length := by
  have h1 := ln_len (c := c.take k) (fun l hl => h l (List.mem_of_mem_take hl))
  have h2 : (lnS (c.take k)).length = (lnP (c.take k)).length + 1 := by
    unfold lnS lnP
    simp
  have h3 : (c.take k).length ≤ c.length := by rw [List.length_take]; omega
  omega
set_option maxRecDepth 100000 in
set_option maxHeartbeats 1000000 in
theorem lineQ (A : Option Addr) (n c : Nat) (l : List Int) (w : World) (h : Hid (IntsAt w ⟨A, n, c⟩ l)) (hr : Hid (∀ x ∈ l, litB x = true)) (hn : n ≤ 5000) :
    Calls Tryz.prog 41 #[.slice A n c] w fun e w' => e = .returned (.string (str (lnS l))) ∧ w = w' := by
  have HL : Hid (l.length = n) := h.out.2.1
  have s1 : (⟨#[32]⟩ : ByteArray).size = 1 := rfl
  have s2 : (⟨#[48]⟩ : ByteArray).size = 1 := rfl
  go_enter Tryz.func41, Tryz.ntmps41
  go_wp2_with fail
  go_loopw [3, 4] (fun v3 v4 wr => ∃ (k : Nat), k ≤ n ∧ v4 = .int .i64 k ∧ v3 = .string (str (lnP (l.take k))) ∧ w = wr) (fun _ v4 _ => n - (intOf v4).toNat)
  case atStart => exact ⟨0, Nat.zero_le _, rfl, rfl, rfl⟩
  case round =>
    obtain ⟨k, hk, rfl, rfl, rfl⟩ := hrel
    have s3 : (str (lnP (l.take k))).size ≤ 110000 := by
      have h1 := lnP_lenQ hr.out k
      rw [HL.out] at h1
      rw [str_size]
      omega
    by_cases hlt : k < n
    · have e1 : decide ((k : Int) < (n : Int)) = true := by simp; omega
      have hki : (k : Int) < (n : Int) := by omega
      obtain ⟨b, off, x, rfl, hx, hcx⟩ := h.out.1.getm HL.out hlt
      have hxb := hr.out x (List.mem_of_getElem? hx)
      have s4 : (str (Lib.itoa x)).size ≤ 21 := itoa_size x (lit_i64 hxb)
      have s5 : (str (lnP (l.take k)) ++ str (Lib.itoa x)).size ≤ 110021 := by rw [cat_size]; omega
      have HX := Lib.hid hx
      clear hx
      go_wp2_with fail
      refine (textQ x w hxb).mono ?_
      rintro e w' ⟨rfl, rfl⟩
      go_wp2_with fail
      go_roundw
      case rel =>
        refine ⟨k + 1, by omega, by go_num, ?_, trivial⟩
        rw [lnP_take HX.out, ← str_cat6, ← str_snoc6]
        congr 1
        exact data_inj (by simp only [cat_data, str_data, List.append_assoc])
      case measure => simp [intOf]; omega
    · obtain rfl : k = n := by omega
      have e1 : decide ((k : Int) < (k : Int)) = false := by simp
      have HT : Hid (l.take k = l) := List.take_of_length_le (by rw [HL.out]; exact Nat.le_refl _)
      go_wp2_with fail
      go_ret
      refine ⟨congrArg (fun x => Ending.returned (.string x)) (data_inj ?_), rfl⟩
      rw [cat_data, str_data, str_data, HT.out]
      rfl
set_option maxRecDepth 100000 in
set_option maxHeartbeats 2000000 in
theorem writeQ6 (v : Int) (A : Option Addr) (n c : Nat) (Q : List (SV × List Int)) (F : Fm) (w : World) (h : Hid (ClsAt w A n Q)) (hF : Hid ((⟨v, clsOf Q⟩ : Fm) = F)) (hk : Hid (FmK F)) :
    Calls Tryz.prog 38 #[.agg #[.int .i64 v, .slice A n c]] w fun e w' => e = .returned (.tuple #[.string (str (textD F)), .int .i64 0]) ∧ Below w.heap.size w w' := by
  obtain ⟨⟨v0, v1⟩, c1, hg⟩ := checkD_ok.1 hk.out.ok
  have hFv : F.vars = v := by rw [← hF.out]
  have hFn : F.cls.length = n := by rw [← hF.out]; show (clsOf Q).length = n; rw [clsOf_len]; exact h.out.len
  rw [hFv] at v0 v1
  rw [hFn] at c1
  have HG := Lib.hid hg
  have HFV := Lib.hid hFv
  have HFN := Lib.hid hFn
  have HT0 : Hid (str (hdS v n) ++ ⟨#[10]⟩ = str (txP F 0)) := data_inj (by
    rw [cat_data, str_data, str_data]
    unfold txP
    rw [HFV.out, HFN.out]
    rfl)
  have hsz := hk.out.sz
  have s0 : (str (hdS v n)).size ≤ 50 := by rw [str_size]; exact hd_len ⟨by omega, by omega⟩ ⟨by omega, by omega⟩
  have s1 : (⟨#[10]⟩ : ByteArray).size = 1 := rfl
  have HX := Lib.hid (Bk.new w 69 #[.int .i64 v, .slice A n c])
  have HB0 : Hid (Below w.heap.size w (w.alloc (.cells #[.int .i64 v, .slice A n c] 69))) := balloc (Below.refl _ _) _
  clear hg hFv hFn
  go_enter Tryz.func38, Tryz.ntmps38
  go_upto_region 1 with fail
  generalize (w.alloc (.cells #[.int .i64 v, .slice A n c] 69)) = W0 at *
  obtain ⟨p, hp⟩ : ∃ p, w.heap.size = p := ⟨_, rfl⟩
  have HC0 := Lib.hid (h.out.below HB0.out)
  rw [hp] at HX ⊢
  clear hp
  obtain ⟨x0, x1⟩ := cells2 HX.out
  go_wp2_with fail
  refine (headerQ v n W0 v0 v1 (by omega) (by omega)).mono ?_
  rintro e w1 ⟨rfl, hb⟩
  have HB1 := Lib.hid hb
  have HX1 := Lib.hid (bkbel HX.out hb)
  clear hb x0 x1
  go_upto_region 2 with fail
  rw [HT0.out]
  go_upto_region 3 with fail
  go_loopw [4, 5] (fun v4 v5 wr => ∃ (k : Nat), k ≤ n ∧ v5 = .int .i64 k ∧ v4 = .string (str (txP F k)) ∧ w1 = wr) (fun _ v5 _ => n - (intOf v5).toNat)
  case atStart => exact ⟨0, Nat.zero_le _, rfl, rfl, rfl⟩
  case round =>
    obtain ⟨k, hk', rfl, rfl, rfl⟩ := hrel
    obtain ⟨x0, x1⟩ := cells2 HX1.out
    have s3 : (str (txP F k)).size ≤ 100000 := by rw [str_size]; have := txP_le F k; omega
    by_cases hlt : k < n
    · have e1 : decide ((k : Int) < (n : Int)) = true := by simp; omega
      have hki : (k : Int) < (n : Int) := by omega
      obtain ⟨b, off, sA, sn, sc, l, rfl, hq, hbl, y0, hia⟩ := (HC0.out.below HB1.out).at hlt
      have hFl : F.cls[k]? = some l := by rw [← hF.out]; exact clsOf_at hq
      have hgl := HG.out l (List.mem_of_getElem? hFl)
      have hlb : ∀ x ∈ l, litB x = true := fun x hx => (lit_in (hgl.2 x hx)).1
      have hsn : sn ≤ 5000 := by have h1 := hia.2.1; have h2 := hgl.1; dsimp only at h1; omega
      have HIA := Lib.hid hia
      have HLB := Lib.hid hlb
      have HTK : Hid ((str (txP F k) ++ str (lnS l)) ++ ⟨#[10]⟩ = str (txP F (k + 1))) := data_inj (by
        rw [cat_data, cat_data, str_data, str_data, str_data, txP_take hFl, List.append_assoc])
      have s6 : (str (txP F (k + 1))).size ≤ 100000 := by rw [str_size]; have := txP_le F (k + 1); omega
      have s7 : ((str (txP F k) ++ str (lnS l)) ++ ⟨#[10]⟩).size ≤ 100000 := by rw [HTK.out]; exact s6
      have s8 : (str (txP F k) ++ str (lnS l)).size ≤ 100000 := by rw [cat_size] at s7; omega
      have s9 : (str (lnS l)).size ≤ 100000 := by rw [cat_size] at s8; omega
      have e2 : decide ((4194304 : Int) < ((str (txP F (k + 1))).size : Int)) = false := by simp; omega
      clear hq hia hFl hgl hlb
      go_wp2_with fail
      refine (lineQ sA sn sc l w1 HIA HLB hsn).mono ?_
      rintro e w' ⟨rfl, rfl⟩
      go_upto_region 6 with fail
      rw [HTK.out]
      go_wp2_with fail
      go_roundw
      case rel => exact ⟨k + 1, by omega, by go_num, rfl, trivial⟩
      case measure => simp [intOf]; omega
    · obtain rfl : k = n := by omega
      have e1 : decide ((k : Int) < (k : Int)) = false := by simp
      have HTX : Hid (txP F k = textD F) := txP_all F (by rw [HFN.out]; exact Nat.le_refl _)
      rw [HTX.out]
      go_wp2_with fail
      go_ret2
      exact ⟨rfl, bthen HB0.out HB1.out⟩
end Go.Proofs.YtkpcpclaadgnbaaGreatDoor
