/-
  The walks of package tokens' small functions: letter, digit, part, skip, digits, sign.
-/
import Derived.Test.YtehcpcpmcngnjaaDoorBase30
import Derived.Test.YtehcpcpmcngnjaaDoorTokQ
set_option linter.unusedVariables false
set_option linter.unusedSimpArgs false
namespace Go.Proofs.YtehcpcpmcngnjaaDoor
open Go.RowKit Go.PlainAid

theorem ret_n {a b : Nat} (h : a = b) : Ending.returned (.int .i64 (a : Int)) = .returned (.int .i64 (b : Int)) := by rw [h]
set_option maxRecDepth 100000 in
theorem letterC (c : UInt8) (w : World) : Calls Tryd.prog 63 #[.int .u8 (c.toNat : Int)] w fun e w' => e = .returned (.bool (letterB c)) ∧ w = w' := by
  have hE : letterB c = (decide (97 ≤ c.toNat) && decide (c.toNat ≤ 122)) := rfl
  obtain ⟨n, hn⟩ : ∃ n, c.toNat = n := ⟨_, rfl⟩
  rw [hn] at hE ⊢
  clear hn
  by_cases h1 : 97 ≤ n
  · by_cases h2 : n ≤ 122
    · have e1 : decide ((97 : Int) ≤ (n : Int)) = true := by simp; omega
      have e2 : decide ((n : Int) ≤ 122) = true := by simp; omega
      have E : Hid (letterB c = true) := by show _ = _; rw [hE]; simp [h1, h2]
      clear hE
      go_enter Tryd.func63, Tryd.ntmps63
      go_wp2
      go_ret
      exact ⟨ret_bool E.out.symm, rfl⟩
    · have e1 : decide ((97 : Int) ≤ (n : Int)) = true := by simp; omega
      have e2 : decide ((n : Int) ≤ 122) = false := by simp; omega
      have E : Hid (letterB c = false) := by show _ = _; rw [hE]; simp [h2]
      clear hE
      go_enter Tryd.func63, Tryd.ntmps63
      go_wp2
      go_ret
      exact ⟨ret_bool E.out.symm, rfl⟩
  · have e1 : decide ((97 : Int) ≤ (n : Int)) = false := by simp; omega
    have E : Hid (letterB c = false) := by show _ = _; rw [hE]; simp [h1]
    clear hE
    go_enter Tryd.func63, Tryd.ntmps63
    go_wp2
    go_ret
    exact ⟨ret_bool E.out.symm, rfl⟩
set_option maxRecDepth 100000 in
theorem digitC (c : UInt8) (w : World) : Calls Tryd.prog 65 #[.int .u8 (c.toNat : Int)] w fun e w' => e = .returned (.bool (digitB c)) ∧ w = w' := by
  have hE : digitB c = (decide (48 ≤ c.toNat) && decide (c.toNat ≤ 57)) := rfl
  obtain ⟨n, hn⟩ : ∃ n, c.toNat = n := ⟨_, rfl⟩
  rw [hn] at hE ⊢
  clear hn
  by_cases h1 : 48 ≤ n
  · by_cases h2 : n ≤ 57
    · have e1 : decide ((48 : Int) ≤ (n : Int)) = true := by simp; omega
      have e2 : decide ((n : Int) ≤ 57) = true := by simp; omega
      have E : Hid (digitB c = true) := by show _ = _; rw [hE]; simp [h1, h2]
      clear hE
      go_enter Tryd.func65, Tryd.ntmps65
      go_wp2
      go_ret
      exact ⟨ret_bool E.out.symm, rfl⟩
    · have e1 : decide ((48 : Int) ≤ (n : Int)) = true := by simp; omega
      have e2 : decide ((n : Int) ≤ 57) = false := by simp; omega
      have E : Hid (digitB c = false) := by show _ = _; rw [hE]; simp [h2]
      clear hE
      go_enter Tryd.func65, Tryd.ntmps65
      go_wp2
      go_ret
      exact ⟨ret_bool E.out.symm, rfl⟩
  · have e1 : decide ((48 : Int) ≤ (n : Int)) = false := by simp; omega
    have E : Hid (digitB c = false) := by show _ = _; rw [hE]; simp [h1]
    clear hE
    go_enter Tryd.func65, Tryd.ntmps65
    go_wp2
    go_ret
    exact ⟨ret_bool E.out.symm, rfl⟩
set_option maxRecDepth 100000 in
theorem partC (c : UInt8) (w : World) : Calls Tryd.prog 64 #[.int .u8 (c.toNat : Int)] w fun e w' => e = .returned (.bool (partB c)) ∧ w = w' := by
  have hE : partB c = (decide (c.toNat = 46) || (decide (c.toNat = 95) || (letterB c || digitB c))) := rfl
  have HLC := Lib.hid fun w => letterC c w
  have HDC := Lib.hid fun w => digitC c w
  obtain ⟨n, hn⟩ : ∃ n, c.toNat = n := ⟨_, rfl⟩
  obtain ⟨lb, hlb⟩ : ∃ b, letterB c = b := ⟨_, rfl⟩
  obtain ⟨db, hdb⟩ : ∃ b, digitB c = b := ⟨_, rfl⟩
  rw [hn, hlb] at HLC
  rw [hn, hdb] at HDC
  rw [hn, hlb, hdb] at hE
  rw [hn]
  clear hn hlb hdb
  by_cases h1 : n = 46
  · have e1 : ((n : Int) == 46) = true := by simp; omega
    have E : Hid (partB c = true) := by show _ = _; rw [hE]; simp [h1]
    clear hE h1
    go_enter Tryd.func64, Tryd.ntmps64
    go_wp2
    go_ret
    exact ⟨ret_bool E.out.symm, rfl⟩
  · have e1 : ((n : Int) == 46) = false := by simp; omega
    by_cases h2 : n = 95
    · have e2 : ((n : Int) == 95) = true := by simp; omega
      have E : Hid (partB c = true) := by show _ = _; rw [hE]; simp [h2]
      clear hE h1 h2
      go_enter Tryd.func64, Tryd.ntmps64
      go_wp2
      go_ret
      exact ⟨ret_bool E.out.symm, rfl⟩
    · have e2 : ((n : Int) == 95) = false := by simp; omega
      have E : Hid (partB c = (lb || db)) := by show _ = _; rw [hE]; simp [h1, h2]
      clear hE h1 h2
      cases lb with
      | true =>
        go_enter Tryd.func64, Tryd.ntmps64
        go_wp2_with fail
        refine (HLC.out w).mono ?_
        rintro e w' ⟨rfl, rfl⟩
        go_wp2
        go_ret
        exact ⟨ret_bool E.out.symm, rfl⟩
      | false =>
        go_enter Tryd.func64, Tryd.ntmps64
        go_wp2_with fail
        refine (HLC.out w).mono ?_
        rintro e w' ⟨rfl, rfl⟩
        go_wp2_with fail
        refine (HDC.out w).mono ?_
        rintro e w' ⟨rfl, rfl⟩
        cases db with
        | true =>
          go_wp2
          go_ret
          exact ⟨ret_bool E.out.symm, rfl⟩
        | false =>
          go_wp2
          go_ret
          exact ⟨ret_bool E.out.symm, rfl⟩
set_option maxRecDepth 100000 in
set_option maxHeartbeats 1000000 in
theorem digitsC (s : ByteArray) (a : Nat) (w : World) (ha : a ≤ s.size) (hs : s.size ≤ 100000000) :
    Calls Tryd.prog 66 #[.string s, .int .i64 (a : Int)] w fun e w' => e = .returned (.int .i64 (dgAt s.data.toList a : Int)) ∧ w = w' := by
  go_enter Tryd.func66, Tryd.ntmps66
  go_wp2_with fail
  go_loopw [1] (fun v1 wr => ∃ k : Nat, v1 = .int .i64 k ∧ k ≤ s.size ∧ Hid (dgAt s.data.toList k = dgAt s.data.toList a) ∧ w = wr) (fun v1 _ => s.size - (intOf v1).toNat)
  case atStart => exact ⟨a, rfl, ha, rfl, rfl⟩
  case round =>
    obtain ⟨k, rfl, hk, HK, rfl⟩ := hrel
    by_cases hlt : k < s.size
    · have e1 : decide ((k : Int) < (s.size : Int)) = true := by simp; omega
      have hki : (k : Int) < (s.size : Int) := by omega
      obtain ⟨c, hc, hbc⟩ := bt_get hlt
      have hg := get_bt s k hlt
      cases hd : digitB c with
      | true =>
        have HK2 : Hid (dgAt s.data.toList (k + 1) = dgAt s.data.toList a) := (dgAt_hit hc hd).symm.trans HK.out
        have HC := Lib.hid fun w => hd ▸ digitC c w
        clear hc hd
        go_wp2_with fail
        refine (HC.out w).mono ?_
        rintro e w' ⟨rfl, rfl⟩
        go_wp2_with fail
        go_roundw
        case rel => exact ⟨k + 1, by go_num, by omega, HK2, trivial⟩
        case measure => simp [intOf]; omega
      | false =>
        have E : Hid (dgAt s.data.toList a = k) := HK.out.symm.trans (dgAt_stop hc hd)
        have HC := Lib.hid fun w => hd ▸ digitC c w
        clear hc hd
        go_wp2_with fail
        refine (HC.out w).mono ?_
        rintro e w' ⟨rfl, rfl⟩
        go_wp2_with fail
        go_ret
        exact ⟨ret_n E.out.symm, rfl⟩
    · have e1 : decide ((k : Int) < (s.size : Int)) = false := by simp; omega
      have E : Hid (dgAt s.data.toList a = k) := HK.out.symm.trans (dgAt_end (by rw [data_len]; omega))
      go_wp2_with fail
      go_ret
      exact ⟨ret_n E.out.symm, rfl⟩
set_option maxRecDepth 100000 in
set_option maxHeartbeats 1000000 in
theorem skipC (s : ByteArray) (a : Nat) (w : World) (ha : a ≤ s.size) (hs : s.size ≤ 100000000) :
    Calls Tryd.prog 56 #[.string s, .int .i64 (a : Int)] w fun e w' => e = .returned (.int .i64 (skAt s.data.toList a : Int)) ∧ w = w' := by
  go_enter Tryd.func56, Tryd.ntmps56
  go_wp2_with fail
  go_step3
  go_wp2_with fail
  go_step3
  go_wp2_with fail
  go_loopw [1] (fun v1 wr => ∃ k : Nat, v1 = .int .i64 k ∧ k ≤ s.size ∧ Hid (skAt s.data.toList k = skAt s.data.toList a) ∧ w = wr) (fun v1 _ => s.size - (intOf v1).toNat)
  case atStart => exact ⟨a, rfl, ha, rfl, rfl⟩
  case round =>
    obtain ⟨k, rfl, hk, HK, rfl⟩ := hrel
    by_cases hlt : k < s.size
    · have e1 : decide ((k : Int) < (s.size : Int)) = true := by simp; omega
      have hki : (k : Int) < (s.size : Int) := by omega
      obtain ⟨c, hc, hbc⟩ := bt_get hlt
      have hg := get_bt s k hlt
      by_cases h35 : c.toNat = 35
      · have e2 : ((c.toNat : Int) == 35) = true := by simp; omega
        have hr := skAt_rem hc h35
        have hx := ext_data s k
        obtain ⟨t, ht⟩ : ∃ t, s.extract k s.size = t := ⟨_, rfl⟩
        rw [ht] at hx
        rw [← hx] at hr
        have HI := Lib.hid fun w => Tryd.strings_IndexByte t 10 w
        rcases hr with ⟨h1, h2⟩ | ⟨n, h1, hn, hn2, h2⟩
        · have E : Hid (skAt s.data.toList s.size = skAt s.data.toList a) := by
            show _ = _
            rw [← HK.out, h2, skAt_end (by rw [data_len]; exact Nat.le_refl _), data_len]
          have HI2 : Hid (∀ w, Calls Tryd.prog 62 #[.string t, .int .u8 10] w fun e w' => e = .returned (.int .i64 (-1)) ∧ w' = w) := fun w => by
            have := HI.out w
            rw [show Lib.indexByte t.data.toList (10 : Int).toNat.toUInt8 = -1 from h1] at this
            exact this
          clear hx h1 h2 hc HI
          go_wp2_with fail
          refine (HI2.out w).mono ?_
          rintro e w' ⟨rfl, rfl⟩
          go_wp2_with fail
          go_roundw
          case rel => exact ⟨s.size, rfl, Nat.le_refl _, E, trivial⟩
          case measure => simp [intOf]; omega
        · have E : Hid (skAt s.data.toList (k + n) = skAt s.data.toList a) := h2.symm.trans HK.out
          have hn3 : k + n ≤ s.size := by rw [data_len] at hn2; omega
          have e4 : decide ((0 : Int) ≤ (n : Int)) = true := by simp
          have HI2 : Hid (∀ w, Calls Tryd.prog 62 #[.string t, .int .u8 10] w fun e w' => e = .returned (.int .i64 (n : Int)) ∧ w' = w) := fun w => by
            have := HI.out w
            rw [show Lib.indexByte t.data.toList (10 : Int).toNat.toUInt8 = (n : Int) from h1] at this
            exact this
          clear hx h1 h2 hc HI hn2
          go_wp2_with fail
          refine (HI2.out w).mono ?_
          rintro e w' ⟨rfl, rfl⟩
          go_wp2_with fail
          go_roundw
          case rel => exact ⟨k + n, by go_num, hn3, E, trivial⟩
          case measure => simp [intOf]; omega
      · have e2 : ((c.toNat : Int) == 35) = false := by simp; omega
        cases hb : blankB c with
        | true =>
          have E : Hid (skAt s.data.toList (k + 1) = skAt s.data.toList a) := (skAt_blank hc h35 hb).symm.trans HK.out
          have hor : c.toNat = 9 ∨ c.toNat = 10 ∨ c.toNat = 13 ∨ c.toNat = 32 := by
            unfold blankB at hb
            simpa using hb
          clear hc hb h35
          rcases hor with h | h | h | h
          all_goals
            rw [h] at e2 hbc
            go_wp2_with fail
            go_roundw
            case rel => exact ⟨k + 1, by go_num, by omega, E, trivial⟩
            case measure => simp [intOf]; omega
        | false =>
          have E : Hid (skAt s.data.toList a = k) := HK.out.symm.trans (skAt_stop hc h35 hb)
          have hor : c.toNat ≠ 9 ∧ c.toNat ≠ 10 ∧ c.toNat ≠ 13 ∧ c.toNat ≠ 32 := by
            unfold blankB at hb
            simpa using hb
          have e3 : ((c.toNat : Int) == 9) = false := by simp; omega
          have e4 : ((c.toNat : Int) == 10) = false := by simp; omega
          have e5 : ((c.toNat : Int) == 13) = false := by simp; omega
          have e6 : ((c.toNat : Int) == 32) = false := by simp; omega
          clear hc hb h35 hor
          go_wp2_with fail
          try rw [Exit.noGoto_ret]
          go_ret
          exact ⟨ret_n E.out.symm, rfl⟩
    · have e1 : decide ((k : Int) < (s.size : Int)) = false := by simp; omega
      have E : Hid (skAt s.data.toList a = k) := HK.out.symm.trans (skAt_end (by rw [data_len]; omega))
      go_wp2_with fail
      try rw [Exit.noGoto_ret]
      go_ret
      exact ⟨ret_n E.out.symm, rfl⟩
/-! ### signs -/
def pairsS : ByteArray := ⟨#[60, 60, 62, 62, 61, 61, 33, 61, 60, 61]⟩
theorem signF_hit {t : List UInt8} {f k : Nat} (h : (pairT k).isPrefixOf t = true) : signF t (f + 1) k = 2 := by simp only [signF, if_pos h]
theorem signF_miss {t : List UInt8} {f k : Nat} (h : (pairT k).isPrefixOf t = false) : signF t (f + 1) k = signF t f (k + 1) := by simp only [signF, h]; rfl
theorem hasPrefix_is (l p : List UInt8) : Lib.hasPrefix l p = p.isPrefixOf l := by
  first | rfl | (unfold Lib.hasPrefix; rfl) | skip
set_option maxRecDepth 100000 in
set_option maxHeartbeats 1000000 in
theorem signC (s : ByteArray) (w : World) (hs0 : 0 < s.size) (hs : s.size ≤ 100000000) :
    Calls Tryd.prog 67 #[.string s] w fun e w' => e = .returned (.int .i64 (signT s.data.toList : Int)) ∧ w = w' := by
  have hx0 : (⟨#[60, 60, 62, 62, 61, 61, 33, 61, 60, 61]⟩ : ByteArray).extract 0 2 = str (pairT 0) := rfl
  have hx1 : (⟨#[60, 60, 62, 62, 61, 61, 33, 61, 60, 61]⟩ : ByteArray).extract 2 4 = str (pairT 1) := rfl
  have hx2 : (⟨#[60, 60, 62, 62, 61, 61, 33, 61, 60, 61]⟩ : ByteArray).extract 4 6 = str (pairT 2) := rfl
  have hx3 : (⟨#[60, 60, 62, 62, 61, 61, 33, 61, 60, 61]⟩ : ByteArray).extract 6 8 = str (pairT 3) := rfl
  have hx4 : (⟨#[60, 60, 62, 62, 61, 61, 33, 61, 60, 61]⟩ : ByteArray).extract 8 10 = str (pairT 4) := rfl
  have HP : Hid (∀ k w, Calls Tryd.prog 73 #[.string s, .string (str (pairT k))] w fun e w' => e = .returned (.bool ((pairT k).isPrefixOf s.data.toList)) ∧ w' = w) := fun k w => by
    have h := Tryd.strings_HasPrefix s (str (pairT k)) w
    rw [hasPrefix_is] at h
    exact h
  go_enter Tryd.func67, Tryd.ntmps67
  go_wp2_with fail
  go_loopw [3] (fun v3 wr => ∃ k : Nat, v3 = .int .i64 ((2 * k : Nat) : Int) ∧ k ≤ 5 ∧ Hid (signT s.data.toList = signF s.data.toList (5 - k) k) ∧ w = wr) (fun v3 _ => 10 - (intOf v3).toNat)
  case atStart => exact ⟨0, rfl, by omega, rfl, rfl⟩
  case round =>
    obtain ⟨k, rfl, hk, HK, rfl⟩ := hrel
    by_cases hk5 : k = 5
    · subst hk5
      obtain ⟨c, hc, hbc⟩ := bt_get hs0
      have hg := get_bt s 0 hs0
      have HI := Lib.hid fun w => Tryd.strings_IndexByte (str singleT) (c.toNat : Int) w
      have hcc : ((c.toNat : Int)).toNat.toUInt8 = c := by rw [Int.toNat_natCast]; exact UInt8.ofNat_toNat
      have hxb := ix_has singleT c
      have hd : ∃ r, s.data.toList = c :: r := by
        cases hl : s.data.toList with
        | nil => rw [hl] at hc; cases hc
        | cons d r => rw [hl] at hc; injection hc with hc; subst hc; exact ⟨r, rfl⟩
      obtain ⟨r, hd⟩ := hd
      have E : Hid (signT s.data.toList = if singleT.contains c then 1 else 0) := by
        show _ = _
        rw [HK.out, hd]
        simp [signF]
      rw [← hxb] at E
      obtain ⟨x, hx⟩ : ∃ x, Lib.indexByte singleT c = x := ⟨_, rfl⟩
      have HI2 : Hid (∀ w, Calls Tryd.prog 62 #[.string (str singleT), .int .u8 (c.toNat : Int)] w fun e w' => e = .returned (.int .i64 x) ∧ w' = w) := fun w => by
        have h1 := HI.out w
        rw [hcc, str_data, hx] at h1
        exact h1
      rw [hx] at E
      have hsi : (⟨#[43, 45, 42, 47, 37, 38, 124, 94, 60, 126, 63, 58, 61, 44, 64, 40, 41, 91, 93, 123, 125]⟩ : ByteArray) = str singleT := rfl
      clear hx hxb hcc HI hd hc HK hx0 hx1 hx2 hx3 hx4
      by_cases hx0 : 0 ≤ x
      · have e1 : decide (0 ≤ x) = true := by simpa using hx0
        have E2 : Hid (signT s.data.toList = 1) := by show _ = _; rw [E.out, e1]; rfl
        go_wp2_with fail
        refine (HI2.out w).mono ?_
        rintro e w' ⟨rfl, rfl⟩
        go_wp2_with fail
        go_ret
        exact ⟨ret_n E2.out.symm, rfl⟩
      · have e1 : decide (0 ≤ x) = false := by simpa using hx0
        have E2 : Hid (signT s.data.toList = 0) := by show _ = _; rw [E.out, e1]; rfl
        go_wp2_with fail
        refine (HI2.out w).mono ?_
        rintro e w' ⟨rfl, rfl⟩
        go_wp2_with fail
        go_ret
        exact ⟨ret_n E2.out.symm, rfl⟩
    · rcases (by omega : k = 0 ∨ k = 1 ∨ k = 2 ∨ k = 3 ∨ k = 4) with rfl | rfl | rfl | rfl | rfl
      · have HPK := Lib.hid (HP.out 0)
        cases hp : (pairT 0).isPrefixOf s.data.toList with
        | true =>
          have E : Hid (signT s.data.toList = 2) := HK.out.trans (signF_hit hp)
          rw [hp] at HPK
          clear hp HP HK
          go_wp2_with fail
          refine (HPK.out w).mono ?_
          rintro e w' ⟨rfl, rfl⟩
          go_wp2_with fail
          go_ret
          exact ⟨ret_n E.out.symm, rfl⟩
        | false =>
          have E : Hid (signT s.data.toList = signF s.data.toList (5 - (0 + 1)) (0 + 1)) := HK.out.trans (signF_miss hp)
          rw [hp] at HPK
          clear hp HP HK
          go_wp2_with fail
          refine (HPK.out w).mono ?_
          rintro e w' ⟨rfl, rfl⟩
          go_wp2_with fail
          go_roundw
          case rel => exact ⟨0 + 1, rfl, by omega, E, trivial⟩
          case measure => simp [intOf]
      · have HPK := Lib.hid (HP.out 1)
        cases hp : (pairT 1).isPrefixOf s.data.toList with
        | true =>
          have E : Hid (signT s.data.toList = 2) := HK.out.trans (signF_hit hp)
          rw [hp] at HPK
          clear hp HP HK
          go_wp2_with fail
          refine (HPK.out w).mono ?_
          rintro e w' ⟨rfl, rfl⟩
          go_wp2_with fail
          go_ret
          exact ⟨ret_n E.out.symm, rfl⟩
        | false =>
          have E : Hid (signT s.data.toList = signF s.data.toList (5 - (1 + 1)) (1 + 1)) := HK.out.trans (signF_miss hp)
          rw [hp] at HPK
          clear hp HP HK
          go_wp2_with fail
          refine (HPK.out w).mono ?_
          rintro e w' ⟨rfl, rfl⟩
          go_wp2_with fail
          go_roundw
          case rel => exact ⟨1 + 1, rfl, by omega, E, trivial⟩
          case measure => simp [intOf]
      · have HPK := Lib.hid (HP.out 2)
        cases hp : (pairT 2).isPrefixOf s.data.toList with
        | true =>
          have E : Hid (signT s.data.toList = 2) := HK.out.trans (signF_hit hp)
          rw [hp] at HPK
          clear hp HP HK
          go_wp2_with fail
          refine (HPK.out w).mono ?_
          rintro e w' ⟨rfl, rfl⟩
          go_wp2_with fail
          go_ret
          exact ⟨ret_n E.out.symm, rfl⟩
        | false =>
          have E : Hid (signT s.data.toList = signF s.data.toList (5 - (2 + 1)) (2 + 1)) := HK.out.trans (signF_miss hp)
          rw [hp] at HPK
          clear hp HP HK
          go_wp2_with fail
          refine (HPK.out w).mono ?_
          rintro e w' ⟨rfl, rfl⟩
          go_wp2_with fail
          go_roundw
          case rel => exact ⟨2 + 1, rfl, by omega, E, trivial⟩
          case measure => simp [intOf]
      · have HPK := Lib.hid (HP.out 3)
        cases hp : (pairT 3).isPrefixOf s.data.toList with
        | true =>
          have E : Hid (signT s.data.toList = 2) := HK.out.trans (signF_hit hp)
          rw [hp] at HPK
          clear hp HP HK
          go_wp2_with fail
          refine (HPK.out w).mono ?_
          rintro e w' ⟨rfl, rfl⟩
          go_wp2_with fail
          go_ret
          exact ⟨ret_n E.out.symm, rfl⟩
        | false =>
          have E : Hid (signT s.data.toList = signF s.data.toList (5 - (3 + 1)) (3 + 1)) := HK.out.trans (signF_miss hp)
          rw [hp] at HPK
          clear hp HP HK
          go_wp2_with fail
          refine (HPK.out w).mono ?_
          rintro e w' ⟨rfl, rfl⟩
          go_wp2_with fail
          go_roundw
          case rel => exact ⟨3 + 1, rfl, by omega, E, trivial⟩
          case measure => simp [intOf]
      · have HPK := Lib.hid (HP.out 4)
        cases hp : (pairT 4).isPrefixOf s.data.toList with
        | true =>
          have E : Hid (signT s.data.toList = 2) := HK.out.trans (signF_hit hp)
          rw [hp] at HPK
          clear hp HP HK
          go_wp2_with fail
          refine (HPK.out w).mono ?_
          rintro e w' ⟨rfl, rfl⟩
          go_wp2_with fail
          go_ret
          exact ⟨ret_n E.out.symm, rfl⟩
        | false =>
          have E : Hid (signT s.data.toList = signF s.data.toList (5 - (4 + 1)) (4 + 1)) := HK.out.trans (signF_miss hp)
          rw [hp] at HPK
          clear hp HP HK
          go_wp2_with fail
          refine (HPK.out w).mono ?_
          rintro e w' ⟨rfl, rfl⟩
          go_wp2_with fail
          go_roundw
          case rel => exact ⟨4 + 1, rfl, by omega, E, trivial⟩
          case measure => simp [intOf]
/-! ### token, Next -/
/-- A token's value. -/
def tokV (k a b : Nat) : Value := .agg #[.int .u8 (k : Int), .int .i64 (a : Int), .int .i64 (b : Int)]
theorem ret_tok {k a b k' a' b' : Nat} (h : (k, b) = (k', b')) (ha : a = a') : Ending.returned (tokV k a b) = .returned (tokV k' a' b') := by
  obtain ⟨rfl, rfl⟩ := Prod.mk.inj h
  rw [ha]
theorem str_data' {s : ByteArray} {i : Nat} {c : UInt8} (h : s.data.toList[i]? = some c) : i < s.size := by
  obtain ⟨h1, _⟩ := List.getElem?_eq_some_iff.1 h
  rwa [data_len] at h1
set_option maxRecDepth 100000 in
set_option maxHeartbeats 2000000 in
theorem tokenC (s : ByteArray) (a : Nat) (w : World) (ha : a < s.size) (hs : s.size ≤ 100000000) :
    Calls Tryd.prog 57 #[.string s, .int .i64 (a : Int)] w fun e w' => e = .returned (tokV (tkAt s.data.toList a).1 a (tkAt s.data.toList a).2) ∧ Below w.heap.size w w' := by
  obtain ⟨c, hc, hbc⟩ := bt_get ha
  have hg := get_bt s a ha
  have hai : (a : Int) < (s.size : Int) := by omega
  have HB0 : Hid (Below w.heap.size w (w.alloc (.cells #[.int .u8 0, .int .i64 0, .int .i64 0] 74))) := balloc (Below.refl _ _) _
  cases hl : letterB c with
  | true =>
    have E : Hid (tkAt s.data.toList a = (1, ptAt s.data.toList (a + 1))) := tkAt_word hc hl
    have HL := Lib.hid fun w => hl ▸ letterC c w
    clear hc hl
    go_enter Tryd.func57, Tryd.ntmps57
    go_wp2_with fail
    refine (HL.out _).mono ?_
    rintro e w' ⟨rfl, rfl⟩
    go_wp2_with fail
    obtain ⟨W0, hW0⟩ : ∃ W0, W0 = (w.alloc (.cells #[.int .u8 0, .int .i64 0, .int .i64 0] 74)) := ⟨_, rfl⟩
    rw [← hW0]
    have HW0 := Lib.hid hW0
    clear hW0
    go_loopw [5] (fun v5 wr => ∃ k : Nat, v5 = .int .i64 k ∧ k ≤ s.size ∧ Hid (ptAt s.data.toList k = ptAt s.data.toList (a + 1)) ∧ W0 = wr) (fun v5 _ => s.size - (intOf v5).toNat)
    case atStart => exact ⟨a + 1, by go_num, by omega, rfl, rfl⟩
    case round =>
      obtain ⟨k, rfl, hk, HK, rfl⟩ := hrel
      by_cases hlt : k < s.size
      · have e1 : decide ((k : Int) < (s.size : Int)) = true := by simp; omega
        have hki : (k : Int) < (s.size : Int) := by omega
        obtain ⟨d, hd, hbd⟩ := bt_get hlt
        have hgd := get_bt s k hlt
        cases hp : partB d with
        | true =>
          have HK2 : Hid (ptAt s.data.toList (k + 1) = ptAt s.data.toList (a + 1)) := (ptAt_hit hd hp).symm.trans HK.out
          have HC := Lib.hid fun w => hp ▸ partC d w
          clear hd hp
          go_wp2_with fail
          refine (HC.out W0).mono ?_
          rintro e w' ⟨rfl, rfl⟩
          go_wp2_with fail
          go_roundw
          case rel => exact ⟨k + 1, by go_num, by omega, HK2, trivial⟩
          case measure => simp [intOf]; omega
        | false =>
          have E : Hid ((1, k) = tkAt s.data.toList a) := by
            show _ = _
            rw [E.out, ← HK.out, ptAt_stop hd hp]
          have HC := Lib.hid fun w => hp ▸ partC d w
          clear hd hp
          go_wp2_with fail
          refine (HC.out W0).mono ?_
          rintro e w' ⟨rfl, rfl⟩
          have hW0 := HW0.out
          subst hW0
          go_wp2_with fail
          refine bodyPost_ret (v := tokV 1 a k) (by simp [results, Tryd.results57, go_sem, tokV]) rfl ?_
          exact ⟨ret_tok E.out rfl, balloc (Below.refl _ _) _⟩
      · have e1 : decide ((k : Int) < (s.size : Int)) = false := by simp; omega
        have E : Hid ((1, k) = tkAt s.data.toList a) := by
          show _ = _
          rw [E.out, ← HK.out, ptAt_end (by rw [data_len]; omega)]
        have hW0 := HW0.out
        subst hW0
        go_wp2_with fail
        refine bodyPost_ret (v := tokV 1 a k) (by simp [results, Tryd.results57, go_sem, tokV]) rfl ?_
        exact ⟨ret_tok E.out rfl, balloc (Below.refl _ _) _⟩
  | false =>
    have HL := Lib.hid fun w => hl ▸ letterC c w
    cases hd : digitB c with
    | true =>
      have HD := Lib.hid fun w => hd ▸ digitC c w
      obtain ⟨d, hdd⟩ : ∃ d, dgAt s.data.toList a = d := ⟨_, rfl⟩
      have hle := dgAt_le (t := s.data.toList) (a := a) (by rw [data_len]; omega)
      rw [data_len, hdd] at hle
      have HG : Hid (∀ w, Calls Tryd.prog 66 #[.string s, .int .i64 (a : Int)] w fun e w' => e = .returned (.int .i64 (d : Int)) ∧ w = w') := fun w => by
        have h1 := digitsC s a w (by omega) hs
        rw [hdd] at h1
        exact h1
      by_cases h1 : d + 1 < s.size
      · have e1 : decide ((d : Int) + 1 < (s.size : Int)) = true := by simp; omega
        obtain ⟨x, hx, hbx⟩ := bt_get (show d < s.size by omega)
        obtain ⟨y, hy, hby⟩ := bt_get h1
        have hgx := get_bt s d (by omega)
        have hgy := get_bt s (d + 1) h1
        have T := tkAt_digs hc hl hd d hdd hx hy
        have hdi : (d : Int) < (s.size : Int) := by omega
        have hdi1 : (d : Int) + 1 < (s.size : Int) := by omega
        have wd1 : IntKind.i64.wrap ((d : Int) + 1) = ((d + 1 : Nat) : Int) := by rw [IntKind.wrap_i64]; omega
        by_cases h58 : x.toNat = 58
        · have e2 : ((x.toNat : Int) == 58) = true := by simp; omega
          have HY := Lib.hid fun w => digitC y w
          cases hdy : digitB y with
          | true =>
            rw [hdy] at HY
            rw [if_pos ⟨h58, hdy⟩] at T
            have E : Hid ((3, dgAt s.data.toList (d + 1)) = tkAt s.data.toList a) := T.symm
            have HG2 := Lib.hid fun w => digitsC s (d + 1) w (by omega) hs
            obtain ⟨d2, hd2⟩ : ∃ d2, dgAt s.data.toList (d + 1) = d2 := ⟨_, rfl⟩
            have hle2 := dgAt_le (t := s.data.toList) (a := d + 1) (by rw [data_len]; omega)
            rw [data_len, hd2] at hle2
            rw [hd2] at HG2 E
            clear T hd2 hdy hx hy hdd hd hl hc
            go_enter Tryd.func57, Tryd.ntmps57
            go_wp2_with fail
            refine (HL.out _).mono ?_
            rintro e w' ⟨rfl, rfl⟩
            go_wp2_with fail
            refine (HD.out _).mono ?_
            rintro e w' ⟨rfl, rfl⟩
            go_wp2_with fail
            refine (HG.out _).mono ?_
            rintro e w' ⟨rfl, rfl⟩
            go_wp2_with fail
            refine (HY.out _).mono ?_
            rintro e w' ⟨rfl, rfl⟩
            go_wp2_with fail
            refine (HG2.out _).mono ?_
            rintro e w' ⟨rfl, rfl⟩
            go_wp2_with fail
            refine bodyPost_ret (v := tokV 3 a d2) (by simp [results, Tryd.results57, go_sem, tokV]) rfl ?_
            exact ⟨ret_tok E.out rfl, balloc (Below.refl _ _) _⟩
          | false =>
            rw [hdy] at HY
            rw [if_neg (fun h => by rw [hdy] at h; exact absurd h.2 (by decide))] at T
            have E : Hid ((2, d) = tkAt s.data.toList a) := T.symm
            clear T hdy hx hy hdd hd hl hc
            go_enter Tryd.func57, Tryd.ntmps57
            go_wp2_with fail
            refine (HL.out _).mono ?_
            rintro e w' ⟨rfl, rfl⟩
            go_wp2_with fail
            refine (HD.out _).mono ?_
            rintro e w' ⟨rfl, rfl⟩
            go_wp2_with fail
            refine (HG.out _).mono ?_
            rintro e w' ⟨rfl, rfl⟩
            go_wp2_with fail
            refine (HY.out _).mono ?_
            rintro e w' ⟨rfl, rfl⟩
            go_wp2_with fail
            refine bodyPost_ret (v := tokV 2 a d) (by simp [results, Tryd.results57, go_sem, tokV]) rfl ?_
            exact ⟨ret_tok E.out rfl, balloc (Below.refl _ _) _⟩
        · have e2 : ((x.toNat : Int) == 58) = false := by simp; omega
          rw [if_neg (fun h => h58 h.1)] at T
          have E : Hid ((2, d) = tkAt s.data.toList a) := T.symm
          clear T hx hy hdd hd hl hc
          go_enter Tryd.func57, Tryd.ntmps57
          go_wp2_with fail
          refine (HL.out _).mono ?_
          rintro e w' ⟨rfl, rfl⟩
          go_wp2_with fail
          refine (HD.out _).mono ?_
          rintro e w' ⟨rfl, rfl⟩
          go_wp2_with fail
          refine (HG.out _).mono ?_
          rintro e w' ⟨rfl, rfl⟩
          go_wp2_with fail
          refine bodyPost_ret (v := tokV 2 a d) (by simp [results, Tryd.results57, go_sem, tokV]) rfl ?_
          exact ⟨ret_tok E.out rfl, balloc (Below.refl _ _) _⟩
      · have e1 : decide ((d : Int) + 1 < (s.size : Int)) = false := by simp; omega
        have wd1 : IntKind.i64.wrap ((d : Int) + 1) = (d : Int) + 1 := by rw [IntKind.wrap_i64]; omega
        have E : Hid ((2, d) = tkAt s.data.toList a) := (tkAt_num hc hl hd d hdd (by rw [data_len]; omega)).symm
        clear hdd hd hl hc
        go_enter Tryd.func57, Tryd.ntmps57
        go_wp2_with fail
        refine (HL.out _).mono ?_
        rintro e w' ⟨rfl, rfl⟩
        go_wp2_with fail
        refine (HD.out _).mono ?_
        rintro e w' ⟨rfl, rfl⟩
        go_wp2_with fail
        refine (HG.out _).mono ?_
        rintro e w' ⟨rfl, rfl⟩
        go_wp2_with fail
        refine bodyPost_ret (v := tokV 2 a d) (by simp [results, Tryd.results57, go_sem, tokV]) rfl ?_
        exact ⟨ret_tok E.out rfl, balloc (Below.refl _ _) _⟩
    | false =>
      have HD := Lib.hid fun w => hd ▸ digitC c w
      obtain ⟨n, hn⟩ : ∃ n, signT (s.data.toList.drop a) = n := ⟨_, rfl⟩
      have T := tkAt_sign hc hl hd n hn
      have hx := ext_data s a
      have hnl : n ≤ 2 ∧ a + n ≤ s.size := by
        have h1 := signF_le (s.data.toList.drop a) 5 0
        have h2 : signT (s.data.toList.drop a) = signF (s.data.toList.drop a) 5 0 := rfl
        rw [h2] at hn
        rw [List.length_drop, data_len, hn] at h1
        refine ⟨?_, by omega⟩
        have : ∀ (t : List UInt8) (f k : Nat), signF t f k ≤ 2 := by
          intro t f
          induction f with
          | zero =>
            intro k
            unfold signF
            split
            · omega
            · split <;> omega
          | succ f ih =>
            intro k
            unfold signF
            split
            · exact Nat.le_refl _
            · exact ih _
        rw [← hn]
        exact this _ _ _
      obtain ⟨t, ht⟩ : ∃ t, s.extract a s.size = t := ⟨_, rfl⟩
      have hts : t.size = s.size - a := by rw [← ht, ← data_len, ext_data, List.length_drop, data_len]
      rw [ht] at hx
      have HS : Hid (∀ w, Calls Tryd.prog 67 #[.string t] w fun e w' => e = .returned (.int .i64 (n : Int)) ∧ w = w') := fun w => by
        have h1 := signC t w (by omega) (by omega)
        rw [hx, hn] at h1
        exact h1
      clear hx hn hts
      by_cases h0 : 0 < n
      · have e1 : decide ((0 : Int) < (n : Int)) = true := by simp; omega
        rw [if_pos h0] at T
        have E : Hid ((4, a + n) = tkAt s.data.toList a) := T.symm
        have wa : IntKind.i64.wrap ((a : Int) + (n : Int)) = ((a + n : Nat) : Int) := by rw [IntKind.wrap_i64]; omega
        clear T hd hl hc
        go_enter Tryd.func57, Tryd.ntmps57
        go_wp2_with fail
        refine (HL.out _).mono ?_
        rintro e w' ⟨rfl, rfl⟩
        go_wp2_with fail
        refine (HD.out _).mono ?_
        rintro e w' ⟨rfl, rfl⟩
        go_wp2_with fail
        refine (HS.out _).mono ?_
        rintro e w' ⟨rfl, rfl⟩
        go_wp2_with fail
        refine bodyPost_ret (v := tokV 4 a (a + n)) (by simp [results, Tryd.results57, go_sem, tokV]) rfl ?_
        exact ⟨ret_tok E.out rfl, balloc (Below.refl _ _) _⟩
      · have e1 : decide ((0 : Int) < (n : Int)) = false := by simp; omega
        rw [if_neg h0] at T
        have E : Hid ((0, a) = tkAt s.data.toList a) := T.symm
        clear T hd hl hc
        go_enter Tryd.func57, Tryd.ntmps57
        go_wp2_with fail
        refine (HL.out _).mono ?_
        rintro e w' ⟨rfl, rfl⟩
        go_wp2_with fail
        refine (HD.out _).mono ?_
        rintro e w' ⟨rfl, rfl⟩
        go_wp2_with fail
        refine (HS.out _).mono ?_
        rintro e w' ⟨rfl, rfl⟩
        go_wp2_with fail
        refine bodyPost_ret (v := tokV 0 a a) (by simp [results, Tryd.results57, go_sem, tokV]) rfl ?_
        exact ⟨ret_tok E.out rfl, balloc (Below.refl _ _) _⟩
end Go.Proofs.YtehcpcpmcngnjaaDoor
