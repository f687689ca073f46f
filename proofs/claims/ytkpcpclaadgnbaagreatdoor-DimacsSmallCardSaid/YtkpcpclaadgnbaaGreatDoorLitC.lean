/-
  lits.Var, Text, Of, Read.
-/
import Derived.Test.YtkpcpclaadgnbaaGreatDoorLitP
import Derived.Test.YtkpcpclaadgnbaaGreatDoorStp6
import Derived.Deep.DeepCutAuto
import Derived.PlainAid
set_option linter.unusedVariables false
set_option linter.unusedSimpArgs false
namespace Go.Proofs.YtkpcpclaadgnbaaGreatDoor
open Go.RowKit Go.PlainAid

theorem toList_data (s : ByteArray) : s.toList = s.data.toList := by
  rw [ByteArray.toList_eq]
theorem cat_data (a b : ByteArray) : (a ++ b).data.toList = a.data.toList ++ b.data.toList := by
  rw [ByteArray.data_append, Array.toList_append]
theorem cat_size (a b : ByteArray) : (a ++ b).size = a.size + b.size := by
  rw [← data_len, cat_data, List.length_append, data_len, data_len]
theorem bt_some {s : ByteArray} {k : Nat} {c : UInt8} (h : s.data.toList[k]? = some c) : bt s k = (c.toNat : Int) := by
  obtain ⟨hk, he⟩ := List.getElem?_eq_some_iff.1 h
  have hk' : k < s.size := by simpa using hk
  rw [← get_bt s k hk', ← he]
  rfl
theorem bt_get {s : ByteArray} {k : Nat} (h : k < s.size) : ∃ c : UInt8, s.data.toList[k]? = some c ∧ bt s k = (c.toNat : Int) := by
  have hk : k < s.data.toList.length := by rw [data_len]; exact h
  exact ⟨_, List.getElem?_eq_getElem hk, bt_some (List.getElem?_eq_getElem hk)⟩
theorem goL_cons (i n : Nat) (c : UInt8) (r : List UInt8) : goL i n (c :: r) = if c = 45 ∧ i = 0 then goL (i + 1) n r else if (48 ≤ c.toNat ∧ c.toNat ≤ 57) ∧ n ≤ 1048576 then goL (i + 1) (10 * n + (c.toNat - 48)) r else 0 := rfl
theorem negL_bt (s : ByteArray) : negL s.data.toList = decide (bt s 0 = 45) := by
  cases h : s.data.toList with
  | nil =>
    have h0 : s.size = 0 := by rw [← data_len, h]; rfl
    rw [bt_end s (by omega)]
    rfl
  | cons c r =>
    have hb := bt_some (s := s) (k := 0) (c := c) (by rw [h]; rfl)
    rw [hb]
    unfold negL
    cases h45 : (c == 45) with
    | true =>
      have : c = 45 := by simpa using h45
      subst this
      rfl
    | false =>
      have : c ≠ 45 := by simpa using h45
      show (c == 45) = _
      rw [h45]
      exact (decide_eq_false (fun h => this (UInt8.toNat_inj.1 (show c.toNat = 45 by omega)))).symm
theorem goL_le : ∀ s : List UInt8, goL 0 0 s ≤ 20000000 := by
  have key : ∀ (s : List UInt8) (i n : Nat), n ≤ 20000000 → goL i n s ≤ 20000000 := by
    intro s
    induction s with
    | nil => intro i n h; exact h
    | cons c r ih =>
      intro i n h
      unfold goL
      split
      · exact ih _ _ h
      · split
        · exact ih _ _ (by omega)
        · omega
  exact fun s => key s 0 0 (by omega)
theorem ofL_i64 {n : Nat} {b : Bool} {l e : Int} (h : ofL n b = (l, e)) : I64 l := by
  unfold ofL at h
  split at h
  · obtain ⟨rfl, _⟩ := Prod.mk.inj h
    exact ⟨by omega, by omega⟩
  · obtain ⟨rfl, _⟩ := Prod.mk.inj h
    split
    · exact ⟨by omega, by omega⟩
    · exact ⟨by omega, by omega⟩
/-- The variable of a literal. -/
def varL (l : Int) : Int := if litB l then (l.natAbs : Int) else 0
set_option maxRecDepth 100000 in
theorem litVar (l : Int) (w : World) : Calls Tryz.prog 53 #[.int .i64 l] w fun e w' => e = .returned (.int .i64 (varL l)) ∧ w = w' := by
  cases hb : litB l with
  | false =>
    have E : Hid (varL l = 0) := by show _ = _; unfold varL; rw [hb]; rfl
    go_enter Tryz.func53, Tryz.ntmps53
    go_wp2_with fail
    refine (litRight l w).mono ?_
    rintro e w' ⟨rfl, rfl⟩
    rw [hb]
    go_wp2
    go_ret
    exact ⟨ret_int E.out.symm, rfl⟩
  | true =>
    have hp := lit_parts hb
    have E : Hid (varL l = max l (-l)) := by show _ = _; unfold varL; rw [hb, if_pos rfl]; omega
    have hw : IntKind.i64.wrap (-l) = -l := by rw [IntKind.wrap_i64]; omega
    go_enter Tryz.func53, Tryz.ntmps53
    go_wp2_with fail
    refine (litRight l w).mono ?_
    rintro e w' ⟨rfl, rfl⟩
    rw [hb]
    clear hp hb
    go_wp2
    go_ret
    exact ⟨ret_int E.out.symm, rfl⟩
set_option maxRecDepth 100000 in
theorem litText (l : Int) (w : World) (hl : Hid (I64 l)) (hv : Hid (Vars w)) : Calls Tryz.prog 67 #[.int .i64 l] w fun e w' => e = .returned (.string (str (textL l))) ∧ Below w.heap.size w w' := by
  cases hb : litB l with
  | false =>
    have E : Hid (textL l = []) := by show _ = _; unfold textL; rw [hb]; rfl
    go_enter Tryz.func67, Tryz.ntmps67
    go_wp2_with fail
    refine (litRight l w).mono ?_
    rintro e w' ⟨rfl, rfl⟩
    rw [hb]
    go_wp2
    go_ret
    exact ⟨by rw [E.out]; rfl, Below.refl _ _⟩
  | true =>
    have E : Hid (textL l = Lib.itoa l) := by show _ = _; unfold textL; rw [hb]; rfl
    go_enter Tryz.func67, Tryz.ntmps67
    go_wp2_with fail
    refine (litRight l w).mono ?_
    rintro e w' ⟨rfl, rfl⟩
    rw [hb]
    go_wp2_with fail
    refine (itoaC l w hl hv).mono ?_
    rintro e w1 ⟨rfl, hb1⟩
    have HB1 := Lib.hid hb1
    clear hb1
    go_wp2
    go_ret
    exact ⟨by rw [E.out]; rfl, HB1.out⟩
set_option maxRecDepth 100000 in
theorem litOf (n : Nat) (neg : Bool) (w : World) (hn : n ≤ 20000000) : Calls Tryz.prog 89 #[.int .i64 n, .bool neg] w fun e w' => e = .returned (.tuple #[.int .i64 (ofL n neg).1, .int .i64 (ofL n neg).2]) ∧ w = w' := by
  by_cases h1 : n < 1
  · have e1 : decide ((n : Int) < 1) = true := by simp; omega
    have E : Hid (ofL n neg = (0, 10)) := by show _ = _; unfold ofL; rw [if_pos (.inl h1)]
    clear h1
    go_enter Tryz.func89, Tryz.ntmps89
    go_wp2
    go_ret2
    exact ⟨by rw [E.out]; rfl, rfl⟩
  · have e1 : decide ((n : Int) < 1) = false := by simp; omega
    by_cases h2 : 1048576 < n
    · have e2 : decide ((1048576 : Int) < (n : Int)) = true := by simp; omega
      have E : Hid (ofL n neg = (0, 10)) := by show _ = _; unfold ofL; rw [if_pos (.inr h2)]
      clear h1 h2
      go_enter Tryz.func89, Tryz.ntmps89
      go_wp2
      go_ret2
      exact ⟨by rw [E.out]; rfl, rfl⟩
    · have e2 : decide ((1048576 : Int) < (n : Int)) = false := by simp; omega
      have hw : IntKind.i64.wrap (-(n : Int)) = -(n : Int) := by rw [IntKind.wrap_i64]; omega
      cases neg with
      | true =>
        have E : Hid (ofL n true = (-(n : Int), 0)) := by show _ = _; unfold ofL; rw [if_neg (by omega)]; rfl
        clear h1 h2
        go_enter Tryz.func89, Tryz.ntmps89
        go_wp2
        go_ret2
        exact ⟨by rw [E.out]; rfl, rfl⟩
      | false =>
        have E : Hid (ofL n false = ((n : Int), 0)) := by show _ = _; unfold ofL; rw [if_neg (by omega)]; rfl
        clear h1 h2
        go_enter Tryz.func89, Tryz.ntmps89
        go_wp2
        go_ret2
        exact ⟨by rw [E.out]; rfl, rfl⟩
set_option maxRecDepth 100000 in
set_option maxHeartbeats 1000000 in
theorem litRead (s : ByteArray) (w : World) (hs : s.size ≤ 100000000) (hv : Hid (Vars w)) : Calls Tryz.prog 52 #[.string s] w fun e w' => e = .returned (.tuple #[.int .i64 (litR s.data.toList).1, .int .i64 (litR s.data.toList).2]) ∧ Below w.heap.size w w' := by
  have hb := get_bt s
  have hz : bt s 0 = 45 → 0 < s.size := fun h => by
    rcases Nat.eq_zero_or_pos s.size with h0 | h0
    · rw [bt_end s (by omega)] at h; omega
    · exact h0
  go_enter Tryz.func52, Tryz.ntmps52
  go_wp2
  go_step3
  go_wp2
  go_step3
  go_wp2
  go_loopw [4, 11] (fun v4 v11 wr => ∃ (i n : Nat), i ≤ s.size ∧ n ≤ 20000000 ∧ v4 = .int .i64 n ∧ v11 = .int .i64 i ∧ Hid (goL 0 0 s.data.toList = goL i n (s.data.toList.drop i)) ∧ w = wr) (fun _ v11 _ => s.size - (intOf v11).toNat)
  case atStart => exact ⟨0, 0, Nat.zero_le _, Nat.zero_le _, rfl, rfl, rfl, rfl⟩
  case round =>
    obtain ⟨i, n, hi, hn, rfl, rfl, HG, rfl⟩ := hrel
    by_cases hlt : i < s.size
    · have e1 : decide ((i : Int) < (s.size : Int)) = true := by simp; omega
      obtain ⟨c, hcx, hbc⟩ := bt_get hlt
      have hd : s.data.toList.drop i = c :: s.data.toList.drop (i + 1) := by
        obtain ⟨hk', he⟩ := List.getElem?_eq_some_iff.1 hcx
        rw [← he, List.drop_eq_getElem_cons hk']
      have hcl : c.toNat < 256 := c.toNat_lt
      have HBC := Lib.hid hbc
      clear hbc
      have HG2 := HG.out
      rw [hd, goL_cons] at HG2
      have HG0 := Lib.hid HG2
      clear HG HG2 hd hcx
      go_upto_region 7 with fail
      go_cut [17] (fun v17 wx => v17 = .bool (decide (bt s i = 45) && decide (i = 0)) ∧ w = wx)
      case first =>
        by_cases h45 : bt s i = 45
        · have e2 : (bt s i == 45) = true := by simpa using h45
          by_cases hi0 : i = 0
          · have e3 : ((i : Int) == 0) = true := by simp; omega
            have E : Hid (true = (decide (bt s i = 45) && decide (i = 0))) := by show _ = _; rw [decide_eq_true h45, decide_eq_true hi0]; rfl
            clear h45 hi0 HG0
            go_wp2_with fail
            go_meet
            exact ⟨by rw [← E.out], rfl⟩
          · have e3 : ((i : Int) == 0) = false := by simp; omega
            have E : Hid (false = (decide (bt s i = 45) && decide (i = 0))) := by show _ = _; rw [decide_eq_true h45, decide_eq_false hi0]; rfl
            clear h45 HG0
            go_wp2_with fail
            go_meet
            exact ⟨by rw [← E.out], rfl⟩
        · have e2 : (bt s i == 45) = false := by simpa using h45
          have E : Hid (false = (decide (bt s i = 45) && decide (i = 0))) := by show _ = _; rw [decide_eq_false h45]; rfl
          clear h45 HG0
          go_wp2_with fail
          go_meet
          exact ⟨by rw [← E.out], rfl⟩
      case rest =>
      obtain ⟨rfl, rfl⟩ := hcut
      by_cases h45 : c = 45 ∧ i = 0
      · have HG3 := HG0.out
        rw [if_pos h45] at HG3
        obtain ⟨rfl, rfl⟩ := h45
        have HG4 := Lib.hid HG3
        rw [show (decide (bt s 0 = 45) && decide (0 = 0)) = true by rw [HBC.out]; rfl]
        clear HG3 HG0 HBC
        go_wp2_with fail
        go_roundw
        case rel => exact ⟨1, n, by omega, hn, rfl, by go_num, HG4, trivial⟩
        case measure => simp [intOf]; omega
      · have HG3 := HG0.out
        rw [if_neg h45] at HG3
        rw [show (decide (bt s i = 45) && decide (i = 0)) = false by
          cases hq : (decide (bt s i = 45) && decide (i = 0)) with
          | false => rfl
          | true =>
            simp only [Bool.and_eq_true, decide_eq_true_eq] at hq
            exact absurd ⟨UInt8.toNat_inj.1 (show c.toNat = 45 by have := HBC.out; omega), hq.2⟩ h45]
        have HG4 := Lib.hid HG3
        clear HG3 HG0 h45
        go_upto_region 8 with fail
        go_cut [24] (fun v24 wx => v24 = .bool (decide ((48 ≤ c.toNat ∧ c.toNat ≤ 57) ∧ n ≤ 1048576)) ∧ w = wx)
        case first =>
          by_cases g1 : 48 ≤ c.toNat
          · have e2 : decide (48 ≤ bt s i) = true := by rw [HBC.out]; simp; omega
            by_cases g2 : c.toNat ≤ 57
            · have e3 : decide (bt s i ≤ 57) = true := by rw [HBC.out]; simp; omega
              have E : Hid (decide ((n : Int) ≤ 1048576) = decide ((48 ≤ c.toNat ∧ c.toNat ≤ 57) ∧ n ≤ 1048576)) := decide_eq_decide.2 (by omega)
              clear HG4
              go_wp2_with fail
              go_meet
              exact ⟨by rw [← E.out], rfl⟩
            · have e3 : decide (bt s i ≤ 57) = false := by rw [HBC.out]; simp; omega
              have E : Hid (false = decide ((48 ≤ c.toNat ∧ c.toNat ≤ 57) ∧ n ≤ 1048576)) := (decide_eq_false (by omega)).symm
              clear HG4
              go_wp2_with fail
              go_meet
              exact ⟨by rw [← E.out], rfl⟩
          · have e2 : decide (48 ≤ bt s i) = false := by rw [HBC.out]; simp; omega
            have E : Hid (false = decide ((48 ≤ c.toNat ∧ c.toNat ≤ 57) ∧ n ≤ 1048576)) := (decide_eq_false (by omega)).symm
            clear HG4
            go_wp2_with fail
            go_meet
            exact ⟨by rw [← E.out], rfl⟩
        case rest =>
        obtain ⟨rfl, rfl⟩ := hcut
        by_cases hdg : (48 ≤ c.toNat ∧ c.toNat ≤ 57) ∧ n ≤ 1048576
        · have HG5 := HG4.out
          rw [if_pos hdg] at HG5
          rw [decide_eq_true hdg]
          obtain ⟨⟨g1, g2⟩, g3⟩ := hdg
          obtain ⟨d, hdd⟩ : ∃ d, c.toNat - 48 = d := ⟨_, rfl⟩
          rw [hdd] at HG5
          have HG6 := Lib.hid HG5
          have w1 : IntKind.u8.wrap (bt s i - 48) = (d : Int) := by rw [HBC.out, IntKind.wrap_u8]; omega
          have w2 : IntKind.i64.wrap (d : Int) = (d : Int) := by rw [IntKind.wrap_i64]; omega
          have w3 : IntKind.i64.wrap (10 * (n : Int)) = ((10 * n : Nat) : Int) := by rw [IntKind.wrap_i64]; omega
          have w4 : IntKind.i64.wrap (((10 * n : Nat) : Int) + (d : Int)) = ((10 * n + d : Nat) : Int) := by rw [IntKind.wrap_i64]; omega
          clear HG4 HG5 HBC
          go_wp2_with fail
          go_roundw
          case rel => exact ⟨i + 1, 10 * n + d, by omega, by omega, rfl, by go_num, HG6, trivial⟩
          case measure => simp [intOf]; omega
        · have HG5 := HG4.out
          rw [if_neg hdg] at HG5
          rw [decide_eq_false hdg]
          clear HG4 HBC hdg
          have HN : Hid (goL 0 0 s.data.toList = 0) := HG5
          clear HG5 hcl
          have hN20 : 0 ≤ 20000000 := by omega
          have hread := readW_lit s.data.toList
          unfold readW at hread
          rw [negL_bt s, HN.out] at hread
          clear HN
          obtain ⟨nb, hnb⟩ : ∃ nb, decide (bt s 0 = 45) = nb := ⟨_, rfl⟩
          rw [hnb] at hread
          have HRD := Lib.hid hread
          clear hread
          go_upto_region 11 with fail
          go_cut [7, 8] (fun v7 v8 wx => v7 = .int .i64 (ofL 0 nb).1 ∧ v8 = .int .i64 (ofL 0 nb).2 ∧ w = wx)
          case first =>
            by_cases h0 : 0 < s.size
            · have e0 : decide ((0 : Int) < (s.size : Int)) = true := by simp; omega
              have e1 : (bt s 0 == 45) = nb := hnb
              clear hnb hz HRD
              go_wp2_with fail
              refine (litOf 0 nb w hN20).mono ?_
              rintro e w2 ⟨rfl, rfl⟩
              dsimp only
              go_wp2_with fail
              go_meet
              exact ⟨rfl, rfl, rfl⟩
            · have e0 : decide ((0 : Int) < (s.size : Int)) = false := decide_eq_false (by omega)
              have e1 : nb = false := by rw [← hnb]; exact decide_eq_false (fun h => h0 (hz h))
              subst e1
              clear hnb hz HRD
              go_wp2_with fail
              refine (litOf 0 false w hN20).mono ?_
              rintro e w2 ⟨rfl, rfl⟩
              dsimp only
              go_wp2_with fail
              go_meet
              exact ⟨rfl, rfl, rfl⟩
          case rest =>
          obtain ⟨rfl, rfl, rfl⟩ := hcut
          obtain ⟨⟨l, er⟩, hof⟩ : ∃ q, ofL 0 nb = q := ⟨_, rfl⟩
          rw [hof] at HRD ⊢
          have HOF := Lib.hid hof
          clear hof hnb hz
          dsimp only
          go_wp2_with fail
          refine (litText l w (Lib.hid (ofL_i64 HOF.out)) hv).mono ?_
          rintro e w3 ⟨rfl, hb⟩
          have HB3 := Lib.hid hb
          clear hb
          by_cases heq : textL l = s.data.toList
          · have e3 : ((str (textL l)).toList != s.toList) = false := by rw [toList_data, toList_data, str_data, heq]; simp
            have e4 : ((str (textL l)).toList == s.toList) = true := by rw [toList_data, toList_data, str_data, heq]; simp
            have HR : Hid ((l, er) = litR s.data.toList) := by
              have h1 := HRD.out
              rwa [if_pos heq] at h1
            clear heq HRD
            go_wp2_with fail
            rw [Exit.noGoto_ret]
            go_ret2
            exact ⟨by rw [← HR.out]; rfl, HB3.out⟩
          · have e3 : ((str (textL l)).toList != s.toList) = true := by rw [toList_data, toList_data, str_data]; simpa using heq
            have e4 : ((str (textL l)).toList == s.toList) = false := by rw [toList_data, toList_data, str_data]; simpa using heq
            have HR : Hid (((0 : Int), (10 : Int)) = litR s.data.toList) := by
              have h1 := HRD.out
              rwa [if_neg heq] at h1
            clear heq HRD
            go_wp2_with fail
            rw [Exit.noGoto_ret]
            go_ret2
            exact ⟨by rw [← HR.out]; rfl, HB3.out⟩
    · have e1 : decide ((i : Int) < (s.size : Int)) = false := by simp; omega
      have hG := HG.out
      rw [List.drop_eq_nil_of_le (by rw [data_len]; omega)] at hG
      have HN : Hid (goL 0 0 s.data.toList = n) := hG
      clear hG HG
      have hN20 : n ≤ 20000000 := by omega
      have hread := readW_lit s.data.toList
      unfold readW at hread
      rw [negL_bt s, HN.out] at hread
      clear HN
      obtain ⟨nb, hnb⟩ : ∃ nb, decide (bt s 0 = 45) = nb := ⟨_, rfl⟩
      rw [hnb] at hread
      have HRD := Lib.hid hread
      clear hread
      go_upto_region 11 with fail
      go_cut [7, 8] (fun v7 v8 wx => v7 = .int .i64 (ofL n nb).1 ∧ v8 = .int .i64 (ofL n nb).2 ∧ w = wx)
      case first =>
        by_cases h0 : 0 < s.size
        · have e0 : decide ((0 : Int) < (s.size : Int)) = true := by simp; omega
          have e1 : (bt s 0 == 45) = nb := hnb
          clear hnb hz HRD
          go_wp2_with fail
          refine (litOf n nb w hN20).mono ?_
          rintro e w2 ⟨rfl, rfl⟩
          dsimp only
          go_wp2_with fail
          go_meet
          exact ⟨rfl, rfl, rfl⟩
        · have e0 : decide ((0 : Int) < (s.size : Int)) = false := decide_eq_false (by omega)
          have e1 : nb = false := by rw [← hnb]; exact decide_eq_false (fun h => h0 (hz h))
          subst e1
          clear hnb hz HRD
          go_wp2_with fail
          refine (litOf n false w hN20).mono ?_
          rintro e w2 ⟨rfl, rfl⟩
          dsimp only
          go_wp2_with fail
          go_meet
          exact ⟨rfl, rfl, rfl⟩
      case rest =>
      obtain ⟨rfl, rfl, rfl⟩ := hcut
      obtain ⟨⟨l, er⟩, hof⟩ : ∃ q, ofL n nb = q := ⟨_, rfl⟩
      rw [hof] at HRD ⊢
      have HOF := Lib.hid hof
      clear hof hnb hz
      dsimp only
      go_wp2_with fail
      refine (litText l w (Lib.hid (ofL_i64 HOF.out)) hv).mono ?_
      rintro e w3 ⟨rfl, hb⟩
      have HB3 := Lib.hid hb
      clear hb
      by_cases heq : textL l = s.data.toList
      · have e3 : ((str (textL l)).toList != s.toList) = false := by rw [toList_data, toList_data, str_data, heq]; simp
        have e4 : ((str (textL l)).toList == s.toList) = true := by rw [toList_data, toList_data, str_data, heq]; simp
        have HR : Hid ((l, er) = litR s.data.toList) := by
          have h1 := HRD.out
          rwa [if_pos heq] at h1
        clear heq HRD
        go_wp2_with fail
        rw [Exit.noGoto_ret]
        go_ret2
        exact ⟨by rw [← HR.out]; rfl, HB3.out⟩
      · have e3 : ((str (textL l)).toList != s.toList) = true := by rw [toList_data, toList_data, str_data]; simpa using heq
        have e4 : ((str (textL l)).toList == s.toList) = false := by rw [toList_data, toList_data, str_data]; simpa using heq
        have HR : Hid (((0 : Int), (10 : Int)) = litR s.data.toList) := by
          have h1 := HRD.out
          rwa [if_neg heq] at h1
        clear heq HRD
        go_wp2_with fail
        rw [Exit.noGoto_ret]
        go_ret2
        exact ⟨by rw [← HR.out]; rfl, HB3.out⟩
end Go.Proofs.YtkpcpclaadgnbaaGreatDoor
