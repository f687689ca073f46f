/-
  The reference's Right, Var, number, Read of layers 1, 2 and 6.
-/
import Derived.Test.YtkpcpclaadgnbaaGreatDoorRefP6
import Derived.Test.YtkpcpclaadgnbaaGreatDoorLitC
import Derived.Test.YtkpcpclaadgnbaaGreatDoorFmL
import Derived.Deep.DeepCutAuto
set_option linter.unusedVariables false
set_option linter.unusedSimpArgs false
namespace Go.Proofs.YtkpcpclaadgnbaaGreatDoor
open Go.RowKit Go.PlainAid

set_option maxRecDepth 100000 in
theorem litRightQ (l : Int) (w : World) : Calls Tryz.prog 80 #[.int .i64 l] w fun e w' => e = .returned (.bool (litB l)) ∧ w = w' := by
  rcases (by omega : (1 ≤ l ∧ l ≤ 1048576) ∨ (1 ≤ l ∧ 1048576 < l) ∨ (l < 1 ∧ l < -1048576) ∨ (l < 1 ∧ -1048576 ≤ l)) with ⟨h1, h2⟩ | ⟨h1, h2⟩ | ⟨h1, h2⟩ | ⟨h1, h2⟩
  · have e1 : decide (1 ≤ l) = true := by simpa using h1
    have e2 : decide (l ≤ 1048576) = true := by simpa using h2
    have E : Hid (litB l = true) := by show litB l = true; unfold litB; rw [e2, show decide (-1048576 ≤ l) = true by simp; omega, show (l == 0) = false by simp; omega]; rfl
    clear h1 h2
    go_enter Tryz.func80, Tryz.ntmps80
    go_wp2
    go_ret
    exact ⟨ret_bool E.out.symm, rfl⟩
  · have e1 : decide (1 ≤ l) = true := by simpa using h1
    have e2 : decide (l ≤ 1048576) = false := by simp; omega
    have e3 : decide (-1048576 ≤ l) = true := by simp; omega
    have e4 : decide (l ≤ -1) = false := by simp; omega
    have E : Hid (litB l = false) := by show litB l = false; unfold litB; rw [e2]; simp
    clear h1 h2
    go_enter Tryz.func80, Tryz.ntmps80
    go_wp2
    go_ret
    exact ⟨ret_bool E.out.symm, rfl⟩
  · have e1 : decide (1 ≤ l) = false := by simp; omega
    have e3 : decide (-1048576 ≤ l) = false := by simp; omega
    have E : Hid (litB l = false) := by show litB l = false; unfold litB; rw [e3]; simp
    clear h1 h2
    go_enter Tryz.func80, Tryz.ntmps80
    go_wp2
    go_ret
    exact ⟨ret_bool E.out.symm, rfl⟩
  · have e1 : decide (1 ≤ l) = false := by simp; omega
    have e3 : decide (-1048576 ≤ l) = true := by simpa using h2
    have E : Hid (litB l = decide (l ≤ -1)) := by
      show _ = _
      unfold litB
      rw [e3, show decide (l ≤ 1048576) = true by simp; omega]
      by_cases h0 : l = 0
      · subst h0; rfl
      · rw [show (l == 0) = false by simpa using h0, decide_eq_true (show l ≤ -1 by omega)]; rfl
    clear h1 h2
    go_enter Tryz.func80, Tryz.ntmps80
    go_wp2
    go_ret
    exact ⟨ret_bool E.out.symm, rfl⟩
theorem any_snoc {l : List Int} {p : Int → Bool} {k : Nat} {x : Int} (hx : l[k]? = some x) (h : (l.take k).any p = false) : (l.take (k + 1)).any p = p x := by
  rw [take_snoc hx, List.any_append, h]
  simp
theorem any_hit {l : List Int} {p : Int → Bool} {k : Nat} {x : Int} (hx : l[k]? = some x) (h : p x = true) : l.any p = true :=
  List.any_eq_true.2 ⟨x, List.mem_of_getElem? hx, h⟩
set_option maxRecDepth 100000 in
set_option maxHeartbeats 1000000 in
theorem clauseRightQ (A : Option Addr) (n c : Nat) (l : List Int) (w : World) (h : Hid (Rd w A (l.map (Value.int .i64)))) (hl : Hid (l.length = n)) (hn : n ≤ 100000000) : Calls Tryz.prog 40 #[.slice A n c] w fun e w' => e = .returned (.bool (clauseB l)) ∧ w = w' := by
  by_cases hb : 4096 < n
  · have e1 : decide ((4096 : Int) < (n : Int)) = true := by simp; omega
    have E : Hid (clauseB l = false) := by show _ = _; unfold clauseB; rw [hl.out, decide_eq_false (by omega)]; rfl
    clear hb
    go_enter Tryz.func40, Tryz.ntmps40
    go_wp2
    go_ret
    exact ⟨ret_bool E.out.symm, rfl⟩
  · have e1 : decide ((4096 : Int) < (n : Int)) = false := by simp; omega
    have E : Hid (clauseB l = !l.any fun x => !litB x) := by show _ = _; unfold clauseB; rw [hl.out, decide_eq_true (by omega)]; rfl
    clear hb
    go_enter Tryz.func40, Tryz.ntmps40
    go_wp2_with fail
    go_loopw [3] (fun v3 wr => ∃ (k : Nat), k ≤ n ∧ v3 = .int .i64 k ∧ Hid (((l.take k).any fun x => !litB x) = false) ∧ w = wr) (fun v3 _ => n - (intOf v3).toNat)
    case atStart => exact ⟨0, Nat.zero_le _, rfl, rfl, rfl⟩
    case round =>
      obtain ⟨k, hk, rfl, HA, rfl⟩ := hrel
      by_cases hlt : k < n
      · obtain ⟨b, off, x, rfl, hx, hc⟩ := h.out.getm hl.out hlt
        have HX := Lib.hid hx
        clear hx
        cases hq : litB x with
        | true =>
          have HQ := Lib.hid hq
          clear hq
          go_wp2_with fail
          refine (litRightQ x w).mono ?_
          rintro e w' ⟨rfl, rfl⟩
          rw [HQ.out]
          go_wp2
          go_roundw
          case rel => exact ⟨k + 1, by omega, by go_num, by show _ = _; rw [any_snoc HX.out HA.out, HQ.out]; rfl, trivial⟩
          case measure => simp [intOf]; omega
        | false =>
          have HQ := Lib.hid hq
          clear hq
          go_wp2_with fail
          refine (litRightQ x w).mono ?_
          rintro e w' ⟨rfl, rfl⟩
          rw [HQ.out]
          go_wp2
          go_ret
          refine ⟨ret_bool ?_, rfl⟩
          rw [E.out, any_hit HX.out (by rw [HQ.out]; rfl)]
          rfl
      · go_wp2
        go_ret
        refine ⟨ret_bool ?_, rfl⟩
        have h := HA.out
        rw [List.take_of_length_le (by rw [hl.out]; omega)] at h
        rw [E.out, h]
        rfl
set_option maxRecDepth 100000 in
theorem varQ (l : Int) (w : World) : Calls Tryz.prog 79 #[.int .i64 l] w fun e w' => e = .returned (.int .i64 (varL l)) ∧ w = w' := by
  cases hb : litB l with
  | false =>
    have E : Hid (varL l = 0) := by show _ = _; unfold varL; rw [hb]; rfl
    go_enter Tryz.func79, Tryz.ntmps79
    go_wp2_with fail
    refine (litRightQ l w).mono ?_
    rintro e w' ⟨rfl, rfl⟩
    rw [hb]
    go_wp2
    go_ret
    exact ⟨ret_int E.out.symm, rfl⟩
  | true =>
    have hp := lit_parts hb
    by_cases hn : l < 0
    · have e1 : decide (l < 0) = true := by simpa using hn
      have E : Hid (varL l = -l) := by show _ = _; unfold varL; rw [hb, if_pos rfl]; omega
      have hw : IntKind.i64.wrap (-l) = -l := by rw [IntKind.wrap_i64]; omega
      go_enter Tryz.func79, Tryz.ntmps79
      go_wp2_with fail
      refine (litRightQ l w).mono ?_
      rintro e w' ⟨rfl, rfl⟩
      rw [hb]
      clear hp hb
      go_wp2
      go_ret
      exact ⟨ret_int E.out.symm, rfl⟩
    · have e1 : decide (l < 0) = false := by simp; omega
      have E : Hid (varL l = l) := by show _ = _; unfold varL; rw [hb, if_pos rfl]; omega
      go_enter Tryz.func79, Tryz.ntmps79
      go_wp2_with fail
      refine (litRightQ l w).mono ?_
      rintro e w' ⟨rfl, rfl⟩
      rw [hb]
      clear hp hb
      go_wp2
      go_ret
      exact ⟨ret_int E.out.symm, rfl⟩
theorem drop_at {s : ByteArray} {i : Nat} {c : UInt8} (h : s.data.toList[i]? = some c) : s.data.toList.drop i = c :: s.data.toList.drop (i + 1) := by
  obtain ⟨hk', he⟩ := List.getElem?_eq_some_iff.1 h
  rw [← he, List.drop_eq_getElem_cons hk']
theorem head_bt (s : ByteArray) (c : UInt8) (h0 : 0 < s.size) : s.data.toList.head? = some c ↔ bt s 0 = (c.toNat : Int) := by
  obtain ⟨d, h1, h2⟩ := bt_get h0
  rw [List.head?_eq_getElem?, h1, h2]
  constructor
  · intro h
    obtain rfl := Option.some.inj h
    rfl
  · intro h
    rw [UInt8.toNat_inj.1 (show d.toNat = c.toNat by omega)]
/-- What digits have come to. -/
structure DgI (s : ByteArray) (i n : Nat) : Prop where
  hi : i ≤ s.size
  ab : n < 10 ^ i
  eq : digG 0 s.data.toList = digG n (s.data.toList.drop i)
theorem DgI.start (s : ByteArray) : DgI s 0 0 := ⟨Nat.zero_le _, by simp, by simp⟩
theorem DgI.big {s : ByteArray} {i n : Nat} (h : DgI s i n) (h8 : s.size ≤ 8) : n < 100000000 := by
  have h1 : 10 ^ i ≤ 10 ^ 8 := Nat.pow_le_pow_right (by omega) (by have := h.hi; omega)
  have := h.ab
  omega
theorem DgI.next {s : ByteArray} {i n : Nat} {c : UInt8} (h : DgI s i n) (hc : s.data.toList[i]? = some c) (h1 : 48 ≤ c.toNat) (h2 : c.toNat ≤ 57) : DgI s (i + 1) (n * 10 + (c.toNat - 48)) := by
  refine ⟨by have := (List.getElem?_eq_some_iff.1 hc).1; rw [data_len] at this; omega, ?_, ?_⟩
  · have := h.ab
    rw [Nat.pow_succ]
    omega
  · rw [h.eq, drop_at hc, digG, if_pos ⟨h1, h2⟩]
theorem DgI.bad {s : ByteArray} {i n : Nat} {c : UInt8} (h : DgI s i n) (hc : s.data.toList[i]? = some c) (h1 : ¬ (48 ≤ c.toNat ∧ c.toNat ≤ 57)) : digG 0 s.data.toList = none := by
  rw [h.eq, drop_at hc, digG, if_neg h1]
theorem DgI.last {s : ByteArray} {n : Nat} (h : DgI s s.size n) : digG 0 s.data.toList = some n := by
  rw [h.eq, List.drop_eq_nil_of_le (by rw [data_len]; omega)]
  rfl
def badN (s : ByteArray) : Bool := decide (s.size < 1) || (decide (8 < s.size) || (decide (bt s 0 = 48) && decide (1 < s.size)))
theorem numG_bt (s : ByteArray) : numG s.data.toList = if badN s then -1 else match digG 0 s.data.toList with | some n => (n : Int) | none => -1 := by
  unfold numG
  rw [data_len]
  by_cases h1 : s.size < 1
  · rw [if_pos (.inl h1), if_pos (by unfold badN; rw [decide_eq_true h1]; rfl)]
  · have hh := head_bt s 48 (by omega)
    have e : badN s = decide (8 < s.size ∨ (bt s 0 = 48 ∧ 1 < s.size)) := by
      unfold badN
      rw [decide_eq_false h1, Bool.decide_or, Bool.decide_and]
      rfl
    rw [e]
    by_cases hc : 8 < s.size ∨ (bt s 0 = 48 ∧ 1 < s.size)
    · rw [decide_eq_true hc, if_pos (.inr (hc.imp id (fun h => ⟨hh.2 h.1, h.2⟩))), if_pos rfl]
    · rw [decide_eq_false hc, if_neg (fun h => hc (by
        rcases h with h | h | h
        · omega
        · exact .inl h
        · exact .inr ⟨hh.1 h.1, h.2⟩)), if_neg (by simp)]
      rfl
set_option maxRecDepth 100000 in
set_option maxHeartbeats 1000000 in
theorem number6C (s : ByteArray) (w : World) (hs : s.size ≤ 20000000) : Calls Tryz.prog 86 #[.string s] w fun e w' => e = .returned (.int .i64 (numG s.data.toList)) ∧ w = w' := by
  have hb := get_bt s
  have HV := Lib.hid (numG_bt s)
  go_enter Tryz.func86, Tryz.ntmps86
  go_upto_region 1 with fail
  go_cut [22] (fun v22 wx => v22 = .bool (badN s) ∧ w = wx)
  case first =>
    by_cases c1 : s.size < 1
    · have e1 : decide ((s.size : Int) < 1) = true := by simp; omega
      have E : Hid (badN s = true) := by show _ = _; unfold badN; rw [decide_eq_true c1]; rfl
      go_wp2_with fail
      go_meet
      exact ⟨by rw [E.out], rfl⟩
    · have e1 : decide ((s.size : Int) < 1) = false := by simp; omega
      by_cases c2 : 8 < s.size
      · have e2 : decide ((8 : Int) < (s.size : Int)) = true := by simp; omega
        have E : Hid (badN s = true) := by show _ = _; unfold badN; rw [decide_eq_true c2]; simp
        go_wp2_with fail
        go_meet
        exact ⟨by rw [E.out], rfl⟩
      · have e2 : decide ((8 : Int) < (s.size : Int)) = false := by simp; omega
        by_cases c3 : bt s 0 = 48
        · have e3 : (bt s 0 == 48) = true := by simpa using c3
          by_cases c4 : 1 < s.size
          · have e4 : decide ((1 : Int) < (s.size : Int)) = true := by simp; omega
            have E : Hid (badN s = true) := by show _ = _; unfold badN; rw [decide_eq_true c3, decide_eq_true c4]; simp
            go_wp2_with fail
            go_meet
            exact ⟨by rw [E.out], rfl⟩
          · have e4 : decide ((1 : Int) < (s.size : Int)) = false := by simp; omega
            have E : Hid (badN s = false) := by show _ = _; unfold badN; rw [decide_eq_false c1, decide_eq_false c2, decide_eq_false c4]; simp
            go_wp2_with fail
            go_meet
            exact ⟨by rw [E.out], rfl⟩
        · have e3 : (bt s 0 == 48) = false := by simpa using c3
          have E : Hid (badN s = false) := by show _ = _; unfold badN; rw [decide_eq_false c1, decide_eq_false c2, decide_eq_false c3]; simp
          go_wp2_with fail
          go_meet
          exact ⟨by rw [E.out], rfl⟩
  case rest =>
  obtain ⟨rfl, rfl⟩ := hcut
  cases hbd : badN s with
  | true =>
    rw [hbd, if_pos rfl] at HV
    clear hbd
    go_wp2_with fail
    go_ret
    exact ⟨ret_int HV.out.symm, rfl⟩
  | false =>
    have h8 : s.size ≤ 8 := by
      unfold badN at hbd
      simp only [Bool.or_eq_false_iff, decide_eq_false_iff_not] at hbd
      omega
    rw [hbd] at HV
    simp only [Bool.false_eq_true, if_false] at HV
    clear hbd
    go_wp2_with fail
    go_loopw [3, 4] (fun v3 v4 wr => ∃ (i n : Nat), v3 = .int .i64 n ∧ v4 = .int .i64 i ∧ Hid (DgI s i n) ∧ w = wr) (fun _ v4 _ => s.size - (intOf v4).toNat)
    case atStart => exact ⟨0, 0, rfl, rfl, DgI.start s, rfl⟩
    case round =>
      obtain ⟨i, n, rfl, rfl, HN, rfl⟩ := hrel
      have hhi := HN.out.hi
      have hbig := HN.out.big h8
      by_cases hlt : i < s.size
      · have e1 : decide ((i : Int) < (s.size : Int)) = true := by simp; omega
        obtain ⟨c, hc, hbc⟩ := bt_get hlt
        have HC := Lib.hid hc
        clear hc
        by_cases c1 : c.toNat < 48
        · have e2 : decide (bt s i < 48) = true := decide_eq_true (by omega)
          have E : Hid (numG s.data.toList = -1) := by
            show _ = _
            rw [HV.out, HN.out.bad HC.out (by omega)]
          clear HV HN
          go_wp2_with fail
          go_ret
          exact ⟨ret_int E.out.symm, rfl⟩
        · have e2 : decide (bt s i < 48) = false := decide_eq_false (by omega)
          by_cases c2 : 57 < c.toNat
          · have e3 : decide (57 < bt s i) = true := decide_eq_true (by omega)
            have E : Hid (numG s.data.toList = -1) := by
              show _ = _
              rw [HV.out, HN.out.bad HC.out (by omega)]
            clear HV HN
            go_wp2_with fail
            go_ret
            exact ⟨ret_int E.out.symm, rfl⟩
          · have e3 : decide (57 < bt s i) = false := decide_eq_false (by omega)
            have HNX := Lib.hid (HN.out.next HC.out (by omega) (by omega))
            have hc1 : 48 ≤ c.toNat := by omega
            have hc2 : c.toNat ≤ 57 := by omega
            clear c1 c2
            go_wp2_with fail
            go_roundw
            case rel =>
              refine ⟨i + 1, n * 10 + (c.toNat - 48), ?_, by go_num, HNX, trivial⟩
              congr 1
              omega
            case measure => simp [intOf]; omega
      · obtain rfl : i = s.size := by omega
        have e1 : decide ((s.size : Int) < (s.size : Int)) = false := by simp
        have E : Hid (numG s.data.toList = (n : Int)) := by
          show _ = _
          rw [HV.out, HN.out.last]
        clear HV HN
        go_wp2_with fail
        go_ret
        exact ⟨ret_int E.out.symm, rfl⟩
theorem bt_is (s : ByteArray) (k : Nat) (c : UInt8) (h0 : c ≠ 0) : s.data.toList[k]? = some c ↔ bt s k = (c.toNat : Int) := by
  constructor
  · exact bt_some
  · intro h
    by_cases hk : k < s.size
    · obtain ⟨d, h1, h2⟩ := bt_get hk
      rw [h2] at h
      have : d = c := UInt8.toNat_inj.1 (by omega)
      rw [h1, this]
    · rw [bt_end s (by omega)] at h
      exact absurd (UInt8.toNat_inj.1 (show c.toNat = (0 : UInt8).toNat by show c.toNat = 0; omega)) h0
theorem head_is (s : ByteArray) (c : UInt8) (h0 : c ≠ 0) : s.data.toList.head? = some c ↔ bt s 0 = (c.toNat : Int) := by
  rw [List.head?_eq_getElem?]
  exact bt_is s 0 c h0
theorem ext_data (s : ByteArray) (i : Nat) : (s.extract i s.size).data.toList = s.data.toList.drop i := by
  simp [ByteArray.data_extract, Array.toList_extract, List.extract_eq_take_drop]
  rw [List.take_of_length_le]
  simp
theorem ext_size (s : ByteArray) (i : Nat) : (s.extract i s.size).size = s.size - i := by simp
theorem ext_mid (s : ByteArray) (i j : Nat) : (s.extract i j).data.toList = (s.data.toList.drop i).take (j - i) := by
  simp [ByteArray.data_extract, Array.toList_extract, List.extract_eq_take_drop]
theorem ext_str (s : ByteArray) (i j : Nat) : s.extract i j = str ((s.data.toList.drop i).take (j - i)) := data_inj (by rw [ext_mid, str_data])
def badR (d : ByteArray) : Bool := decide (d.size < 1) || (decide (7 < d.size) || decide (bt d 0 = 48))
def SgI (s : ByteArray) (sg : Int) : Prop := (bt s 0 = 45 ∧ sg = -1) ∨ (bt s 0 ≠ 45 ∧ sg = 1)
theorem readQ_bt {s d : ByteArray} (hd : d.data.toList = tailQ s.data.toList) {sg : Int} (hsg : SgI s sg) :
    readQ s.data.toList = if badR d then 0 else match digG 0 d.data.toList with | some n => (if litB (n : Int) then sg * (n : Int) else 0) | none => 0 := by
  unfold readQ
  rw [← hd, data_len]
  have h45 := head_is s 45 (by decide)
  have h48 := head_is d 48 (by decide)
  have e : badR d = decide (d.size < 1 ∨ 7 < d.size ∨ d.data.toList.head? = some 48) := by
    unfold badR
    rw [Bool.decide_or, Bool.decide_or, decide_eq_decide.2 h48]
    rfl
  rw [e]
  by_cases hc : d.size < 1 ∨ 7 < d.size ∨ d.data.toList.head? = some 48
  · rw [if_pos hc, decide_eq_true hc, if_pos rfl]
  · rw [if_neg hc, decide_eq_false hc, if_neg (by simp)]
    cases digG 0 d.data.toList with
    | none => rfl
    | some n =>
      dsimp only
      rcases hsg with ⟨h1, rfl⟩ | ⟨h1, rfl⟩
      · rw [if_pos (h45.2 h1), Int.neg_one_mul]
      · rw [if_neg (fun h => h1 (h45.1 h)), Int.one_mul]
set_option maxRecDepth 100000 in
set_option maxHeartbeats 1000000 in
theorem readQC (s : ByteArray) (w : World) (hs : s.size ≤ 20000000) : Calls Tryz.prog 85 #[.string s] w fun e w' => e = .returned (.int .i64 (readQ s.data.toList)) ∧ ∃ m, w.drewN m = w' := by
  have hb := get_bt s
  have hz : bt s 0 = 45 → 0 < s.size := fun h => by
    rcases Nat.eq_zero_or_pos s.size with h0 | h0
    · rw [bt_end s (by omega)] at h; omega
    · exact h0
  go_enter Tryz.func85, Tryz.ntmps85
  go_upto_region 2 with fail
  go_cut [15] (fun v15 wx => v15 = .bool (decide (bt s 0 = 45)) ∧ w = wx)
  case first =>
    by_cases h0 : 0 < s.size
    · have e0 : decide ((0 : Int) < (s.size : Int)) = true := by simp; omega
      have e1 : (bt s 0 == 45) = decide (bt s 0 = 45) := rfl
      go_wp2_with fail
      go_meet
      exact ⟨by first | rfl | rw [e1], rfl⟩
    · have e0 : decide ((0 : Int) < (s.size : Int)) = false := decide_eq_false (by omega)
      have e1 : decide (bt s 0 = 45) = false := decide_eq_false (fun h => h0 (hz h))
      go_wp2_with fail
      go_meet
      exact ⟨by rw [e1], rfl⟩
  case rest =>
  obtain ⟨rfl, rfl⟩ := hcut
  go_upto_if 15 with fail
  go_cut [3, 4] (fun v3 v4 wx => (∃ m, w.drewN m = wx) ∧ ∃ (d : ByteArray) (sg : Int), v3 = .int .i64 sg ∧ v4 = .string d ∧ Hid (d.data.toList = tailQ s.data.toList) ∧ d.size ≤ 20000000 ∧ Hid (SgI s sg))
  case first =>
    by_cases hsg : bt s 0 = 45
    · have h0 := hz hsg
      have h1 : (1 : Int) ≤ (s.size : Int) := by omega
      rw [decide_eq_true hsg]
      have HD : Hid ((s.extract 1 s.size).data.toList = tailQ s.data.toList) := by
        show _ = _
        rw [ext_data]
        unfold tailQ
        rw [if_pos ((head_is s 45 (by decide)).2 hsg), List.drop_one]
      have HSG := Lib.hid hsg
      clear hsg
      go_wp2_with fail
      first | go_quiet (fail) | skip
      go_wp2_with fail
      go_meet
      exact ⟨⟨_, rfl⟩, _, -1, rfl, rfl, HD, by rw [ext_size]; omega, .inl ⟨HSG.out, rfl⟩⟩
    · rw [decide_eq_false hsg]
      have HD : Hid (s.data.toList = tailQ s.data.toList) := by
        show _ = _
        unfold tailQ
        rw [if_neg (fun h => hsg ((head_is s 45 (by decide)).1 h))]
      have HSG := Lib.hid hsg
      clear hsg
      go_wp2_with fail
      go_meet
      exact ⟨⟨0, rfl⟩, s, 1, rfl, rfl, HD, hs, .inr ⟨HSG.out, rfl⟩⟩
  case rest =>
  obtain ⟨⟨m0, rfl⟩, d, sg, rfl, rfl, HD, hds, HSG⟩ := hcut
  have hbd := get_bt d
  have HV := Lib.hid (readQ_bt HD.out HSG.out)
  have hsg1 : sg = 1 ∨ sg = -1 := by rcases HSG.out with ⟨_, h⟩ | ⟨_, h⟩; exact .inr h; exact .inl h
  clear HD HSG hz hb
  go_upto_region 4 with fail
  go_cut [30] (fun v30 wx => v30 = .bool (badR d) ∧ w.drewN m0 = wx)
  case first =>
    by_cases c1 : d.size < 1
    · have e1 : decide ((d.size : Int) < 1) = true := by simp; omega
      have E : Hid (badR d = true) := by show _ = _; unfold badR; rw [decide_eq_true c1]; rfl
      go_wp2_with fail
      go_meet
      exact ⟨by rw [E.out], rfl⟩
    · have e1 : decide ((d.size : Int) < 1) = false := by simp; omega
      by_cases c2 : 7 < d.size
      · have e2 : decide ((7 : Int) < (d.size : Int)) = true := by simp; omega
        have E : Hid (badR d = true) := by show _ = _; unfold badR; rw [decide_eq_true c2]; simp
        go_wp2_with fail
        go_meet
        exact ⟨by rw [E.out], rfl⟩
      · have e2 : decide ((7 : Int) < (d.size : Int)) = false := by simp; omega
        have E : Hid (badR d = (bt d 0 == 48)) := by show _ = _; unfold badR; rw [decide_eq_false c1, decide_eq_false c2]; rfl
        go_wp2_with fail
        go_meet
        exact ⟨by rw [E.out], rfl⟩
  case rest =>
  obtain ⟨rfl, rfl⟩ := hcut
  cases hbr : badR d with
  | true =>
    rw [hbr, if_pos rfl] at HV
    clear hbr
    go_wp2_with fail
    go_ret
    exact ⟨ret_int HV.out.symm, m0, rfl⟩
  | false =>
    have h8 : d.size ≤ 8 := by
      unfold badR at hbr
      simp only [Bool.or_eq_false_iff, decide_eq_false_iff_not] at hbr
      omega
    rw [hbr] at HV
    simp only [Bool.false_eq_true, if_false] at HV
    clear hbr
    go_wp2_with fail
    go_loopw [5, 6] (fun v5 v6 wr => ∃ (i n : Nat), v5 = .int .i64 n ∧ v6 = .int .i64 i ∧ Hid (DgI d i n) ∧ w.drewN m0 = wr) (fun _ v6 _ => d.size - (intOf v6).toNat)
    case atStart => exact ⟨0, 0, rfl, rfl, DgI.start d, rfl⟩
    case round =>
      obtain ⟨i, n, rfl, rfl, HN, rfl⟩ := hrel
      have hhi := HN.out.hi
      have hbig := HN.out.big h8
      by_cases hlt : i < d.size
      · have e1 : decide ((i : Int) < (d.size : Int)) = true := by simp; omega
        obtain ⟨c, hc, hbc⟩ := bt_get hlt
        have HC := Lib.hid hc
        clear hc
        by_cases c1 : c.toNat < 48
        · have e2 : decide (bt d i < 48) = true := decide_eq_true (by omega)
          have E : Hid (readQ s.data.toList = 0) := by
            show _ = _
            rw [HV.out, HN.out.bad HC.out (by omega)]
          clear HV HN
          go_wp2_with fail
          go_ret
          exact ⟨ret_int E.out.symm, m0, rfl⟩
        · have e2 : decide (bt d i < 48) = false := decide_eq_false (by omega)
          by_cases c2 : 57 < c.toNat
          · have e3 : decide (57 < bt d i) = true := decide_eq_true (by omega)
            have E : Hid (readQ s.data.toList = 0) := by
              show _ = _
              rw [HV.out, HN.out.bad HC.out (by omega)]
            clear HV HN
            go_wp2_with fail
            go_ret
            exact ⟨ret_int E.out.symm, m0, rfl⟩
          · have e3 : decide (57 < bt d i) = false := decide_eq_false (by omega)
            have HNX := Lib.hid (HN.out.next HC.out (by omega) (by omega))
            have hc1 : 48 ≤ c.toNat := by omega
            have hc2 : c.toNat ≤ 57 := by omega
            clear c1 c2
            go_wp2_with fail
            go_roundw
            case rel =>
              refine ⟨i + 1, n * 10 + (c.toNat - 48), ?_, by go_num, HNX, trivial⟩
              congr 1
              omega
            case measure => simp [intOf]; omega
      · obtain rfl : i = d.size := by omega
        have e1 : decide ((d.size : Int) < (d.size : Int)) = false := by simp
        have E : Hid (readQ s.data.toList = if litB (n : Int) then sg * (n : Int) else 0) := by
          show _ = _
          rw [HV.out, HN.out.last]
        have hmul : IntKind.i64.wrap (sg * (n : Int)) = sg * (n : Int) := by
          rw [IntKind.wrap_i64]
          rcases hsg1 with rfl | rfl <;> omega
        clear HV HN
        go_wp2_with fail
        refine (litRightQ (n : Int) _).mono ?_
        rintro e w1 ⟨rfl, rfl⟩
        cases hq : litB (n : Int) with
        | true =>
          rw [hq, if_pos rfl] at E
          clear hq
          go_wp2_with fail
          go_ret
          exact ⟨ret_int E.out.symm, m0, rfl⟩
        | false =>
          rw [hq] at E
          simp only [Bool.false_eq_true, if_false] at E
          clear hq
          go_wp2_with fail
          go_ret
          exact ⟨ret_int E.out.symm, m0, rfl⟩
end Go.Proofs.YtkpcpclaadgnbaaGreatDoor
