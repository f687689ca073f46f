/-
  salvorref06: over, Split, words, ParseHeader.
-/
import Derived.Test.YtkpcpclaadgnbaaGreatDoorRefN6
import Derived.Test.YtkpcpclaadgnbaaGreatDoorSpaceL
import Derived.Deep.QuietTactic
import Derived.BigQuiet
set_option linter.unusedVariables false
set_option linter.unusedSimpArgs false
namespace Go.Proofs.YtkpcpclaadgnbaaGreatDoor
open Go.RowKit Go.PlainAid

def cmtS (s : ByteArray) : Bool := decide (bt s 0 = 99) && (decide (s.size = 1) || decide (bt s 1 = 32))
theorem overD_bt (s : ByteArray) : overD s.data.toList = if cmtS s then true else s.data.toList.all (· == 32) := by
  have h0 := bt_is s 0 99 (by decide)
  have h1 := bt_is s 1 32 (by decide)
  have e : cmtS s = decide (s.data.toList[0]? = some 99 ∧ (s.data.toList.length = 1 ∨ s.data.toList[1]? = some 32)) := by
    unfold cmtS
    rw [Bool.decide_and, Bool.decide_or, decide_eq_decide.2 h0, decide_eq_decide.2 h1, data_len]
    rfl
  rw [e]
  by_cases hc : s.data.toList[0]? = some 99 ∧ (s.data.toList.length = 1 ∨ s.data.toList[1]? = some 32)
  · rw [decide_eq_true hc, if_pos rfl, overD_c _ hc]
  · rw [decide_eq_false hc, if_neg (by simp), overD_n _ hc]
set_option maxRecDepth 100000 in
set_option maxHeartbeats 1000000 in
theorem overQC (s : ByteArray) (w : World) (hs : s.size ≤ 20000000) : Calls Tryz.prog 83 #[.string s] w fun e w' => e = .returned (.bool (overD s.data.toList)) ∧ w = w' := by
  have hb := get_bt s
  have HV := Lib.hid (overD_bt s)
  go_enter Tryz.func83, Tryz.ntmps83
  go_upto_region 1 with fail
  go_cut [21] (fun v21 wx => v21 = .bool (cmtS s) ∧ w = wx)
  case first =>
    by_cases h0 : 0 < s.size
    · have e0 : decide ((0 : Int) < (s.size : Int)) = true := by simp; omega
      by_cases c1 : bt s 0 = 99
      · have e1 : (bt s 0 == 99) = true := by simpa using c1
        by_cases c2 : s.size = 1
        · have e2 : ((s.size : Int) == 1) = true := by simp; omega
          have E : Hid (cmtS s = true) := by show _ = _; unfold cmtS; rw [decide_eq_true c1, decide_eq_true c2]; rfl
          clear c2
          go_wp2_with fail
          go_meet
          exact ⟨by rw [E.out], rfl⟩
        · have e2 : ((s.size : Int) == 1) = false := by simp; omega
          have h1 : 1 < s.size := by omega
          have h1i : (1 : Int) < (s.size : Int) := by omega
          have E : Hid (cmtS s = (bt s 1 == 32)) := by show _ = _; unfold cmtS; rw [decide_eq_true c1, decide_eq_false c2]; rfl
          clear c2
          go_wp2_with fail
          go_meet
          exact ⟨by rw [E.out], rfl⟩
      · have e1 : (bt s 0 == 99) = false := by simpa using c1
        have E : Hid (cmtS s = false) := by show _ = _; unfold cmtS; rw [decide_eq_false c1]; rfl
        go_wp2_with fail
        go_meet
        exact ⟨by rw [E.out], rfl⟩
    · have e0 : decide ((0 : Int) < (s.size : Int)) = false := decide_eq_false (by omega)
      have E : Hid (cmtS s = false) := by show _ = _; unfold cmtS; rw [bt_end s (by omega)]; rfl
      go_wp2_with fail
      go_meet
      exact ⟨by rw [E.out], rfl⟩
  case rest =>
  obtain ⟨rfl, rfl⟩ := hcut
  cases hc : cmtS s with
  | true =>
    rw [hc, if_pos rfl] at HV
    clear hc
    go_wp2_with fail
    go_ret
    exact ⟨ret_bool HV.out.symm, rfl⟩
  | false =>
    rw [hc] at HV
    simp only [Bool.false_eq_true, if_false] at HV
    clear hc
    go_wp2_with fail
    go_loopw [3] (fun v3 wr => ∃ i : Nat, i ≤ s.size ∧ v3 = .int .i64 i ∧ Hid ((s.data.toList.take i).all (· == 32) = true) ∧ w = wr) (fun v3 _ => s.size - (intOf v3).toNat)
    case atStart => exact ⟨0, Nat.zero_le _, rfl, rfl, rfl⟩
    case round =>
      obtain ⟨i, hi, rfl, HA, rfl⟩ := hrel
      by_cases hlt : i < s.size
      · have e1 : decide ((i : Int) < (s.size : Int)) = true := by simp; omega
        obtain ⟨c, hc, hbc⟩ := bt_get hlt
        have HC := Lib.hid hc
        clear hc
        by_cases c1 : bt s i = 32
        · have e2 : (bt s i != 32) = false := by simpa using c1
          have HN : Hid ((s.data.toList.take (i + 1)).all (· == 32) = true) := by
            show _ = _
            rw [take_snoc HC.out, List.all_append, HA.out]
            have : c = 32 := UInt8.toNat_inj.1 (by rw [hbc] at c1; show c.toNat = 32; omega)
            rw [this]
            rfl
          clear c1
          go_wp2_with fail
          go_roundw
          case rel => exact ⟨i + 1, by omega, by go_num, HN, trivial⟩
          case measure => simp [intOf]; omega
        · have e2 : (bt s i != 32) = true := by simpa using c1
          have E : Hid (overD s.data.toList = false) := by
            show _ = _
            rw [HV.out, List.all_eq_false]
            refine ⟨c, List.mem_of_getElem? HC.out, fun h => c1 ?_⟩
            have : c = 32 := by simpa using h
            rw [hbc, this]
            rfl
          clear HV HA c1
          go_wp2_with fail
          go_ret
          exact ⟨ret_bool E.out.symm, rfl⟩
      · have e1 : decide ((i : Int) < (s.size : Int)) = false := by simp; omega
        have E : Hid (overD s.data.toList = true) := by
          show _ = _
          rw [HV.out]
          have h := HA.out
          rwa [List.take_of_length_le (by rw [data_len]; omega)] at h
        clear HV HA
        go_wp2_with fail
        go_ret
        exact ⟨ret_bool E.out.symm, rfl⟩

theorem own_stepS {W w w1 : World} {t : TypeId} {n : Nat} {v : Value} {xs : List Value} {o : Obj} (hb : Below W.heap.size W w) (ho : w.ownsRow W.heap.size t 1 v n xs) (hg : (w.alloc o).grownBy w1 v.ownBlock) : Below W.heap.size W w1 :=
  (balloc hb o).grown hg (by have := hb.size; simp; omega) (fun k hk => (ho.lt k hk).1)
/-- A list of strings of the call's own. -/
def StrsPost (w : World) (L : List (List UInt8)) (e : Ending) (w' : World) : Prop :=
  ∃ A n c, e = .returned (.slice A n c) ∧ w'.ownsRow w.heap.size 9 1 (.slice A n c) n (valS L) ∧ L.length = n ∧ Below w.heap.size w w'
set_option maxRecDepth 100000 in
set_option maxHeartbeats 1000000 in
theorem splitQC (s : ByteArray) (w : World) (hs : s.size ≤ 20000000) : Calls Tryz.prog 44 #[.string s] w (StrsPost w (Lib.split s.data.toList [10])) := by
  have hb := get_bt s
  go_enter Tryz.func44, Tryz.ntmps44
  go_wp2_with fail
  go_loopw [3, 4, 5] (fun v3 v4 v5 wr => ∃ (fr i n c : Nat) (P : List (List UInt8)) (A : Option Addr), v3 = .slice A n c ∧ v4 = .int .i64 fr ∧ v5 = .int .i64 i ∧ Hid (PcI 10 s.data.toList fr i P) ∧ Hid (P.length = n) ∧ Hid (wr.ownsRow w.heap.size 9 1 (.slice A n c) n (valS P)) ∧ Hid (Below w.heap.size w wr)) (fun _ _ v5 _ => s.size - (intOf v5).toNat)
  case atStart => exact ⟨0, 0, 0, 0, [], none, rfl, rfl, rfl, PcI.start _ _, rfl, World.ownsRow_nil _ _ _ _, Below.refl _ _⟩
  case round =>
    obtain ⟨fr, i, n, c, P, A, rfl, rfl, rfl, HP, HL, HO, HB⟩ := hrel
    have hlo := HP.out.lo
    have hhi : i ≤ s.size := by have := HP.out.hi; rwa [data_len] at this
    have hn : n ≤ 20000001 := by
      have h1 := HP.out.len
      have h2 := HL.out
      rw [data_len] at h1
      omega
    have hws : w.heap.size ≤ wr.heap.size := HB.out.size
    have z0 : (0 : Int) ≤ (fr : Int) := by omega
    have z1 : (fr : Int) ≤ (i : Int) := by omega
    have z2 : (i : Int) ≤ (s.size : Int) := by omega
    have z3 : (fr : Int) ≤ (s.size : Int) := by omega
    by_cases hlt : i < s.size
    · have e1 : decide ((i : Int) < (s.size : Int)) = true := by simp; omega
      obtain ⟨d, hd, hbd⟩ := bt_get hlt
      have HD := Lib.hid hd
      clear hd
      by_cases c1 : bt s i = 10
      · have e2 : (bt s i == 10) = true := by simpa using c1
        have hdd : d = 10 := UInt8.toNat_inj.1 (by rw [hbd] at c1; show d.toNat = 10; omega)
        subst hdd
        have HP2 := Lib.hid (HP.out.piece HD.out)
        clear c1
        go_wp2_with (at_builtin; refine wpList_app el_str rfl (.tmp 16) (.tmp 21) rfl w.heap.size (.slice A n c) n _ rfl (HO.out.alloc _) (some ⟨wr.heap.size, 0, none⟩) 1 1 [.string (s.extract fr i)] rfl (Rd.new _ #[_] _) rfl (by simp [Value.oneCell']) (by omega) (by simp; omega) ?_; intro A2 c2 w5 hown1 hgr1 hat1; have Ho1 := Lib.hid hown1; have Hg1 := Lib.hid hgr1; clear hown1 hgr1 hat1)
        go_roundw
        case rel =>
          refine ⟨i + 1, i + 1, n + 1, c2, P ++ [(s.data.toList.drop fr).take (i - fr)], A2, rfl, by go_num, by go_num, HP2, ?_, ?_, own_stepS HB.out HO.out Hg1.out⟩
          · show _ = _
            rw [List.length_append, HL.out]; rfl
          · show World.ownsRow _ _ _ _ _ _ _
            rw [valS_app]
            have h1 : valS [(s.data.toList.drop fr).take (i - fr)] = [.string (s.extract fr i)] := by rw [ext_str]; rfl
            rw [h1]
            exact Ho1.out
        case measure => simp [intOf]; omega
      · have e2 : (bt s i == 10) = false := by simpa using c1
        have HP2 := Lib.hid (HP.out.skip HD.out (fun h => c1 (by rw [hbd, h]; rfl)))
        clear c1
        go_wp2_with fail
        go_roundw
        case rel => exact ⟨fr, i + 1, n, c, P, A, rfl, rfl, by go_num, HP2, HL, HO, HB⟩
        case measure => simp [intOf]; omega
    · obtain rfl : i = s.size := by omega
      have e1 : decide ((s.size : Int) < (s.size : Int)) = false := by simp
      have HS : Hid (Lib.split s.data.toList [10] = P ++ [s.data.toList.drop fr]) := PcI.last (by rw [data_len]; exact HP.out)
      go_wp2_with (at_builtin; refine wpList_app el_str rfl (.tmp 25) (.tmp 29) rfl w.heap.size (.slice A n c) n _ rfl (HO.out.alloc _) (some ⟨wr.heap.size, 0, none⟩) 1 1 [.string (s.extract fr s.size)] rfl (Rd.new _ #[_] _) rfl (by simp [Value.oneCell']) (by omega) (by simp; omega) ?_; intro A2 c2 w5 hown1 hgr1 hat1; have Ho1 := Lib.hid hown1; have Hg1 := Lib.hid hgr1; clear hown1 hgr1 hat1)
      go_ret
      refine ⟨A2, n + 1, c2, rfl, ?_, ?_, own_stepS HB.out HO.out Hg1.out⟩
      · rw [HS.out, valS_app]
        have h1 : valS [s.data.toList.drop fr] = [.string (s.extract fr s.size)] := by
          have : s.extract fr s.size = str (s.data.toList.drop fr) := data_inj (by rw [ext_data, str_data])
          rw [this]
          rfl
        rw [h1]
        exact Ho1.out
      · rw [HS.out, List.length_append, HL.out]
        rfl
/-! ### words -/
def neW (L : List (List UInt8)) : List (List UInt8) := L.filter fun w => !w.isEmpty
theorem neW_app (P : List (List UInt8)) (x : List UInt8) : neW (P ++ [x]) = neW P ++ (if x = [] then [] else [x]) := by
  unfold neW
  rw [List.filter_append]
  congr 1
  cases x <;> simp
theorem neW_len (P : List (List UInt8)) : (neW P).length ≤ P.length := List.length_filter_le _ _
def WdI (s : ByteArray) (fr i : Nat) (P Q : List (List UInt8)) : Prop := (i ≤ s.size ∧ PcI 32 s.data.toList fr i P ∧ Q = neW P) ∨ (i = s.size + 1 ∧ Q = wordsL s.data.toList)
theorem WdI.len {s : ByteArray} {fr i : Nat} {P Q : List (List UInt8)} (h : WdI s fr i P Q) : Q.length ≤ s.size + 1 := by
  rcases h with ⟨_, h1, rfl⟩ | ⟨_, rfl⟩
  · have h2 := h1.len
    have h3 := neW_len P
    rw [data_len] at h2
    omega
  · have := wordsL_len s.data.toList
    rwa [data_len] at this
theorem piece_ne (s : ByteArray) {fr i : Nat} (h : fr ≤ i) (hi : i ≤ s.size) : (s.data.toList.drop fr).take (i - fr) = [] ↔ ¬ fr < i := by
  rw [← List.length_eq_zero_iff, List.length_take, List.length_drop, data_len]
  omega
/-- A word ends. -/
theorem WdI.piece {s : ByteArray} {fr i : Nat} {P Q : List (List UInt8)} (h : PcI 32 s.data.toList fr i P) (hQ : Q = neW P) (hi : i ≤ s.size) (hc : i = s.size ∨ bt s i = 32) :
    ∃ P', WdI s (i + 1) (i + 1) P' (Q ++ (if fr < i then [(s.data.toList.drop fr).take (i - fr)] else [])) := by
  have hlo := h.lo
  have hpe := piece_ne s hlo hi
  have hap : neW (P ++ [(s.data.toList.drop fr).take (i - fr)]) = Q ++ (if fr < i then [(s.data.toList.drop fr).take (i - fr)] else []) := by
    rw [neW_app, hQ]
    congr 1
    by_cases hlt : fr < i
    · rw [if_pos hlt, if_neg (fun e => hpe.1 e hlt)]
    · rw [if_neg hlt, if_pos (hpe.2 hlt)]
  by_cases hlt : i < s.size
  · have hb : s.data.toList[i]? = some 32 := by
      obtain ⟨d, h1, h2⟩ := bt_get hlt
      rw [h1]
      rcases hc with hc | hc
      · omega
      · rw [UInt8.toNat_inj.1 (show d.toNat = (32 : UInt8).toNat by rw [h2] at hc; show d.toNat = 32; omega)]
    exact ⟨_, .inl ⟨hlt, h.piece hb, hap.symm⟩⟩
  · obtain rfl : i = s.size := by omega
    refine ⟨[], .inr ⟨rfl, ?_⟩⟩
    have hl := PcI.last (c := 32) (l := s.data.toList) (fr := fr) (P := P) (by rw [data_len]; exact h)
    rw [← hap]
    unfold wordsL
    rw [hl, List.take_of_length_le (by rw [List.length_drop, data_len]; exact Nat.le_refl _)]
    rfl
set_option maxRecDepth 100000 in
set_option maxHeartbeats 1000000 in
theorem wordsQC (s : ByteArray) (w : World) (hs : s.size ≤ 20000000) : Calls Tryz.prog 84 #[.string s] w (StrsPost w (wordsL s.data.toList)) := by
  have hb := get_bt s
  go_enter Tryz.func84, Tryz.ntmps84
  go_wp2_with fail
  go_loopw [3, 4, 5] (fun v3 v4 v5 wr => ∃ (fr i n c : Nat) (P Q : List (List UInt8)) (A : Option Addr), v3 = .slice A n c ∧ v4 = .int .i64 fr ∧ v5 = .int .i64 i ∧ i ≤ s.size + 1 ∧ Hid (WdI s fr i P Q) ∧ Hid (Q.length = n) ∧ Hid (wr.ownsRow w.heap.size 9 1 (.slice A n c) n (valS Q)) ∧ Hid (Below w.heap.size w wr)) (fun _ _ v5 _ => s.size + 1 - (intOf v5).toNat)
  case atStart => exact ⟨0, 0, 0, 0, [], [], none, rfl, rfl, rfl, by omega, .inl ⟨Nat.zero_le _, PcI.start _ _, rfl⟩, rfl, World.ownsRow_nil _ _ _ _, Below.refl _ _⟩
  case round =>
    obtain ⟨fr, i, n, c, P, Q, A, rfl, rfl, rfl, hi1, HW, HL, HO, HB⟩ := hrel
    have hn : n ≤ 20000001 := by
      have h1 := HW.out.len
      have h2 := HL.out
      omega
    have hws : w.heap.size ≤ wr.heap.size := HB.out.size
    by_cases hle : i ≤ s.size
    · have e1 : decide ((i : Int) ≤ (s.size : Int)) = true := by simp; omega
      obtain ⟨hP, hQ⟩ : PcI 32 s.data.toList fr i P ∧ Q = neW P := by
        rcases HW.out with ⟨_, h1, h2⟩ | ⟨h1, _⟩
        · exact ⟨h1, h2⟩
        · omega
      have hlo := hP.lo
      have HP := Lib.hid hP
      have HQ := Lib.hid hQ
      have z0 : (0 : Int) ≤ (fr : Int) := by omega
      have z1 : (fr : Int) ≤ (i : Int) := by omega
      have z2 : (i : Int) ≤ (s.size : Int) := by omega
      clear hP hQ HW
      obtain ⟨b, hbv⟩ : ∃ b, decide (i = s.size ∨ bt s i = 32) = b := ⟨_, rfl⟩
      have HBV := Lib.hid hbv
      clear hbv
      go_upto_region 6 with fail
      go_cut [21] (fun v21 wx => v21 = .bool b ∧ wr = wx)
      case first =>
        by_cases c1 : i = s.size
        · have e2 : ((i : Int) == (s.size : Int)) = true := by simp; omega
          have E : Hid (b = true) := by show _ = _; rw [← HBV.out]; exact decide_eq_true (.inl c1)
          clear c1
          go_wp2_with fail
          go_meet
          exact ⟨by rw [E.out], rfl⟩
        · have e2 : ((i : Int) == (s.size : Int)) = false := by simp; omega
          have hlt : i < s.size := by omega
          have E : Hid (b = (bt s i == 32)) := by
            show _ = _
            rw [← HBV.out, Bool.decide_or, decide_eq_false c1]
            rfl
          clear c1
          go_wp2_with fail
          go_meet
          exact ⟨by rw [E.out], rfl⟩
      case rest =>
      obtain ⟨rfl, rfl⟩ := hcut
      cases b with
      | true =>
        have hor := of_decide_eq_true HBV.out
        have HN := Lib.hid (WdI.piece HP.out HQ.out hle hor)
        clear hor HBV
        by_cases hfi : fr < i
        · have e3 : decide ((fr : Int) < (i : Int)) = true := by simp; omega
          go_wp2_with (at_builtin; refine wpList_app el_str rfl (.tmp 25) (.tmp 30) rfl w.heap.size (.slice A n c) n _ rfl (HO.out.alloc _) (some ⟨wr.heap.size, 0, none⟩) 1 1 [.string (s.extract fr i)] rfl (Rd.new _ #[_] _) rfl (by simp [Value.oneCell']) (by omega) (by simp; omega) ?_; intro A2 c2 w5 hown1 hgr1 hat1; have Ho1 := Lib.hid hown1; have Hg1 := Lib.hid hgr1; clear hown1 hgr1 hat1)
          go_roundw
          case rel =>
            obtain ⟨P', hP'⟩ := HN.out
            rw [if_pos hfi] at hP'
            refine ⟨i + 1, i + 1, n + 1, c2, P', _, A2, rfl, by go_num, by go_num, by omega, hP', ?_, ?_, own_stepS HB.out HO.out Hg1.out⟩
            · show _ = _
              rw [List.length_append, HL.out]; rfl
            · show World.ownsRow _ _ _ _ _ _ _
              rw [valS_app]
              have h1 : valS [(s.data.toList.drop fr).take (i - fr)] = [.string (s.extract fr i)] := by rw [ext_str]; rfl
              rw [h1]
              exact Ho1.out
          case measure => simp [intOf]; omega
        · have e3 : decide ((fr : Int) < (i : Int)) = false := by simp; omega
          go_wp2_with fail
          go_roundw
          case rel =>
            obtain ⟨P', hP'⟩ := HN.out
            rw [if_neg hfi, List.append_nil] at hP'
            exact ⟨i + 1, i + 1, n, c, P', Q, A, rfl, by go_num, by go_num, by omega, hP', HL, HO, HB⟩
          case measure => simp [intOf]; omega
      | false =>
        have hno := of_decide_eq_false HBV.out
        have hlt : i < s.size := by omega
        have HN : Hid (WdI s fr (i + 1) P Q) := by
          obtain ⟨d, h1, h2⟩ := bt_get hlt
          exact .inl ⟨hlt, HP.out.skip h1 (fun h => hno (.inr (by rw [h2, h]; rfl))), HQ.out⟩
        clear hno HBV
        go_wp2_with fail
        go_roundw
        case rel => exact ⟨fr, i + 1, n, c, P, Q, A, rfl, rfl, by go_num, by omega, HN, HL, HO, HB⟩
        case measure => simp [intOf]; omega
    · have e1 : decide ((i : Int) ≤ (s.size : Int)) = false := by simp; omega
      have HQ : Hid (Q = wordsL s.data.toList) := by
        rcases HW.out with ⟨h1, _⟩ | ⟨_, h1⟩
        · omega
        · exact h1
      go_wp2_with fail
      go_ret
      refine ⟨A, n, c, rfl, ?_, ?_, HB.out⟩
      · rw [← HQ.out]
        exact HO.out
      · rw [← HQ.out]
        exact HL.out
/-! ### ParseHeader -/
def shortH (s : ByteArray) : Bool := decide (s.size < 9) || ((s.extract 0 6).toList != pcnf)
theorem parseH_bt {s : ByteArray} (h : shortH s = true) : parseH s.data.toList = none := by
  refine parseH_short ?_
  rw [data_len]
  unfold shortH at h
  rcases Bool.or_eq_true _ _ ▸ h with h | h
  · exact .inl (of_decide_eq_true h)
  · refine .inr ?_
    rw [toList_data, ext_mid, List.drop_zero] at h
    simpa using h
/-- No space from the seventh byte on. -/
structure NsI (s : ByteArray) (i : Nat) : Prop where
  lo : 6 ≤ i
  hi : i ≤ s.size
  no : (32 : UInt8) ∉ (s.data.toList.drop 6).take (i - 6)
theorem NsI.next {s : ByteArray} {i : Nat} (h : NsI s i) (hlt : i < s.size) (hb : bt s i ≠ 32) : NsI s (i + 1) := by
  obtain ⟨d, h1, h2⟩ := bt_get hlt
  have hlo := h.lo
  refine ⟨by omega, hlt, ?_⟩
  rw [show i + 1 - 6 = (i - 6) + 1 by omega, List.take_add_one, List.getElem?_drop, show 6 + (i - 6) = i by omega, h1]
  intro hm
  rcases List.mem_append.1 hm with hm | hm
  · exact h.no hm
  · simp at hm
    have : d = 32 := hm.symm
    exact hb (by rw [h2, this]; rfl)
theorem parseH_at {s : ByteArray} {i : Nat} (hsh : shortH s = false) (h : NsI s i) (hlt : i < s.size) (hb : bt s i = 32) :
    parseH s.data.toList = if hdOk (numG (s.extract 6 i).data.toList) (numG (s.extract (i + 1) s.size).data.toList) = true then some (numG (s.extract 6 i).data.toList, numG (s.extract (i + 1) s.size).data.toList) else none := by
  obtain ⟨d, h1, h2⟩ := bt_get hlt
  have hlo := h.lo
  have hd : d = 32 := UInt8.toNat_inj.1 (show d.toNat = (32 : UInt8).toNat by rw [h2] at hb; show d.toNat = 32; omega)
  subst hd
  have h6 : s.data.toList.take 6 = pcnf := by
    unfold shortH at hsh
    rw [Bool.or_eq_false_iff] at hsh
    have := hsh.2
    rw [toList_data, ext_mid, List.drop_zero] at this
    simpa using this
  rw [ext_mid, ext_data]
  refine parseH_parts ?_ h.no
  conv => lhs; rw [← List.take_append_drop 6 s.data.toList, h6]
  congr 1
  have h3 : (s.data.toList.drop 6).drop (i - 6) = 32 :: s.data.toList.drop (i + 1) := by
    rw [List.drop_drop, show 6 + (i - 6) = i by omega]
    exact drop_at h1
  rw [← h3, List.take_append_drop]
theorem headT_none {t : List UInt8} (h : parseH t = none) : headT t = (0, 0, false) := by unfold headT; rw [h]
theorem headT_some {t : List UInt8} {v n : Int} (h : parseH t = some (v, n)) : headT t = (v, n, true) := by unfold headT; rw [h]
theorem ret3b {a b a' b' : Int} {c c' : Bool} (h : (a, b, c) = (a', b', c')) : Ending.returned (.tuple #[.int .i64 a, .int .i64 b, .bool c]) = .returned (.tuple #[.int .i64 a', .int .i64 b', .bool c']) := by
  simp only [Prod.mk.injEq] at h
  obtain ⟨rfl, rfl, rfl⟩ := h
  rfl
set_option maxRecDepth 100000 in
set_option maxHeartbeats 1000000 in
theorem headQC (s : ByteArray) (w : World) (hs : s.size ≤ 20000000) : Calls Tryz.prog 45 #[.string s] w fun e w' => e = .returned (.tuple #[.int .i64 (headT s.data.toList).1, .int .i64 (headT s.data.toList).2.1, .bool (headT s.data.toList).2.2]) ∧ ∃ k, w.drewN k = w' := by
  have hb := get_bt s
  go_enter Tryz.func45, Tryz.ntmps45
  go_upto_region 1 with fail
  go_cut [15] (fun v15 wx => v15 = .bool (shortH s) ∧ w = wx)
  case first =>
    by_cases c1 : s.size < 9
    · have e1 : decide ((s.size : Int) < 9) = true := by simp; omega
      have E : Hid (shortH s = true) := by show _ = _; unfold shortH; rw [decide_eq_true c1]; rfl
      go_wp2_with fail
      go_meet
      exact ⟨by rw [E.out], rfl⟩
    · have e1 : decide ((s.size : Int) < 9) = false := by simp; omega
      have h6 : (6 : Int) ≤ (s.size : Int) := by omega
      cases hq : ((s.extract 0 6).toList == pcnf) with
      | true =>
        have e2 : ((s.extract 0 6).toList == [112, 32, 99, 110, 102, 32]) = true := hq
        have e3 : ((s.extract 0 6).toList != [112, 32, 99, 110, 102, 32]) = false := by rw [bne, e2]; rfl
        have E : Hid (shortH s = false) := by show _ = _; unfold shortH; rw [decide_eq_false c1, bne, hq]; rfl
        clear hq
        go_wp2_with fail
        go_meet
        exact ⟨by rw [E.out], rfl⟩
      | false =>
        have e2 : ((s.extract 0 6).toList == [112, 32, 99, 110, 102, 32]) = false := hq
        have e3 : ((s.extract 0 6).toList != [112, 32, 99, 110, 102, 32]) = true := by rw [bne, e2]; rfl
        have E : Hid (shortH s = true) := by show _ = _; unfold shortH; rw [decide_eq_false c1, bne, hq]; rfl
        clear hq
        go_wp2_with fail
        go_meet
        exact ⟨by rw [E.out], rfl⟩
  case rest =>
  obtain ⟨rfl, rfl⟩ := hcut
  cases hsh : shortH s with
  | true =>
    have E := Lib.hid (headT_none (parseH_bt hsh))
    clear hsh
    go_wp2_with fail
    go_ret3
    exact ⟨ret3b E.out.symm, 0, rfl⟩
  | false =>
    have h9 : 9 ≤ s.size := by
      unfold shortH at hsh
      rw [Bool.or_eq_false_iff, decide_eq_false_iff_not] at hsh
      omega
    have HSH := Lib.hid hsh
    clear hsh
    go_wp2_with fail
    go_loopw [5] (fun v5 wr => ∃ i : Nat, v5 = .int .i64 i ∧ Hid (NsI s i) ∧ w = wr) (fun v5 _ => s.size - (intOf v5).toNat)
    case atStart => exact ⟨6, rfl, ⟨Nat.le_refl _, by omega, by simp⟩, rfl⟩
    case round =>
      obtain ⟨i, rfl, HN, rfl⟩ := hrel
      have hlo := HN.out.lo
      have hhi := HN.out.hi
      by_cases hlt : i < s.size
      · have e1 : decide ((i : Int) < (s.size : Int)) = true := by simp; omega
        by_cases c1 : bt s i = 32
        · have e2 : (bt s i != 32) = false := by simpa using c1
          have e3 : ((i : Int) == (s.size : Int)) = false := by simp; omega
          have HP := Lib.hid (parseH_at HSH.out HN.out hlt c1)
          have za : (s.extract 6 i).size ≤ 20000000 := by simp; omega
          have zb : (s.extract (i + 1) s.size).size ≤ 20000000 := by simp; omega
          have HCa : Hid (∀ W : World, Calls Tryz.prog 86 #[.string (s.extract 6 i)] W fun e w' => e = .returned (.int .i64 (numG (s.extract 6 i).data.toList)) ∧ w' = W) := fun W => (number6C _ W za).mono fun e w' h => ⟨h.1, h.2.symm⟩
          have HCb : Hid (∀ W : World, Calls Tryz.prog 86 #[.string (s.extract (i + 1) s.size)] W fun e w' => e = .returned (.int .i64 (numG (s.extract (i + 1) s.size).data.toList)) ∧ w' = W) := fun W => (number6C _ W zb).mono fun e w' h => ⟨h.1, h.2.symm⟩
          generalize numG (s.extract 6 i).data.toList = v at *
          generalize numG (s.extract (i + 1) s.size).data.toList = c at *
          have z0 : (6 : Int) ≤ (i : Int) := by omega
          have z1 : (i : Int) ≤ (s.size : Int) := by omega
          have z2 : (0 : Int) ≤ (i : Int) + 1 := by omega
          have z3 : (i : Int) + 1 ≤ (s.size : Int) := by omega
          have z4 : IntKind.i64.wrap ((i : Int) + 1) = (i : Int) + 1 := by rw [IntKind.wrap_i64]; omega
          have HR : ∀ (b : Bool), hdOk v c = b → Hid (headT s.data.toList = if b then (v, c, true) else (0, 0, false)) := fun b h => by
            show _ = _
            have h1 := HP.out
            rw [h] at h1
            cases b with
            | true => exact headT_some (by rw [h1, if_pos rfl])
            | false => exact headT_none (by rw [h1, if_neg (by simp)])
          have hno : ∀ (h : ¬ (0 ≤ v ∧ v ≤ 1048576 ∧ 0 ≤ c ∧ c ≤ 262144)), hdOk v c = false := fun h => by
            cases hq : hdOk v c with
            | false => rfl
            | true => exact absurd (hdOk_parts hq) h
          clear c1 HP HN
          go_wp2_with fail
          go_quiet ((go_at_call 86; first | with_reducible exact Calls.quiet_of_same (HCa.out _) | with_reducible exact Calls.quiet_of_same (HCb.out _)))
          clear HCa HCb
          by_cases a1 : v < 0
          · have f1 : decide (v < 0) = true := by simpa using a1
            have E := HR false (hno (by omega))
            clear HR hno
            go_wp2_with fail
            go_ret3
            exact ⟨ret3b E.out.symm, _, rfl⟩
          have f1 : decide (v < 0) = false := by simp; omega
          by_cases a2 : 1048576 < v
          · have f2 : decide (1048576 < v) = true := by simpa using a2
            have E := HR false (hno (by omega))
            clear HR hno
            go_wp2_with fail
            go_ret3
            exact ⟨ret3b E.out.symm, _, rfl⟩
          have f2 : decide (1048576 < v) = false := by simp; omega
          by_cases a3 : c < 0
          · have f3 : decide (c < 0) = true := by simpa using a3
            have E := HR false (hno (by omega))
            clear HR hno
            go_wp2_with fail
            go_ret3
            exact ⟨ret3b E.out.symm, _, rfl⟩
          have f3 : decide (c < 0) = false := by simp; omega
          by_cases a4 : 262144 < c
          · have f4 : decide (262144 < c) = true := by simpa using a4
            have E := HR false (hno (by omega))
            clear HR hno
            go_wp2_with fail
            go_ret3
            exact ⟨ret3b E.out.symm, _, rfl⟩
          have f4 : decide (262144 < c) = false := by simp; omega
          have E := HR true (hdOk_mk (by omega) (by omega) (by omega) (by omega))
          clear HR hno
          go_wp2_with fail
          go_ret3
          exact ⟨ret3b E.out.symm, _, rfl⟩
        · have e2 : (bt s i != 32) = true := by simpa using c1
          have HNX := Lib.hid (HN.out.next hlt c1)
          clear c1
          go_wp2_with fail
          go_roundw
          case rel => exact ⟨i + 1, by go_num, HNX, trivial⟩
          case measure => simp [intOf]; omega
      · obtain rfl : i = s.size := by omega
        have e1 : decide ((s.size : Int) < (s.size : Int)) = false := by simp
        have e3 : ((s.size : Int) == (s.size : Int)) = true := by simp
        have E : Hid (headT s.data.toList = (0, 0, false)) := headT_none (parseH_nosp (by
          have h1 := HN.out.no
          rwa [List.take_of_length_le (by rw [List.length_drop, data_len]; exact Nat.le_refl _)] at h1))
        clear HN
        go_wp2_with fail
        go_ret3
        exact ⟨ret3b E.out.symm, 0, rfl⟩
end Go.Proofs.YtkpcpclaadgnbaaGreatDoor
