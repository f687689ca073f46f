/-
  salvorlaw06.writes, DimacsWrites: the walk.
-/
import Derived.Test.YtkpcpclaadgnbaaGreatDoorTheirs6
import Derived.Test.YtkpcpclaadgnbaaGreatDoorCheckQ6
import Derived.Test.YtkpcpclaadgnbaaGreatDoorFewW6
import Derived.Test.YtkpcpclaadgnbaaGreatDoorAwake6
set_option linter.unusedVariables false
set_option linter.unusedSimpArgs false
namespace Go.Proofs.YtkpcpclaadgnbaaGreatDoor
open Go.RowKit Go.Shelf

/-- What Write answers, at a formula that is not too long. -/
theorem write_parts (F : Fm) (hn : F.cls.length ≤ 100) (hs : (F.cls.map List.length).sum ≤ 1000) : ((checkD F).2 ≠ 0 ∧ writeD F = ([], (checkD F).2)) ∨ ((checkD F).2 = 0 ∧ FmK F) := by
  by_cases h0 : (checkD F).2 = 0
  · refine .inr ⟨h0, ?_⟩
    have hk : ∀ (v : Int) (cls : List (List Int)) (i : Nat), (checkG v i cls).2 = 0 → checkG v i cls = (-1, 0) := by
      intro v cls
      induction cls with
      | nil => intro i _; rfl
      | cons c r ih =>
        intro i h
        unfold checkG at h ⊢
        split
        · rename_i hc
          rw [if_pos hc] at h
          split
          · rename_i ha
            rw [if_pos ha] at h
            exact absurd h (show ¬ ((51 : Int) = 0) by decide)
          · rename_i ha
            rw [if_neg ha] at h
            exact ih _ h
        · rename_i hc
          rw [if_neg hc] at h
          exact absurd h (show ¬ ((20 : Int) = 0) by decide)
    have hok : checkD F = (-1, 0) := by
      unfold checkD at h0 ⊢
      split
      · rename_i ha
        rw [if_pos ha] at h0
        exact absurd h0 (show ¬ ((50 : Int) = 0) by decide)
      · rename_i ha
        rw [if_neg ha] at h0
        split
        · rename_i hb
          rw [if_pos hb] at h0
          exact absurd h0 (show ¬ ((5 : Int) = 0) by decide)
        · rename_i hb
          rw [if_neg hb] at h0
          exact hk _ _ _ h0
    have h1 := text_len hok
    exact ⟨hok, by omega⟩
  · refine .inl ⟨h0, ?_⟩
    unfold writeD
    rw [if_neg h0]
set_option maxRecDepth 100000 in
set_option maxHeartbeats 4000000 in
theorem writes6 (v : Int) (A : Option Addr) (n c : Nat) (Q : List (SV × List Int)) (vars count : Int) (w : World) (hv : Hid (Vars w)) (h : Hid (ClsAt w A n Q)) (hn : n ≤ 100) (hs : Hid (((clsOf Q).map List.length).sum ≤ 1000)) :
    Calls Tryz.prog 12 #[.agg #[.int .i64 v, .slice A n c], .int .i64 vars, .int .i64 count] w fun e w' => e = .returned (.bool true) ∧ Below w.heap.size w w' := by
  obtain ⟨F, hF⟩ : ∃ F : Fm, (⟨v, clsOf Q⟩ : Fm) = F := ⟨_, rfl⟩
  have HF := Lib.hid hF
  have hFn : F.cls.length = n := by rw [← hF]; show (clsOf Q).length = n; rw [clsOf_len]; exact h.out.len
  have hFs : (F.cls.map List.length).sum ≤ 1000 := by rw [← hF]; exact hs.out
  have HWP := Lib.hid (write_parts F (by omega) hFs)
  have HFN := Lib.hid hFn
  clear hF hFn hFs
  have HX := Lib.hid (Bk.new w 24 #[.int .i64 v, .slice A n c])
  have HB0 : Hid (Below w.heap.size w (w.alloc (.cells #[.int .i64 v, .slice A n c] 24))) := balloc (Below.refl _ _) _
  have HC0 := Lib.hid (h.out.below HB0.out)
  go_enter Tryz.func12, Tryz.ntmps12
  go_upto_region 1 with fail
  generalize (w.alloc (.cells #[.int .i64 v, .slice A n c] 24)) = W0 at *
  obtain ⟨p, hp⟩ : ∃ p, w.heap.size = p := ⟨_, rfl⟩
  rw [hp] at HX ⊢
  have HPE := Lib.hid hp
  clear hp
  obtain ⟨x0, x1⟩ := cells2 HX.out
  go_wp2_with fail
  refine (theirsC v A n c Q W0 HC0 (by omega)).mono ?_
  rintro e w1 hp1
  obtain ⟨v2, A2, n2, c2, Q2, rfl, hc2, hq2, hb⟩ := hp1.v
  have HD1 := Lib.hid hc2
  have HQ2 : Hid ((⟨v2, clsOf Q2⟩ : Fm) = F) := by show _ = _; rw [hq2]; exact HF.out
  have HB1 := Lib.hid (bthen HB0.out hb)
  have HC1 := Lib.hid (HC0.out.below hb)
  have HX1 := Lib.hid (bkbel HX.out hb)
  clear hc2 hq2 hb hp1 x0 x1 HX HC0 HB0
  go_upto_region 2 with fail
  have HY := Lib.hid (Bk.new w1 69 #[.int .i64 v2, .slice A2 n2 c2])
  have HBx : Hid (Below w1.heap.size w1 (w1.alloc (.cells #[.int .i64 v2, .slice A2 n2 c2] 69))) := balloc (Below.refl _ _) _
  generalize (w1.alloc (.cells #[.int .i64 v2, .slice A2 n2 c2] 69)) = W1 at *
  obtain ⟨p2, hp2⟩ : ∃ p, w1.heap.size = p := ⟨_, rfl⟩
  have HB2 := Lib.hid (bthen HB1.out HBx.out)
  have HC2 := Lib.hid (HC1.out.below HBx.out)
  have HD2 := Lib.hid (HD1.out.below HBx.out)
  have HX2 := Lib.hid (bkbel HX1.out HBx.out)
  rw [hp2] at HY ⊢
  clear hp2 HBx HB1 HC1 HD1 HX1
  obtain ⟨x0, x1⟩ := cells2 HX2.out
  go_wp2_with fail
  refine (writeD6 v A n c Q W1 HC2 (Lib.hid (hv.out.below HB2.out))).mono ?_
  rintro e w2 ⟨rfl, hb⟩
  rw [HF.out]
  have HB3 := Lib.hid (bthen HB2.out hb)
  have HC3 := Lib.hid (HC2.out.below hb)
  have HD3 := Lib.hid (HD2.out.below hb)
  have HX3 := Lib.hid (bkbel HX2.out hb)
  have HY3 := Lib.hid (bkbel HY.out hb)
  clear hb x0 x1 HB2 HC2 HD2 HX2 HY
  obtain ⟨⟨T, er⟩, hw⟩ : ∃ q, writeD F = q := ⟨_, rfl⟩
  rw [hw]
  have HW := Lib.hid hw
  clear hw
  dsimp only
  obtain ⟨x0, x1⟩ := cells2 HX3.out
  obtain ⟨y0, y1⟩ := cells2 HY3.out
  go_wp2_with fail
  refine (equalF v v2 A A2 Q Q2 n n2 c c2 w2 HC3 HD3).mono ?_
  rintro e w3 ⟨rfl, hb⟩
  rw [HF.out, HQ2.out, decide_eq_true (rfl : F = F)]
  have HB4 := Lib.hid (bthen HB3.out hb)
  have HD4 := Lib.hid (HD3.out.below hb)
  have HY4 := Lib.hid (bkbel HY3.out hb)
  clear hb x0 x1 y0 y1 HB3 HC3 HD3 HX3 HY3
  obtain ⟨y0, y1⟩ := cells2 HY4.out
  go_wp2_with fail
  refine (checkQ6 v2 A2 n2 c2 Q2 w3 HD4).mono ?_
  rintro e w4 ⟨rfl, hb⟩
  rw [HQ2.out]
  have HB5 := Lib.hid (bthen HB4.out hb)
  have HD5 := Lib.hid (HD4.out.below hb)
  have HY5 := Lib.hid (bkbel HY4.out hb)
  clear hb y0 y1 HB4 HD4 HY4
  obtain ⟨⟨ci, cb⟩, hcd⟩ : ∃ q, checkD F = q := ⟨_, rfl⟩
  rw [hcd]
  have HCD := Lib.hid hcd
  clear hcd
  dsimp only
  obtain ⟨y0, y1⟩ := cells2 HY5.out
  go_upto_if 37 with fail
  go_cut [] (fun wx => Hid (Below w4.heap.size w4 wx))
  case first =>
    by_cases hcb : cb = 0
    · have e1 : (cb != 0) = false := by simpa using hcb
      have HK : Hid (FmK F) := by
        rcases HWP.out with ⟨h1, _⟩ | ⟨_, h1⟩
        · rw [HCD.out] at h1
          exact absurd hcb h1
        · exact h1
      have HTE : Hid (T = textD F ∧ er = 0) := by
        have h1 := HK.out.write
        rw [HW.out] at h1
        exact Prod.mk.inj h1
      have hss : ((str T).toList != (str (textD F)).toList) = false := by rw [HTE.out.1]; simp
      have hss2 : ((str T).toList == (str (textD F)).toList) = true := by rw [HTE.out.1]; simp
      have her : (er != 0) = false := by rw [HTE.out.2]; rfl
      clear hcb
      go_wp2_with fail
      refine (writeQ6 v2 A2 n2 c2 Q2 F w4 HD5 HQ2 HK).mono ?_
      rintro e w5 ⟨rfl, hb⟩
      have HBy := Lib.hid hb
      clear hb
      dsimp only
      go_wp2_with fail
      go_meet
      exact HBy
    · have e1 : (cb != 0) = true := by simpa using hcb
      have HTE : Hid (T = [] ∧ er = cb) := by
        rcases HWP.out with ⟨_, h1⟩ | ⟨h1, _⟩
        · rw [HW.out, HCD.out] at h1
          exact Prod.mk.inj h1
        · rw [HCD.out] at h1
          exact absurd h1 hcb
      have hss : ((str T).toList != []) = false := by rw [HTE.out.1, toList_data, str_data]; rfl
      have hss2 : ((str T).toList == []) = true := by rw [HTE.out.1, toList_data, str_data]; rfl
      have hss3 : (str T).toList.isEmpty = true := by rw [HTE.out.1, toList_data, str_data]; rfl
      have her : (er != cb) = false := by rw [HTE.out.2]; simp
      clear hcb
      go_wp2_with fail
      go_meet
      exact Below.refl _ _
  case rest =>
  have hbx := hcut
  have HB6 := Lib.hid (bthen HB5.out hbx.out)
  have HD6 := Lib.hid (HD5.out.below hbx.out)
  have HY6 := Lib.hid (bkbel HY5.out hbx.out)
  clear hbx hcut y0 y1 HB5 HD5 HY5 HWP HW HCD
  generalize wc = w5 at *
  have hn2 : n2 = n := by
    have h1 := congrArg (fun f : Fm => f.cls.length) HQ2.out
    have h2 : (clsOf Q2).length = n := h1.trans HFN.out
    rw [clsOf_len, HD6.out.len] at h2
    exact h2
  obtain ⟨y0, y1⟩ := cells2 HY6.out
  go_upto_region 13 with fail
  clear y0 y1
  go_loopw [61] (fun v61 wr => ∃ k : Nat, k ≤ n2 ∧ v61 = .int .i64 k ∧ Hid (Below w5.heap.size w5 wr)) (fun v61 _ => n2 - (intOf v61).toNat)
  case atStart => exact ⟨0, Nat.zero_le _, rfl, Below.refl _ _⟩
  case round =>
    obtain ⟨k, hk, rfl, HB⟩ := hrel
    by_cases hlt : k < n2
    · have e1 : decide ((k : Int) < (n2 : Int)) = true := by simp; omega
      have hki : (k : Int) < (n2 : Int) := by omega
      obtain ⟨b, off, sA, sn, sc, l, rfl, hq, hbl, y00, hia⟩ := HD6.out.at hlt
      have y0 := (HB.out.cell (p := ⟨b, off + k, none⟩) hbl).trans y00
      have HIA := Lib.hid hia
      have HLL : Hid (l.length = sn) := hia.2.1
      have hln : sn ≤ 1000 := by
        have h1 : (clsOf Q2)[k]? = some l := clsOf_at hq
        have h2 : clsOf Q2 = clsOf Q := by
          have h3 := HQ2.out.trans HF.out.symm
          exact congrArg Fm.cls h3
        have h4 := le_sum6 (List.mem_map_of_mem (f := List.length) (List.mem_of_getElem? h1))
        rw [h2] at h4
        have := hs.out
        have := HLL.out
        omega
      clear hq hia y00
      go_wp2_with fail
      refine (clauseMk sA sn sc l wr (Lib.hid (HIA.out.below HB.out))).mono ?_
      rintro e w6 ⟨A7, c7, rfl, ho7, hb7⟩
      have HI7 : Hid (IntsAt w6 ⟨A7, sn, c7⟩ l) := ⟨Rd.of_own ho7, HLL.out, HIA.out.2.2.1, by show sn ≤ _; omega⟩
      have HB7 := Lib.hid (bthen HB.out hb7)
      clear ho7 hb7 y0
      go_wp2_with fail
      refine (lineD6 A7 sn c7 l w6 HI7 (Lib.hid (hv.out.below (bthen HB6.out HB7.out)))).mono ?_
      rintro e w7 ⟨rfl, hb⟩
      have HB8 := Lib.hid (bthen HB7.out hb)
      clear hb HB7 HI7
      obtain ⟨⟨t, g⟩, hle⟩ : ∃ q, lineE l = q := ⟨_, rfl⟩
      rw [hle]
      have HLE := Lib.hid hle
      clear hle
      dsimp only
      go_wp2_with fail
      refine (clauseRightQ sA sn sc l w7 (Lib.hid (HIA.out.1.below HB8.out)) HLL (by omega)).mono ?_
      rintro e w8 ⟨rfl, rfl⟩
      cases hcb : clauseB l with
      | true =>
        have HTE : Hid (t = lnS l ∧ g = 0) := by
          have h1 := HLE.out
          unfold lineE at h1
          rw [if_pos hcb] at h1
          have h2 := Prod.mk.inj h1
          exact ⟨h2.1.symm, h2.2.symm⟩
        have HLB : Hid (∀ x ∈ l, litB x = true) := (clause_parts hcb).2
        have hss : ((str t).toList != (str (lnS l)).toList) = false := by rw [HTE.out.1]; simp
        have hss2 : ((str t).toList == (str (lnS l)).toList) = true := by rw [HTE.out.1]; simp
        have her : (g != 0) = false := by rw [HTE.out.2]; rfl
        clear hcb
        go_wp2_with fail
        refine (lineQ sA sn sc l w7 (Lib.hid (HIA.out.below HB8.out)) HLB (by omega)).mono ?_
        rintro e w8 ⟨rfl, rfl⟩
        go_wp2_with fail
        go_roundw
        case rel => exact ⟨k + 1, by omega, by go_num, HB8⟩
        case measure => simp [intOf]; omega
      | false =>
        have HTE : Hid (t = [] ∧ g = 20) := by
          have h1 := HLE.out
          unfold lineE at h1
          rw [if_neg (by rw [hcb]; simp)] at h1
          have h2 := Prod.mk.inj h1
          exact ⟨h2.1.symm, h2.2.symm⟩
        have hss : ((str t).toList != []) = false := by rw [HTE.out.1, toList_data, str_data]; rfl
        have hss2 : ((str t).toList == []) = true := by rw [HTE.out.1, toList_data, str_data]; rfl
        have hss3 : (str t).toList.isEmpty = true := by rw [HTE.out.1, toList_data, str_data]; rfl
        have her : (g != 20) = false := by rw [HTE.out.2]; rfl
        clear hcb
        go_wp2_with fail
        go_roundw
        case rel => exact ⟨k + 1, by omega, by go_num, HB8⟩
        case measure => simp [intOf]; omega
    · have e1 : decide ((k : Int) < (n2 : Int)) = false := by simp; omega
      have HB7 := Lib.hid (bthen HB6.out HB.out)
      go_wp2_with fail
      refine (headerC vars count wr (Lib.hid (hv.out.below HB7.out))).mono ?_
      rintro e w6 ⟨rfl, hb⟩
      have HB8 := Lib.hid (bthen HB7.out hb)
      clear hb HB7
      have hnil : ((str []).toList == []) = true := by rw [toList_data, str_data]; rfl
      have hnil2 : (str []).toList.isEmpty = true := by rw [toList_data, str_data]; rfl
      by_cases a1 : vars < 0
      · have f1 : decide (vars < 0) = true := by simpa using a1
        have E : Hid (headE vars count = ([], 50)) := by show _ = _; unfold headE; rw [if_pos (.inl a1)]
        rw [E.out]
        clear a1
        dsimp only
        go_wp2_with fail
        go_ret
        exact ⟨rfl, HPE.out ▸ HB8.out⟩
      have f1 : decide (vars < 0) = false := by simp; omega
      by_cases a2 : 1048576 < vars
      · have f2 : decide (1048576 < vars) = true := by simpa using a2
        have E : Hid (headE vars count = ([], 50)) := by show _ = _; unfold headE; rw [if_pos (.inr a2)]
        rw [E.out]
        clear a1 a2
        dsimp only
        go_wp2_with fail
        go_ret
        exact ⟨rfl, HPE.out ▸ HB8.out⟩
      have f2 : decide (1048576 < vars) = false := by simp; omega
      by_cases a3 : count < 0
      · have f3 : decide (count < 0) = true := by simpa using a3
        have E : Hid (headE vars count = ([], 5)) := by show _ = _; unfold headE; rw [if_neg (by omega), if_pos (.inl a3)]
        rw [E.out]
        clear a1 a2 a3
        dsimp only
        go_wp2_with fail
        go_ret
        exact ⟨rfl, HPE.out ▸ HB8.out⟩
      have f3 : decide (count < 0) = false := by simp; omega
      by_cases a4 : 262144 < count
      · have f4 : decide (262144 < count) = true := by simpa using a4
        have E : Hid (headE vars count = ([], 5)) := by show _ = _; unfold headE; rw [if_neg (by omega), if_pos (.inr a4)]
        rw [E.out]
        clear a1 a2 a3 a4
        dsimp only
        go_wp2_with fail
        go_ret
        exact ⟨rfl, HPE.out ▸ HB8.out⟩
      have f4 : decide (262144 < count) = false := by simp; omega
      have E : Hid (headE vars count = (hdS vars count, 0)) := headE_ok (hdOk_mk (by omega) (by omega) (by omega) (by omega))
      have HQ := Lib.hid (headerQ vars count w6 (by omega) (by omega) (by omega) (by omega))
      have hee : ((str (hdS vars count)).toList == (str (hdS vars count)).toList) = true := by simp
      rw [E.out]
      clear a1 a2 a3 a4
      dsimp only
      go_wp2_with fail
      refine HQ.out.mono ?_
      rintro e w7 ⟨rfl, hb⟩
      have HB9 := Lib.hid (bthen HB8.out hb)
      clear hb
      go_wp2_with fail
      go_ret
      exact ⟨rfl, HPE.out ▸ HB9.out⟩
set_option maxRecDepth 100000 in
set_option maxHeartbeats 1000000 in
theorem mainWrites6 (v : Int) (A : Option Addr) (n c : Nat) (Q : List (SV × List Int)) (vars count : Int) (w : World) (hv : Hid (Vars w)) (h : Hid (ClsW w A n Q)) (hn : n ≤ 17592186044416) (hc : n ≤ c) :
    Calls Tryz.prog 3 #[.agg #[.int .i64 v, .slice A n c], .int .i64 vars, .int .i64 count] w fun e w' => e = .returned (.bool true) ∧ Below w.heap.size w w' := by
  have HX := Lib.hid (Bk.new w 24 #[.int .i64 v, .slice A n c])
  have HB0 : Hid (Below w.heap.size w (w.alloc (.cells #[.int .i64 v, .slice A n c] 24))) := balloc (Below.refl _ _) _
  have HC0 := Lib.hid (h.out.below HB0.out)
  go_enter Tryz.func3, Tryz.ntmps3
  go_upto_region 1 with fail
  generalize (w.alloc (.cells #[.int .i64 v, .slice A n c] 24)) = W0 at *
  obtain ⟨p, hp⟩ : ∃ p, w.heap.size = p := ⟨_, rfl⟩
  rw [hp] at HX ⊢
  have HPE := Lib.hid hp
  clear hp
  obtain ⟨x0, x1⟩ := cells2 HX.out
  go_wp2_with fail
  refine (fewC v A n c Q W0 HC0 hn hc).mono ?_
  rintro e w1 ⟨b, rfl, hbt, hb⟩
  have HB1 := Lib.hid (bthen HB0.out hb)
  have HX1 := Lib.hid (bkbel HX.out hb)
  have HC1 := Lib.hid (HC0.out.below hb)
  have HBT := Lib.hid hbt
  clear hb hbt x0 x1
  obtain ⟨x0, x1⟩ := cells2 HX1.out
  cases b with
  | false =>
    clear HBT
    go_wp2_with fail
    refine (awake6 w1 (Lib.hid (hv.out.below HB1.out))).mono ?_
    rintro e w2 ⟨rfl, hb⟩
    have HB2 := Lib.hid (bthen HB1.out hb)
    clear hb
    go_wp2
    go_ret
    exact ⟨rfl, HPE.out ▸ HB2.out⟩
  | true =>
    obtain ⟨hn1, hs1⟩ := HBT.out rfl
    have HM := Lib.hid (writes6 v A n c Q vars count w1 (Lib.hid (hv.out.below HB1.out)) (Lib.hid (HC1.out.small hn1 hs1)) hn1 (Lib.hid hs1))
    clear HBT hs1
    go_wp2_with fail
    refine HM.out.mono ?_
    rintro e w2 ⟨rfl, hb⟩
    have HB2 := Lib.hid (bthen HB1.out hb)
    clear hb
    go_wp2_with fail
    refine (awake6 w2 (Lib.hid (hv.out.below HB2.out))).mono ?_
    rintro e w3 ⟨rfl, hb⟩
    have HB3 := Lib.hid (bthen HB2.out hb)
    clear hb
    go_wp2
    go_ret
    exact ⟨rfl, HPE.out ▸ HB3.out⟩
end Go.Proofs.YtkpcpclaadgnbaaGreatDoor
