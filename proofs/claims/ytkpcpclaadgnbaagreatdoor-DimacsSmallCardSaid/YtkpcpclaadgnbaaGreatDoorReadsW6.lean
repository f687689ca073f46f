/-
  salvorlaw06.reads, DimacsReads: the walk.
-/
import Derived.Test.YtkpcpclaadgnbaaGreatDoorRefR6
import Derived.Test.YtkpcpclaadgnbaaGreatDoorRefE6
import Derived.Test.YtkpcpclaadgnbaaGreatDoorAwake6
set_option linter.unusedVariables false
set_option linter.unusedSimpArgs false
namespace Go.Proofs.YtkpcpclaadgnbaaGreatDoor
open Go.RowKit Go.Shelf

theorem own_capQ {w : World} {B : Nat} {t : TypeId} {A : Option Addr} {n c : Nat} {xs : List Value} (h : w.ownsRow B t 1 (.slice A n c) n xs) : n ≤ c := by
  rcases h.2 with ⟨h0, h1⟩ | ⟨g, cap, cur, h0, _, _, h3, _⟩
  · omega
  · injection h0 with _ _ h0
    omega
theorem fmk_zero : FmK F0 := ⟨by decide, by decide +kernel⟩
/-- What Read, and Canonical, answer at a short text. -/
theorem read_parts {t : List UInt8} (h : t.length ≤ 2000) : ∃ (f : Fm) (i e : Int), readD t = (f, i, e) ∧ FmK f ∧ canonD t = (if e = 0 then textD f else [], i, e) := by
  obtain ⟨⟨f, i, e⟩, hr⟩ : ∃ R, readD t = R := ⟨_, rfl⟩
  by_cases he : e = 0
  · subst he
    obtain ⟨rfl, hok, hl⟩ := readD_ok hr
    have h1 := text_len hok
    have hk : FmK f := ⟨hok, by omega⟩
    refine ⟨f, 0, 0, hr, hk, ?_⟩
    unfold canonD
    rw [hr, if_pos rfl, if_pos rfl, hk.write]
  · obtain ⟨rfl, hi⟩ := readD_err (by omega) hr he
    refine ⟨F0, i, e, hr, fmk_zero, ?_⟩
    unfold canonD
    rw [hr]
    dsimp only
    rw [if_neg he, if_neg he]
def ReadPV (w : World) (R : Fm × Int × Int) (e : Ending) (w' : World) : Prop :=
  ∃ v A n c Q, e = .returned (.tuple #[.agg #[.int .i64 v, .slice A n c], .int .i64 R.2.1, .int .i64 R.2.2]) ∧ ClsAt w' A n Q ∧ (⟨v, clsOf Q⟩ : Fm) = R.1 ∧ Below w.heap.size w w'
theorem readRV (s : ByteArray) (w : World) (hs : s.size ≤ 20000000) (R : Fm × Int × Int) (hR : Hid (readD s.data.toList = R)) :
    Calls Tryz.prog 43 #[.string s] w (ReadPV w R) := by
  refine (readRC s w hs R hR).mono ?_
  rintro e w' ⟨A, n, c, Q, rfl, h1, h2, h3⟩
  exact ⟨_, A, n, c, Q, rfl, h1, fm_eta rfl h2, h3⟩
set_option maxRecDepth 100000 in
set_option maxHeartbeats 4000000 in
theorem reads6 (s : ByteArray) (w : World) (hv : Hid (Vars w)) (hs2 : s.size ≤ 2000) :
    Calls Tryz.prog 14 #[.string s] w fun e w' => e = .returned (.bool true) ∧ Below w.heap.size w w' := by
  obtain ⟨F, i, er, hr, hk, hcn⟩ := read_parts (t := s.data.toList) (by rw [data_len]; exact hs2)
  have HR := Lib.hid hr
  have HK := Lib.hid hk
  have HCN := Lib.hid hcn
  have hs : s.size ≤ 20000000 := by omega
  clear hr hk hcn
  go_enter Tryz.func14, Tryz.ntmps14
  go_wp2_with fail
  refine (readV6 s w hv hs (F, i, er) HR).mono ?_
  rintro e w1 ⟨v1, A1, n1, c1, Q1, rfl, hc1, hq1, hb⟩
  dsimp only at hq1
  have HC1 := Lib.hid hc1
  have HQ1 := Lib.hid hq1
  have HB1 := Lib.hid hb
  clear hc1 hq1 hb
  dsimp only
  go_upto_region 2 with fail
  have HX := Lib.hid (Bk.new w1 24 #[.int .i64 v1, .slice A1 n1 c1])
  have HBx : Hid (Below w1.heap.size w1 (w1.alloc (.cells #[.int .i64 v1, .slice A1 n1 c1] 24))) := balloc (Below.refl _ _) _
  generalize (w1.alloc (.cells #[.int .i64 v1, .slice A1 n1 c1] 24)) = W1 at *
  obtain ⟨p1, hp1⟩ : ∃ p, w1.heap.size = p := ⟨_, rfl⟩
  have HB2 := Lib.hid (bthen HB1.out HBx.out)
  have HC2 := Lib.hid (HC1.out.below HBx.out)
  rw [hp1] at HX ⊢
  clear hp1 HBx HB1 HC1
  go_wp2_with fail
  refine (readRV s W1 hs (F, i, er) HR).mono ?_
  rintro e w2 ⟨v2, A2, n2, c2, Q2, rfl, hc2, hq2, hb⟩
  dsimp only at hq2
  have HD2 := Lib.hid hc2
  have HQ2 := Lib.hid hq2
  have HB3 := Lib.hid (bthen HB2.out hb)
  have HC3 := Lib.hid (HC2.out.below hb)
  have HX3 := Lib.hid (bkbel HX.out hb)
  clear hc2 hq2 hb HB2 HC2 HX
  dsimp only
  go_upto_region 3 with fail
  have HY := Lib.hid (Bk.new w2 69 #[.int .i64 v2, .slice A2 n2 c2])
  have HBx : Hid (Below w2.heap.size w2 (w2.alloc (.cells #[.int .i64 v2, .slice A2 n2 c2] 69))) := balloc (Below.refl _ _) _
  generalize (w2.alloc (.cells #[.int .i64 v2, .slice A2 n2 c2] 69)) = W2 at *
  obtain ⟨p2, hp2⟩ : ∃ p, w2.heap.size = p := ⟨_, rfl⟩
  have HB4 := Lib.hid (bthen HB3.out HBx.out)
  have HC4 := Lib.hid (HC3.out.below HBx.out)
  have HD4 := Lib.hid (HD2.out.below HBx.out)
  have HX4 := Lib.hid (bkbel HX3.out HBx.out)
  rw [hp2] at HY ⊢
  clear hp2 HBx HB3 HC3 HD2 HX3
  go_wp2_with fail
  refine (canonC6 s W2 (Lib.hid (hv.out.below HB4.out)) hs).mono ?_
  rintro e w3 ⟨rfl, hb⟩
  rw [HCN.out]
  have HB5 := Lib.hid (bthen HB4.out hb)
  have HC5 := Lib.hid (HC4.out.below hb)
  have HD5 := Lib.hid (HD4.out.below hb)
  have HX5 := Lib.hid (bkbel HX4.out hb)
  have HY5 := Lib.hid (bkbel HY.out hb)
  clear hb HB4 HC4 HD4 HX4 HY HCN
  dsimp only
  obtain ⟨x0, x1⟩ := cells2 HX5.out
  obtain ⟨y0, y1⟩ := cells2 HY5.out
  have hii : (i != i) = false := by simp
  have hee : (er != er) = false := by simp
  obtain ⟨T, hT⟩ : ∃ T, (if er = 0 then textD F else []) = T := ⟨_, rfl⟩
  rw [hT]
  have HT := Lib.hid hT
  clear hT
  go_wp2_with fail
  refine (equalF v1 v2 A1 A2 Q1 Q2 n1 n2 c1 c2 w3 HC5 HD5).mono ?_
  rintro e w4 ⟨rfl, hb⟩
  rw [HQ1.out, HQ2.out, decide_eq_true (rfl : F = F)]
  have HB6 := Lib.hid (bthen HB5.out hb)
  have HD6 := Lib.hid (HD5.out.below hb)
  have HY6 := Lib.hid (bkbel HY5.out hb)
  clear hb HB5 HC5 HD5 HX5 HY5 x0 x1 y0 y1 HQ1
  obtain ⟨y0, y1⟩ := cells2 HY6.out
  go_wp2_with fail
  refine (writeQ6 v2 A2 n2 c2 Q2 F w4 HD6 HQ2 HK).mono ?_
  rintro e w5 ⟨rfl, hb⟩
  have HB7 := Lib.hid (bthen HB6.out hb)
  clear hb HB6 HD6 HY6 y0 y1 HQ2 hii hee
  dsimp only
  go_upto_region 7 with fail
  go_cut [84] (fun v84 wx => v84 = .bool false ∧ w5 = wx)
  case first =>
    by_cases he : er = 0
    · have e1 : (er == 0) = true := by simpa using he
      have e2 : (er != 0) = false := by simpa using he
      have HTT : Hid (T = textD F) := by show _ = _; rw [← HT.out, if_pos he]
      have hss : ((str T).toList != (str (textD F)).toList) = false := by rw [HTT.out]; simp
      have hss2 : ((str T).toList == (str (textD F)).toList) = true := by rw [HTT.out]; simp
      clear he
      go_wp2_with fail
      go_meet
      exact ⟨rfl, rfl⟩
    · have e1 : (er == 0) = false := by simpa using he
      have e2 : (er != 0) = true := by simpa using he
      have HTT : Hid (T = []) := by show _ = _; rw [← HT.out, if_neg he]
      have hss : ((str T).toList != []) = false := by rw [HTT.out, toList_data, str_data]; rfl
      have hss2 : ((str T).toList == []) = true := by rw [HTT.out, toList_data, str_data]; rfl
      have hss3 : (str T).toList.isEmpty = true := by rw [HTT.out, toList_data, str_data]; rfl
      clear he
      go_wp2_with fail
      go_meet
      exact ⟨rfl, rfl⟩
  case rest =>
  obtain ⟨rfl, rfl⟩ := hcut
  clear HT
  go_wp2_with fail
  refine (splitQC s w5 hs).mono ?_
  rintro e w6 ⟨A14, nL, c14, rfl, ho, hl, hb⟩
  have HWL := Lib.hid (WdR.of_own ho)
  have hcap := own_capQ ho
  obtain ⟨LL, hLL⟩ : ∃ LL, Lib.split s.data.toList [10] = LL := ⟨_, rfl⟩
  have HLS : Hid (∀ l ∈ LL, l.length ≤ 2000) := by
    show ∀ l ∈ LL, _
    intro l hl
    rw [← hLL] at hl
    have := line_lenQ hl
    rw [data_len] at this
    omega
  rw [hLL] at HWL hl
  have HLN := Lib.hid hl
  have HB8 := Lib.hid (bthen HB7.out hb)
  have hnL : nL ≤ 2001 := by
    have h1 := split_sum 10 s.data.toList
    rw [hLL, data_len] at h1
    omega
  clear hLL ho hl hb HB7
  obtain ⟨m, hm⟩ : ∃ m, min nL 20 = m := ⟨_, rfl⟩
  have hmn : m ≤ nL ∧ m ≤ 20 := by omega
  have hmin : min (nL : Int) 20 = (m : Int) := by omega
  have hmc : (m : Int) ≤ (c14 : Int) := by omega
  have hm0 : (0 : Int) ≤ (m : Int) := by omega
  clear hm
  go_upto_region 11 with fail
  go_loopw [93] (fun v93 wr => ∃ k : Nat, k ≤ m ∧ v93 = .int .i64 k ∧ Hid (Below w6.heap.size w6 wr)) (fun v93 _ => m - (intOf v93).toNat)
  case atStart => exact ⟨0, Nat.zero_le _, rfl, Below.refl _ _⟩
  case round =>
    obtain ⟨k, hk, rfl, HB⟩ := hrel
    by_cases hlt : k < m
    · have e1 : decide ((k : Int) < (m : Int)) = true := by simp; omega
      have hki : (k : Int) < (m : Int) := by omega
      obtain ⟨l, hl⟩ : ∃ l, LL[k]? = some l := ⟨_, List.getElem?_eq_getElem (by rw [HLN.out]; omega)⟩
      obtain ⟨q, rfl, hcl⟩ := (HWL.out.below HB.out).at hl
      have hls : (str l).size ≤ 20000000 := by rw [str_size]; have := HLS.out l (List.mem_of_getElem? hl); omega
      have hph := parseHC (str l) wr hls (Lib.hid (hv.out.below (bthen HB8.out HB.out)))
      rw [str_data] at hph
      have hqh := fun W => headQC (str l) W hls
      rw [str_data] at hqh
      have HPH := Lib.hid hph
      have HQH := Lib.hid hqh
      clear hl hph hqh
      cases hp : parseH l with
      | none =>
        have E1 : Hid (headP l = (0, 0, 60)) := by show _ = _; unfold headP; rw [hp]
        have E2 := Lib.hid (headT_none hp)
        rw [E1.out] at HPH
        rw [E2.out] at HQH
        clear hp
        go_wp2_with fail
        refine HPH.out.mono ?_
        rintro e w7 ⟨rfl, hb⟩
        have HB9 := Lib.hid (bthen HB.out hb)
        clear hb hcl
        dsimp only
        go_wp2_with fail
        refine (HQH.out w7).mono ?_
        rintro e w8 ⟨rfl, j, rfl⟩
        have HB10 := Lib.hid (bthen HB9.out (below_drewN (w := w7) j))
        dsimp only
        go_wp2_with fail
        go_roundw
        case rel => exact ⟨k + 1, by omega, by go_num, HB10⟩
        case measure => simp [intOf]; omega
      | some p =>
        obtain ⟨v, n⟩ := p
        have E1 : Hid (headP l = (v, n, 0)) := by show _ = _; unfold headP; rw [hp]
        have E2 := Lib.hid (headT_some hp)
        rw [E1.out] at HPH
        rw [E2.out] at HQH
        have g1 : (v != v) = false := by simp
        have g2 : (n != n) = false := by simp
        clear hp
        go_wp2_with fail
        refine HPH.out.mono ?_
        rintro e w7 ⟨rfl, hb⟩
        have HB9 := Lib.hid (bthen HB.out hb)
        clear hb hcl
        dsimp only
        go_wp2_with fail
        refine (HQH.out w7).mono ?_
        rintro e w8 ⟨rfl, j, rfl⟩
        have HB10 := Lib.hid (bthen HB9.out (below_drewN (w := w7) j))
        dsimp only
        go_wp2_with fail
        go_roundw
        case rel => exact ⟨k + 1, by omega, by go_num, HB10⟩
        case measure => simp [intOf]; omega
    · have e1 : decide ((k : Int) < (m : Int)) = false := by simp; omega
      go_wp2_with fail
      go_ret
      exact ⟨rfl, bthen HB8.out HB.out⟩
set_option maxRecDepth 100000 in
theorem mainReads6 (s : ByteArray) (w : World) (hv : Hid (Vars w)) : Calls Tryz.prog 4 #[.string s] w fun e w' => e = .returned (.bool true) ∧ Below w.heap.size w w' := by
  by_cases hbig : 2000 < s.size
  · have e1 : decide ((2000 : Int) < (s.size : Int)) = true := by simp; omega
    clear hbig
    go_enter Tryz.func4, Tryz.ntmps4
    go_wp2_with fail
    refine (awake6 w hv).mono ?_
    rintro e w1 ⟨rfl, hb⟩
    have HB1 := Lib.hid hb
    clear hb
    go_wp2
    go_ret
    exact ⟨rfl, HB1.out⟩
  · have e1 : decide ((2000 : Int) < (s.size : Int)) = false := by simp; omega
    have HM := Lib.hid (reads6 s w hv (by omega))
    clear hbig
    go_enter Tryz.func4, Tryz.ntmps4
    go_wp2_with fail
    refine HM.out.mono ?_
    rintro e w1 ⟨rfl, hb⟩
    have HB1 := Lib.hid hb
    clear hb
    go_wp2_with fail
    refine (awake6 w1 (Lib.hid (hv.out.below HB1.out))).mono ?_
    rintro e w2 ⟨rfl, hb⟩
    have HB2 := Lib.hid (bthen HB1.out hb)
    clear hb
    go_wp2
    go_ret
    exact ⟨rfl, HB2.out⟩
end Go.Proofs.YtkpcpclaadgnbaaGreatDoor
