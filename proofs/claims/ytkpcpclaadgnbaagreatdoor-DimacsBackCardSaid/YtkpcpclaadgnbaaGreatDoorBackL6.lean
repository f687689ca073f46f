/-
  salvorlaw06.DimacsBack: the walk.
-/
import Derived.Test.YtkpcpclaadgnbaaGreatDoorCanon6
import Derived.Test.YtkpcpclaadgnbaaGreatDoorAwake6
import Derived.Deep.DeepCutAuto
set_option linter.unusedVariables false
set_option linter.unusedSimpArgs false
namespace Go.Proofs.YtkpcpclaadgnbaaGreatDoor
open Go.RowKit Go.Shelf

set_option maxRecDepth 100000 in
set_option maxHeartbeats 4000000 in
theorem mainBack6 (A : Option Addr) (n c : Nat) (L : List (SV × List Nat)) (A' : Option Addr) (n' c' : Nat) (L' : List (SV × List Nat)) (s : ByteArray) (w : World) (hv : Hid (Vars w)) (h : Hid (U8At w A n L)) (h' : Hid (U8At w A' n' L')) (hn : n ≤ 9223372036854775807) (hc : n ≤ c) (hn' : n' ≤ 9223372036854775807) (hc' : n' ≤ c') :
    Calls Tryz.prog 5 #[.slice A n c, .slice A' n' c', .string s] w fun e w' => e = .returned (.bool true) ∧ Below w.heap.size w w' := by
  obtain ⟨F, hF⟩ : ∃ F, madeD (L.map (·.2)) = F := ⟨_, rfl⟩
  obtain ⟨G, hG⟩ : ∃ G, madeD (L'.map (·.2)) = G := ⟨_, rfl⟩
  have HK1 : Hid (FmK F) := hF ▸ made_k _
  have HK2 : Hid (FmK G) := hG ▸ made_k _
  have HM1 := made5C A n c L w h hn hc
  rw [hF] at HM1
  have HM2 : Hid (∀ W, Below w.heap.size w W → Calls Tryz.prog 15 #[.slice A' n' c'] W (FmPost W G)) := fun W hW => hG ▸ made5C A' n' c' L' W (Lib.hid (h'.out.below hW)) hn' hc'
  have HM1 := Lib.hid HM1
  clear hF hG h h' hn hc hn' hc'
  go_enter Tryz.func5, Tryz.ntmps5
  go_wp2_with fail
  refine HM1.out.mono ?_
  rintro e w1 hp1
  obtain ⟨v1, A1, n1, c1, Q1, rfl, hc1, hq1, hb⟩ := hp1.v
  have HC1 := Lib.hid hc1
  have HQ1 := Lib.hid hq1
  have HB1 := Lib.hid hb
  clear hc1 hq1 hb hp1 HM1
  go_wp2_with fail
  refine (HM2.out w1 HB1.out).mono ?_
  rintro e w2 hp2
  obtain ⟨v2, A2, n2, c2, Q2, rfl, hc2, hq2, hb⟩ := hp2.v
  have HC2 := Lib.hid hc2
  have HQ2 := Lib.hid hq2
  have HB2 := Lib.hid (bthen HB1.out hb)
  have HC12 := Lib.hid (HC1.out.below hb)
  clear hc2 hq2 hb hp2 HM2 HB1 HC1
  go_upto_region 2 with fail
  have HX := Lib.hid ((Bk.new w2 24 #[.int .i64 v1, .slice A1 n1 c1]).alloc (.cells #[.int .i64 v2, .slice A2 n2 c2] 24))
  have HY := Lib.hid (Bk.newAt6 (w2.alloc (.cells #[.int .i64 v1, .slice A1 n1 c1] 24)) 24 #[.int .i64 v2, .slice A2 n2 c2] (w2.heap.size + 1) (by simp))
  have HBx : Hid (Below w2.heap.size w2 ((w2.alloc (.cells #[.int .i64 v1, .slice A1 n1 c1] 24)).alloc (.cells #[.int .i64 v2, .slice A2 n2 c2] 24))) := balloc (balloc (Below.refl _ _) _) _
  generalize ((w2.alloc (.cells #[.int .i64 v1, .slice A1 n1 c1] 24)).alloc (.cells #[.int .i64 v2, .slice A2 n2 c2] 24)) = W2 at *
  obtain ⟨p, hp⟩ : ∃ p, w2.heap.size = p := ⟨_, rfl⟩
  have HB3 := Lib.hid (bthen HB2.out HBx.out)
  have HC13 := Lib.hid (HC12.out.below HBx.out)
  have HC23 := Lib.hid (HC2.out.below HBx.out)
  rw [hp] at HX HY ⊢
  clear hp HBx HB2 HC12 HC2
  obtain ⟨x0, x1⟩ := cells2 HX.out
  obtain ⟨y0, y1⟩ := cells2 HY.out
  go_wp2_with fail
  refine (writeD6 v1 A1 n1 c1 Q1 W2 HC13 (Lib.hid (hv.out.below HB3.out))).mono ?_
  rintro e w3 ⟨rfl, hb⟩
  rw [HQ1.out, HK1.out.write]
  have HB4 := Lib.hid (bthen HB3.out hb)
  have HY3 := Lib.hid (bkbel HY.out hb)
  have HX3 := Lib.hid (bkbel HX.out hb)
  have HC14 := Lib.hid (HC13.out.below hb)
  have HC24 := Lib.hid (HC23.out.below hb)
  clear hb x0 x1 y0 y1 HX HY HB3 HC13 HC23
  obtain ⟨x0, x1⟩ := cells2 HX3.out
  obtain ⟨y0, y1⟩ := cells2 HY3.out
  dsimp only
  go_wp2_with fail
  refine (writeD6 v2 A2 n2 c2 Q2 w3 HC24 (Lib.hid (hv.out.below HB4.out))).mono ?_
  rintro e w4 ⟨rfl, hb⟩
  rw [HQ2.out, HK2.out.write]
  have HB5 := Lib.hid (bthen HB4.out hb)
  have HY4 := Lib.hid (bkbel HY3.out hb)
  have HX4 := Lib.hid (bkbel HX3.out hb)
  have HC15 := Lib.hid (HC14.out.below hb)
  have HC25 := Lib.hid (HC24.out.below hb)
  clear hb x0 x1 y0 y1 HX3 HY3 HB4 HC14 HC24
  dsimp only
  have hzF : (str (textD F)).size ≤ 20000000 := by rw [str_size]; have := HK1.out.sz; omega
  go_wp2_with fail
  refine (readV6 (str (textD F)) w4 (Lib.hid (hv.out.below HB5.out)) hzF (F, 0, 0) (Lib.hid (by rw [str_data]; exact HK1.out.read))).mono ?_
  rintro e w5 ⟨v5, A5, n5, c5, Q5, rfl, hc5, hq5, hb⟩
  dsimp only at hq5
  have HC5 := Lib.hid hc5
  have HQ5 := Lib.hid hq5
  have HB6 := Lib.hid (bthen HB5.out hb)
  have HY5 := Lib.hid (bkbel HY4.out hb)
  have HX5 := Lib.hid (bkbel HX4.out hb)
  have HC16 := Lib.hid (HC15.out.below hb)
  have HC26 := Lib.hid (HC25.out.below hb)
  clear hc5 hq5 hb HX4 HY4 HB5 HC15 HC25
  dsimp only
  go_upto_region 5 with fail
  have HZ := Lib.hid (Bk.new w5 24 #[.int .i64 v5, .slice A5 n5 c5])
  have HBx : Hid (Below w5.heap.size w5 (w5.alloc (.cells #[.int .i64 v5, .slice A5 n5 c5] 24))) := balloc (Below.refl _ _) _
  generalize (w5.alloc (.cells #[.int .i64 v5, .slice A5 n5 c5] 24)) = W5 at *
  obtain ⟨q, hq⟩ : ∃ q, w5.heap.size = q := ⟨_, rfl⟩
  have HB7 := Lib.hid (bthen HB6.out HBx.out)
  have HC17 := Lib.hid (HC16.out.below HBx.out)
  have HC27 := Lib.hid (HC26.out.below HBx.out)
  have HC57 := Lib.hid (HC5.out.below HBx.out)
  have HX6 := Lib.hid (bkbel HX5.out HBx.out)
  have HY6 := Lib.hid (bkbel HY5.out HBx.out)
  rw [hq] at HZ ⊢
  clear hq HBx HB6 HC16 HC26 HC5 HX5 HY5
  go_wp2_with fail
  refine (canonC6 (str (textD F)) W5 (Lib.hid (hv.out.below HB7.out)) hzF).mono ?_
  rintro e w6 ⟨rfl, hb⟩
  rw [str_data, HK1.out.canon]
  have HB8 := Lib.hid (bthen HB7.out hb)
  have HC18 := Lib.hid (HC17.out.below hb)
  have HC28 := Lib.hid (HC27.out.below hb)
  have HC58 := Lib.hid (HC57.out.below hb)
  have HX7 := Lib.hid (bkbel HX6.out hb)
  have HY7 := Lib.hid (bkbel HY6.out hb)
  have HZ7 := Lib.hid (bkbel HZ.out hb)
  clear hb HB7 HC17 HC27 HC57 HX6 HY6 HZ
  dsimp only
  obtain ⟨x0, x1⟩ := cells2 HX7.out
  obtain ⟨y0, y1⟩ := cells2 HY7.out
  obtain ⟨z0, z1⟩ := cells2 HZ7.out
  have hw0 : IntKind.i64.wrap ((0 : Int) + 0) = 0 := rfl
  have hs1 : ((str (textD F)).toList != (str (textD F)).toList) = false := by simp
  go_upto_region 6 with fail
  go_cut [90] (fun v90 wx => v90 = .bool false ∧ Hid (Below w6.heap.size w6 wx))
  case first =>
    by_cases hFG : F = G
    · have hq : ((str (textD F)).toList == (str (textD G)).toList) = true := by rw [hFG]; simp
      have HFG := Lib.hid hFG
      clear hFG
      go_wp2_with fail
      refine (sameF v5 v1 A5 A1 Q5 Q1 n5 n1 c5 c1 w6 HC58 HC18).mono ?_
      rintro e w7 ⟨rfl, hb⟩
      rw [HQ5.out, HQ1.out, decide_eq_true (rfl : F = F)]
      have HB9 := Lib.hid hb
      have HX8 := Lib.hid (bkbel HX7.out hb)
      have HY8 := Lib.hid (bkbel HY7.out hb)
      obtain ⟨x2, x3⟩ := cells2 HX8.out
      obtain ⟨y2, y3⟩ := cells2 HY8.out
      clear hb x0 x1 y0 y1 z0 z1
      go_wp2_with fail
      refine (sameF v1 v2 A1 A2 Q1 Q2 n1 n2 c1 c2 w7 (Lib.hid (HC18.out.below HB9.out)) (Lib.hid (HC28.out.below HB9.out))).mono ?_
      rintro e w8 ⟨rfl, hb⟩
      rw [HQ1.out, HQ2.out, decide_eq_true HFG.out]
      have HB10 := Lib.hid (bthen HB9.out hb)
      clear hb
      go_wp2_with fail
      go_meet
      exact ⟨rfl, HB10⟩
    · have hq : ((str (textD F)).toList == (str (textD G)).toList) = false := by
        cases hq : ((str (textD F)).toList == (str (textD G)).toList) with
        | false => rfl
        | true =>
          refine absurd (HK1.out.inj HK2.out ?_) hFG
          have h1 : (str (textD F)).toList = (str (textD G)).toList := by simpa using hq
          rw [ByteArray.toList_eq, ByteArray.toList_eq] at h1
          exact h1
      have HFG := Lib.hid hFG
      clear hFG
      go_wp2_with fail
      refine (sameF v5 v1 A5 A1 Q5 Q1 n5 n1 c5 c1 w6 HC58 HC18).mono ?_
      rintro e w7 ⟨rfl, hb⟩
      rw [HQ5.out, HQ1.out, decide_eq_true (rfl : F = F)]
      have HB9 := Lib.hid hb
      have HX8 := Lib.hid (bkbel HX7.out hb)
      have HY8 := Lib.hid (bkbel HY7.out hb)
      obtain ⟨x2, x3⟩ := cells2 HX8.out
      obtain ⟨y2, y3⟩ := cells2 HY8.out
      clear hb x0 x1 y0 y1 z0 z1
      go_wp2_with fail
      refine (sameF v1 v2 A1 A2 Q1 Q2 n1 n2 c1 c2 w7 (Lib.hid (HC18.out.below HB9.out)) (Lib.hid (HC28.out.below HB9.out))).mono ?_
      rintro e w8 ⟨rfl, hb⟩
      rw [HQ1.out, HQ2.out, decide_eq_false HFG.out]
      have HB10 := Lib.hid (bthen HB9.out hb)
      clear hb
      go_wp2_with fail
      go_meet
      exact ⟨rfl, HB10⟩
  case rest =>
  obtain ⟨rfl, HB9⟩ := hcut
  generalize wc = w9 at *
  have HB10 := Lib.hid (bthen HB8.out HB9.out)
  clear HB8 HB9 HC18 HC28 HC58 HX7 HY7 HZ7 x0 x1 y0 y1 z0 z1 HQ1 HQ2 HQ5 HK1 HK2 hs1 hzF
  by_cases hs1 : 1000 < s.size
  · have e9 : decide ((1000 : Int) < (s.size : Int)) = true := by simp; omega
    clear hs1
    go_wp2_with fail
    refine (awake6 w9 (Lib.hid (hv.out.below HB10.out))).mono ?_
    rintro e w10 ⟨rfl, hb⟩
    have HB11 := Lib.hid (bthen HB10.out hb)
    clear hb
    go_wp2
    go_ret
    exact ⟨rfl, HB11.out⟩
  · have e9 : decide ((1000 : Int) < (s.size : Int)) = false := by simp; omega
    have hsl : s.data.toList.length ≤ 1000 := by rw [data_len]; omega
    have hsz : s.size ≤ 20000000 := by omega
    rcases read_ends hsl with ⟨f, hr, hk⟩ | ⟨i, er, hr, hi, he⟩
    · have HR := Lib.hid hr
      have HK := Lib.hid hk
      have HCN : Hid (canonD s.data.toList = (textD f, 0, 0)) := by
        show _ = _
        unfold canonD
        rw [hr, if_pos rfl, hk.write]
      have hzF : (str (textD f)).size ≤ 20000000 := by rw [str_size]; have := hk.sz; omega
      clear hr hk hs1 hsl
      go_wp2_with fail
      refine (readV6 s w9 (Lib.hid (hv.out.below HB10.out)) hsz (f, 0, 0) HR).mono ?_
      rintro e w10 ⟨v1, A1, n1, c1, Q1, rfl, hc1, hq1, hb⟩
      dsimp only at hq1
      have HQ1 := Lib.hid hq1
      have HC1 := Lib.hid hc1
      have HB11 := Lib.hid (bthen HB10.out hb)
      clear hc1 hq1 hb HB10 HR
      dsimp only
      go_upto_region 11 with fail
      have HX := Lib.hid (Bk.new w10 24 #[.int .i64 v1, .slice A1 n1 c1])
      have HBx : Hid (Below w10.heap.size w10 (w10.alloc (.cells #[.int .i64 v1, .slice A1 n1 c1] 24))) := balloc (Below.refl _ _) _
      generalize (w10.alloc (.cells #[.int .i64 v1, .slice A1 n1 c1] 24)) = W10 at *
      obtain ⟨p1, hp1⟩ : ∃ p, w10.heap.size = p := ⟨_, rfl⟩
      have HB12 := Lib.hid (bthen HB11.out HBx.out)
      have HC2 := Lib.hid (HC1.out.below HBx.out)
      rw [hp1] at HX ⊢
      clear hp1 HBx HB11 HC1
      obtain ⟨x0, x1⟩ := cells2 HX.out
      go_wp2_with fail
      refine (checkDC v1 A1 n1 c1 Q1 W10 HC2).mono ?_
      rintro e w11 ⟨rfl, hb⟩
      rw [HQ1.out, HK.out.ok]
      have HB13 := Lib.hid (bthen HB12.out hb)
      have HC3 := Lib.hid (HC2.out.below hb)
      have HX1 := Lib.hid (bkbel HX.out hb)
      clear hb HB12 HC2 HX x0 x1
      dsimp only
      go_wp2_with fail
      refine (canonC6 s w11 (Lib.hid (hv.out.below HB13.out)) hsz).mono ?_
      rintro e w12 ⟨rfl, hb⟩
      rw [HCN.out]
      have HB14 := Lib.hid (bthen HB13.out hb)
      have HC4 := Lib.hid (HC3.out.below hb)
      have HX2 := Lib.hid (bkbel HX1.out hb)
      clear hb HB13 HC3 HX1 HCN
      dsimp only
      go_wp2_with fail
      refine (readV6 (str (textD f)) w12 (Lib.hid (hv.out.below HB14.out)) hzF (f, 0, 0) (Lib.hid (by rw [str_data]; exact HK.out.read))).mono ?_
      rintro e w13 ⟨v5, A5, n5, c5, Q5, rfl, hc5, hq5, hb⟩
      dsimp only at hq5
      have HC5 := Lib.hid hc5
      have HQ5 := Lib.hid hq5
      have HB15 := Lib.hid (bthen HB14.out hb)
      have HC6 := Lib.hid (HC4.out.below hb)
      have HX3 := Lib.hid (bkbel HX2.out hb)
      clear hc5 hq5 hb HB14 HC4 HX2
      dsimp only
      go_upto_region 16 with fail
      have HZ := Lib.hid (Bk.new w13 24 #[.int .i64 v5, .slice A5 n5 c5])
      have HBx : Hid (Below w13.heap.size w13 (w13.alloc (.cells #[.int .i64 v5, .slice A5 n5 c5] 24))) := balloc (Below.refl _ _) _
      generalize (w13.alloc (.cells #[.int .i64 v5, .slice A5 n5 c5] 24)) = W13 at *
      obtain ⟨q, hq⟩ : ∃ q, w13.heap.size = q := ⟨_, rfl⟩
      have HB16 := Lib.hid (bthen HB15.out HBx.out)
      have HC7 := Lib.hid (HC6.out.below HBx.out)
      have HC57 := Lib.hid (HC5.out.below HBx.out)
      have HX4 := Lib.hid (bkbel HX3.out HBx.out)
      rw [hq] at HZ ⊢
      clear hq HBx HB15 HC6 HC5 HX3
      obtain ⟨x0, x1⟩ := cells2 HX4.out
      obtain ⟨z0, z1⟩ := cells2 HZ.out
      go_wp2_with fail
      refine (sameF v5 v1 A5 A1 Q5 Q1 n5 n1 c5 c1 W13 HC57 HC7).mono ?_
      rintro e w14 ⟨rfl, hb⟩
      rw [HQ5.out, HQ1.out, decide_eq_true (rfl : f = f)]
      have HB17 := Lib.hid (bthen HB16.out hb)
      clear hb
      go_wp2_with fail
      refine (awake6 w14 (Lib.hid (hv.out.below HB17.out))).mono ?_
      rintro e w15 ⟨rfl, hb⟩
      have HB18 := Lib.hid (bthen HB17.out hb)
      clear hb
      go_wp2
      go_ret
      exact ⟨rfl, HB18.out⟩
    · have HR := Lib.hid hr
      have hge : decide ((1 : Int) ≤ i) = true := decide_eq_true hi
      have hne : (er != 0) = true := by simpa using he
      clear hr hs1 hsl hi he
      go_wp2_with fail
      refine (readV6 s w9 (Lib.hid (hv.out.below HB10.out)) hsz (F0, i, er) HR).mono ?_
      rintro e w10 ⟨v1, A1, n1, c1, Q1, rfl, hc1, hq1, hb⟩
      dsimp only at hq1
      have HQ1 := Lib.hid hq1
      have HC1 := Lib.hid hc1
      have HB11 := Lib.hid (bthen HB10.out hb)
      clear hc1 hq1 hb HB10 HR
      dsimp only
      go_upto_region 11 with fail
      have HX := Lib.hid (Bk.new w10 24 #[.int .i64 v1, .slice A1 n1 c1])
      have HBx : Hid (Below w10.heap.size w10 (w10.alloc (.cells #[.int .i64 v1, .slice A1 n1 c1] 24))) := balloc (Below.refl _ _) _
      generalize (w10.alloc (.cells #[.int .i64 v1, .slice A1 n1 c1] 24)) = W10 at *
      obtain ⟨p1, hp1⟩ : ∃ p, w10.heap.size = p := ⟨_, rfl⟩
      have HB12 := Lib.hid (bthen HB11.out HBx.out)
      have HC2 := Lib.hid (HC1.out.below HBx.out)
      rw [hp1] at HX ⊢
      clear hp1 HBx HB11 HC1
      obtain ⟨x0, x1⟩ := cells2 HX.out
      go_wp2_with fail
      refine (sameF v1 0 A1 none Q1 [] n1 0 c1 0 W10 HC2 (Lib.hid (cls_nil _))).mono ?_
      rintro e w11 ⟨rfl, hb⟩
      rw [HQ1.out, decide_eq_true (show F0 = ⟨0, clsOf []⟩ from rfl)]
      have HB13 := Lib.hid (bthen HB12.out hb)
      clear hb
      go_wp2_with fail
      refine (awake6 w11 (Lib.hid (hv.out.below HB13.out))).mono ?_
      rintro e w12 ⟨rfl, hb⟩
      have HB14 := Lib.hid (bthen HB13.out hb)
      clear hb
      go_wp2
      go_ret
      exact ⟨rfl, HB14.out⟩
end Go.Proofs.YtkpcpclaadgnbaaGreatDoor
