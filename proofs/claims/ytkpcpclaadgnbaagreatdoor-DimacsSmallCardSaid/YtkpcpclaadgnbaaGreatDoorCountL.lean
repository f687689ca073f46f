/-
  salvorlaw06.DimacsCounts: the walk.
-/
import Derived.Test.YtkpcpclaadgnbaaGreatDoorCountP
import Derived.Test.YtkpcpclaadgnbaaGreatDoorAwake6
import Derived.Deep.DeepCutAuto
set_option linter.unusedVariables false
set_option linter.unusedSimpArgs false
namespace Go.Proofs.YtkpcpclaadgnbaaGreatDoor
open Go.RowKit Go.Shelf

theorem cutC6 (F : Fm) (w : World) (hk : FmK F) (hv : Hid (Vars w)) : Calls Tryz.prog 21 #[.string (str (textD F)), .string ⟨#[10]⟩] w fun e w' => e = .returned (.tuple #[.string (str (hdS F.vars F.cls.length)), .string (str (txS F.cls)), .bool true]) ∧ Below w.heap.size w w' := by
  obtain ⟨m, hm⟩ := hv.out.max
  refine (Tryz.strings_Cut (str (textD F)) ⟨#[10]⟩ m w (by rw [str_size]; have := hk.sz; omega) hm).mono ?_
  rintro e w' ⟨rfl, k, rfl⟩
  have h1 : Lib.cut (str (textD F)).data.toList (⟨#[10]⟩ : ByteArray).data.toList = (hdS F.vars F.cls.length, txS F.cls, true) := cut_text F
  rw [h1]
  exact ⟨rfl, below_drewN _ _⟩
theorem trimC6 (s p : ByteArray) (w : World) (hs : s.size ≤ 20000000) : Calls Tryz.prog 23 #[.string s, .string p] w fun e w' => e = .returned (.string (str (Lib.trimSuffix s.data.toList p.data.toList))) ∧ w = w' := by
  refine (Tryz.strings_TrimSuffix s p w (by omega)).mono ?_
  rintro e w' ⟨rfl, rfl⟩
  exact ⟨rfl, rfl⟩
theorem cat3 (a b : List UInt8) : ((str a ++ ⟨#[10]⟩) ++ str b).data.toList = a ++ 10 :: b := by
  rw [cat_data, cat_data, str_data, str_data, List.append_assoc]
  rfl
theorem cat3_size (a b : List UInt8) : ((str a ++ ⟨#[10]⟩) ++ str b).size = a.length + 1 + b.length := by
  rw [cat_size, cat_size, str_size, str_size]
  rfl
theorem made_len (L : List (List Nat)) : (madeD L).cls.length ≤ 30 := by
  show (madeC (L.take 30)).length ≤ 30
  unfold madeC
  rw [List.length_map, List.length_take]
  omega
/-- What the walk needs. -/
structure CntK (n : Nat) (S T : List UInt8) : Prop where
  sz : S.length ≤ 100000
  tz : T.length ≤ 100000
  more : readD (hdS 8 ((n : Int) + 1) ++ 10 :: T) = (F0, (n : Int) + 3, 63)
  less : n ≠ 0 → readD (hdS 8 ((n : Int) - 1) ++ 10 :: T) = (F0, (n : Int) + 1, 63)
  trim : n ≠ 0 → readD (Lib.trimSuffix S [48, 10]) = (F0, (n : Int) + 2, 63)
theorem cnt_k {F : Fm} (hk : FmK F) (h8 : F.vars = 8) (hn : F.cls.length ≤ 30) : CntK F.cls.length (textD F) (txS F.cls) := by
  have h1 := hk.sz
  refine ⟨h1, ?_, by rw [← h8]; exact read_more hk (by omega), fun h => ?_, fun h => ?_⟩
  · unfold textD at h1
    simp only [List.length_append, List.length_cons] at h1
    omega
  · rw [← h8]
    exact read_less hk (by omega) (fun e => h (by rw [e]; rfl))
  · exact read_trim hk (by omega) (fun e => h (by rw [e]; rfl))
theorem hd8_len (n : Int) (h1 : -5 ≤ n) (h2 : n ≤ 100) : (hdS 8 n).length ≤ 50 := hd_len ⟨by omega, by omega⟩ ⟨by omega, by omega⟩
set_option maxRecDepth 100000 in
set_option maxHeartbeats 4000000 in
theorem mainCounts (A : Option Addr) (n c : Nat) (L : List (SV × List Nat)) (w : World) (hv : Hid (Vars w)) (h : Hid (U8At w A n L)) (hn : n ≤ 9223372036854775807) (hc : n ≤ c) :
    Calls Tryz.prog 6 #[.slice A n c] w fun e w' => e = .returned (.bool true) ∧ Below w.heap.size w w' := by
  have HM1 := made5C A n c L w h hn hc
  have hf8 : (madeD (L.map (·.2))).vars = 8 := rfl
  have hf30 := made_len (L.map (·.2))
  have hfk := made_k (L.map (·.2))
  generalize madeD (L.map (·.2)) = F at *
  have HM1 := Lib.hid HM1
  have HK := Lib.hid hfk
  have HCN := Lib.hid (cnt_k hfk hf8 hf30)
  have H8 := Lib.hid hf8
  have H30 := Lib.hid hf30
  clear h hn hc hf8 hf30 hfk
  go_enter Tryz.func6, Tryz.ntmps6
  go_wp2_with fail
  refine HM1.out.mono ?_
  rintro e w1 hp1
  obtain ⟨v1, A1, n1, c1, Q1, rfl, hc1, hq1, hb⟩ := hp1.v
  have hnn : F.cls.length = n1 := by rw [← hq1]; show (clsOf Q1).length = n1; rw [clsOf_len]; exact hc1.len
  have HE : Hid (hdS F.vars F.cls.length = hdS 8 n1) := by show _ = _; rw [H8.out, hnn]
  have hn30 : n1 ≤ 30 := by have := H30.out; omega
  have HCK : Hid (CntK n1 (textD F) (txS F.cls)) := hnn ▸ HCN.out
  have HC1 := Lib.hid hc1
  have HQ1 := Lib.hid hq1
  have HB1 := Lib.hid hb
  clear hc1 hq1 hb hp1 HM1 HCN hnn H8 H30
  go_upto_region 2 with fail
  have HX := Lib.hid (Bk.new w1 24 #[.int .i64 v1, .slice A1 n1 c1])
  have HBx : Hid (Below w1.heap.size w1 (w1.alloc (.cells #[.int .i64 v1, .slice A1 n1 c1] 24))) := balloc (Below.refl _ _) _
  generalize (w1.alloc (.cells #[.int .i64 v1, .slice A1 n1 c1] 24)) = W1 at *
  obtain ⟨p, hp⟩ : ∃ p, w1.heap.size = p := ⟨_, rfl⟩
  have HB2 := Lib.hid (bthen HB1.out HBx.out)
  have HC2 := Lib.hid (HC1.out.below HBx.out)
  rw [hp] at HX ⊢
  clear hp HBx HB1 HC1
  obtain ⟨x0, x1⟩ := cells2 HX.out
  go_wp2_with fail
  refine (writeD6 v1 A1 n1 c1 Q1 W1 HC2 (Lib.hid (hv.out.below HB2.out))).mono ?_
  rintro e w2 ⟨rfl, hb⟩
  rw [HQ1.out, HK.out.write]
  have HB3 := Lib.hid (bthen HB2.out hb)
  clear hb x0 x1 HX HB2 HC2
  dsimp only
  go_wp2_with fail
  refine (cutC6 F w2 HK.out (Lib.hid (hv.out.below HB3.out))).mono ?_
  rintro e w3 ⟨rfl, hb⟩
  rw [HE.out]
  have HB4 := Lib.hid (bthen HB3.out hb)
  clear hb HB3 HE HK HQ1
  obtain ⟨S, hS⟩ : ∃ S, textD F = S := ⟨_, rfl⟩
  obtain ⟨T, hT⟩ : ∃ T, txS F.cls = T := ⟨_, rfl⟩
  rw [hS, hT] at HCK ⊢
  clear hS hT
  have hw1 : IntKind.i64.wrap ((n1 : Int) + 1) = (n1 : Int) + 1 := by rw [IntKind.wrap_i64]; omega
  have hw3 : IntKind.i64.wrap ((n1 : Int) + 3) = (n1 : Int) + 3 := by rw [IntKind.wrap_i64]; omega
  have hwm : IntKind.i64.wrap ((n1 : Int) - 1) = (n1 : Int) - 1 := by rw [IntKind.wrap_i64]; omega
  have hw0 : IntKind.i64.wrap ((0 : Int) + 0) = 0 := rfl
  have hz := HCK.out.sz
  have hzt := HCK.out.tz
  have hl1 := hd8_len ((n1 : Int) + 1) (by omega) (by omega)
  have hl2 := hd8_len ((n1 : Int) - 1) (by omega) (by omega)
  dsimp only
  go_wp2_with fail
  refine (headerC 8 ((n1 : Int) + 1) w3 (Lib.hid (hv.out.below HB4.out))).mono ?_
  rintro e w4 ⟨rfl, hb⟩
  rw [headE_ok (hdOk_mk (by decide) (by decide) (by omega) (by omega))]
  have HB5 := Lib.hid (bthen HB4.out hb)
  clear hb HB4
  dsimp only
  have hne : ((str (hdS 8 (n1 : Int))).toList == []) = false := by rw [toList_data, str_data]; rfl
  have hne2 : (str (hdS 8 (n1 : Int))).toList.isEmpty = false := by rw [toList_data, str_data]; rfl
  go_upto_region 8 with fail
  have hk0 : (str (hdS 8 ((n1 : Int) + 1))).size ≤ 50 := by rw [str_size]; exact hl1
  have hkT : (str T).size ≤ 100000 := by rw [str_size]; exact hzt
  have hk10 : (⟨#[10]⟩ : ByteArray).size = 1 := rfl
  have hk1 : (str (hdS 8 ((n1 : Int) + 1)) ++ ⟨#[10]⟩ : ByteArray).size ≤ 200000 := by rw [cat_size, str_size]; show _ + 1 ≤ _; omega
  have hk2 : ((str (hdS 8 ((n1 : Int) + 1)) ++ ⟨#[10]⟩ : ByteArray) ++ str T).size ≤ 200000 := by rw [cat3_size]; omega
  go_wp2_with fail
  refine (readV6 ((str (hdS 8 ((n1 : Int) + 1)) ++ ⟨#[10]⟩) ++ str T) w4 (Lib.hid (hv.out.below HB5.out)) (by rw [cat3_size]; omega) (F0, (n1 : Int) + 3, 63) (Lib.hid (by show readD _ = _; rw [cat3]; exact HCK.out.more))).mono ?_
  rintro e w5 ⟨v5, A5, n5, c5, Q5, rfl, hc5, hq5, hb⟩
  have HB6 : Hid (Below w.heap.size w (w5.alloc (.cells #[.int .i64 v5, .slice A5 n5 c5] 24))) := balloc (bthen HB5.out hb) _
  clear hc5 hq5 hb HB5
  dsimp only
  go_upto_region 9 with fail
  generalize (w5.alloc (.cells #[.int .i64 v5, .slice A5 n5 c5] 24)) = W5 at *
  go_upto_region 11 with fail
  have HV5 := Lib.hid (hv.out.below HB6.out)
  by_cases h0 : n1 = 0
  · have e0 : ((n1 : Int) == 0) = true := by rw [h0]; rfl
    clear h0 hk1 hk2 hk0 hl1 hl2
    go_wp2_with fail
    refine (awake6 W5 HV5).mono ?_
    rintro e w6 ⟨rfl, hb⟩
    have HB7 := Lib.hid (bthen HB6.out hb)
    clear hb
    go_wp2
    go_ret
    exact ⟨rfl, HB7.out⟩
  · have e0 : ((n1 : Int) == 0) = false := by simpa using h0
    have HL : Hid _ := Lib.hid (HCK.out.less h0)
    have HT : Hid _ := Lib.hid (HCK.out.trim h0)
    have hpos : 1 ≤ n1 := by omega
    clear h0 hk1 hk2 hk0 hl1
    go_wp2_with fail
    refine (headerC 8 ((n1 : Int) - 1) W5 HV5).mono ?_
    rintro e w6 ⟨rfl, hb⟩
    rw [headE_ok (hdOk_mk (by decide) (by decide) (by omega) (by omega))]
    have HB7 := Lib.hid (bthen HB6.out hb)
    clear hb HB6 HV5
    dsimp only
    go_upto_region 14 with fail
    have hk0 : (str (hdS 8 ((n1 : Int) - 1))).size ≤ 50 := by rw [str_size]; exact hl2
    have hk1 : (str (hdS 8 ((n1 : Int) - 1)) ++ ⟨#[10]⟩ : ByteArray).size ≤ 200000 := by rw [cat_size, str_size]; show _ + 1 ≤ _; omega
    have hk2 : ((str (hdS 8 ((n1 : Int) - 1)) ++ ⟨#[10]⟩ : ByteArray) ++ str T).size ≤ 200000 := by rw [cat3_size]; omega
    go_wp2_with fail
    refine (readV6 ((str (hdS 8 ((n1 : Int) - 1)) ++ ⟨#[10]⟩) ++ str T) w6 (Lib.hid (hv.out.below HB7.out)) (by rw [cat3_size]; omega) (F0, (n1 : Int) + 1, 63) (Lib.hid (by show readD _ = _; rw [cat3]; exact HL.out))).mono ?_
    rintro e w7 ⟨v7, A7, n7, c7, Q7, rfl, hc7, hq7, hb⟩
    have HB8 : Hid (Below w.heap.size w (w7.alloc (.cells #[.int .i64 v7, .slice A7 n7 c7] 24))) := balloc (bthen HB7.out hb) _
    clear hc7 hq7 hb HB7 hk0 hk1 hk2 HL
    dsimp only
    go_upto_region 15 with fail
    generalize (w7.alloc (.cells #[.int .i64 v7, .slice A7 n7 c7] 24)) = W7 at *
    have hsz : (str S).size ≤ 20000000 := by rw [str_size]; omega
    go_wp2_with fail
    refine (trimC6 (str S) ⟨#[48, 10]⟩ W7 hsz).mono ?_
    rintro e w8 ⟨rfl, rfl⟩
    have HT2 : Hid (readD (str (Lib.trimSuffix (str S).data.toList (⟨#[48, 10]⟩ : ByteArray).data.toList)).data.toList = (F0, (n1 : Int) + 2, 63)) := HT.out
    have hst : (str (Lib.trimSuffix (str S).data.toList (⟨#[48, 10]⟩ : ByteArray).data.toList)).size ≤ 20000000 := by
      rw [str_size]
      exact Nat.le_trans (Lib.trimSuffix_le _ _) (by rw [str_data]; omega)
    clear HT
    generalize str (Lib.trimSuffix (str S).data.toList (⟨#[48, 10]⟩ : ByteArray).data.toList) = Z at *
    go_wp2_with fail
    refine (readV6 Z W7 (Lib.hid (hv.out.below HB8.out)) hst (F0, (n1 : Int) + 2, 63) HT2).mono ?_
    rintro e w9 ⟨v9, A9, n9, c9, Q9, rfl, hc9, hq9, hb⟩
    have HB9 : Hid (Below w.heap.size w (w9.alloc (.cells #[.int .i64 v9, .slice A9 n9 c9] 24))) := balloc (bthen HB8.out hb) _
    clear hc9 hq9 hb HB8 HT2
    dsimp only
    have hge : decide ((n1 : Int) + 1 ≤ (n1 : Int) + 2) = true := decide_eq_true (by omega)
    go_upto_region 16 with fail
    generalize (w9.alloc (.cells #[.int .i64 v9, .slice A9 n9 c9] 24)) = W9 at *
    go_wp2_with fail
    refine (awake6 W9 (Lib.hid (hv.out.below HB9.out))).mono ?_
    rintro e w10 ⟨rfl, hb⟩
    have HB10 := Lib.hid (bthen HB9.out hb)
    clear hb
    go_wp2
    go_ret
    exact ⟨rfl, HB10.out⟩
end Go.Proofs.YtkpcpclaadgnbaaGreatDoor
