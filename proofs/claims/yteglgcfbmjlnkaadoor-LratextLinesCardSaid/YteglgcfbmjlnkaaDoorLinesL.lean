/-
  LratextLines.
-/
import Derived.Test.YteglgcfbmjlnkaaDoorMadeL
import Derived.Test.YteglgcfbmjlnkaaDoorAwake7
import Derived.Test.YteglgcfbmjlnkaaDoorReadsL
set_option linter.unusedVariables false
set_option linter.unusedSimpArgs false
namespace Go.Proofs.YteglgcfbmjlnkaaDoor
open Go.RowKit

theorem ibyte_none : ∀ (l : List UInt8) (c : UInt8), c ∉ l → Lib.indexByte l c = -1
  | [], _, _ => rfl
  | b :: l, c, h => by
    have h1 : ¬ b = c := fun e => h (by simp [e])
    have h2 := ibyte_none l c (fun hm => h (by simp [hm]))
    unfold Lib.indexByte
    rw [h2, if_neg (by simpa using h1)]
    rfl
theorem no_nl (s : Stp) : decide (0 ≤ Lib.indexByte (str (lineS s)).data.toList 10) = false := by
  rw [str_data, ibyte_none _ _ (line_free s)]
  rfl
theorem text_cat (t l : List UInt8) : str t ++ (str l ++ (⟨#[10]⟩ : ByteArray)) = str (t ++ (l ++ [10])) := data_inj (by
  rw [cat_data, cat_data]; rfl)
set_option maxRecDepth 100000 in
set_option maxHeartbeats 4000000 in
theorem mainLines (A : Option Addr) (n c : Nat) (L : List (StV × Sml)) (s : ByteArray) (w : World) (hv : Hid (Vars w)) (h : Hid (SmlsAt w A n L)) (hn : n ≤ 9223372036854775807) (hc : n ≤ c) :
    Calls Tryd.prog 5 #[.slice A n c, .string s] w fun e w' => e = .returned (.bool true) ∧ Below w.heap.size w w' := by
  go_enter Tryd.func5, Tryd.ntmps5
  go_wp2_with fail
  refine (made7C A n c L w h hn hc).mono ?_
  rintro e w1 ⟨A1, n1, c1, M, rfl, ho, ht, hm, hl, hb⟩
  have HOK := Lib.hid (made_ok h.out.b hm)
  have hn40 : n1 ≤ 40 := by have := HOK.out.n40; omega
  have HS1 := Lib.hid (made_steps ho ht hl hn40)
  have HB1 := Lib.hid hb
  have HV1 := Lib.hid (hv.out.below hb)
  clear ho ht hb hm h
  go_wp2_with fail
  go_loopw [6, 24] (fun v6 v24 wr => ∃ (k : Nat), k ≤ n1 ∧ v24 = .int .i64 k ∧ v6 = .string (str (textS (M.take k))) ∧ Hid (Below w1.heap.size w1 wr)) (fun _ v24 _ => n1 - (intOf v24).toNat)
  case atStart => exact ⟨0, Nat.zero_le _, rfl, rfl, Below.refl _ _⟩
  case round =>
    obtain ⟨k, hk, rfl, rfl, HB⟩ := hrel
    have hki : ∀ b : Bool, decide (k < n1) = b → decide ((k : Int) < (n1 : Int)) = b := fun b hb => by rw [← hb]; exact decide_eq_decide.2 (by omega)
    have HVr := Lib.hid (HV1.out.below HB.out)
    have hts : (str (textS (M.take k))).size ≤ 100000 := by
      rw [str_size]
      have h1 := text_small M HOK.out.right
      have h2 := textS_le M k
      have h3 := HOK.out.n40
      omega
    by_cases hlt : k < n1
    · have e1 := hki true (decide_eq_true hlt)
      clear hki
      obtain ⟨b, off, LA, HA, Ln, Lc, Hn, Hc, del, id, lits, hints, rfl, hx, hbl, c0, c1', c2, c3⟩ := (HS1.out.rd.below HB.out).stp hl hlt
      have HT := Lib.hid ((HS1.out.all k _ _ hx).below HB.out)
      obtain ⟨hr, hll, hhl⟩ := HOK.out.right _ (List.mem_of_getElem? hx)
      dsimp only at hr hll hhl
      have HR := Lib.hid hr
      have HX := Lib.hid hx
      have hls : (str (lineS ⟨del, id, lits, hints⟩)).size ≤ 2000 := by rw [str_size]; exact line_small hr hll hhl
      have HX0 := Lib.hid (Bk.new wr 31 #[.bool del, .int .i64 id, .slice LA Ln Lc, .slice HA Hn Hc])
      have HB0 : Hid (Below wr.heap.size wr (wr.alloc (.cells #[.bool del, .int .i64 id, .slice LA Ln Lc, .slice HA Hn Hc] 31))) := balloc (Below.refl _ _) _
      clear hx hr hll hhl
      go_upto_region 6 with fail
      have HT0 := Lib.hid (HT.out.below HB0.out)
      have HV0 := Lib.hid (HVr.out.below HB0.out)
      have HB2 := Lib.hid (bthen HB.out HB0.out)
      generalize (wr.alloc (.cells #[.bool del, .int .i64 id, .slice LA Ln Lc, .slice HA Hn Hc] 31)) = w2 at *
      obtain ⟨p, hp⟩ : ∃ p, p = wr.heap.size := ⟨_, rfl⟩
      rw [← hp] at HX0
      rw [← hp]
      clear hp HB0 HT HB
      obtain ⟨x0, x1, x2, x3⟩ := cells4 HX0.out
      go_wp2_with fail
      refine (lineT del id lits hints LA HA Ln Lc Hn Hc w2 HT0 HV0 HR).mono ?_
      rintro e w3 ⟨rfl, hb⟩
      have HX3 := Lib.hid (bkbel HX0.out hb)
      have HT3 := Lib.hid (HT0.out.below hb)
      have HV3 := Lib.hid (HV0.out.below hb)
      have HB3 := Lib.hid (bthen HB2.out hb)
      clear hb x0 x1 x2 x3 HX0 HT0 HV0 HB2
      dsimp only
      go_wp2_with fail
      refine (parseC (str (lineS ⟨del, id, lits, hints⟩)) w3 HV3 (by omega)).mono ?_
      rintro e w4 ⟨hb, h2⟩
      rw [str_data, parse_line HR.out] at h2
      obtain ⟨LA2, Ln2, Lc2, HA2, Hn2, Hc2, rfl, hst, _⟩ := h2
      dsimp only at hst ⊢
      have HX4 := Lib.hid (bkbel HX3.out hb)
      have HT4 := Lib.hid (HT3.out.below hb)
      have HB4 := Lib.hid (bthen HB3.out hb)
      have HU4 := Lib.hid hst
      clear hb hst HX3 HT3 HV3 HB3
      have HY4 := Lib.hid (Bk.new w4 31 #[.bool del, .int .i64 id, .slice LA2 Ln2 Lc2, .slice HA2 Hn2 Hc2])
      have HBa : Hid (Below w4.heap.size w4 (w4.alloc (.cells #[.bool del, .int .i64 id, .slice LA2 Ln2 Lc2, .slice HA2 Hn2 Hc2] 31))) := balloc (Below.refl _ _) _
      go_upto_region 8 with fail
      have HX5 := Lib.hid (bkbel HX4.out HBa.out)
      have HT5 := Lib.hid (HT4.out.below HBa.out)
      have HU5 := Lib.hid (HU4.out.below HBa.out)
      have HB5 := Lib.hid (bthen HB4.out HBa.out)
      generalize (w4.alloc (.cells #[.bool del, .int .i64 id, .slice LA2 Ln2 Lc2, .slice HA2 Hn2 Hc2] 31)) = w5 at *
      generalize w4.heap.size = q at *
      clear HX4 HT4 HU4 HB4 HBa
      obtain ⟨x0, x1, x2, x3⟩ := cells4 HX5.out
      go_wp2_with fail
      refine (stepRight del id lits hints LA HA Ln Lc Hn Hc w5 HT5).mono ?_
      rintro e w6 ⟨rfl, hb⟩
      rw [HR.out]
      have HX6 := Lib.hid (bkbel HX5.out hb)
      have HY6 := Lib.hid (bkbel HY4.out hb)
      have HT6 := Lib.hid (HT5.out.below hb)
      have HU6 := Lib.hid (HU5.out.below hb)
      have HB6 := Lib.hid (bthen HB5.out hb)
      clear hb x0 x1 x2 x3 HX5 HY4 HT5 HU5 HB5
      go_wp2_with fail
      refine (Tryd.strings_Contains_one (str (lineS ⟨del, id, lits, hints⟩)) 10 w6).mono ?_
      rintro e w7 ⟨rfl, rfl⟩
      rw [no_nl]
      obtain ⟨x0, x1, x2, x3⟩ := cells4 HX6.out
      obtain ⟨y0, y1, y2, y3⟩ := cells4 HY6.out
      have hpl : p < w7.heap.size := HX6.out.lt
      have hql : q < w7.heap.size := HY6.out.lt
      have HBb : Hid (Below w7.heap.size w7 ((w7.alloc (.cells #[.bool del, .int .i64 id, .slice LA2 Ln2 Lc2, .slice HA2 Hn2 Hc2] 31)).alloc (.cells #[.bool del, .int .i64 id, .slice LA Ln Lc, .slice HA Hn Hc] 31))) := balloc (balloc (Below.refl _ _) _) _
      have hsame := sameC (some ⟨w7.heap.size, 0, none⟩) (some ⟨w7.heap.size + 1, 0, none⟩) _ _ 1 1 1 1 _ (Lib.hid (one_step HBb.out HU6.out ((Bk.new w7 31 (stc ⟨del, id, lits, hints⟩ ⟨⟨LA2, Ln2, Lc2⟩, ⟨HA2, Hn2, Hc2⟩⟩)).alloc _))) (Lib.hid (one_step HBb.out HT6.out (Bk.newAt _ 31 (stc ⟨del, id, lits, hints⟩ ⟨⟨LA, Ln, Lc⟩, ⟨HA, Hn, Hc⟩⟩) (w7.heap.size + 1) (by simp))))
      have HSAME := Lib.hid hsame
      clear hsame
      go_wp2_with fail
      refine HSAME.out.mono ?_
      intro e w8 hh
      obtain ⟨he, hb⟩ := hh
      obtain rfl := he.trans (ret_bool (decide_eq_true rfl))
      have HB8 := Lib.hid (bthen HB6.out (bthen HBb.out hb))
      clear hb x0 x1 x2 x3 y0 y1 y2 y3
      go_wp2_with fail
      go_roundw
      case rel =>
        refine ⟨k + 1, by omega, by go_num, ?_, HB8⟩
        rw [textS_take HX.out, ← text_cat]
      case measure => simp [intOf]; omega
    · have e1 := hki false (decide_eq_false hlt)
      obtain rfl : k = n1 := by omega
      clear hki
      have htk : M.take k = M := List.take_of_length_le (by omega)
      rw [htk]
      have HSk := Lib.hid (HS1.out.below HB.out)
      go_wp2_with fail
      refine (writeC A1 k c1 M wr HSk HVr (textS M) (-1) 0 (Lib.hid HOK.out.write)).mono ?_
      rintro e w3 ⟨rfl, hb⟩
      have HB3 := Lib.hid (bthen (bthen HB1.out HB.out) hb)
      have HV3 := Lib.hid (HVr.out.below hb)
      clear hb
      have hq : ((str (textS M)).toList == (str (textS M)).toList) = true := by simp
      dsimp only
      by_cases hs : s.size ≤ 300
      · have e3 : decide ((s.size : Int) ≤ 300) = true := by simp; omega
        go_upto_if 79 with fail
        go_cut [] (fun wx => Hid (Below w3.heap.size w3 wx))
        case first =>
          clear hq
          cases hps : parseS s.data.toList with
          | none =>
            have HPS := Lib.hid hps
            clear hps
            go_wp2_with fail
            refine (parseC s w3 HV3 (by omega)).mono ?_
            rintro e w4 ⟨hb, h2⟩
            rw [HPS.out] at h2
            obtain rfl := h2
            have HB4 := Lib.hid hb
            clear hb
            go_wp2_with fail
            go_meet
            exact balloc HB4.out _
          | some st =>
            have HPS := Lib.hid hps
            have hlin := ((parseS_iff _ _).1 hps)
            have hse : str (lineS st) = s := by rw [hlin.2, str_of]
            have HR := Lib.hid hlin.1
            have HSE := Lib.hid hse
            have hq : (s.toList == s.toList) = true := by simp
            obtain ⟨del, id, lits, hints⟩ := st
            clear hps hlin hse
            go_wp2_with fail
            refine (parseC s w3 HV3 (by omega)).mono ?_
            rintro e w4 ⟨hb, h2⟩
            rw [HPS.out] at h2
            obtain ⟨LA, Ln, Lc, HA, Hn, Hc, rfl, hst, _⟩ := h2
            dsimp only at hst ⊢
            have HB4 := Lib.hid hb
            have HV4 := Lib.hid (HV3.out.below hb)
            have HT4 := Lib.hid hst
            clear hb hst
            have HBa : Hid (Below w4.heap.size w4 (w4.alloc (.cells #[.bool del, .int .i64 id, .slice LA Ln Lc, .slice HA Hn Hc] 31))) := balloc (Below.refl _ _) _
            go_wp2_with fail
            refine (lineT del id lits hints LA HA Ln Lc Hn Hc _ (Lib.hid (HT4.out.below HBa.out)) (Lib.hid (HV4.out.below HBa.out)) HR).mono ?_
            rintro e w5 ⟨rfl, hb⟩
            rw [HSE.out]
            have HB5 := Lib.hid (bthen HB4.out (bthen HBa.out hb))
            clear hb
            dsimp only
            go_wp2_with fail
            go_meet
            exact HB5.out
        case rest =>
          have HBx := hcut
          go_wp2_with fail
          refine (awakeC _ (Lib.hid (HV3.out.below HBx.out))).mono ?_
          rintro e w6 ⟨rfl, hb⟩
          have HB6 := Lib.hid (bthen (bthen HB3.out HBx.out) hb)
          clear hb
          go_wp2
          go_ret
          exact ⟨rfl, HB6.out⟩
      · have e3 : decide ((s.size : Int) ≤ 300) = false := by simp; omega
        go_wp2_with fail
        refine (awakeC w3 HV3).mono ?_
        rintro e w6 ⟨rfl, hb⟩
        have HB6 := Lib.hid (bthen HB3.out hb)
        clear hb
        go_wp2
        go_ret
        exact ⟨rfl, HB6.out⟩
end Go.Proofs.YteglgcfbmjlnkaaDoor
