/-
  LratextOrder.
-/
import Derived.Test.YteglgcfbmjlnkaaDoorMadeL
import Derived.Test.YteglgcfbmjlnkaaDoorOrderP
import Derived.Test.YteglgcfbmjlnkaaDoorAwake7
set_option linter.unusedVariables false
set_option linter.unusedSimpArgs false
namespace Go.Proofs.YteglgcfbmjlnkaaDoor
open Go.RowKit

theorem own_setAt {W : World} {base n c g size j : Nat} {e : TypeId} {xs : List Value} (h : W.ownsRow base e size (.slice (some ⟨g, 0, none⟩) n c) n xs) (hj : j < n * size) (u : Value) : (W.setCell ⟨g, j, none⟩ u).ownsRow base e size (.slice (some ⟨g, 0, none⟩) n c) n (xs.set j u) := by
  refine ⟨by rw [List.length_set]; exact h.1, ?_⟩
  rcases h.2 with ⟨h0, _⟩ | ⟨g', cap, cur, h0, hb, hh, h3, h4, h5, h6⟩
  · cases h0
  · injection h0 with h0 _ h1
    injection h0 with h0
    injection h0 with h0
    subst h0
    refine .inr ⟨g, cap, cur.setIfInBounds j u, by rw [h1], hb, ?_, h3, h4, by simp [h5], ?_⟩
    · simp [World.setCell, Array.getElem?_modify, hh]
    · rw [← h6, Array.toList_setIfInBounds, List.take_set]
theorem scells_set : ∀ (L : List (StV × Stp)) (i : Nat) (y : StV × Stp), i < L.length → (((((scells L).set (i * 4) (.bool y.2.del)).set (i * 4 + 1) (.int .i64 y.2.id)).set (i * 4 + 2) (.slice y.1.L.A y.1.L.n y.1.L.c)).set (i * 4 + 3) (.slice y.1.H.A y.1.H.n y.1.H.c)) = scells (L.set i y)
  | [], i, y, h => by simp at h
  | p :: L, 0, y, _ => rfl
  | p :: L, i + 1, y, h => by
    have ih := scells_set L i y (by simpa using h)
    have e : scells (p :: L) = scell p ++ scells L := rfl
    have e2 : scells ((p :: L).set (i + 1) y) = scell p ++ scells (L.set i y) := rfl
    have hs : ∀ (l : List Value) (j : Nat) (u : Value), (scell p ++ l).set ((i + 1) * 4 + j) u = scell p ++ l.set (i * 4 + j) u := fun l j u => by
      rw [List.set_append_right _ _ (by show 4 ≤ _; omega)]
      congr 2
      show (i + 1) * 4 + j - 4 = _
      omega
    rw [e, e2, ← ih]
    have h0 := hs (scells L) 0 (.bool y.2.del)
    rw [Nat.add_zero, Nat.add_zero] at h0
    rw [h0, hs, hs, hs]
    rfl
theorem own_put4 {W : World} {base n c g i : Nat} {L : List (StV × Stp)} {y : StV × Stp} (h : W.ownsRow base 31 4 (.slice (some ⟨g, 0, none⟩) n c) n (scells L)) (hl : L.length = n) (hi : i < n) :
    ((((W.setCell ⟨g, i * 4, none⟩ (.bool y.2.del)).setCell ⟨g, i * 4 + 1, none⟩ (.int .i64 y.2.id)).setCell ⟨g, i * 4 + 2, none⟩ (.slice y.1.L.A y.1.L.n y.1.L.c)).setCell ⟨g, i * 4 + 3, none⟩ (.slice y.1.H.A y.1.H.n y.1.H.c)).ownsRow base 31 4 (.slice (some ⟨g, 0, none⟩) n c) n (scells (L.set i y)) := by
  rw [← scells_set L i y (by omega)]
  exact own_setAt (own_setAt (own_setAt (own_setAt h (by omega) _) (by omega) _) (by omega) _) (by omega) _
theorem own_drewS {W : World} {base n size : Nat} {v : Value} {e : TypeId} {xs : List Value} (h : W.ownsRow base e size v n xs) : Hid (W.drew.ownsRow base e size v n xs) := h
theorem own_put8 {W : World} {base n c g i k : Nat} {L : List (StV × Stp)} {LA HA LA' HA' : Option Addr} {Ln Lc Hn Hc Ln' Lc' Hn' Hc' : Nat} {d d' : Bool} {z z' : Int} {l l' hh hh' : List Int} (h : W.ownsRow base 31 4 (.slice (some ⟨g, 0, none⟩) n c) n (scells L)) (hl : L.length = n) (hi : i < n) (hk : k < n) :
    Hid (((((((((W.setCell ⟨g, i * 4, none⟩ (.bool d)).setCell ⟨g, i * 4 + 1, none⟩ (.int .i64 z)).setCell ⟨g, i * 4 + 2, none⟩ (.slice LA Ln Lc)).setCell ⟨g, i * 4 + 3, none⟩ (.slice HA Hn Hc)).setCell ⟨g, k * 4, none⟩ (.bool d')).setCell ⟨g, k * 4 + 1, none⟩ (.int .i64 z')).setCell ⟨g, k * 4 + 2, none⟩ (.slice LA' Ln' Lc')).setCell ⟨g, k * 4 + 3, none⟩ (.slice HA' Hn' Hc')).drew.ownsRow base 31 4 (.slice (some ⟨g, 0, none⟩) n c) n (scells ((L.set i (⟨⟨LA, Ln, Lc⟩, ⟨HA, Hn, Hc⟩⟩, ⟨d, z, l, hh⟩)).set k (⟨⟨LA', Ln', Lc'⟩, ⟨HA', Hn', Hc'⟩⟩, ⟨d', z', l', hh'⟩)))) := by
  have a := own_put4 (y := (⟨⟨LA, Ln, Lc⟩, ⟨HA, Hn, Hc⟩⟩, ⟨d, z, l, hh⟩)) h hl hi
  have b := own_put4 (y := (⟨⟨LA', Ln', Lc'⟩, ⟨HA', Hn', Hc'⟩⟩, ⟨d', z', l', hh'⟩)) a (by rw [List.length_set]; exact hl) hk
  exact own_drewS b
theorem fr_put8 {W : World} {g o1 o2 o3 o4 o5 o6 o7 o8 : Nat} {v1 v2 v3 v4 v5 v6 v7 v8 : Value} :
    Hid (Fr (fun q => q = g) W ((((((((W.setCell ⟨g, o1, none⟩ v1).setCell ⟨g, o2, none⟩ v2).setCell ⟨g, o3, none⟩ v3).setCell ⟨g, o4, none⟩ v4).setCell ⟨g, o5, none⟩ v5).setCell ⟨g, o6, none⟩ v6).setCell ⟨g, o7, none⟩ v7).setCell ⟨g, o8, none⟩ v8).drew) :=
  ((((((((((Fr.refl (fun q => q = g) W).setCell (p := ⟨g, o1, none⟩) (.inl rfl) v1).setCell (p := ⟨g, o2, none⟩) (.inl rfl) v2).setCell (p := ⟨g, o3, none⟩) (.inl rfl) v3).setCell (p := ⟨g, o4, none⟩) (.inl rfl) v4).setCell (p := ⟨g, o5, none⟩) (.inl rfl) v5).setCell (p := ⟨g, o6, none⟩) (.inl rfl) v6).setCell (p := ⟨g, o7, none⟩) (.inl rfl) v7).setCell (p := ⟨g, o8, none⟩) (.inl rfl) v8).drew)
set_option maxRecDepth 100000 in
set_option maxHeartbeats 1500000 in
theorem mainOrder (A : Option Addr) (n c : Nat) (L : List (StV × Sml)) (m1 m2 : Nat) (w : World) (hv : Hid (Vars w)) (h : Hid (SmlsAt w A n L)) (hn : n ≤ 9223372036854775807) (hc : n ≤ c) (hm1 : m1 ≤ 255) (hm2 : m2 ≤ 255) :
    Calls Tryd.prog 4 #[.slice A n c, .int .u8 (m1 : Int), .int .u8 (m2 : Int)] w fun e w' => e = .returned (.bool true) ∧ Below w.heap.size w w' := by
  go_enter Tryd.func4, Tryd.ntmps4
  go_wp2_with fail
  refine (made7C A n c L w h hn hc).mono ?_
  rintro e w1 ⟨A1, n1, c1, M, rfl, ho, ht, hm, hl, hb⟩
  have HOK := Lib.hid (made_ok h.out.b hm)
  have hn40 : n1 ≤ 40 := by have := HOK.out.n40; omega
  have HO1 := Lib.hid ho
  have HT1 := Lib.hid ht
  have HL1 := Lib.hid hl
  have HB1 := Lib.hid hb
  have HV1 := Lib.hid (hv.out.below hb)
  clear ho ht hb hm hl h
  by_cases h0 : n1 = 0
  · have e1 : ((n1 : Int) == 0) = true := by simp; omega
    go_wp2_with fail
    refine (awakeC w1 HV1).mono ?_
    rintro e w2 ⟨rfl, hb⟩
    have HB2 := Lib.hid (bthen HB1.out hb)
    clear hb
    go_wp2
    go_ret
    exact ⟨rfl, HB2.out⟩
  · have e1 : ((n1 : Int) == 0) = false := by simp; omega
    obtain ⟨g, rfl⟩ : ∃ g, A1 = some ⟨g, 0, none⟩ := by
      rcases HO1.out.2 with ⟨h1, h2⟩ | ⟨g', cap, cur, h1, _⟩
      · exact absurd h2 h0
      · injection h1 with h1
        exact ⟨g', h1⟩
    obtain ⟨i, hi⟩ : ∃ i, m1 % n1 = i := ⟨_, rfl⟩
    obtain ⟨k, hk⟩ : ∃ k, m2 % n1 = k := ⟨_, rfl⟩
    have hin : i < n1 := by have := Nat.mod_lt m1 (show 0 < n1 by omega); omega
    have hkn : k < n1 := by have := Nat.mod_lt m2 (show 0 < n1 by omega); omega
    have hw1 : IntKind.i64.wrap (m1 : Int) = (m1 : Int) := by rw [IntKind.wrap_i64]; omega
    have hw2 : IntKind.i64.wrap (m2 : Int) = (m2 : Int) := by rw [IntKind.wrap_i64]; omega
    have ht1 : (m1 : Int).tmod (n1 : Int) = (i : Int) := by rw [Int.tmod_eq_emod_of_nonneg (by omega), ← hi, ← Int.natCast_emod]
    have hd1 : (m1 : Int) % (n1 : Int) = (i : Int) := by rw [← hi, ← Int.natCast_emod]
    have ht2 : (m2 : Int).tmod (n1 : Int) = (k : Int) := by rw [Int.tmod_eq_emod_of_nonneg (by omega), ← hk, ← Int.natCast_emod]
    have hd2 : (m2 : Int) % (n1 : Int) = (k : Int) := by rw [← hk, ← Int.natCast_emod]
    have hne : ¬ ((n1 : Int) = 0) := by omega
    clear hi hk
    go_upto_region 4 with fail
    go_cut [8, 9] (fun v8 v9 wx => v8 = .int .i64 i ∧ v9 = .int .i64 k ∧ Below w1.heap.size w1 wx)
    case first =>
      go_quiet (fail)
      all_goals
        go_wp2_with fail
        go_meet
        exact ⟨rfl, rfl, by first | exact Below.refl _ _ | exact (Below.refl _ _).drew | exact below_drewN _ _⟩
    case rest =>
    obtain ⟨rfl, rfl, hbc⟩ := hcut
    have HB2 := Lib.hid (bthen HB1.out hbc)
    have HV2 := Lib.hid (HV1.out.below hbc)
    have HO2 := Lib.hid (own_fr (F := fun _ => False) HO1.out (Fr.of_below hbc) (fun _ _ h => h))
    have HT2 : Hid (∀ (i : Nat) (v : StV) (x : Stp), M[i]? = some (v, x) → StpT wc v x) := fun i v x hi => (HT1.out i v x hi).below hbc
    clear hbc HB1 HV1 HO1 HT1 hw1 hw2 ht1 hd1 ht2 hd2 hne e1
    generalize wc = w2 at *
    obtain ⟨b1, o1, LA1, HA1, Ln1, Lc1, Hn1, Hc1, d1, i1, l1, h1, hA1, hx1, hbl1, p0, p1, p2, p3⟩ := (Rd.of_own HO2.out).stp HL1.out hin
    injection hA1 with hA1
    injection hA1 with hA1 hA2
    subst hA1; subst hA2
    obtain ⟨b2, o2, LA2, HA2, Ln2, Lc2, Hn2, Hc2, d2, i2, l2, h2, hA1, hx2, hbl2, q0, q1, q2, q3⟩ := (Rd.of_own HO2.out).stp HL1.out hkn
    injection hA1 with hA1
    injection hA1 with hA1 hA2
    subst hA1; subst hA2
    simp only [Nat.zero_add] at p0 p1 p2 p3 q0 q1 q2 q3
    have HX1 := Lib.hid hx1
    have HX2 := Lib.hid hx2
    obtain ⟨cur, hcur⟩ := own_bk HO2.out
    have HCUR := Lib.hid hcur
    have z0 := hcur.frozen (i * 4); have z1 := hcur.frozen (i * 4 + 1); have z2 := hcur.frozen (i * 4 + 2); have z3 := hcur.frozen (i * 4 + 3)
    have y0 := hcur.frozen (k * 4); have y1 := hcur.frozen (k * 4 + 1); have y2 := hcur.frozen (k * 4 + 2); have y3 := hcur.frozen (k * 4 + 3)
    clear hx1 hx2 hcur
    have hii : (i : Int) < (n1 : Int) := by omega
    have hki : (k : Int) < (n1 : Int) := by omega
    go_upto_region 5 with fail
    go_cut [] (fun wx => Hid (wx.ownsRow w.heap.size 31 4 (.slice (some ⟨g, 0, none⟩) n1 c1) n1 (scells (swapL M i k (⟨⟨LA1, Ln1, Lc1⟩, ⟨HA1, Hn1, Hc1⟩⟩, ⟨d1, i1, l1, h1⟩) (⟨⟨LA2, Ln2, Lc2⟩, ⟨HA2, Hn2, Hc2⟩⟩, ⟨d2, i2, l2, h2⟩)))) ∧ Hid (Fr (fun q => q = g) w2 wx))
    case first =>
      rename_i J1 K1 hR1 hM1
      by_cases hik : i = k
      · subst hik
        have he : (M.set i (⟨⟨LA1, Ln1, Lc1⟩, ⟨HA1, Hn1, Hc1⟩⟩, ⟨d1, i1, l1, h1⟩)).set i (⟨⟨LA1, Ln1, Lc1⟩, ⟨HA1, Hn1, Hc1⟩⟩, ⟨d1, i1, l1, h1⟩) = swapL M i i (⟨⟨LA1, Ln1, Lc1⟩, ⟨HA1, Hn1, Hc1⟩⟩, ⟨d1, i1, l1, h1⟩) (⟨⟨LA2, Ln2, Lc2⟩, ⟨HA2, Hn2, Hc2⟩⟩, ⟨d2, i2, l2, h2⟩) := by unfold swapL; rw [List.set_set, List.set_set]
        have HHE := Lib.hid he
        clear he
        go_region
        all_goals
          go_wp2_with fail
          go_meet
          refine ⟨?_, by with_reducible exact fr_put8⟩
          rw [← HHE.out]
          with_reducible exact own_put8 HO2.out HL1.out hin hin
      · go_region
        all_goals
          go_wp2_with fail
          go_meet
          refine ⟨?_, by with_reducible exact fr_put8⟩
          unfold swapL
          with_reducible exact own_put8 HO2.out HL1.out hin hkn
    case rest =>
    obtain ⟨HO3, HF3⟩ := hcut
    generalize wc = w3 at *
    obtain ⟨M2, hM2⟩ : ∃ M2, swapL M i k (⟨⟨LA1, Ln1, Lc1⟩, ⟨HA1, Hn1, Hc1⟩⟩, ⟨d1, i1, l1, h1⟩) (⟨⟨LA2, Ln2, Lc2⟩, ⟨HA2, Hn2, Hc2⟩⟩, ⟨d2, i2, l2, h2⟩) = M2 := ⟨_, rfl⟩
    rw [hM2] at HO3
    have hmem : ∀ p ∈ M2, p ∈ M := by rw [← hM2]; exact swapL_mem HX1.out HX2.out
    have hl2 : M2.length = n1 := by rw [← hM2, swapL_len]; exact HL1.out
    have hgw : w.heap.size ≤ g := (HO2.out.lt g rfl).1
    have HB3 : Hid (Below w.heap.size w w3) := HB2.out.trans (HF3.out.below w.heap.size HB2.out.size (fun q hq e => by omega))
    have HS3 : Hid (StepsAt w3 (some ⟨g, 0, none⟩) n1 M2) := ⟨Rd.of_own HO3.out, hl2, fun j v x hj => by
      obtain ⟨j2, hj2⟩ := List.getElem?_of_mem (hmem _ (List.mem_of_getElem? hj))
      exact ((HT2.out j2 v x hj2).frM HCUR.out HF3.out).at', by omega⟩
    have HV3 := Lib.hid (hv.out.below HB3.out)
    have hrt : ∀ p ∈ M2, rightS p.2 = true ∧ p.2.lits.length ≤ 20 ∧ p.2.hints.length ≤ 10 := fun p hp => HOK.out.right p (hmem p hp)
    have HRT := Lib.hid hrt
    have HR := Lib.hid (fun p hp => (hrt p hp).1)
    obtain ⟨bad, hbad⟩ : ∃ bad, badF 0 0 M2 = bad := ⟨_, rfl⟩
    have HBAD := Lib.hid hbad
    have hck : checkS M2 = (bad, if bad < 0 then 0 else 70) := by
      unfold checkS
      rw [if_neg (by omega), checkF_bad M2 0 0 (fun p hp => (hrt p hp).1), hbad]
    have HCK := Lib.hid hck
    have HL2 := Lib.hid hl2
    clear HO2 HT2 HB2 HV2 HO3 HF3 HCUR p0 p1 p2 p3 q0 q1 q2 q3 z0 z1 z2 z3 y0 y1 y2 y3 HX1 HX2 hmem hl2 hrt hbad hck hM2
    go_wp2_with fail
    go_loopw [10, 11, 59] (fun v10 v11 v59 wr => ∃ (j : Nat) (last : Int), j ≤ n1 ∧ v10 = .int .i64 (-1) ∧ v59 = .int .i64 j ∧ v11 = .int .i64 last ∧ Hid (badF last j (M2.drop j) = bad) ∧ Hid (Below w3.heap.size w3 wr)) (fun _ _ v59 _ => n1 - (intOf v59).toNat)
    case atStart => exact ⟨0, 0, Nat.zero_le _, rfl, rfl, rfl, HBAD, Below.refl _ _⟩
    case round =>
      obtain ⟨j, last, hj, rfl, rfl, rfl, HE, HB⟩ := hrel
      have hki : ∀ b : Bool, decide (j < n1) = b → decide ((j : Int) < (n1 : Int)) = b := fun b hb => by rw [← hb]; exact decide_eq_decide.2 (by omega)
      by_cases hlt : j < n1
      · have e1 := hki true (decide_eq_true hlt)
        clear hki
        obtain ⟨b, off, LA, HA, Ln, Lc, Hn, Hc, del, id, lits, hints, hAA, hx, hbl, p0, p1, p2, p3⟩ := (HS3.out.rd.below HB.out).stp HL2.out hlt
        injection hAA with hAA
        injection hAA with hAA hAB
        subst hAA; subst hAB
        simp only [Nat.zero_add] at p0 p1 p2 p3
        have hdrop : M2.drop j = (⟨⟨LA, Ln, Lc⟩, ⟨HA, Hn, Hc⟩⟩, ⟨del, id, lits, hints⟩) :: M2.drop (j + 1) := by
          obtain ⟨hk', he⟩ := List.getElem?_eq_some_iff.1 hx
          rw [← he, List.drop_eq_getElem_cons hk']
        have hE := HE.out
        rw [hdrop] at hE
        unfold badF at hE
        dsimp only at hE
        have HX0 := Lib.hid (Bk.new wr 31 #[.bool del, .int .i64 id, .slice LA Ln Lc, .slice HA Hn Hc])
        have HB0 : Hid (Below wr.heap.size wr (wr.alloc (.cells #[.bool del, .int .i64 id, .slice LA Ln Lc, .slice HA Hn Hc] 31))) := balloc (Below.refl _ _) _
        clear hdrop hx HE
        cases hf : fitsB ⟨del, id, lits, hints⟩ last with
        | true =>
          rw [hf, if_pos rfl] at hE
          have HE2 := Lib.hid hE
          unfold fitsB at hf
          dsimp only at hf
          have g1 : decide (id < last) = false := by
            cases h1 : decide (last < id) with
            | true => simp at h1 ⊢; omega
            | false => rw [h1] at hf; simp at hf ⊢; omega
          clear hE
          cases h2 : (id == last) with
          | true =>
            have hid : id = last := by simpa using h2
            have hd : del = true := by
              cases del
              · rw [hid] at hf; simp at hf
              · rfl
            subst hd
            clear hf hid
            go_wp2_with fail
            go_roundw
            case rel => exact ⟨j + 1, id, by omega, rfl, by go_num, rfl, HE2, bthen HB.out HB0.out⟩
            case measure => simp [intOf]; omega
          | false =>
            clear hf
            go_wp2_with fail
            go_roundw
            case rel => exact ⟨j + 1, id, by omega, rfl, by go_num, rfl, HE2, bthen HB.out HB0.out⟩
            case measure => simp [intOf]; omega
        | false =>
          rw [hf] at hE
          simp only [Bool.false_eq_true, if_false] at hE
          subst hE
          rw [if_neg (by omega)] at HCK
          unfold fitsB at hf
          dsimp only at hf
          have HBw := Lib.hid (bthen HB3.out HB.out)
          have HWR : Hid (writeS M2 = ([], (j : Int), 70)) := by
            show _ = _
            unfold writeS
            rw [HCK.out]
            rfl
          go_upto_region 10 with fail
          have HB2 := Lib.hid (bthen HB.out HB0.out)
          generalize (wr.alloc (.cells #[.bool del, .int .i64 id, .slice LA Ln Lc, .slice HA Hn Hc] 31)) = w4 at *
          obtain ⟨q, hq⟩ : ∃ q, q = wr.heap.size := ⟨_, rfl⟩
          rw [← hq] at HX0
          rw [← hq]
          clear hq HB0 HB p0 p1 p2 p3
          obtain ⟨x0, x1, x2, x3⟩ := cells4 HX0.out
          go_cut [78] (fun v78 wx => v78 = .bool true ∧ w4 = wx)
          case first =>
            by_cases h1 : id < last
            · have g1 : decide (id < last) = true := by simpa using h1
              clear hf h1
              go_wp2_with fail
              go_meet
              exact ⟨rfl, rfl⟩
            · have g1 : decide (id < last) = false := by simp; omega
              have h2 : id = last := by
                cases h3 : decide (last < id) with
                | true => rw [h3] at hf; simp at hf
                | false => simp at h3; omega
              have hd : del = false := by
                cases del
                · rfl
                · rw [h2] at hf; simp at hf
              have g2 : (id == last) = true := by simpa using h2
              subst hd
              clear hf h1 h2
              go_wp2_with fail
              go_meet
              exact ⟨rfl, rfl⟩
          case rest =>
          obtain ⟨rfl, rfl⟩ := hcut
          clear hf x0 x1 x2 x3
          have hjn : decide ((j : Int) < 0) = false := by simp
          have hjj : ((j : Int) == (j : Int)) = true := by simp
          have hw1 : IntKind.i64.wrap ((j : Int) + 1) = (j : Int) + 1 := by rw [IntKind.wrap_i64]; omega
          have hjj1 : (((j : Int) + 1) == ((j : Int) + 1)) = true := by simp
          go_wp2_with fail
          refine (checkC (some ⟨g, 0, none⟩) n1 c1 M2 w4 (Lib.hid (HS3.out.below HB2.out)) (j : Int) 70 HCK).mono ?_
          rintro e w5 ⟨rfl, hb⟩
          have HB5 := Lib.hid (bthen HB2.out hb)
          clear hb HB2
          dsimp only
          go_wp2_with fail
          refine (writeC (some ⟨g, 0, none⟩) n1 c1 M2 w5 (Lib.hid (HS3.out.below HB5.out)) (Lib.hid (HV3.out.below HB5.out)) [] (j : Int) 70 HWR).mono ?_
          rintro e w6 ⟨rfl, hb⟩
          have HB6 := Lib.hid (bthen HB5.out hb)
          clear hb HB5
          dsimp only
          go_wp2_with fail
          go_loopw [19, 107] (fun v19 v107 wr => ∃ (k2 : Nat), k2 ≤ n1 ∧ v107 = .int .i64 k2 ∧ v19 = .string (str (textS (M2.take k2))) ∧ Hid (Below w3.heap.size w3 wr)) (fun _ v107 _ => n1 - (intOf v107).toNat)
          case atStart => exact ⟨0, Nat.zero_le _, rfl, rfl, HB6⟩
          case round =>
            obtain ⟨k2, hk2, rfl, rfl, HB⟩ := hrel
            have hki2 : ∀ b : Bool, decide (k2 < n1) = b → decide ((k2 : Int) < (n1 : Int)) = b := fun b hb => by rw [← hb]; exact decide_eq_decide.2 (by omega)
            have HVr := Lib.hid (HV3.out.below HB.out)
            have hts : (str (textS (M2.take k2))).size ≤ 100000 := by
              rw [str_size]
              have h1 := text_small M2 HRT.out
              have h2 := textS_le M2 k2
              have h3 := HL2.out
              omega
            by_cases hlt2 : k2 < n1
            · have e2 := hki2 true (decide_eq_true hlt2)
              clear hki2
              obtain ⟨b2, o2, LA3, HA3, Ln3, Lc3, Hn3, Hc3, d3, i3, l3, h3, hAA, hx, hbl3, p0, p1, p2, p3⟩ := (HS3.out.rd.below HB.out).stp HL2.out hlt2
              injection hAA with hAA
              injection hAA with hAA hAB
              subst hAA; subst hAB
              simp only [Nat.zero_add] at p0 p1 p2 p3
              have HT := Lib.hid ((HS3.out.all k2 _ _ hx).below HB.out)
              obtain ⟨hr, hll, hhl⟩ := HRT.out _ (List.mem_of_getElem? hx)
              dsimp only at hr hll hhl
              have HR3 := Lib.hid hr
              have HX := Lib.hid hx
              have hls : (str (lineS ⟨d3, i3, l3, h3⟩)).size ≤ 2000 := by rw [str_size]; exact line_small hr hll hhl
              have HB0 : Hid (Below wr.heap.size wr (wr.alloc (.cells #[.bool d3, .int .i64 i3, .slice LA3 Ln3 Lc3, .slice HA3 Hn3 Hc3] 31))) := balloc (Below.refl _ _) _
              clear hx hr hll hhl
              go_wp2_with fail
              refine (lineT d3 i3 l3 h3 LA3 HA3 Ln3 Lc3 Hn3 Hc3 _ (Lib.hid (HT.out.below HB0.out)) (Lib.hid (HVr.out.below HB0.out)) HR3).mono ?_
              rintro e w7 ⟨rfl, hb⟩
              have HB7 := Lib.hid (bthen HB.out (bthen HB0.out hb))
              clear hb
              dsimp only
              go_wp2_with fail
              go_roundw
              case rel =>
                refine ⟨k2 + 1, by omega, by go_num, ?_, HB7⟩
                rw [textS_take HX.out]
                congr 1
                first | done | (apply data_inj; rw [cat_data, cat_data]; first | done | rfl)
              case measure => simp [intOf]; omega
            · have e2 := hki2 false (decide_eq_false hlt2)
              obtain rfl : k2 = n1 := by omega
              clear hki2
              have htk : M2.take k2 = M2 := List.take_of_length_le (by have := HL2.out; omega)
              rw [htk] at hts ⊢
              have hrd : readS (textS M2) = ([], (j : Int) + 1, 70) := by
                have h1 := text_small M2 HRT.out
                have h2 := HL2.out
                have h3 := readS_bad HR.out (by omega) (by omega) (by rw [HBAD.out]; omega)
                rw [HBAD.out] at h3
                exact h3
              have HRD := Lib.hid hrd
              clear hrd htk
              go_wp2_with fail
              refine (readC (str (textS M2)) wr HVr (by omega) _ HRD).mono ?_
              rintro e w7 ⟨A7, n7, c7, L7, rfl, hs7, hm7, hb⟩
              have HB7 := Lib.hid (bthen HB.out hb)
              clear hb hs7 hm7
              dsimp only
              go_wp2_with fail
              refine (awakeC w7 (Lib.hid (HV3.out.below HB7.out))).mono ?_
              rintro e w8 ⟨rfl, hb⟩
              have HB8 := Lib.hid (bthen (bthen HB3.out HB7.out) hb)
              clear hb
              go_wp2
              go_ret
              exact ⟨rfl, HB8.out⟩
      · have e1 := hki false (decide_eq_false hlt)
        clear hki
        have hE := HE.out
        rw [List.drop_eq_nil_of_le (by rw [HL2.out]; omega)] at hE
        have hbm : bad = -1 := hE.symm
        subst hbm
        rw [if_pos (by omega)] at HCK
        clear hE
        have HBw := Lib.hid (bthen HB3.out HB.out)
        go_wp2_with fail
        refine (checkC (some ⟨g, 0, none⟩) n1 c1 M2 wr (Lib.hid (HS3.out.below HB.out)) (-1) 0 HCK).mono ?_
        rintro e w4 ⟨rfl, hb⟩
        have HB4 := Lib.hid (bthen HBw.out hb)
        clear hb
        dsimp only
        go_wp2_with fail
        refine (awakeC w4 (Lib.hid (hv.out.below HB4.out))).mono ?_
        rintro e w5 ⟨rfl, hb⟩
        have HB5 := Lib.hid (bthen HB4.out hb)
        clear hb
        go_wp2
        go_ret
        exact ⟨rfl, HB5.out⟩
end Go.Proofs.YteglgcfbmjlnkaaDoor
