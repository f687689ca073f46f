/-
  LratextCuts.
-/
import Derived.Test.YteglgcfbmjlnkaaDoorMadeL
import Derived.Test.YteglgcfbmjlnkaaDoorTextL
import Derived.Test.YteglgcfbmjlnkaaDoorConcat7
import Derived.Test.YteglgcfbmjlnkaaDoorAwake7
set_option linter.unusedVariables false
set_option linter.unusedSimpArgs false
namespace Go.Proofs.YteglgcfbmjlnkaaDoor
open Go.RowKit

theorem slLow (g n c k : Nat) (hn : k ≤ n) (hc : n ≤ c) : ∃ off, (∀ w, (Instr.sliceAt 25 (.slice (some ⟨g, 0, none⟩) n c) (some (.int .i64 (k : Int))) none none).run Tryd.prog w = .ok (.slice (some ⟨g, off, none⟩) (n - k) (c - k)) w) ∧ (k < n → off = k * 4) := by
  have h1 : (0 : Int) ≤ (k : Int) := by omega
  have h2 : (k : Int) ≤ (n : Int) := by omega
  by_cases h3 : c = k
  · refine ⟨0, fun w => ?_, fun h => by omega⟩
    subst h3
    go_simp
  · refine ⟨k * 4, fun w => ?_, fun _ => rfl⟩
    go_simp
theorem slNone (w : World) : (Instr.sliceAt 25 (.slice none 0 0) (some (.int .i64 0)) none none).run Tryd.prog w = .ok (.slice none 0 0) w := by
  go_simp
theorem Rd.dropS {w : World} {g k : Nat} {L : List (StV × Stp)} (h : Rd w (some ⟨g, 0, none⟩) (scells L)) : Rd w (some ⟨g, k * 4, none⟩) (scells (L.drop k)) := by
  intro hne
  have hk : k < L.length := by
    rcases Nat.lt_or_ge k L.length with h0 | h0
    · exact h0
    · rw [List.drop_eq_nil_of_le h0] at hne
      exact absurd rfl hne
  have hsp : scells L = scells (L.take k) ++ scells (L.drop k) := by rw [← scells_append, List.take_append_drop]
  have hl : (scells (L.take k)).length = k * 4 := by rw [scells_length, List.length_take]; congr 1; omega
  obtain ⟨b, off, cs, t, fr, e, hb, hc⟩ := h (by rw [hsp]; simp [hne])
  injection e with e
  injection e with e1 e2
  subst e1; subst e2
  refine ⟨g, k * 4, cs, t, fr, rfl, hb, fun j u hu => ?_⟩
  have := hc (k * 4 + j) u (by rw [hsp, List.getElem?_append_right (by omega), hl]; rw [← hu]; congr 1; omega)
  rw [← this]
  congr 1
  omega
theorem StepsAt.take {w : World} {A : Option Addr} {n k : Nat} {L : List (StV × Stp)} (h : StepsAt w A n L) (hk : k ≤ n) : StepsAt w A k (L.take k) := by
  refine ⟨?_, by rw [List.length_take, h.len]; omega, fun i v s hi => h.all i v s ?_, by have := h.small; omega⟩
  · have h1 := h.rd.take (k * 4)
    have h2 : (scells L).take (k * 4) = scells (L.take k) := by
      have hsp : scells L = scells (L.take k) ++ scells (L.drop k) := by rw [← scells_append, List.take_append_drop]
      have hl : (scells (L.take k)).length = k * 4 := by rw [scells_length, List.length_take, h.len]; congr 1; omega
      rw [hsp, ← hl, List.take_left']
      rfl
    rw [← h2]
    exact h1
  · rw [List.getElem?_take] at hi
    split at hi
    · exact hi
    · cases hi
theorem StepsAt.drop {w : World} {g off n k : Nat} {L : List (StV × Stp)} (h : StepsAt w (some ⟨g, 0, none⟩) n L) (hk : k ≤ n) (ho : k < n → off = k * 4) : StepsAt w (some ⟨g, off, none⟩) (n - k) (L.drop k) := by
  refine ⟨?_, by rw [List.length_drop, h.len], fun i v s hi => h.all (k + i) v s (by rw [List.getElem?_drop] at hi; exact hi), by have := h.small; omega⟩
  rcases Nat.lt_or_ge k n with h0 | h0
  · rw [ho h0]
    exact h.rd.dropS
  · rw [List.drop_eq_nil_of_le (by rw [h.len]; omega)]
    exact Rd.nil
theorem StepsAt.drop_none {w : World} {n k : Nat} {L : List (StV × Stp)} (h : StepsAt w none n L) (hn : n = 0) : StepsAt w none 0 (L.drop k) := by
  have : L = [] := List.eq_nil_of_length_eq_zero (by rw [h.len, hn])
  subst this
  rw [List.drop_nil]
  exact ⟨Rd.nil, rfl, fun i v s hi => by simp at hi, by omega⟩
/-- What is known of a part of made steps. -/
structure PartOk (L : List (StV × Stp)) : Prop where
  wr : writeS L = (textS L, -1, 0)
  rdk : readS (textS L) = (L.map (·.2), 0, 0)
  sz : (textS L).length ≤ 100000
theorem part_ok {L : List (StV × Stp)} (hr : ∀ p ∈ L, rightS p.2 = true ∧ p.2.lits.length ≤ 20 ∧ p.2.hints.length ≤ 10) (hl : L.length ≤ 40) (hc : checkF 0 0 L = (-1, 0)) : PartOk L := by
  have h1 := text_small L hr
  have hcs : checkS L = (-1, 0) := by unfold checkS; rw [if_neg (by omega)]; exact hc
  exact ⟨(MadeOk.mk hl hr hcs).write, readS_text hc (by omega) (by omega), by omega⟩
theorem MadeOk.cf {L : List (StV × Stp)} (h : MadeOk L) : checkF 0 0 L = (-1, 0) := by
  have h1 := h.check
  unfold checkS at h1
  rw [if_neg (by have := h.n40; omega)] at h1
  exact h1
theorem MadeOk.all {L : List (StV × Stp)} (h : MadeOk L) : PartOk L := part_ok h.right h.n40 h.cf
theorem MadeOk.take {L : List (StV × Stp)} (h : MadeOk L) (k : Nat) : PartOk (L.take k) := part_ok (fun p hp => h.right p (List.mem_of_mem_take hp)) (by have := h.n40; rw [List.length_take]; omega) (checkF_take L 0 0 k h.cf)
theorem MadeOk.drop {L : List (StV × Stp)} (h : MadeOk L) (k : Nat) : PartOk (L.drop k) := part_ok (fun p hp => h.right p (List.mem_of_mem_drop hp)) (by have := h.n40; rw [List.length_drop]; omega) (checkF_drop L 0 0 k h.cf)
theorem rows_two {w : World} {g : Nat} {t : TypeId} {A1 A2 : Option Addr} {n1 n2 c1 c2 : Nat} {L1 L2 : List (StV × Stp)} (hk : Bk w g t #[.slice A1 n1 c1, .slice A2 n2 c2]) (h1 : StepsAt w A1 n1 L1) (h2 : StepsAt w A2 n2 L2) : RowsAt w (some ⟨g, 0, none⟩) 2 [(⟨A1, n1, c1⟩, L1), (⟨A2, n2, c2⟩, L2)] := by
  refine ⟨Rd.of_bk hk rfl, rfl, fun i p hi => ?_⟩
  match i, hi with
  | 0, hi => obtain rfl := (Option.some.inj hi).symm; exact h1
  | 1, hi => obtain rfl := (Option.some.inj hi).symm; exact h2
  | i + 2, hi => simp at hi
/-- A row cut off at its beginning. -/
theorem cut_low {w : World} {base n c k : Nat} {A : Option Addr} {L : List (StV × Stp)} (ho : w.ownsRow base 31 4 (.slice A n c) n (scells L)) (hs : StepsAt w A n L) (hk : k ≤ n) :
    n ≤ c ∧ ∃ B n2 c2, (∀ W, (Instr.sliceAt 25 (.slice A n c) (some (.int .i64 (k : Int))) none none).run Tryd.prog W = .ok (.slice B n2 c2) W) ∧ StepsAt w B n2 (L.drop k) := by
  rcases ho.2 with ⟨h0, h1⟩ | ⟨g, cap, cur, h0, _, _, hnc, _⟩
  · injection h0 with h0 h2 h3
    subst h0; subst h3
    obtain rfl : n = 0 := h1
    obtain rfl : k = 0 := by omega
    exact ⟨Nat.le_refl _, none, 0, 0, fun W => slNone W, hs.drop_none rfl⟩
  · injection h0 with h0 h2 h3
    subst h0; subst h3
    obtain ⟨off, hr, ho'⟩ := slLow g n c k hk hnc
    exact ⟨hnc, _, _, _, hr, hs.drop hk ho'⟩
set_option maxRecDepth 100000 in
set_option maxHeartbeats 4000000 in
theorem mainCuts (A : Option Addr) (n c : Nat) (L : List (StV × Sml)) (m : Nat) (w : World) (hv : Hid (Vars w)) (h : Hid (SmlsAt w A n L)) (hn : n ≤ 9223372036854775807) (hc : n ≤ c) (hm8 : m ≤ 255) :
    Calls Tryd.prog 7 #[.slice A n c, .int .u8 (m : Int)] w fun e w' => e = .returned (.bool true) ∧ Below w.heap.size w w' := by
  go_enter Tryd.func7, Tryd.ntmps7
  go_wp2_with fail
  refine (made7C A n c L w h hn hc).mono ?_
  rintro e w1 ⟨A1, n1, c1, M, rfl, ho, ht, hm, hl, hb⟩
  have HOK := Lib.hid (made_ok h.out.b hm)
  have hn40 : n1 ≤ 40 := by have := HOK.out.n40; omega
  have hs1 := made_steps ho ht hl hn40
  obtain ⟨k, hk⟩ : ∃ k, m % (n1 + 1) = k := ⟨_, rfl⟩
  have hkn : k ≤ n1 := by have := Nat.mod_lt m (show 0 < n1 + 1 by omega); omega
  obtain ⟨hnc, B2, n2, c2, hrun, hst2⟩ := cut_low ho hs1 hkn
  have HS1 := Lib.hid hs1
  have HS2 := Lib.hid hst2
  have HS0 := Lib.hid (hs1.take hkn)
  have HB1 := Lib.hid hb
  have HV1 := Lib.hid (hv.out.below hb)
  have HA := Lib.hid HOK.out.all
  have HT := Lib.hid (HOK.out.take k)
  have HD := Lib.hid (HOK.out.drop k)
  have hw1 : IntKind.i64.wrap (m : Int) = (m : Int) := by rw [IntKind.wrap_i64]; omega
  have hw2 : IntKind.i64.wrap ((n1 : Int) + 1) = (n1 : Int) + 1 := by rw [IntKind.wrap_i64]; omega
  have hmod : (m : Int).tmod ((n1 : Int) + 1) = (k : Int) := by
    rw [Int.tmod_eq_emod_of_nonneg (by omega), ← hk]
    rw [show ((n1 : Int) + 1) = ((n1 + 1 : Nat) : Int) by omega, ← Int.natCast_emod]
  have hmod2 : (m : Int) % ((n1 : Int) + 1) = (k : Int) := by
    rw [← hk, show ((n1 : Int) + 1) = ((n1 + 1 : Nat) : Int) by omega, ← Int.natCast_emod]
  have hne : ¬ ((n1 : Int) + 1 = 0) := by omega
  have hk0 : (0 : Int) ≤ (k : Int) := by omega
  have hkc : (k : Int) ≤ (c1 : Int) := by omega
  have hkn' : (k : Int) ≤ (n1 : Int) := by omega
  clear ho ht hb hm h hs1 hst2 hk
  go_wp2_with fail
  refine (writeC A1 k c1 (M.take k) w1 HS0 HV1 (textS (M.take k)) (-1) 0 (Lib.hid HT.out.wr)).mono ?_
  rintro e w2 ⟨rfl, hb⟩
  have HB2 := Lib.hid (bthen HB1.out hb)
  have HV2 := Lib.hid (HV1.out.below hb)
  have HS12 := Lib.hid (HS1.out.below hb)
  have HS22 := Lib.hid (HS2.out.below hb)
  clear hb
  dsimp only
  go_wp2_with fail
  refine (writeC B2 n2 c2 (M.drop k) w2 HS22 HV2 (textS (M.drop k)) (-1) 0 (Lib.hid HD.out.wr)).mono ?_
  rintro e w3 ⟨rfl, hb⟩
  have HB3 := Lib.hid (bthen HB2.out hb)
  have HV3 := Lib.hid (HV2.out.below hb)
  have HS13 := Lib.hid (HS12.out.below hb)
  clear hb HB2 HV2 HS12 HS22
  dsimp only
  go_wp2_with fail
  refine (writeC A1 n1 c1 M w3 HS13 HV3 (textS M) (-1) 0 (Lib.hid HA.out.wr)).mono ?_
  rintro e w4 ⟨rfl, hb⟩
  have HB4 := Lib.hid (bthen HB3.out hb)
  have HV4 := Lib.hid (HV3.out.below hb)
  have HS14 := Lib.hid (HS13.out.below hb)
  clear hb HB3 HV3 HS13
  dsimp only
  have hz1 : (str (textS (M.take k))).size ≤ 100000 := by rw [str_size]; exact HT.out.sz
  have hz2 : (str (textS (M.drop k))).size ≤ 100000 := by rw [str_size]; exact HD.out.sz
  go_wp2_with fail
  refine (readC (str (textS (M.take k))) w4 HV4 (by omega) _ (Lib.hid HT.out.rdk)).mono ?_
  rintro e w5 ⟨A5, n5, c5, L5, rfl, hs5, hm5, hb⟩
  have HB5 := Lib.hid (bthen HB4.out hb)
  have HV5 := Lib.hid (HV4.out.below hb)
  have HS15 := Lib.hid (HS14.out.below hb)
  have HR5 := Lib.hid hs5
  have HM5 := Lib.hid hm5
  clear hb HB4 HV4 HS14 hs5 hm5
  dsimp only
  go_wp2_with fail
  refine (readC (str (textS (M.drop k))) w5 HV5 (by omega) _ (Lib.hid HD.out.rdk)).mono ?_
  rintro e w6 ⟨A6, n6, c6, L6, rfl, hs6, hm6, hb⟩
  have HB6 := Lib.hid (bthen HB5.out hb)
  have HV6 := Lib.hid (HV5.out.below hb)
  have HS16 := Lib.hid (HS15.out.below hb)
  have HR56 := Lib.hid (HR5.out.below hb)
  have HR6 := Lib.hid hs6
  have HM6 := Lib.hid hm6
  clear hb HB5 HV5 HS15 HR5 hs6 hm6
  dsimp only
  have hcat : str (textS (M.take k)) ++ str (textS (M.drop k)) = str (textS M) := data_inj (by
    rw [cat_data, str_data, str_data, str_data, ← textS_append, List.take_append_drop])
  have hqe : ((str (textS M)).toList == (str (textS M)).toList) = true := by simp
  have HBa : Hid (Below w6.heap.size w6 (w6.alloc (.cells #[.slice A5 n5 c5, .slice A6 n6 c6] 25))) := balloc (Below.refl _ _) _
  have HQ := Lib.hid (rows_two (Bk.new w6 25 #[.slice A5 n5 c5, .slice A6 n6 c6]) (HR56.out.below HBa.out) (HR6.out.below HBa.out))
  go_wp2_with fail
  refine (concatS _ 2 2 _ _ HQ (by omega)).mono ?_
  rintro e w7 ⟨A7, n7, c7, rfl, hl7, ho7, hn7, hb⟩
  have HB7 := Lib.hid (bthen HB6.out (bthen HBa.out hb))
  have HV7 := Lib.hid (HV6.out.below (bthen HBa.out hb))
  have HS17 := Lib.hid (HS16.out.below (bthen HBa.out hb))
  have HS7 : Hid (StepsAt w7 A7 n7 (flatQ [(⟨A5, n5, c5⟩, L5), (⟨A6, n6, c6⟩, L6)])) := by
    refine ⟨Rd.of_own ho7, hl7, fun i v s hi => ?_, ?_⟩
    · have hmem := List.mem_of_getElem? hi
      have hwb := bthen HBa.out hb
      unfold flatQ at hmem
      simp only [List.flatMap_cons, List.flatMap_nil, List.append_nil, List.mem_append] at hmem
      rcases hmem with hmem | hmem
      · obtain ⟨j, hj⟩ := List.getElem?_of_mem hmem
        exact (HR56.out.all j v s hj).below hwb
      · obtain ⟨j, hj⟩ := List.getElem?_of_mem hmem
        exact (HR6.out.all j v s hj).below hwb
    · have h5 := HR56.out.len
      have h6 := HR6.out.len
      have h5' := congrArg List.length HM5.out
      have h6' := congrArg List.length HM6.out
      rw [List.length_map, List.length_map, List.length_take, HS16.out.len] at h5'
      rw [List.length_map, List.length_map, List.length_drop, HS16.out.len] at h6'
      unfold flatQ at hl7
      simp only [List.flatMap_cons, List.flatMap_nil, List.append_nil, List.length_append] at hl7
      omega
  have HMAP : Hid ((flatQ [((⟨A5, n5, c5⟩ : SV), L5), (⟨A6, n6, c6⟩, L6)]).map (·.2) = M.map (·.2)) := by
    show _ = _
    unfold flatQ
    simp only [List.flatMap_cons, List.flatMap_nil, List.append_nil, List.map_append]
    rw [HM5.out, HM6.out]
    rw [← List.map_append, List.take_append_drop]
  clear hb ho7 hl7 HB6 HV6 HS16
  go_wp2_with fail
  refine (sameC A7 A1 _ M n7 n1 c7 c1 w7 HS7 HS17).mono ?_
  rintro e w8 ⟨rfl, hb⟩
  rw [decide_eq_true HMAP.out]
  have HB8 := Lib.hid (bthen HB7.out hb)
  have HV8 := Lib.hid (HV7.out.below hb)
  clear hb
  go_wp2_with fail
  refine (awakeC w8 HV8).mono ?_
  rintro e w9 ⟨rfl, hb⟩
  have HB9 := Lib.hid (bthen HB8.out hb)
  clear hb
  go_wp2
  go_ret
  exact ⟨rfl, HB9.out⟩
end Go.Proofs.YteglgcfbmjlnkaaDoor
