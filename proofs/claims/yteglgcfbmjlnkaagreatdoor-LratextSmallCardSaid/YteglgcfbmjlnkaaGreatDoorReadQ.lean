/-
  salvorref07.Read.
-/
import Derived.Test.YteglgcfbmjlnkaaGreatDoorParseQ
set_option linter.unusedVariables false
set_option linter.unusedSimpArgs false
namespace Go.Proofs.YteglgcfbmjlnkaaGreatDoor
open Go.RowKit Go.PlainAid

/-- Where the reading has come to: byte i, the line from fr on, the line's number, the steps. -/
structure ReadE (s : ByteArray) (i fr nn : Nat) (last : Int) (acc : List Stp) (R : List Stp × Int × Int) : Prop where
  lo : fr ≤ i
  hi : i ≤ s.size + 1
  run : i ≤ s.size → (10 : UInt8) ∉ (s.data.toList.drop fr).take (i - fr) ∧ readF last nn acc (Lib.split (s.data.toList.drop fr) [10]) = R
  fin : i = s.size + 1 → readF last nn acc [] = R
theorem ReadE.skip {s : ByteArray} {i fr nn : Nat} {last : Int} {acc : List Stp} {R : List Stp × Int × Int} (h : ReadE s i fr nn last acc R) (hi : i < s.size) (hc : bt s i ≠ 10) : ReadE s (i + 1) fr nn last acc R := by
  have hlo := h.lo
  obtain ⟨h1, h2⟩ := h.run (by omega)
  refine ⟨by omega, by omega, fun _ => ⟨?_, h2⟩, fun e => by omega⟩
  obtain ⟨c, hcx, hb⟩ := bt_get hi
  have hd : (s.data.toList.drop fr)[i - fr]? = some c := by
    rw [List.getElem?_drop, show fr + (i - fr) = i by omega]
    exact hcx
  rw [show i + 1 - fr = (i - fr) + 1 by omega, take_snoc hd]
  intro hm
  rcases List.mem_append.1 hm with hm | hm
  · exact h1 hm
  · obtain rfl := List.mem_singleton.1 hm
    exact hc hb
theorem ReadE.line {s : ByteArray} {i fr nn : Nat} {last : Int} {acc : List Stp} {R : List Stp × Int × Int} (h : ReadE s i fr nn last acc R) (hi : i ≤ s.size) (hc : i < s.size → bt s i = 10) :
    ∃ rest, readF last nn acc ((s.data.toList.drop fr).take (i - fr) :: rest) = R ∧ ∀ last' acc', readF last' (nn + 1) acc' rest = R → ReadE s (i + 1) (i + 1) (nn + 1) last' acc' R := by
  have hlo := h.lo
  obtain ⟨h1, h2⟩ := h.run hi
  rcases Nat.lt_or_ge i s.size with hlt | hge
  · have hcx := (bt_is s i 10 (by decide)).2 (hc hlt)
    have hd : (s.data.toList.drop fr)[i - fr]? = some 10 := by
      rw [List.getElem?_drop, show fr + (i - fr) = i by omega]
      exact hcx
    have he : s.data.toList.drop fr = (s.data.toList.drop fr).take (i - fr) ++ 10 :: s.data.toList.drop (i + 1) := by
      have h3 := (List.take_append_drop (i - fr) (s.data.toList.drop fr)).symm
      have h4 : (s.data.toList.drop fr).drop (i - fr) = 10 :: s.data.toList.drop (i + 1) := by
        rw [List.drop_drop, show fr + (i - fr) = i by omega]
        obtain ⟨hk', he⟩ := List.getElem?_eq_some_iff.1 hcx
        rw [← he, List.drop_eq_getElem_cons hk']
      rw [h4] at h3
      exact h3
    refine ⟨Lib.split (s.data.toList.drop (i + 1)) [10], ?_, fun last' acc' hr => ⟨by omega, by omega, fun _ => ⟨by simp, hr⟩, fun e => by omega⟩⟩
    rw [he, split_cons 10 _ _ h1] at h2
    exact h2
  · have hie : i = s.size := by omega
    have ht : (s.data.toList.drop fr).take (i - fr) = s.data.toList.drop fr := List.take_of_length_le (by rw [List.length_drop, data_len]; omega)
    rw [ht] at h1 ⊢
    refine ⟨[], ?_, fun last' acc' hr => ⟨by omega, by omega, fun e => by omega, fun _ => hr⟩⟩
    rw [split_none 10 _ h1] at h2
    exact h2
theorem ReadE.start {s : ByteArray} {R : List Stp × Int × Int} (h : readF 0 0 [] (Lib.split s.data.toList [10]) = R) : ReadE s 0 0 0 0 [] R :=
  ⟨by omega, by omega, fun _ => ⟨by simp, by simpa using h⟩, fun e => by omega⟩
theorem ext_mid (s : ByteArray) (a b : Nat) (hb : b ≤ s.size) : (s.extract a b).data.toList = (s.data.toList.drop a).take (b - a) := by
  simp [ByteArray.data_extract, Array.toList_extract, List.extract_eq_take_drop]
theorem over_two {x : ByteArray} (h1 : ¬ x.data.toList = []) (h2 : ¬ x.data.toList = [99]) (h3 : 1 < x.size) : overS x.data.toList = ((x.extract 0 2).toList == [99, 32]) := by
  rw [over_not h1 h2, toList_data, ext_mid x 0 2 (by omega)]
  simp only [List.drop_zero, Nat.sub_zero]
  have hl := data_len x
  match hx : x.data.toList, hl with
  | [], hl => simp at hl; omega
  | [a], hl => simp at hl; omega
  | a :: b :: r, _ => 
    simp only [Lib.hasPrefix, List.isPrefixOf, List.take]
    rw [show (99 == a) = (a == 99) from BEq.comm, show (32 == b) = (b == 32) from BEq.comm]
    simp
theorem over_one {x : ByteArray} (h1 : ¬ x.data.toList = []) (h2 : ¬ x.data.toList = [99]) (h3 : ¬ 1 < x.size) : overS x.data.toList = false := by
  rw [over_not h1 h2]
  have hl := data_len x
  match hx : x.data.toList, hl with
  | [], hl => rfl
  | [a], hl => simp [Lib.hasPrefix, List.isPrefixOf]
  | a :: b :: r, hl => simp at hl; omega
/-- The steps' last number. -/
def LastQ (last : Int) (L : List (StV × Stp)) : Prop := (L = [] → last = 0) ∧ ∀ p, L[L.length - 1]? = some p → p.2.id = last
theorem LastQ.snoc (L : List (StV × Stp)) (p : StV × Stp) : LastQ p.2.id (L ++ [p]) :=
  ⟨fun h => by simp at h, fun q hq => by
    rw [List.length_append, List.length_singleton, Nat.add_sub_cancel, List.getElem?_append_right (Nat.le_refl _), Nat.sub_self] at hq
    simp at hq
    rw [← hq]⟩
theorem fits_zero {s : Stp} (h : rightS s = true) : fitsB s 0 = true := by
  obtain ⟨⟨h1, _⟩, h2, _⟩ := right_parts h
  unfold fitsB
  by_cases h0 : s.id = 0
  · rcases h2 with h2 | h2
    · rw [h2, h0]; rfl
    · exact absurd h0 h2
  · rw [decide_eq_true (show 0 < s.id by omega)]; rfl
theorem el_stepQ : El Tryz.prog 47 59 4 := El.mk' (z := .agg #[.bool false, .int .i64 0, .slice none 0 0, .slice none 0 0]) (bytes := 64) Tryz.underlying47 (by kernel_rfl) rfl (by omega) (by omega)
set_option maxRecDepth 100000 in
set_option maxHeartbeats 4000000 in
theorem readQC (s : ByteArray) (w : World) (hs : s.size ≤ 20000000) (R : List Stp × Int × Int) (hR : Hid (readS s.data.toList = R)) :
    Calls Tryz.prog 26 #[.string s] w (ReadPost w R) := by
  by_cases hbig : 16777216 < s.size
  · have hd : decide ((16777216 : Int) < (s.size : Int)) = true := by simp; omega
    have E : Hid (([], 0, 3) = R) := by
      have h1 := hR.out
      unfold readS at h1
      rw [if_pos (by rw [data_len]; exact hbig)] at h1
      exact h1
    clear hbig hR
    go_enter Tryz.func26, Tryz.ntmps26
    go_wp2
    go_ret3
    exact read_err E.out (Below.refl _ _)
  · have hd : decide ((16777216 : Int) < (s.size : Int)) = false := by simp; omega
    have E : Hid (ReadE s 0 0 0 0 [] R) := by
      have h1 := hR.out
      unfold readS at h1
      rw [if_neg (by rw [data_len]; exact hbig)] at h1
      exact ReadE.start h1
    have hb := get_bt s
    clear hbig hR
    go_enter Tryz.func26, Tryz.ntmps26
    go_wp2_with fail
    go_loopw [5, 6, 7, 8] (fun v5 v6 v7 v8 wr => ∃ (i fr nn : Nat) (last : Int) (L : List (StV × Stp)) (A : Option Addr) (n c : Nat), v5 = .slice A n c ∧ v6 = .int .i64 fr ∧ v7 = .int .i64 nn ∧ v8 = .int .i64 i ∧ nn ≤ i ∧ n ≤ nn ∧ fr ≤ i ∧ i ≤ s.size + 1 ∧ Hid (L.length = n) ∧ Hid (LastQ last L) ∧ Hid (ReadE s i fr nn last (L.map (·.2)) R) ∧ Hid (wr.ownsRow w.heap.size 59 4 (.slice A n c) n (scells L)) ∧ Hid (∀ (i : Nat) (v : StV) (x : Stp), L[i]? = some (v, x) → StpQ wr v x) ∧ Hid (Below w.heap.size w wr)) (fun _ _ _ v8 _ => s.size + 1 - (intOf v8).toNat)
    case atStart => exact ⟨0, 0, 0, 0, [], none, 0, 0, rfl, rfl, rfl, rfl, by omega, by omega, by omega, by omega, rfl, ⟨fun _ => rfl, fun p hp => by simp at hp⟩, E, World.ownsRow_nil _ _ _ _, fun i v x h => (by simp at h), Below.refl _ _⟩
    case round =>
      obtain ⟨i, fr, nn, last, L, A, n, c, rfl, rfl, rfl, rfl, hnni, hnn, hfi, hi1, HL, HLQ, HE, HO, HT, HB⟩ := hrel
      by_cases hi : i ≤ s.size
      · have e1 : decide ((i : Int) ≤ (s.size : Int)) = true := by simp; omega
        by_cases hc : i < s.size ∧ bt s i ≠ 10
        · obtain ⟨hlt, hne⟩ := hc
          have e2 : decide ((i : Int) < (s.size : Int)) = true := by simp; omega
          have e3 : (bt s i != 10) = true := by simpa using hne
          have HE2 := Lib.hid (HE.out.skip hlt hne)
          clear hne HE
          go_wp2_with fail
          go_roundw
          case rel => exact ⟨i + 1, fr, nn, last, L, A, n, c, rfl, rfl, rfl, by go_num, by omega, hnn, by omega, by omega, HL, HLQ, HE2, HO, HT, HB⟩
          case measure => simp [intOf]; omega
        · have hcc : i < s.size → bt s i = 10 := fun h => Classical.byContradiction (fun h2 => hc ⟨h, h2⟩)
          obtain ⟨rest, hrun, hnext⟩ := HE.out.line hi hcc
          have HRUN := Lib.hid hrun
          have HNEXT := Lib.hid hnext
          clear hrun hnext HE hc
          go_upto_region 8 with fail
          go_cut [31] (fun v31 wx => v31 = .bool false ∧ wr = wx)
          case first =>
            by_cases hlt : i < s.size
            · have e2 : decide ((i : Int) < (s.size : Int)) = true := by simp; omega
              have e3 : (bt s i != 10) = false := by rw [hcc hlt]; rfl
              clear hcc
              go_wp2_with fail
              go_meet
              exact ⟨rfl, rfl⟩
            · have e2 : decide ((i : Int) < (s.size : Int)) = false := by simp; omega
              clear hcc
              go_wp2_with fail
              go_meet
              exact ⟨rfl, rfl⟩
          case rest =>
          obtain ⟨rfl, rfl⟩ := hcut
          clear hcc
          have hxd := ext_mid s fr i hi
          have hxs : (s.extract fr i).size ≤ 20000000 := by rw [← data_len, hxd, List.length_take, List.length_drop, data_len]; omega
          rw [← hxd] at HRUN
          go_upto_region 12 with fail
          generalize s.extract fr i = x at *
          clear hxd
          have h1 := HRUN.out
          unfold readF at h1
          clear HRUN
          go_cut [55] (fun v55 wx => v55 = .bool (overS x.data.toList) ∧ wr = wx)
          case first =>
            by_cases o1 : x.toList = []
            · have E2 := Lib.hid (over_nil (toList_data x ▸ o1))
              go_wp2_with fail
              go_meet
              exact ⟨by rw [E2.out], rfl⟩
            by_cases o2 : x.toList = [99]
            · have E2 := Lib.hid (over_c (toList_data x ▸ o2))
              go_wp2_with fail
              go_meet
              exact ⟨by rw [E2.out], rfl⟩
            have q1 : x.toList.isEmpty = false := by simpa using o1
            have q2 : (x.toList == [99]) = false := by simpa using o2
            by_cases o3 : 1 < x.size
            · have q3 : decide ((1 : Int) < (x.size : Int)) = true := by simp; omega
              have E2 := Lib.hid (over_two (toList_data x ▸ o1) (toList_data x ▸ o2) o3)
              clear o1 o2
              go_wp2_with fail
              go_meet
              exact ⟨by rw [E2.out], rfl⟩
            · have q3 : decide ((1 : Int) < (x.size : Int)) = false := by simp; omega
              have E2 := Lib.hid (over_one (toList_data x ▸ o1) (toList_data x ▸ o2) o3)
              clear o1 o2
              go_wp2_with fail
              go_meet
              exact ⟨by rw [E2.out], rfl⟩
          case rest =>
          obtain ⟨rfl, rfl⟩ := hcut
          cases hov : overS x.data.toList with
          | true =>
            rw [hov, if_pos rfl] at h1
            have HE2 := Lib.hid (HNEXT.out _ _ h1)
            clear h1 hov HNEXT
            go_wp2_with fail
            go_roundw
            case rel => exact ⟨i + 1, i + 1, nn + 1, last, L, A, n, c, rfl, by go_num, by go_num, by go_num, by omega, by omega, by omega, by omega, HL, HLQ, HE2, HO, HT, HB⟩
            case measure => simp [intOf]; omega
          | false =>
            rw [hov] at h1
            simp only [Bool.false_eq_true, if_false] at h1
            clear hov
            have HPQ := Lib.hid (parseQC x wr hxs)
            rw [parse_same] at HPQ
            cases hps : parseS x.data.toList with
            | none =>
              rw [hps] at h1 HPQ
              dsimp only at h1
              have H1 := Lib.hid h1
              clear h1 hps HNEXT
              go_wp2_with fail
              refine HPQ.out.mono ?_
              rintro e w2 ⟨hb2, h2⟩
              obtain rfl := h2
              have HB2 := Lib.hid (bthen HB.out hb2)
              clear hb2
              go_wp2_with fail
              go_ret3
              exact read_err H1.out (balloc HB2.out _)
            | some st =>
              rw [hps] at h1 HPQ
              dsimp only at h1
              have hright : rightS st = true := ((parseS_iff _ _).1 hps).1
              obtain ⟨del, id, lits, hints⟩ := st
              clear hps
              have H1 := Lib.hid h1
              clear h1
              go_wp2_with fail
              refine HPQ.out.mono ?_
              rintro e w2 ⟨hb2, LA, Ln, Lc, HA, Hn, Hc, rfl, hst⟩
              dsimp only at hst ⊢
              have HB2 := Lib.hid (bthen HB.out hb2)
              have HO2 := Lib.hid (own_fr (F := fun _ => False) HO.out (Fr.of_below hb2) (fun _ _ h => h))
              have HT2 : Hid (∀ (i : Nat) (v : StV) (x : Stp), L[i]? = some (v, x) → StpQ w2 v x) := fun i v x h => (HT.out i v x h).below hb2
              have HX2 := Lib.hid (Bk.new w2 59 #[.bool del, .int .i64 id, .slice LA Ln Lc, .slice HA Hn Hc])
              have HBa : Hid (Below w2.heap.size w2 (w2.alloc (.cells #[.bool del, .int .i64 id, .slice LA Ln Lc, .slice HA Hn Hc] 59))) := balloc (Below.refl _ _) _
              have HST := Lib.hid hst
              clear hb2 hst HO HT HPQ
              go_upto_region 17 with fail
              have hrow : ∀ g, (Value.slice A n c).ownBlock = some g → g < w2.heap.size := fun g hg => (HO2.out.lt g hg).2
              have HROW := Lib.hid hrow
              clear hrow
              have HB3 := Lib.hid (bthen HB2.out HBa.out)
              have HO3 := Lib.hid (HO2.out.alloc (.cells #[.bool del, .int .i64 id, .slice LA Ln Lc, .slice HA Hn Hc] 59))
              have HST3 := Lib.hid (HST.out.below HBa.out)
              have HT3 : Hid (∀ (i : Nat) (v : StV) (x : Stp), L[i]? = some (v, x) → StpQ (w2.alloc (.cells #[.bool del, .int .i64 id, .slice LA Ln Lc, .slice HA Hn Hc] 59)) v x) := fun i v x h => (HT2.out i v x h).below HBa.out
              clear HO2 HT2 HST HBa HB2
              generalize (w2.alloc (.cells #[.bool del, .int .i64 id, .slice LA Ln Lc, .slice HA Hn Hc] 59)) = w3 at *
              generalize w2.heap.size = q at *
              obtain ⟨x0, x1, x2, x3⟩ := cells4 HX2.out
              have hw03 : w.heap.size ≤ w3.heap.size := HB3.out.size
              go_cut [94] (fun v94 wx => v94 = .bool (!fitsB ⟨del, id, lits, hints⟩ last) ∧ Below w3.heap.size w3 wx)
              case first =>
                rename_i J1 K1 hR1 hM1
                rcases Nat.eq_zero_or_pos n with h0 | h0
                · have hl0 : L = [] := List.eq_nil_of_length_eq_zero (by rw [HL.out]; exact h0)
                  have E2 : Hid (fitsB ⟨del, id, lits, hints⟩ last = true) := by
                    show _ = _
                    rw [HLQ.out.1 hl0]
                    exact fits_zero hright
                  subst h0
                  clear hl0
                  go_quiet (fail)
                  all_goals
                    go_wp2_with fail
                    go_meet
                    exact ⟨by rw [E2.out]; first | done | rfl, by first | exact Below.refl _ _ | exact (Below.refl _ _).drew | exact below_drewN _ _⟩
                · obtain ⟨m, rfl⟩ : ∃ m, n = m + 1 := ⟨n - 1, by omega⟩
                  obtain ⟨b, off, LA2, HA2, Ln2, Lc2, Hn2, Hc2, d2, id2, l2, h2, rfl, hx, hbl, c0, c1, c2, c3⟩ := (Rd.of_own HO3.out).stp (i := m) HL.out (by omega)
                  have hid2 : id2 = last := by
                    have := HLQ.out.2 (⟨⟨LA2, Ln2, Lc2⟩, ⟨HA2, Hn2, Hc2⟩⟩, ⟨d2, id2, l2, h2⟩) (by rw [HL.out]; exact hx)
                    exact this
                  subst hid2
                  clear hx h0
                  by_cases hc1 : id < id2
                  · have g1 : decide (id < id2) = true := by simpa using hc1
                    have E2 : Hid (fitsB ⟨del, id, lits, hints⟩ id2 = false) := by
                      show _ = _
                      unfold fitsB
                      dsimp only
                      rw [decide_eq_false (by omega), show (id == id2) = false by simp; omega]
                      simp
                    clear hc1
                    go_quiet (fail)
                    all_goals
                      go_wp2_with fail
                      go_meet
                      exact ⟨by rw [E2.out]; first | done | rfl, by first | exact Below.refl _ _ | exact (Below.refl _ _).drew | exact below_drewN _ _⟩
                  have g1 : decide (id < id2) = false := by simp; omega
                  cases del with
                  | true =>
                    have E2 : Hid (fitsB ⟨true, id, lits, hints⟩ id2 = true) := by
                      show _ = _
                      unfold fitsB
                      dsimp only
                      by_cases hq : id = id2
                      · rw [hq]; simp
                      · rw [decide_eq_true (show id2 < id by omega)]; rfl
                    clear hc1
                    go_quiet (fail)
                    all_goals
                      go_wp2_with fail
                      go_meet
                      exact ⟨by rw [E2.out]; first | done | rfl, by first | exact Below.refl _ _ | exact (Below.refl _ _).drew | exact below_drewN _ _⟩
                  | false =>
                    have E2 : Hid (fitsB ⟨false, id, lits, hints⟩ id2 = !(id == id2)) := by
                      show _ = _
                      unfold fitsB
                      dsimp only
                      by_cases hq : id = id2
                      · rw [hq]; simp
                      · rw [decide_eq_true (show id2 < id by omega), show (id == id2) = false by simpa using hq]; rfl
                    clear hc1
                    cases hq : (id == id2) with
                    | true =>
                      rw [hq] at E2
                      go_quiet (fail)
                      all_goals
                        go_wp2_with fail
                        go_meet
                        exact ⟨by rw [E2.out]; first | done | rfl, by first | exact Below.refl _ _ | exact (Below.refl _ _).drew | exact below_drewN _ _⟩
                    | false =>
                      rw [hq] at E2
                      go_quiet (fail)
                      all_goals
                        go_wp2_with fail
                        go_meet
                        exact ⟨by rw [E2.out]; first | done | rfl, by first | exact Below.refl _ _ | exact (Below.refl _ _).drew | exact below_drewN _ _⟩
              case rest =>
                obtain ⟨rfl, hbc⟩ := hcut
                have HB4 := Lib.hid (bthen HB3.out hbc)
                have HO4 := Lib.hid (own_fr (F := fun _ => False) HO3.out (Fr.of_below hbc) (fun _ _ h => h))
                have HST4 := Lib.hid (HST3.out.below hbc)
                have HT4 : Hid (∀ (i : Nat) (v : StV) (x : Stp), L[i]? = some (v, x) → StpQ wc v x) := fun i v x h => (HT3.out i v x h).below hbc
                have HX4 := Lib.hid (bkbel HX2.out hbc)
                clear x0 x1 x2 x3 HX2 HB3 HO3 HST3 HT3 hbc hw03
                generalize wc = w4 at *
                obtain ⟨x0, x1, x2, x3⟩ := cells4 HX4.out
                have hw04 : w.heap.size ≤ w4.heap.size := HB4.out.size
                have h1 := H1.out
                cases hf : fitsB ⟨del, id, lits, hints⟩ last with
                | false =>
                  rw [hf] at h1
                  simp only [Bool.false_eq_true, if_false] at h1
                  have H2 := Lib.hid h1
                  clear hf h1
                  go_wp2
                  go_ret3
                  exact read_err H2.out HB4.out
                | true =>
                  rw [hf, if_pos rfl] at h1
                  clear hf
                  by_cases hnn2 : n = 262144
                  · rw [if_pos (by rw [List.length_map, HL.out]; exact hnn2)] at h1
                    have hd3 : ((n : Int) == 262144) = true := by simp; omega
                    have H2 := Lib.hid h1
                    clear h1 hnn2
                    go_wp2
                    go_ret3
                    exact read_err H2.out HB4.out
                  · rw [if_neg (by rw [List.length_map, HL.out]; exact hnn2)] at h1
                    have hd3 : ((n : Int) == 262144) = false := by simp; omega
                    have h2 : readF id (nn + 1) ((L ++ ([(⟨⟨LA, Ln, Lc⟩, ⟨HA, Hn, Hc⟩⟩, ⟨del, id, lits, hints⟩)] : List (StV × Stp))).map (·.2)) rest = R := by
                      rw [List.map_append]
                      exact h1
                    have HE2 := Lib.hid (HNEXT.out _ _ h2)
                    clear h1 h2 hnn2 HNEXT
                    go_wp2_with (at_builtin; refine wpList_app el_stepQ rfl (.tmp 100) (.tmp 102) rfl w.heap.size (.slice A n c) n (scells L) rfl (HO4.out.alloc _) (some ⟨w4.heap.size, 0, none⟩) 1 1 (scell (⟨⟨LA, Ln, Lc⟩, ⟨HA, Hn, Hc⟩⟩, ⟨del, id, lits, hints⟩)) rfl (Rd.new _ #[_, _, _, _] _) rfl (scell_one _) (by omega) (by simp; omega) ?_; intro A2 c2 w5 hown1 hgr1 hat1; have Ho1 := Lib.hid hown1; have Hg1 := Lib.hid hgr1; clear hown1 hgr1 hat1)
                    have HST5 := Lib.hid ((HST4.out.below (balloc (Below.refl _ _) _)).grown (HO4.out.alloc _) Hg1.out)
                    have HT5 : Hid (∀ (i : Nat) (v : StV) (x : Stp), L[i]? = some (v, x) → StpQ w5 v x) := fun i v x h => ((HT4.out i v x h).below (balloc (Below.refl _ _) _)).grown (HO4.out.alloc _) Hg1.out
                    go_roundw
                    case rel =>
                      refine ⟨i + 1, i + 1, nn + 1, id, L ++ ([(⟨⟨LA, Ln, Lc⟩, ⟨HA, Hn, Hc⟩⟩, ⟨del, id, lits, hints⟩)] : List (StV × Stp)), A2, n + 1, c2, rfl, by go_num, by go_num, by go_num, by omega, by omega, by omega, by omega, ?_, LastQ.snoc L _, HE2, ?_, ?_, own_step4 HB4.out HO4.out Hg1.out⟩
                      · show _ = _
                        rw [List.length_append, HL.out]; rfl
                      · show World.ownsRow _ _ _ _ _ _ _
                        rw [scells_snoc]
                        exact Ho1.out
                      · intro i v x' hi
                        rcases Nat.lt_or_ge i L.length with h1 | h1
                        · rw [List.getElem?_append_left h1] at hi
                          exact HT5.out i v x' hi
                        · rw [List.getElem?_append_right h1] at hi
                          rcases Nat.eq_zero_or_pos (i - L.length) with h2 | h2
                          · rw [h2] at hi
                            injection hi with hi
                            obtain ⟨rfl, rfl⟩ := Prod.mk.inj hi
                            exact HST5.out
                          · rw [List.getElem?_eq_none (by simp; omega)] at hi
                            cases hi
                    case measure => simp [intOf]; omega
      · have e1 : decide ((i : Int) ≤ (s.size : Int)) = false := by simp; omega
        have hfin := HE.out.fin (by omega)
        have HF : Hid ((L.map (·.2), 0, 0) = R) := hfin
        clear hfin HE
        go_wp2
        go_ret3
        have hh := HF.out
        subst hh
        exact ⟨A, n, c, L, rfl, ⟨Rd.of_own HO.out, HL.out, fun i v x h => (HT.out i v x h).at', by omega⟩, rfl, HB.out⟩
end Go.Proofs.YteglgcfbmjlnkaaGreatDoor
