/-
  salvorref01.Right, salvorref02.Right, salvorref07.Right.
-/
import Derived.Test.YteglgcfbmjlnkaaGreatDoorCheck
import Derived.Deep.DeepCutAuto
set_option linter.unusedVariables false
set_option linter.unusedSimpArgs false
namespace Go.Proofs.YteglgcfbmjlnkaaGreatDoor
open Go.RowKit

set_option maxRecDepth 100000 in
theorem litRightQ (l : Int) (w : World) : Calls Tryz.prog 70 #[.int .i64 l] w fun e w' => e = .returned (.bool (litB l)) ∧ w = w' := by
  rcases (by omega : (1 ≤ l ∧ l ≤ 1048576) ∨ (1 ≤ l ∧ 1048576 < l) ∨ (l < 1 ∧ l < -1048576) ∨ (l < 1 ∧ -1048576 ≤ l)) with ⟨h1, h2⟩ | ⟨h1, h2⟩ | ⟨h1, h2⟩ | ⟨h1, h2⟩
  · have e1 : decide (1 ≤ l) = true := by simpa using h1
    have e2 : decide (l ≤ 1048576) = true := by simpa using h2
    have E : Hid (litB l = true) := by show litB l = true; unfold litB; rw [e2, show decide (-1048576 ≤ l) = true by simp; omega, show (l == 0) = false by simp; omega]; rfl
    clear h1 h2
    go_enter Tryz.func70, Tryz.ntmps70
    go_wp2
    go_ret
    exact ⟨ret_bool E.out.symm, rfl⟩
  · have e1 : decide (1 ≤ l) = true := by simpa using h1
    have e2 : decide (l ≤ 1048576) = false := by simp; omega
    have e3 : decide (-1048576 ≤ l) = true := by simp; omega
    have e4 : decide (l ≤ -1) = false := by simp; omega
    have E : Hid (litB l = false) := by show litB l = false; unfold litB; rw [e2]; simp
    clear h1 h2
    go_enter Tryz.func70, Tryz.ntmps70
    go_wp2
    go_ret
    exact ⟨ret_bool E.out.symm, rfl⟩
  · have e1 : decide (1 ≤ l) = false := by simp; omega
    have e3 : decide (-1048576 ≤ l) = false := by simp; omega
    have E : Hid (litB l = false) := by show litB l = false; unfold litB; rw [e3]; simp
    clear h1 h2
    go_enter Tryz.func70, Tryz.ntmps70
    go_wp2
    go_ret
    exact ⟨ret_bool E.out.symm, rfl⟩
  · have e1 : decide (1 ≤ l) = false := by simp; omega
    have e3 : decide (-1048576 ≤ l) = true := by simpa using h2
    have E : Hid (litB l = decide (l ≤ -1)) := by
      show _ = _
      unfold litB
      rw [e3, show decide (l ≤ 1048576) = true by simp; omega]
      by_cases h0 : l = 0
      · subst h0; rfl
      · rw [show (l == 0) = false by simpa using h0, decide_eq_true (show l ≤ -1 by omega)]; rfl
    clear h1 h2
    go_enter Tryz.func70, Tryz.ntmps70
    go_wp2
    go_ret
    exact ⟨ret_bool E.out.symm, rfl⟩
theorem any_snoc {l : List Int} {p : Int → Bool} {k : Nat} {x : Int} (hx : l[k]? = some x) (h : (l.take k).any p = false) : (l.take (k + 1)).any p = p x := by
  rw [take_snoc hx, List.any_append, h]
  simp
theorem any_hit {l : List Int} {p : Int → Bool} {k : Nat} {x : Int} (hx : l[k]? = some x) (h : p x = true) : l.any p = true :=
  List.any_eq_true.2 ⟨x, List.mem_of_getElem? hx, h⟩
set_option maxRecDepth 100000 in
set_option maxHeartbeats 1000000 in
theorem clauseRightQ (A : Option Addr) (n c : Nat) (l : List Int) (w : World) (h : Hid (Rd w A (l.map (Value.int .i64)))) (hl : Hid (l.length = n)) (hn : n ≤ 100000000) : Calls Tryz.prog 52 #[.slice A n c] w fun e w' => e = .returned (.bool (clauseB l)) ∧ w = w' := by
  by_cases hb : 4096 < n
  · have e1 : decide ((4096 : Int) < (n : Int)) = true := by simp; omega
    have E : Hid (clauseB l = false) := by show _ = _; unfold clauseB; rw [hl.out, decide_eq_false (by omega)]; rfl
    clear hb
    go_enter Tryz.func52, Tryz.ntmps52
    go_wp2
    go_ret
    exact ⟨ret_bool E.out.symm, rfl⟩
  · have e1 : decide ((4096 : Int) < (n : Int)) = false := by simp; omega
    have E : Hid (clauseB l = !l.any fun x => !litB x) := by show _ = _; unfold clauseB; rw [hl.out, decide_eq_true (by omega)]; rfl
    clear hb
    go_enter Tryz.func52, Tryz.ntmps52
    go_wp2_with fail
    go_loopw [3] (fun v3 wr => ∃ (k : Nat), k ≤ n ∧ v3 = .int .i64 k ∧ Hid (((l.take k).any fun x => !litB x) = false) ∧ w = wr) (fun v3 _ => n - (intOf v3).toNat)
    case atStart => exact ⟨0, Nat.zero_le _, rfl, rfl, rfl⟩
    case round =>
      obtain ⟨k, hk, rfl, HA, rfl⟩ := hrel
      by_cases hlt : k < n
      · obtain ⟨b, off, x, rfl, hx, hc⟩ := h.out.getm hl.out hlt
        have HX := Lib.hid hx
        clear hx
        cases hq : litB x with
        | true =>
          have HQ := Lib.hid hq
          clear hq
          go_wp2_with fail
          refine (litRightQ x w).mono ?_
          rintro e w' ⟨rfl, rfl⟩
          rw [HQ.out]
          go_wp2
          go_roundw
          case rel => exact ⟨k + 1, by omega, by go_num, by show _ = _; rw [any_snoc HX.out HA.out, HQ.out]; rfl, trivial⟩
          case measure => simp [intOf]; omega
        | false =>
          have HQ := Lib.hid hq
          clear hq
          go_wp2_with fail
          refine (litRightQ x w).mono ?_
          rintro e w' ⟨rfl, rfl⟩
          rw [HQ.out]
          go_wp2
          go_ret
          refine ⟨ret_bool ?_, rfl⟩
          rw [E.out, any_hit HX.out (by rw [HQ.out]; rfl)]
          rfl
      · go_wp2
        go_ret
        refine ⟨ret_bool ?_, rfl⟩
        have h := HA.out
        rw [List.take_of_length_le (by rw [hl.out]; omega)] at h
        rw [E.out, h]
        rfl
theorem hintBad_neg {h : Int} (h1 : h < 0) : hintBad false h = decide (h < -1073741824) := by
  unfold hintBad
  rw [show (h == 0) = false by simp; omega, show decide (1073741824 < h) = false by simp; omega]
  simp
theorem hintBad_low {del : Bool} {h : Int} (h1 : h < 1) (h2 : h < 0 → del = true) : hintBad del h = true := by
  unfold hintBad
  by_cases h0 : h = 0
  · subst h0; simp
  · rw [h2 (by omega), show decide (h < 0) = true by simp; omega]; simp
theorem hintBad_up {del : Bool} {h : Int} (h1 : 1 ≤ h) : hintBad del h = decide (1073741824 < h) := by
  unfold hintBad
  rw [show (h == 0) = false by simp; omega, show decide (h < -1073741824) = false by simp; omega, show decide (h < 0) = false by simp; omega]
  simp
set_option maxRecDepth 100000 in
set_option maxHeartbeats 2000000 in
theorem rightQ (del : Bool) (id : Int) (lits hints : List Int) (LA HA : Option Addr) (Ln Lc Hn Hc : Nat) (w : World) (h : Hid (StpAt w ⟨⟨LA, Ln, Lc⟩, ⟨HA, Hn, Hc⟩⟩ ⟨del, id, lits, hints⟩)) :
    Calls Tryz.prog 24 #[.agg #[.bool del, .int .i64 id, .slice LA Ln Lc, .slice HA Hn Hc]] w fun e w' => e = .returned (.bool (rightS ⟨del, id, lits, hints⟩)) ∧ Below w.heap.size w w' := by
  have HB0 : Hid (Below w.heap.size w (w.alloc (.cells #[.bool del, .int .i64 id, .slice LA Ln Lc, .slice HA Hn Hc] 59))) := balloc (Below.refl _ _) _
  have HX0 := Lib.hid (Bk.new w 59 #[.bool del, .int .i64 id, .slice LA Ln Lc, .slice HA Hn Hc])
  have HLn : Hid (lits.length = Ln) := h.out.lits.2.1
  have HHn : Hid (hints.length = Hn) := h.out.hints.2.1
  have hLs : Ln ≤ 100000000 := h.out.lits.2.2.2
  have hHs : Hn ≤ 100000000 := h.out.hints.2.2.2
  go_enter Tryz.func24, Tryz.ntmps24
  go_upto_region 1 with fail
  have HC := Lib.hid (clauseRightQ LA Ln Lc lits _ (Lib.hid (h.out.lits.1.below HB0.out)) HLn hLs)
  have HI := Lib.hid (h.out.hints.1.below HB0.out)
  have HI64 : Hid (∀ u ∈ hints, I64 u) := h.out.hints.2.2.1
  generalize (w.alloc (.cells #[.bool del, .int .i64 id, .slice LA Ln Lc, .slice HA Hn Hc] 59)) = W at *
  obtain ⟨p, hp⟩ : ∃ p, p = w.heap.size := ⟨_, rfl⟩
  rw [← hp] at HX0
  rw [← hp]
  clear hp
  obtain ⟨x0, x1, x2, x3⟩ := cells4 HX0.out
  by_cases a1 : id < 0
  · have e1 : decide (id < 0) = true := by simpa using a1
    have E := Lib.hid (right_false1 (s := ⟨del, id, lits, hints⟩) (.inl a1))
    clear a1
    go_wp2
    go_ret
    exact ⟨ret_bool E.out.symm, HB0.out⟩
  by_cases a2 : 1073741824 < id
  · have e1 : decide (id < 0) = false := by simpa using a1
    have e2 : decide (1073741824 < id) = true := by simpa using a2
    have E := Lib.hid (right_false1 (s := ⟨del, id, lits, hints⟩) (.inr a2))
    clear a1 a2
    go_wp2
    go_ret
    exact ⟨ret_bool E.out.symm, HB0.out⟩
  have e1 : decide (id < 0) = false := by simpa using a1
  have e2 : decide (1073741824 < id) = false := by simpa using a2
  by_cases a3 : del = false ∧ id = 0
  · have E := Lib.hid (right_false2 (s := ⟨del, id, lits, hints⟩) a3)
    obtain ⟨rfl, rfl⟩ := a3
    clear a1 a2
    go_wp2
    go_ret
    exact ⟨ret_bool E.out.symm, HB0.out⟩
  have hrest := fun hl => right_rest (s := ⟨del, id, lits, hints⟩) (by show 0 ≤ id; omega) (by show id ≤ 1073741824; omega) (fun hd h0 => a3 ⟨hd, h0⟩) hl
  have HREST := Lib.hid hrest
  clear hrest
  have hid : del = false → (id == 0) = false := fun hd => by
    simp
    exact fun h0 => a3 ⟨hd, h0⟩
  have HID := Lib.hid hid
  clear hid a1 a2 a3
  go_cut [22] (fun v22 wx => v22 = .bool false ∧ W = wx)
  case first =>
    cases del with
    | true =>
      cases hi : (id == 0) with
      | true => go_wp2_with fail; go_meet; exact ⟨rfl, rfl⟩
      | false => go_wp2_with fail; go_meet; exact ⟨rfl, rfl⟩
    | false =>
      have hi := HID.out rfl
      go_wp2_with fail
      go_meet
      exact ⟨rfl, rfl⟩
  case rest =>
  obtain ⟨rfl, rfl⟩ := hcut
  clear e1 e2
  cases hcb : clauseB lits with
  | false =>
    rw [hcb] at HC
    by_cases hdl : del = true ∧ 0 < Ln
    · have E : Hid (rightS ⟨del, id, lits, hints⟩ = false) := right_false3 (s := ⟨del, id, lits, hints⟩) ⟨hdl.1, by show 0 < lits.length; have := HLn.out; omega⟩
      clear hcb hdl
      go_wp2_with fail
      refine HC.out.mono ?_
      rintro e w1 ⟨rfl, rfl⟩
      go_wp2
      go_ret
      exact ⟨ret_bool E.out.symm, HB0.out⟩
    · have E : Hid (rightS ⟨del, id, lits, hints⟩ = false) := by
        show _ = _
        rw [HREST.out (fun hd => by show lits.length = 0; have := HLn.out; rcases Nat.eq_zero_or_pos Ln with h0 | h0; omega; exact absurd ⟨hd, h0⟩ hdl)]
        dsimp only
        rw [hcb]
        rfl
      clear hcb hdl
      go_wp2_with fail
      refine HC.out.mono ?_
      rintro e w1 ⟨rfl, rfl⟩
      go_wp2
      go_ret
      exact ⟨ret_bool E.out.symm, HB0.out⟩
  | true =>
    rw [hcb] at HC
    by_cases hdl : del = true ∧ 0 < Ln
    · have E : Hid (rightS ⟨del, id, lits, hints⟩ = false) := right_false3 (s := ⟨del, id, lits, hints⟩) ⟨hdl.1, by show 0 < lits.length; have := HLn.out; omega⟩
      have e4 : decide ((0 : Int) < (Ln : Int)) = true := by simp; omega
      obtain ⟨rfl, _⟩ := hdl
      clear hcb
      go_wp2_with fail
      refine HC.out.mono ?_
      rintro e w1 ⟨rfl, rfl⟩
      go_wp2
      go_ret
      exact ⟨ret_bool E.out.symm, HB0.out⟩
    · have E : Hid (rightS ⟨del, id, lits, hints⟩ = (decide (Hn ≤ 65536) && !hints.any (hintBad del))) := by
        show _ = _
        rw [HREST.out (fun hd => by show lits.length = 0; have := HLn.out; rcases Nat.eq_zero_or_pos Ln with h0 | h0; omega; exact absurd ⟨hd, h0⟩ hdl)]
        dsimp only
        rw [hcb, HHn.out]
        rfl
      have hL0 : del = true → Ln = 0 := fun hd => by
        rcases Nat.eq_zero_or_pos Ln with h0 | h0
        · exact h0
        · exact absurd ⟨hd, h0⟩ hdl
      have HL0 := Lib.hid hL0
      clear hcb hdl hL0
      go_upto_region 3 with fail
      go_cut [42] (fun v42 wx => v42 = .bool (decide (65536 < (Hn : Int))) ∧ W = wx)
      case first =>
        cases del with
        | true =>
          have e4 := HL0.out rfl
          subst e4
          go_wp2_with fail
          refine HC.out.mono ?_
          rintro e w1 ⟨rfl, rfl⟩
          go_wp2
          go_meet
          exact ⟨rfl, rfl⟩
        | false =>
          go_wp2_with fail
          refine HC.out.mono ?_
          rintro e w1 ⟨rfl, rfl⟩
          go_wp2
          go_meet
          exact ⟨rfl, rfl⟩
      case rest =>
      obtain ⟨rfl, rfl⟩ := hcut
      by_cases hn : 65536 < Hn
      · rw [decide_eq_false (show ¬ Hn ≤ 65536 by omega)] at E
        rw [decide_eq_true (show (65536 : Int) < (Hn : Int) by omega)]
        clear hn
        go_wp2
        go_ret
        exact ⟨ret_bool E.out.symm, HB0.out⟩
      · rw [decide_eq_true (show Hn ≤ 65536 by omega)] at E
        rw [decide_eq_false (show ¬ (65536 : Int) < (Hn : Int) by omega)]
        clear hn
        go_wp2_with fail
        go_loopw [3] (fun v3 wr => ∃ (k : Nat), k ≤ Hn ∧ v3 = .int .i64 k ∧ Hid (((hints.take k).any (hintBad del)) = false) ∧ W = wr) (fun v3 _ => Hn - (intOf v3).toNat)
        case atStart => exact ⟨0, Nat.zero_le _, rfl, rfl, rfl⟩
        case round =>
          obtain ⟨k, hk, rfl, HA2, rfl⟩ := hrel
          by_cases hlt : k < Hn
          · obtain ⟨b, off, x, rfl, hx, hc⟩ := HI.out.getm HHn.out hlt
            have HX := Lib.hid hx
            have hx64 := HI64.out x (List.mem_of_getElem? hx)
            clear hx
            by_cases hneg : x < 0
            · have e5 : decide (x < 0) = true := by simpa using hneg
              cases del with
              | true =>
                have e6 : decide (x < 1) = true := by simp; omega
                have HBD : Hid (hintBad true x = true) := hintBad_low (by omega) (fun _ => rfl)
                go_wp2
                go_ret
                refine ⟨ret_bool ?_, HB0.out⟩
                rw [E.out, any_hit HX.out HBD.out]
                rfl
              | false =>
                by_cases hmin : x = -9223372036854775808
                · subst hmin
                  have ew : wrap64 9223372036854775808 = -9223372036854775808 := by decide +kernel
                  have HBD : Hid (hintBad false (-9223372036854775808) = true) := by show _ = _; rfl
                  go_wp2
                  go_ret
                  refine ⟨ret_bool ?_, HB0.out⟩
                  rw [E.out, any_hit HX.out HBD.out]
                  rfl
                · have ew : IntKind.i64.wrap (-x) = -x := by rw [IntKind.wrap_i64]; have := hx64.1; have := hx64.2; omega
                  have e6 : decide (-x < 1) = false := by simp; omega
                  by_cases hbig : 1073741824 < -x
                  · have e7 : decide (1073741824 < -x) = true := by simp; omega
                    have HBD : Hid (hintBad false x = true) := by show _ = _; rw [hintBad_neg hneg]; simp; omega
                    go_wp2
                    go_ret
                    refine ⟨ret_bool ?_, HB0.out⟩
                    rw [E.out, any_hit HX.out HBD.out]
                    rfl
                  · have e7 : decide (1073741824 < -x) = false := by simp; omega
                    have HBD : Hid (hintBad false x = false) := by show _ = _; rw [hintBad_neg hneg]; simp; omega
                    go_wp2_with fail
                    go_roundw
                    case rel => exact ⟨k + 1, by omega, by go_num, by show _ = _; rw [any_snoc HX.out HA2.out, HBD.out], trivial⟩
                    case measure => simp [intOf]; omega
            · have e5 : decide (x < 0) = false := by simp; omega
              by_cases hlow : x < 1
              · have e6 : decide (x < 1) = true := by simp; omega
                have HBD : Hid (hintBad del x = true) := hintBad_low hlow (fun hh => absurd hh hneg)
                go_wp2
                go_ret
                refine ⟨ret_bool ?_, HB0.out⟩
                rw [E.out, any_hit HX.out HBD.out]
                rfl
              · have e6 : decide (x < 1) = false := by simp; omega
                by_cases hbig : 1073741824 < x
                · have e7 : decide (1073741824 < x) = true := by simp; omega
                  have HBD : Hid (hintBad del x = true) := by show _ = _; rw [hintBad_up (by omega)]; simp; omega
                  go_wp2
                  go_ret
                  refine ⟨ret_bool ?_, HB0.out⟩
                  rw [E.out, any_hit HX.out HBD.out]
                  rfl
                · have e7 : decide (1073741824 < x) = false := by simp; omega
                  have HBD : Hid (hintBad del x = false) := by show _ = _; rw [hintBad_up (by omega)]; simp; omega
                  go_wp2_with fail
                  go_roundw
                  case rel => exact ⟨k + 1, by omega, by go_num, by show _ = _; rw [any_snoc HX.out HA2.out, HBD.out], trivial⟩
                  case measure => simp [intOf]; omega
          · go_wp2
            go_ret
            refine ⟨ret_bool ?_, HB0.out⟩
            have h := HA2.out
            rw [List.take_of_length_le (by rw [HHn.out]; omega)] at h
            rw [E.out, h]
            rfl
end Go.Proofs.YteglgcfbmjlnkaaGreatDoor
