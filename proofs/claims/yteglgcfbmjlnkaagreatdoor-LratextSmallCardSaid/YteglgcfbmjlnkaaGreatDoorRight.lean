/-
  lratext.Right, fits, over.
-/
import Derived.Test.YteglgcfbmjlnkaaGreatDoorStp
import Derived.Test.YteglgcfbmjlnkaaGreatDoorOneQ
import Derived.Deep.RegionHeld3
set_option linter.unusedVariables false
set_option linter.unusedSimpArgs false
namespace Go.Proofs.YteglgcfbmjlnkaaGreatDoor
open Go.RowKit

theorem right_false1 {s : Stp} (h : s.id < 0 ∨ 1073741824 < s.id) : rightS s = false := by
  unfold rightS
  rcases h with h | h
  · rw [show decide (0 ≤ s.id) = false by simp; omega]; simp
  · rw [show decide (s.id ≤ 1073741824) = false by simp; omega]; simp
theorem right_false2 {s : Stp} (h : s.del = false ∧ s.id = 0) : rightS s = false := by
  unfold rightS; rw [h.1, h.2]; simp
theorem right_false3 {s : Stp} (h : s.del = true ∧ 0 < s.lits.length) : rightS s = false := by
  unfold rightS; rw [h.1, show decide (0 < s.lits.length) = true by simp; omega]; simp
theorem right_rest {s : Stp} (h1 : 0 ≤ s.id) (h2 : s.id ≤ 1073741824) (h3 : s.del = false → s.id ≠ 0) (h4 : s.del = true → s.lits.length = 0) : rightS s = (clauseB s.lits && (decide (s.hints.length ≤ 65536) && !s.hints.any (hintBad s.del))) := by
  unfold rightS
  rw [show decide (0 ≤ s.id) = true by simpa using h1, show decide (s.id ≤ 1073741824) = true by simpa using h2]
  cases hd : s.del with
  | true => rw [show decide (0 < s.lits.length) = false by simp [h4 hd]]; simp
  | false => rw [show (s.id == 0) = false by simpa using h3 hd]; simp

set_option maxRecDepth 100000 in
set_option maxHeartbeats 1000000 in
theorem stepRight (del : Bool) (id : Int) (lits hints : List Int) (LA HA : Option Addr) (Ln Lc Hn Hc : Nat) (w : World) (h : Hid (StpAt w ⟨⟨LA, Ln, Lc⟩, ⟨HA, Hn, Hc⟩⟩ ⟨del, id, lits, hints⟩)) :
    Calls Tryz.prog 16 #[.agg #[.bool del, .int .i64 id, .slice LA Ln Lc, .slice HA Hn Hc]] w fun e w' => e = .returned (.bool (rightS ⟨del, id, lits, hints⟩)) ∧ Below w.heap.size w w' := by
  have HB0 : Hid (Below w.heap.size w (w.alloc (.cells #[.bool del, .int .i64 id, .slice LA Ln Lc, .slice HA Hn Hc] 33))) := balloc (Below.refl _ _) _
  have HX0 := Lib.hid (Bk.new w 33 #[.bool del, .int .i64 id, .slice LA Ln Lc, .slice HA Hn Hc])
  have HLn := Lib.hid h.out.lits.2.1
  have HHn := Lib.hid h.out.hints.2.1
  by_cases a1 : id < 0
  · have e1 : decide (id < 0) = true := by simpa using a1
    have E := Lib.hid (right_false1 (s := ⟨del, id, lits, hints⟩) (.inl a1))
    clear a1 HLn HHn
    go_enter Tryz.func16, Tryz.ntmps16
    go_wp2
    go_ret
    exact ⟨ret_bool E.out.symm, HB0.out⟩
  by_cases a2 : 1073741824 < id
  · have e1 : decide (id < 0) = false := by simpa using a1
    have e2 : decide (1073741824 < id) = true := by simpa using a2
    have E := Lib.hid (right_false1 (s := ⟨del, id, lits, hints⟩) (.inr a2))
    clear a1 a2 HLn HHn
    go_enter Tryz.func16, Tryz.ntmps16
    go_wp2
    go_ret
    exact ⟨ret_bool E.out.symm, HB0.out⟩
  have e1 : decide (id < 0) = false := by simpa using a1
  have e2 : decide (1073741824 < id) = false := by simpa using a2
  by_cases a3 : del = false ∧ id = 0
  · have E := Lib.hid (right_false2 (s := ⟨del, id, lits, hints⟩) a3)
    obtain ⟨rfl, rfl⟩ := a3
    clear a1 a2 HLn HHn
    go_enter Tryz.func16, Tryz.ntmps16
    go_wp2
    go_ret
    exact ⟨ret_bool E.out.symm, HB0.out⟩
  by_cases a4 : del = true ∧ 0 < Ln
  · have E := Lib.hid (right_false3 (s := ⟨del, id, lits, hints⟩) ⟨a4.1, by show 0 < lits.length; have : lits.length = Ln := HLn.out; omega⟩)
    have e4 : decide ((0 : Int) < (Ln : Int)) = true := by simp; omega
    obtain ⟨rfl, _⟩ := a4
    clear a1 a2 a3 HLn HHn
    go_enter Tryz.func16, Tryz.ntmps16
    go_wp2
    go_ret
    exact ⟨ret_bool E.out.symm, HB0.out⟩
  have E := Lib.hid (right_rest (s := ⟨del, id, lits, hints⟩) (by show 0 ≤ id; omega) (by show id ≤ 1073741824; omega) (fun hd h0 => a3 ⟨hd, h0⟩) (fun hd => by
    show lits.length = 0
    have : lits.length = Ln := HLn.out
    rcases Nat.eq_zero_or_pos Ln with h0 | h0
    · omega
    · exact absurd ⟨hd, h0⟩ a4))
  dsimp only at E
  have HCR : Hid (∀ W, Below w.heap.size w W → Calls Tryz.prog 39 #[.slice LA Ln Lc] W fun e w' => e = .returned (.bool (clauseB lits)) ∧ Below W.heap.size W w') := fun W hW => clauseRight ⟨LA, Ln, Lc⟩ lits W (Lib.hid (h.out.lits.below hW))
  have HCF : Hid (∀ W g, Below w.heap.size w W → Bk W g 4 #[.bool del] → Calls Tryz.prog 40 #[.slice HA Hn Hc, .func (.func 69) #[] #[.pointer (some ⟨g, 0, none⟩)]] W fun e w' => e = .returned (.bool (hints.any (hintBad del))) ∧ Below W.heap.size W w') := fun W g hW hg =>
    containsf_int HA Hn Hc hints 69 #[.pointer (some ⟨g, 0, none⟩)] (hintBad del) W (Lib.hid (h.out.hints.below hW).1) (Lib.hid h.out.hints.2.1) (by have := h.out.hints.2.2.2; dsimp only at this; omega) ent_hintWrong (Lib.hid (fun x _ W' hW' => (hintWrong del x g W' (Lib.hid (bkbel hg hW'))).mono fun e w' ⟨he, hw⟩ => ⟨he, hw ▸ Below.refl _ _⟩))
  have hl4 : del = true → Ln = 0 := fun hd => by
    rcases Nat.eq_zero_or_pos Ln with h0 | h0
    · exact h0
    · exact absurd ⟨hd, h0⟩ a4
  have hi4 : del = false → (id == 0) = false := fun hd => by
    simp
    exact fun h0 => a3 ⟨hd, h0⟩
  have HL4 := Lib.hid hl4
  have HI4 := Lib.hid hi4
  clear a1 a2 a3 a4 hl4 hi4 HLn h
  have HHn' : hints.length = Hn := HHn.out
  have hH : decide (hints.length ≤ 65536) = decide (Hn ≤ 65536) := by rw [HHn']
  rw [hH] at E
  clear hH HHn' HHn
  cases del with
  | true =>
    have hL0 := HL4.out rfl
    subst hL0
    clear HL4 HI4
    cases hcb : clauseB lits with
    | false =>
      rw [hcb] at HCR E
      clear hcb HCF
      go_enter Tryz.func16, Tryz.ntmps16
      go_wp2_with fail
      have hpl : w.heap.size < (w.alloc (.cells #[.bool true, .int .i64 id, .slice LA 0 Lc, .slice HA Hn Hc] 33)).heap.size := HX0.out.lt
      generalize (w.alloc (.cells #[.bool true, .int .i64 id, .slice LA 0 Lc, .slice HA Hn Hc] 33)) = W0 at *
      obtain ⟨p, hp⟩ : ∃ p, p = w.heap.size := ⟨_, rfl⟩
      rw [← hp] at HX0 hpl
      rw [← hp]
      have HP := Lib.hid hp
      clear hp
      obtain ⟨q0, q1, q2, q3⟩ := cells4 HX0.out
      refine wp_region_oneq 2 (by kernel_rfl) (by kernel_rfl) ?_
      simp only [List.take_succ_cons, List.take_zero, List.drop_succ_cons, List.drop_zero]
      repeat (go_big_quiet_step (fail))
      refine wpQuiet_nil ?_
      refine wpOp_here rfl rfl (fun K hK => ?_)
      go_simp
      go_at_call 39
      refine (HCR.out _ HB0.out.drew).mono ?_
      rintro e w1 ⟨rfl, hb1⟩
      have HB1 := Lib.hid (bthen HB0.out.drew hb1)
      obtain ⟨r0, r1, r2, r3⟩ := cells4 (bkbel HX0.out.drew hb1)
      clear hb1 q0 q1 q2 q3
      refine hK _ _ ?_
      clear hK K
      try go_frame
      repeat (go_big_quiet_step (fail))
      refine wpQuiet_nil ?_
      go_wp2
      go_ret
      exact ⟨ret_bool E.out.symm, HB1.out⟩
    | true =>
      rw [hcb] at HCR E
      clear hcb
      by_cases hHn : Hn ≤ 65536
      · have e6 : decide ((Hn : Int) ≤ 65536) = true := by simp; omega
        rw [show decide (Hn ≤ 65536) = true by simpa using hHn] at E
        clear hHn
        go_enter Tryz.func16, Tryz.ntmps16
        go_wp2_with fail
        have hpl : w.heap.size < (w.alloc (.cells #[.bool true, .int .i64 id, .slice LA 0 Lc, .slice HA Hn Hc] 33)).heap.size := HX0.out.lt
        generalize (w.alloc (.cells #[.bool true, .int .i64 id, .slice LA 0 Lc, .slice HA Hn Hc] 33)) = W0 at *
        obtain ⟨p, hp⟩ : ∃ p, p = w.heap.size := ⟨_, rfl⟩
        rw [← hp] at HX0 hpl
        rw [← hp]
        have HP := Lib.hid hp
        clear hp
        obtain ⟨q0, q1, q2, q3⟩ := cells4 HX0.out
        go_region_held3 (fun w' => w'.cell? ⟨p, 0, none⟩ = some (.bool true) ∧ w'.cell? ⟨p, 1, none⟩ = some (.int .i64 id) ∧ w'.cell? ⟨p, 2, none⟩ = some (.slice LA 0 Lc) ∧ w'.cell? ⟨p, 3, none⟩ = some (.slice HA Hn Hc))
          ((refine cells4 (t := 33) (v0 := .bool true) (v1 := .int .i64 id) (v2 := .slice LA 0 Lc) (v3 := .slice HA Hn Hc) ?_ <;> (repeat (first | with_reducible exact HX0.out | with_reducible refine Bk.drew ?_ | with_reducible refine Bk.alloc ?_ _))))
          (first
            | (
              go_at_call 39
              with_reducible refine (HCR.out _ ?_).mono ?_
              · (first | with_reducible exact HB0.out | with_reducible exact HB0.out.drew)
              rintro e wI ⟨rfl, hbI⟩
              (first | with_reducible have HBn := Lib.hid (bthen HB0.out hbI) | with_reducible have HBn := Lib.hid (bthen HB0.out.drew hbI))
              (first | with_reducible have HXn := Lib.hid (bkbel HX0.out hbI) | with_reducible have HXn := Lib.hid (bkbel HX0.out.drew hbI))
              clear HB0 HX0 hbI
              have HB0 := HBn
              have HX0 := HXn
              clear HBn HXn)
            | (
              go_at_call 41
              with_reducible refine (wrongC _ _).mono ?_
              rintro e wJ ⟨rfl, rfl⟩)
            | (
              go_at_call 40
              with_reducible refine (HCF.out _ _ ?_ ?_).mono ?_
              · (repeat (first | with_reducible exact HB0.out | with_reducible refine Below.drew ?_ | with_reducible refine balloc ?_ _))
              · (repeat (first | with_reducible exact Bk.new _ _ _ | with_reducible refine Bk.drew ?_))
              rintro e wE ⟨rfl, hbE⟩
              have HBn : Hid (Below w.heap.size w wE) := Lib.hid (bthen (by (repeat (first | with_reducible exact HB0.out | with_reducible refine Below.drew ?_ | with_reducible refine balloc ?_ _))) hbE)
              have HXn : Hid (Bk wE p 33 #[.bool true, .int .i64 id, .slice LA 0 Lc, .slice HA Hn Hc]) := Lib.hid (bkbel (by (repeat (first | with_reducible exact HX0.out | with_reducible refine Bk.drew ?_ | with_reducible refine Bk.alloc ?_ _))) hbE)
              clear HB0 HX0 hbE
              have HB0 := HBn
              have HX0 := HXn
              clear HBn HXn))
        all_goals
          go_wp2
          go_ret
          exact ⟨ret_bool (by rw [E.out]; rfl), HB0.out⟩
      · have e6 : decide ((Hn : Int) ≤ 65536) = false := by simp; omega
        rw [show decide (Hn ≤ 65536) = false by simpa using hHn] at E
        clear hHn HCF
        go_enter Tryz.func16, Tryz.ntmps16
        go_wp2_with fail
        have hpl : w.heap.size < (w.alloc (.cells #[.bool true, .int .i64 id, .slice LA 0 Lc, .slice HA Hn Hc] 33)).heap.size := HX0.out.lt
        generalize (w.alloc (.cells #[.bool true, .int .i64 id, .slice LA 0 Lc, .slice HA Hn Hc] 33)) = W0 at *
        obtain ⟨p, hp⟩ : ∃ p, p = w.heap.size := ⟨_, rfl⟩
        rw [← hp] at HX0 hpl
        rw [← hp]
        have HP := Lib.hid hp
        clear hp
        obtain ⟨q0, q1, q2, q3⟩ := cells4 HX0.out
        refine wp_region_oneq 2 (by kernel_rfl) (by kernel_rfl) ?_
        simp only [List.take_succ_cons, List.take_zero, List.drop_succ_cons, List.drop_zero]
        repeat (go_big_quiet_step (fail))
        refine wpQuiet_nil ?_
        refine wpOp_here rfl rfl (fun K hK => ?_)
        go_simp
        go_at_call 39
        refine (HCR.out _ HB0.out.drew).mono ?_
        rintro e w1 ⟨rfl, hb1⟩
        have HB1 := Lib.hid (bthen HB0.out.drew hb1)
        obtain ⟨r0, r1, r2, r3⟩ := cells4 (bkbel HX0.out.drew hb1)
        clear hb1 q0 q1 q2 q3
        refine hK _ _ ?_
        clear hK K
        try go_frame
        repeat (go_big_quiet_step (fail))
        refine wpQuiet_nil ?_
        go_wp2
        go_ret
        exact ⟨ret_bool E.out.symm, HB1.out⟩
  | false =>
    have e5 := HI4.out rfl
    clear HL4 HI4
    cases hcb : clauseB lits with
    | false =>
      rw [hcb] at HCR E
      clear hcb HCF
      go_enter Tryz.func16, Tryz.ntmps16
      go_wp2_with fail
      have hpl : w.heap.size < (w.alloc (.cells #[.bool false, .int .i64 id, .slice LA Ln Lc, .slice HA Hn Hc] 33)).heap.size := HX0.out.lt
      generalize (w.alloc (.cells #[.bool false, .int .i64 id, .slice LA Ln Lc, .slice HA Hn Hc] 33)) = W0 at *
      obtain ⟨p, hp⟩ : ∃ p, p = w.heap.size := ⟨_, rfl⟩
      rw [← hp] at HX0 hpl
      rw [← hp]
      have HP := Lib.hid hp
      clear hp
      obtain ⟨q0, q1, q2, q3⟩ := cells4 HX0.out
      refine wp_region_oneq 2 (by kernel_rfl) (by kernel_rfl) ?_
      simp only [List.take_succ_cons, List.take_zero, List.drop_succ_cons, List.drop_zero]
      repeat (go_big_quiet_step (fail))
      refine wpQuiet_nil ?_
      refine wpOp_here rfl rfl (fun K hK => ?_)
      go_simp
      go_at_call 39
      refine (HCR.out _ HB0.out.drew).mono ?_
      rintro e w1 ⟨rfl, hb1⟩
      have HB1 := Lib.hid (bthen HB0.out.drew hb1)
      obtain ⟨r0, r1, r2, r3⟩ := cells4 (bkbel HX0.out.drew hb1)
      clear hb1 q0 q1 q2 q3
      refine hK _ _ ?_
      clear hK K
      try go_frame
      repeat (go_big_quiet_step (fail))
      refine wpQuiet_nil ?_
      go_wp2
      go_ret
      exact ⟨ret_bool E.out.symm, HB1.out⟩
    | true =>
      rw [hcb] at HCR E
      clear hcb
      by_cases hHn : Hn ≤ 65536
      · have e6 : decide ((Hn : Int) ≤ 65536) = true := by simp; omega
        rw [show decide (Hn ≤ 65536) = true by simpa using hHn] at E
        clear hHn
        go_enter Tryz.func16, Tryz.ntmps16
        go_wp2_with fail
        have hpl : w.heap.size < (w.alloc (.cells #[.bool false, .int .i64 id, .slice LA Ln Lc, .slice HA Hn Hc] 33)).heap.size := HX0.out.lt
        generalize (w.alloc (.cells #[.bool false, .int .i64 id, .slice LA Ln Lc, .slice HA Hn Hc] 33)) = W0 at *
        obtain ⟨p, hp⟩ : ∃ p, p = w.heap.size := ⟨_, rfl⟩
        rw [← hp] at HX0 hpl
        rw [← hp]
        have HP := Lib.hid hp
        clear hp
        obtain ⟨q0, q1, q2, q3⟩ := cells4 HX0.out
        go_region_held3 (fun w' => w'.cell? ⟨p, 0, none⟩ = some (.bool false) ∧ w'.cell? ⟨p, 1, none⟩ = some (.int .i64 id) ∧ w'.cell? ⟨p, 2, none⟩ = some (.slice LA Ln Lc) ∧ w'.cell? ⟨p, 3, none⟩ = some (.slice HA Hn Hc))
          ((refine cells4 (t := 33) (v0 := .bool false) (v1 := .int .i64 id) (v2 := .slice LA Ln Lc) (v3 := .slice HA Hn Hc) ?_ <;> (repeat (first | with_reducible exact HX0.out | with_reducible refine Bk.drew ?_ | with_reducible refine Bk.alloc ?_ _))))
          (first
            | (
              go_at_call 39
              with_reducible refine (HCR.out _ ?_).mono ?_
              · (first | with_reducible exact HB0.out | with_reducible exact HB0.out.drew)
              rintro e wI ⟨rfl, hbI⟩
              (first | with_reducible have HBn := Lib.hid (bthen HB0.out hbI) | with_reducible have HBn := Lib.hid (bthen HB0.out.drew hbI))
              (first | with_reducible have HXn := Lib.hid (bkbel HX0.out hbI) | with_reducible have HXn := Lib.hid (bkbel HX0.out.drew hbI))
              clear HB0 HX0 hbI
              have HB0 := HBn
              have HX0 := HXn
              clear HBn HXn)
            | (
              go_at_call 41
              with_reducible refine (wrongC _ _).mono ?_
              rintro e wJ ⟨rfl, rfl⟩)
            | (
              go_at_call 40
              with_reducible refine (HCF.out _ _ ?_ ?_).mono ?_
              · (repeat (first | with_reducible exact HB0.out | with_reducible refine Below.drew ?_ | with_reducible refine balloc ?_ _))
              · (repeat (first | with_reducible exact Bk.new _ _ _ | with_reducible refine Bk.drew ?_))
              rintro e wE ⟨rfl, hbE⟩
              have HBn : Hid (Below w.heap.size w wE) := Lib.hid (bthen (by (repeat (first | with_reducible exact HB0.out | with_reducible refine Below.drew ?_ | with_reducible refine balloc ?_ _))) hbE)
              have HXn : Hid (Bk wE p 33 #[.bool false, .int .i64 id, .slice LA Ln Lc, .slice HA Hn Hc]) := Lib.hid (bkbel (by (repeat (first | with_reducible exact HX0.out | with_reducible refine Bk.drew ?_ | with_reducible refine Bk.alloc ?_ _))) hbE)
              clear HB0 HX0 hbE
              have HB0 := HBn
              have HX0 := HXn
              clear HBn HXn))
        all_goals
          go_wp2
          go_ret
          exact ⟨ret_bool (by rw [E.out]; rfl), HB0.out⟩
      · have e6 : decide ((Hn : Int) ≤ 65536) = false := by simp; omega
        rw [show decide (Hn ≤ 65536) = false by simpa using hHn] at E
        clear hHn HCF
        go_enter Tryz.func16, Tryz.ntmps16
        go_wp2_with fail
        have hpl : w.heap.size < (w.alloc (.cells #[.bool false, .int .i64 id, .slice LA Ln Lc, .slice HA Hn Hc] 33)).heap.size := HX0.out.lt
        generalize (w.alloc (.cells #[.bool false, .int .i64 id, .slice LA Ln Lc, .slice HA Hn Hc] 33)) = W0 at *
        obtain ⟨p, hp⟩ : ∃ p, p = w.heap.size := ⟨_, rfl⟩
        rw [← hp] at HX0 hpl
        rw [← hp]
        have HP := Lib.hid hp
        clear hp
        obtain ⟨q0, q1, q2, q3⟩ := cells4 HX0.out
        refine wp_region_oneq 2 (by kernel_rfl) (by kernel_rfl) ?_
        simp only [List.take_succ_cons, List.take_zero, List.drop_succ_cons, List.drop_zero]
        repeat (go_big_quiet_step (fail))
        refine wpQuiet_nil ?_
        refine wpOp_here rfl rfl (fun K hK => ?_)
        go_simp
        go_at_call 39
        refine (HCR.out _ HB0.out.drew).mono ?_
        rintro e w1 ⟨rfl, hb1⟩
        have HB1 := Lib.hid (bthen HB0.out.drew hb1)
        obtain ⟨r0, r1, r2, r3⟩ := cells4 (bkbel HX0.out.drew hb1)
        clear hb1 q0 q1 q2 q3
        refine hK _ _ ?_
        clear hK K
        try go_frame
        repeat (go_big_quiet_step (fail))
        refine wpQuiet_nil ?_
        go_wp2
        go_ret
        exact ⟨ret_bool E.out.symm, HB1.out⟩
end Go.Proofs.YteglgcfbmjlnkaaGreatDoor
