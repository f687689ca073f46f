/-
  Theirs: steps as those of the reference.
-/
import Derived.Test.YteglgcfbmjlnkaaGreatDoorEqualQ
import Derived.Test.YteglgcfbmjlnkaaGreatDoorCopy
import Derived.Deep.AppendLies
set_option linter.unusedVariables false
set_option linter.unusedSimpArgs false
namespace Go.Proofs.YteglgcfbmjlnkaaGreatDoor
open Go.RowKit

theorem el_stepQ : El Tryz.prog 47 59 4 := El.mk' (z := .agg #[.bool false, .int .i64 0, .slice none 0 0, .slice none 0 0]) (bytes := 64) Tryz.underlying47 (by kernel_rfl) rfl (by omega) (by omega)
theorem le_alloc (w : World) (o : Obj) : w.heap.size ≤ (w.alloc o).heap.size := by simp
/-- The step s lies at v, in rows of a call's own, of numbers. -/
structure StpR (w : World) (v : StV) (s : Stp) : Prop where
  at' : StpAt w v s
  lt : RdT w v.L.A 3 (s.lits.map (Value.int .i64))
  ht : RdT w v.H.A 3 (s.hints.map (Value.int .i64))
theorem StpR.below {w w' : World} {v : StV} {s : Stp} (h : StpR w v s) (hb : Below w.heap.size w w') : StpR w' v s := ⟨h.at'.below hb, h.lt.below hb, h.ht.below hb⟩
theorem StpR.grown {w w' : World} {v : StV} {s : Stp} {base n : Nat} {u : Value} {ys : List Value} (h : StpR w v s) (ho : w.ownsRow base 59 4 u n ys) (hg : w.grownBy w' u.ownBlock) : StpR w' v s :=
  have h1 := h.lt.grown ho (by decide) hg
  have h2 := h.ht.grown ho (by decide) hg
  ⟨⟨h.at'.id, ⟨h1.rd, h.at'.lits.2⟩, ⟨h2.rd, h.at'.hints.2⟩⟩, h1, h2⟩
def TheirsPost (w : World) (n : Nat) (L : List (StV × Stp)) (e : Ending) (w' : World) : Prop :=
  ∃ A' c' P, e = .returned (.slice A' n c') ∧ w'.ownsRow w.heap.size 59 4 (.slice A' n c') n (scells P) ∧ P.map (·.2) = L.map (·.2) ∧ P.length = n ∧ (∀ p ∈ P, StpR w' p.1 p.2) ∧ Below w.heap.size w w'
set_option maxHeartbeats 4000000 in
set_option maxRecDepth 100000 in
theorem theirsC (A : Option Addr) (n c : Nat) (L : List (StV × Stp)) (w : World) (h : Hid (StepsAt w A n L)) :
    Calls Tryz.prog 17 #[.slice A n c] w (TheirsPost w n L) := by
  have hn : n ≤ 100000000 := h.out.small
  go_enter Tryz.func17, Tryz.ntmps17
  go_wp2_with fail
  go_loopw [3, 8] (fun v3 v8 wr => ∃ (k : Nat) (P : List (StV × Stp)) (A1 : Option Addr) (c1 : Nat), k ≤ n ∧ v8 = .int .i64 k ∧ v3 = .slice A1 k c1 ∧ Hid (P.length = k) ∧ Hid (wr.ownsRow w.heap.size 59 4 (.slice A1 k c1) k (scells P)) ∧ Hid (P.map (·.2) = (L.map (·.2)).take k) ∧ Hid (∀ p ∈ P, StpR wr p.1 p.2) ∧ Hid (Below w.heap.size w wr)) (fun _ v8 _ => n - (intOf v8).toNat)
  case atStart => exact ⟨0, [], none, 0, Nat.zero_le _, rfl, rfl, rfl, World.ownsRow_nil _ _ _ _, rfl, Lib.hid (fun p hp => by cases hp), Below.refl _ _⟩
  case round =>
    obtain ⟨k, P, A1, c1, hk, rfl, rfl, HL, HO, HM, HT, HB⟩ := hrel
    have hki : ∀ b : Bool, decide (k < n) = b → decide ((k : Int) < (n : Int)) = b := fun b hb => by rw [← hb]; exact decide_eq_decide.2 (by omega)
    by_cases hlt : k < n
    · have e1 := hki true (decide_eq_true hlt)
      clear hki
      obtain ⟨b, off, LA, HA, Ln, Lc, Hn, Hc, del, id, lits, hints, rfl, hx, hbl, p0, p1, p2, p3⟩ := (h.out.rd.below HB.out).stp h.out.len hlt
      have HS := Lib.hid ((h.out.all k _ _ hx).below HB.out)
      have HX := Lib.hid hx
      have hki : (k : Int) < (n : Int) := by omega
      have hL1 : Ln ≤ 100000000 := HS.out.lits.2.2.2
      have hH1 : Hn ≤ 100000000 := HS.out.hints.2.2.2
      have HX0 := Lib.hid (Bk.new wr 33 #[.bool del, .int .i64 id, .slice LA Ln Lc, .slice HA Hn Hc])
      have HBa : Hid (Below wr.heap.size wr (wr.alloc (.cells #[.bool del, .int .i64 id, .slice LA Ln Lc, .slice HA Hn Hc] 33))) := balloc (Below.refl _ _) _
      clear hx
      go_upto_region 5 with fail
      have HO0 := Lib.hid (HO.out.alloc (.cells #[.bool del, .int .i64 id, .slice LA Ln Lc, .slice HA Hn Hc] 33))
      have HS0 := Lib.hid (HS.out.below HBa.out)
      have HT0 := Lib.hid (fun p hp => (HT.out p hp).below HBa.out)
      have HB0 := Lib.hid (HB.out.trans (HBa.out.mono HB.out.size))
      clear HO HS HT HB HBa p0 p1 p2 p3
      generalize (wr.alloc (.cells #[.bool del, .int .i64 id, .slice LA Ln Lc, .slice HA Hn Hc] 33)) = W0 at *
      generalize wr.heap.size = p at *
      obtain ⟨x0, x1, x2, x3⟩ := cells4 HX0.out
      have HBX := HX0
      have HCL : Hid (∀ (w1 : World), Hid (Below W0.drew.heap.size W0.drew w1) → Calls Tryz.prog 43 #[.slice HA Hn Hc] w1 fun e w' => ∃ A' c', e = .returned (.slice A' Hn c') ∧ w'.ownsRow w1.heap.size 3 1 (.slice A' Hn c') Hn (hints.map (Value.int .i64)) ∧ Below w1.heap.size w1 w') := fun w1 hb5 =>
        clone_int HA Hn Hc _ w1 (Lib.hid ((Rd.drew HS0.out.hints.1).below hb5.out)) (Lib.hid (by rw [List.length_map]; exact HS0.out.hints.2.1)) (Lib.hid (one_ints _ _)) (by omega)
      have hone : ∀ (a1 a2 : Option Addr) (d1 d2 : Nat), ∀ u ∈ [Value.bool del, .int .i64 id, .slice a1 Ln d1, .slice a2 Hn d2], u.oneCell' = true := fun a1 a2 d1 d2 u hu => by
        simp only [List.mem_cons, List.not_mem_nil, or_false] at hu
        rcases hu with rfl | rfl | rfl | rfl <;> rfl
      have HONE := Lib.hid hone
      have hk1 : k + 1 ≤ 1000000000 := by omega
      have hne59 : (59 : Nat) ≠ 33 := by decide
      clear hone
      go_region_held3 (fun w' => w'.cell? ⟨p, 0, none⟩ = some (.bool del) ∧ w'.cell? ⟨p, 1, none⟩ = some (.int .i64 id) ∧ w'.cell? ⟨p, 2, none⟩ = some (.slice LA Ln Lc) ∧ w'.cell? ⟨p, 3, none⟩ = some (.slice HA Hn Hc))
        ((first | exact ⟨HBX.out.cell 0, HBX.out.cell 1, HBX.out.cell 2, HBX.out.cell 3⟩ | exact ⟨(HBX.out.alloc _).cell 0, (HBX.out.alloc _).cell 1, (HBX.out.alloc _).cell 2, (HBX.out.alloc _).cell 3⟩))
        (first
          | (go_at_call 42
             refine (intsC LA Ln Lc lits _ (Lib.hid (Rd.drew HS0.out.lits.1)) (Lib.hid HS0.out.lits.2.1) hL1).mono ?_
             rintro e w1 ⟨A5, c5, rfl, ho5, hb5⟩
             have HO5 := Lib.hid ho5
             have HB5 := Lib.hid hb5
             have HBX' := Lib.hid (HBX.out.drew.below hb5 HBX.out.lt)
             clear HBX
             have HBX := HBX'
             clear HBX' ho5 hb5)
          | (go_at_call 43
             with_reducible refine (HCL.out _ HB5).mono ?_
             rintro e w2 ⟨A6, c6, rfl, ho6, hb6⟩
             have HO6 := Lib.hid ho6
             have HB6 := Lib.hid hb6
             have HBX' := Lib.hid (bkbel HBX.out hb6)
             have HR6 := Lib.hid (own_fr (F := fun _ => False) HO0.out.drew (Fr.of_below (bthen HB5.out hb6)) (fun _ _ h => h))
             have HA6 := Lib.hid (HR6.out.alloc (.cells #[.bool del, .int .i64 id, .slice A5 Ln c5, .slice A6 Hn c6] 59))
             have HRD6 := Lib.hid (Rd.new w2 #[.bool del, .int .i64 id, .slice A5 Ln c5, .slice A6 Hn c6] 59)
             have HLE6 := Lib.hid (Nat.le_trans HB0.out.size (Nat.le_trans HB5.out.size (Nat.le_trans hb6.size (le_alloc w2 (.cells #[.bool del, .int .i64 id, .slice A5 Ln c5, .slice A6 Hn c6] 59)))))
             have HBA6 := Lib.hid ((bkbel HBX.out hb6).alloc (.cells #[.bool del, .int .i64 id, .slice A5 Ln c5, .slice A6 Hn c6] 59))
             clear HBX
             have HBX := HBX'
             clear HBX' ho6 hb6)
          | (refine step_app el_stepQ rfl (.tmp 12) (.tmp 24) rfl w.heap.size (.slice A1 k c1) k (scells P) rfl ?_ (some ⟨w2.heap.size, 0, none⟩) 1 1 [.bool del, .int .i64 id, .slice A5 Ln c5, .slice A6 Hn c6] rfl ?_ rfl (HONE.out A5 A6 c5 c6) hk1 ?_ ?_
             · exact HA6.out
             · exact HRD6.out
             · exact HLE6.out
             intro A7 c7 w3 ho7 hg7 hat7
             have HO7 := Lib.hid ho7
             have HG7 := Lib.hid hg7
             have HBX' := Lib.hid (Bk.grown HBA6.out hg7 (own_ne HA6.out HBA6.out hne59))
             clear HBX
             have HBX := HBX'
             clear HBX' ho7 hg7 hat7))
      have HBW : Hid (Below W0.heap.size W0 w2) := bthen (Below.refl _ _).drew (bthen HB5.out HB6.out)
      have hr5 := (RdT.of_own HO5.out).below HB6.out
      have hr6 := RdT.of_own HO6.out
      have HNEW : Hid (StpR w3 ⟨⟨A5, Ln, c5⟩, ⟨A6, Hn, c6⟩⟩ ⟨del, id, lits, hints⟩) := StpR.grown (StpR.below ⟨⟨HS0.out.id, ⟨hr5.rd, HS0.out.lits.2⟩, ⟨hr6.rd, HS0.out.hints.2⟩⟩, hr5, hr6⟩ (balloc (Below.refl _ _) _)) HA6.out HG7.out
      have HOLD : Hid (∀ q ∈ P, StpR w3 q.1 q.2) := fun q hq => StpR.grown (((HT0.out q hq).below HBW.out).below (balloc (Below.refl _ _) _)) HA6.out HG7.out
      have HBN : Hid (Below w.heap.size w w3) := own_step4 (HB0.out.trans (HBW.out.mono HB0.out.size)) HR6.out HG7.out
      clear hr5 hr6 HBX HO5 HO6 HR6 HA6 HRD6 HLE6 HBA6 HG7 HX0 x0 x1 x2 x3 HCL HONE
      go_wp2_with fail
      go_roundw
      case rel =>
        refine ⟨k + 1, P ++ ([(⟨⟨A5, Ln, c5⟩, ⟨A6, Hn, c6⟩⟩, ⟨del, id, lits, hints⟩)] : List (StV × Stp)), A7, c7, by omega, by go_num, rfl, ?_, ?_, ?_, ?_, HBN⟩
        · show _ = _
          rw [List.length_append, HL.out]
          rfl
        · show World.ownsRow _ _ _ _ _ _ _
          rw [scells_snoc]
          exact HO7.out
        · show _ = _
          rw [List.map_append, HM.out, take_snoc (x := (⟨del, id, lits, hints⟩ : Stp)) (by rw [List.getElem?_map, HX.out]; rfl)]
          rfl
        · intro q hq
          rcases List.mem_append.1 hq with hq | hq
          · exact HOLD.out q hq
          · obtain rfl := List.mem_singleton.1 hq
            exact HNEW.out
      case measure => simp [intOf]; omega
    · have e1 := hki false (decide_eq_false hlt)
      clear hki
      obtain rfl : k = n := by omega
      have hm := HM.out
      rw [List.take_of_length_le (by rw [List.length_map, h.out.len]; exact Nat.le_refl _)] at hm
      have HM2 := Lib.hid hm
      clear hm HM
      go_wp2
      go_ret
      exact ⟨A1, c1, P, rfl, HO.out, HM2.out, HL.out, HT.out, HB.out⟩
end Go.Proofs.YteglgcfbmjlnkaaGreatDoor
