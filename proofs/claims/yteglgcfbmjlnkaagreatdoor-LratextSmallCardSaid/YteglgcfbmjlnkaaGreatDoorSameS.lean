/-
  lratext.Same.
-/
import Derived.Test.YteglgcfbmjlnkaaGreatDoorCheck
set_option linter.unusedVariables false
set_option linter.unusedSimpArgs false
namespace Go.Proofs.YteglgcfbmjlnkaaGreatDoor
open Go.RowKit

theorem below_drew {w w' : World} (m : Nat) (h : w.drewN m = w') : Below w.heap.size w w' := by
  subst h
  exact ⟨rfl, rfl, rfl, Nat.le_refl _, fun _ _ => rfl⟩
theorem stp_ne1 {s t : Stp} (h : s.del ≠ t.del) : decide (s = t) = false := decide_eq_false (fun e => h (by rw [e]))
theorem stp_ne2 {s t : Stp} (h : s.id ≠ t.id) : decide (s = t) = false := decide_eq_false (fun e => h (by rw [e]))
theorem stp_ne3 {s t : Stp} (h : s.lits ≠ t.lits) : decide (s = t) = false := decide_eq_false (fun e => h (by rw [e]))
theorem stp_eq4 (d : Bool) (i : Int) (l h h' : List Int) : decide ((⟨d, i, l, h⟩ : Stp) = ⟨d, i, l, h'⟩) = decide (h = h') := by
  by_cases e : h = h'
  · subst e; simp
  · simp [e]
set_option maxRecDepth 100000 in
set_option maxHeartbeats 1000000 in
theorem sameOne (d1 d2 : Bool) (i1 i2 : Int) (l1 l2 h1 h2 : List Int) (LA1 HA1 LA2 HA2 : Option Addr) (Ln1 Lc1 Hn1 Hc1 Ln2 Lc2 Hn2 Hc2 : Nat) (w : World) (H1 : Hid (StpAt w ⟨⟨LA1, Ln1, Lc1⟩, ⟨HA1, Hn1, Hc1⟩⟩ ⟨d1, i1, l1, h1⟩)) (H2 : Hid (StpAt w ⟨⟨LA2, Ln2, Lc2⟩, ⟨HA2, Hn2, Hc2⟩⟩ ⟨d2, i2, l2, h2⟩)) :
    Calls Tryz.prog 50 #[.agg #[.bool d1, .int .i64 i1, .slice LA1 Ln1 Lc1, .slice HA1 Hn1 Hc1], .agg #[.bool d2, .int .i64 i2, .slice LA2 Ln2 Lc2, .slice HA2 Hn2 Hc2]] w fun e w' => e = .returned (.bool (decide ((⟨d1, i1, l1, h1⟩ : Stp) = ⟨d2, i2, l2, h2⟩))) ∧ Below w.heap.size w w' := by
  have HX1 := Lib.hid ((Bk.new w 33 #[.bool d1, .int .i64 i1, .slice LA1 Ln1 Lc1, .slice HA1 Hn1 Hc1]).alloc (.cells #[.bool d2, .int .i64 i2, .slice LA2 Ln2 Lc2, .slice HA2 Hn2 Hc2] 33))
  have hx2 := Bk.new (w.alloc (.cells #[.bool d1, .int .i64 i1, .slice LA1 Ln1 Lc1, .slice HA1 Hn1 Hc1] 33)) 33 #[.bool d2, .int .i64 i2, .slice LA2 Ln2 Lc2, .slice HA2 Hn2 Hc2]
  rw [World.size_alloc] at hx2
  have HX2 := Lib.hid hx2
  have HB0 : Hid (Below w.heap.size w ((w.alloc (.cells #[.bool d1, .int .i64 i1, .slice LA1 Ln1 Lc1, .slice HA1 Hn1 Hc1] 33)).alloc (.cells #[.bool d2, .int .i64 i2, .slice LA2 Ln2 Lc2, .slice HA2 Hn2 Hc2] 33))) := balloc (balloc (Below.refl _ _) _) _
  clear hx2
  have hend : ∀ b, decide ((⟨d1, i1, l1, h1⟩ : Stp) = ⟨d2, i2, l2, h2⟩) = b → Hid (decide ((⟨d1, i1, l1, h1⟩ : Stp) = ⟨d2, i2, l2, h2⟩) = b) := fun b h => h
  by_cases c1 : d1 = d2
  · subst c1
    have k1 : (d1 == d1) = true := by simp
    by_cases c2 : i1 = i2
    · subst c2
      have k2 : (i1 == i1) = true := by simp
      by_cases c3 : l1 = l2
      · subst c3
        have E := hend _ (stp_eq4 d1 i1 l1 h1 h2)
        clear hend
        rw [E.out]
        clear E
        go_enter Tryz.func50, Tryz.ntmps50
        go_upto_region 1 with fail
        generalize ((w.alloc (.cells #[.bool d1, .int .i64 i1, .slice LA1 Ln1 Lc1, .slice HA1 Hn1 Hc1] 33)).alloc (.cells #[.bool d1, .int .i64 i1, .slice LA2 Ln2 Lc2, .slice HA2 Hn2 Hc2] 33)) = W at *
        obtain ⟨x0, x1, x2, x3⟩ := cells4 HX1.out
        obtain ⟨y0, y1, y2, y3⟩ := cells4 HX2.out
        go_wp2_with fail
        refine (equal_lit LA1 LA2 l1 l1 Ln1 Ln2 Lc1 Lc2 W (Lib.hid (H1.out.lits.1.below HB0.out)) (Lib.hid (H2.out.lits.1.below HB0.out)) (Lib.hid H1.out.lits.2.1) (Lib.hid H2.out.lits.2.1) (by have := H1.out.lits.2.2.2; dsimp only at this; omega)).mono ?_
        rintro e w1 ⟨rfl, m, hm⟩
        have hb1 := below_drew m hm
        have HB1 := Lib.hid (bthen HB0.out hb1)
        rw [decide_eq_true rfl]
        obtain ⟨z0, z1, z2, z3⟩ := cells4 (bkbel HX1.out hb1)
        obtain ⟨u0, u1, u2, u3⟩ := cells4 (bkbel HX2.out hb1)
        clear hm hb1 x0 x1 x2 x3 y0 y1 y2 y3
        go_wp2_with fail
        refine (equal_int HA1 HA2 h1 h2 Hn1 Hn2 Hc1 Hc2 w1 (Lib.hid (H1.out.hints.1.below HB1.out)) (Lib.hid (H2.out.hints.1.below HB1.out)) (Lib.hid H1.out.hints.2.1) (Lib.hid H2.out.hints.2.1) (by have := H1.out.hints.2.2.2; dsimp only at this; omega)).mono ?_
        rintro e w2 ⟨rfl, m2, hm⟩
        have HB2 := Lib.hid (bthen HB1.out (below_drew m2 hm))
        clear hm
        go_wp2
        go_ret
        exact ⟨rfl, HB2.out⟩
      · have E := hend _ (stp_ne3 (s := ⟨d1, i1, l1, h1⟩) (t := ⟨d1, i1, l2, h2⟩) c3)
        clear hend
        rw [E.out]
        clear E
        go_enter Tryz.func50, Tryz.ntmps50
        go_upto_region 1 with fail
        generalize ((w.alloc (.cells #[.bool d1, .int .i64 i1, .slice LA1 Ln1 Lc1, .slice HA1 Hn1 Hc1] 33)).alloc (.cells #[.bool d1, .int .i64 i1, .slice LA2 Ln2 Lc2, .slice HA2 Hn2 Hc2] 33)) = W at *
        obtain ⟨x0, x1, x2, x3⟩ := cells4 HX1.out
        obtain ⟨y0, y1, y2, y3⟩ := cells4 HX2.out
        go_wp2_with fail
        refine (equal_lit LA1 LA2 l1 l2 Ln1 Ln2 Lc1 Lc2 W (Lib.hid (H1.out.lits.1.below HB0.out)) (Lib.hid (H2.out.lits.1.below HB0.out)) (Lib.hid H1.out.lits.2.1) (Lib.hid H2.out.lits.2.1) (by have := H1.out.lits.2.2.2; dsimp only at this; omega)).mono ?_
        rintro e w1 ⟨rfl, m, hm⟩
        have HB1 := Lib.hid (bthen HB0.out (below_drew m hm))
        rw [decide_eq_false c3]
        clear hm x0 x1 x2 x3 y0 y1 y2 y3
        go_wp2
        go_ret
        exact ⟨rfl, HB1.out⟩
    · have k2 : (i1 == i2) = false := by simpa using c2
      have E := hend _ (stp_ne2 (s := ⟨d1, i1, l1, h1⟩) (t := ⟨d1, i2, l2, h2⟩) c2)
      clear hend c2
      rw [E.out]
      clear E
      go_enter Tryz.func50, Tryz.ntmps50
      go_upto_region 1 with fail
      generalize ((w.alloc (.cells #[.bool d1, .int .i64 i1, .slice LA1 Ln1 Lc1, .slice HA1 Hn1 Hc1] 33)).alloc (.cells #[.bool d1, .int .i64 i2, .slice LA2 Ln2 Lc2, .slice HA2 Hn2 Hc2] 33)) = W at *
      obtain ⟨x0, x1, x2, x3⟩ := cells4 HX1.out
      obtain ⟨y0, y1, y2, y3⟩ := cells4 HX2.out
      go_wp2
      go_ret
      exact ⟨rfl, HB0.out⟩
  · have k1 : (d1 == d2) = false := by simpa using c1
    have E := hend _ (stp_ne1 (s := ⟨d1, i1, l1, h1⟩) (t := ⟨d2, i2, l2, h2⟩) c1)
    clear hend c1
    rw [E.out]
    clear E
    go_enter Tryz.func50, Tryz.ntmps50
    go_upto_region 1 with fail
    generalize ((w.alloc (.cells #[.bool d1, .int .i64 i1, .slice LA1 Ln1 Lc1, .slice HA1 Hn1 Hc1] 33)).alloc (.cells #[.bool d2, .int .i64 i2, .slice LA2 Ln2 Lc2, .slice HA2 Hn2 Hc2] 33)) = W at *
    obtain ⟨x0, x1, x2, x3⟩ := cells4 HX1.out
    obtain ⟨y0, y1, y2, y3⟩ := cells4 HX2.out
    go_wp2
    go_ret
    exact ⟨rfl, HB0.out⟩
theorem ent_same : Ent Tryz.prog 50 := Ent.of Tryz.func50 (by kernel_rfl) (by kernel_rfl)
set_option maxRecDepth 100000 in
set_option maxHeartbeats 1000000 in
theorem eqSteps (A1 A2 : Option Addr) (L1 L2 : List (StV × Stp)) (n1 n2 c1 c2 : Nat) (w : World) (H1 : Hid (StepsAt w A1 n1 L1)) (H2 : Hid (StepsAt w A2 n2 L2)) :
    Calls Tryz.prog 49 #[.slice A1 n1 c1, .slice A2 n2 c2, .func (.func 50) #[] #[]] w fun e w' => e = .returned (.bool (decide (L1.map (·.2) = L2.map (·.2)))) ∧ Below w.heap.size w w' := by
  have hent : ∀ (args : Array Value) (W : World), (callFunc 50 args).run Tryz.prog W = .ok (.enter 50 args) W := ent_same
  have hn1 : n1 ≤ 100000000 := H1.out.small
  have hn2 : n2 ≤ 100000000 := H2.out.small
  by_cases hn : n1 = n2
  · subst hn
    have hd : ((n1 : Int) != (n1 : Int)) = false := by simp
    go_enter Tryz.func49, Tryz.ntmps49
    go_wp2_with fail
    go_loopw [17] (fun i wr => ∃ (k : Nat), k ≤ n1 ∧ i = .int .i64 k ∧ Hid ((L1.map (·.2)).take k = (L2.map (·.2)).take k) ∧ Hid (Below w.heap.size w wr)) (fun i _ => n1 - (intOf i).toNat)
    case atStart => exact ⟨0, Nat.zero_le _, rfl, rfl, Below.refl _ _⟩
    case round =>
      obtain ⟨k, hk, rfl, HE, HB⟩ := hrel
      by_cases hlt : k < n1
      · obtain ⟨b1, o1, LA1, HA1, Ln1, Lc1, Hn1, Hc1, d1, i1, l1, h1, rfl, hx1, hbl1, p0, p1, p2, p3⟩ := (H1.out.rd.below HB.out).stp H1.out.len hlt
        obtain ⟨b2, o2, LA2, HA2, Ln2, Lc2, Hn2, Hc2, d2, i2, l2, h2, rfl, hx2, hbl2, q0, q1, q2, q3⟩ := (H2.out.rd.below HB.out).stp H2.out.len hlt
        have HS1 := Lib.hid ((H1.out.all k _ _ hx1).below HB.out)
        have HS2 := Lib.hid ((H2.out.all k _ _ hx2).below HB.out)
        have HX1 : Hid ((L1.map (·.2))[k]? = some ⟨d1, i1, l1, h1⟩) := by show _ = _; rw [List.getElem?_map, hx1]; rfl
        have HX2 : Hid ((L2.map (·.2))[k]? = some ⟨d2, i2, l2, h2⟩) := by show _ = _; rw [List.getElem?_map, hx2]; rfl
        clear hx1 hx2
        have HB0 : Hid (Below wr.heap.size wr ((wr.alloc (.cells #[.bool d1, .int .i64 i1, .slice LA1 Ln1 Lc1, .slice HA1 Hn1 Hc1] 33)).alloc (.cells #[.bool d2, .int .i64 i2, .slice LA2 Ln2 Lc2, .slice HA2 Hn2 Hc2] 33))) := balloc (balloc (Below.refl _ _) _) _
        by_cases hs : (⟨d1, i1, l1, h1⟩ : Stp) = ⟨d2, i2, l2, h2⟩
        · go_wp2_with fail
          refine (sameOne d1 d2 i1 i2 l1 l2 h1 h2 LA1 HA1 LA2 HA2 Ln1 Lc1 Hn1 Hc1 Ln2 Lc2 Hn2 Hc2 _ (Lib.hid (HS1.out.below HB0.out)) (Lib.hid (HS2.out.below HB0.out))).mono ?_
          rintro e w1 ⟨rfl, hb⟩
          rw [decide_eq_true hs]
          have HB1 := Lib.hid (bthen (bthen HB.out HB0.out) hb)
          have HSS := Lib.hid hs
          clear hb hs
          go_wp2
          go_roundw
          case rel => exact ⟨k + 1, by omega, by go_num, take_eq_succ HX1.out (by rw [HSS.out]; exact HX2.out) HE.out, HB1⟩
          case measure => simp [intOf]; omega
        · go_wp2_with fail
          refine (sameOne d1 d2 i1 i2 l1 l2 h1 h2 LA1 HA1 LA2 HA2 Ln1 Lc1 Hn1 Hc1 Ln2 Lc2 Hn2 Hc2 _ (Lib.hid (HS1.out.below HB0.out)) (Lib.hid (HS2.out.below HB0.out))).mono ?_
          rintro e w1 ⟨rfl, hb⟩
          rw [decide_eq_false hs]
          have HB1 := Lib.hid (bthen (bthen HB.out HB0.out) hb)
          have HSS := Lib.hid hs
          clear hb hs
          go_wp2
          go_ret
          refine ⟨ret_bool ?_, HB1.out⟩
          rw [eq_comm, decide_eq_false_iff_not]
          intro he
          have h1 := HX1.out
          rw [he, HX2.out] at h1
          exact HSS.out (Option.some.inj h1).symm
      · go_wp2
        go_ret
        refine ⟨ret_bool ?_, HB.out⟩
        rw [eq_comm, decide_eq_true_iff]
        have h := HE.out
        rwa [List.take_of_length_le (by rw [List.length_map, H1.out.len]; omega), List.take_of_length_le (by rw [List.length_map, H2.out.len]; omega)] at h
  · have hd : ((n1 : Int) != (n2 : Int)) = true := by simp; omega
    have E : Hid (decide (L1.map (·.2) = L2.map (·.2)) = false) := decide_eq_false (fun e => hn (by
      have h := congrArg List.length e
      rw [List.length_map, List.length_map, H1.out.len, H2.out.len] at h
      exact h))
    clear hn
    rw [E.out]
    go_enter Tryz.func49, Tryz.ntmps49
    go_wp2
    go_ret
    exact ⟨rfl, Below.refl _ _⟩
set_option maxRecDepth 100000 in
theorem sameC (A1 A2 : Option Addr) (L1 L2 : List (StV × Stp)) (n1 n2 c1 c2 : Nat) (w : World) (H1 : Hid (StepsAt w A1 n1 L1)) (H2 : Hid (StepsAt w A2 n2 L2)) :
    Calls Tryz.prog 20 #[.slice A1 n1 c1, .slice A2 n2 c2] w fun e w' => e = .returned (.bool (decide (L1.map (·.2) = L2.map (·.2)))) ∧ Below w.heap.size w w' := by
  go_enter Tryz.func20, Tryz.ntmps20
  go_wp2_with fail
  refine (eqSteps A1 A2 L1 L2 n1 n2 c1 c2 w H1 H2).mono ?_
  rintro e w1 ⟨rfl, hb⟩
  have HB := Lib.hid hb
  clear hb
  go_wp2
  go_ret
  exact ⟨rfl, HB.out⟩
end Go.Proofs.YteglgcfbmjlnkaaGreatDoor
