/-
  formula.Check, Same, dimacs.Write, Canonical's parts.
-/
import Derived.Test.YtkpcpclaadgnbaaGreatDoorFmL
set_option linter.unusedVariables false
set_option linter.unusedSimpArgs false
namespace Go.Proofs.YtkpcpclaadgnbaaGreatDoor
open Go.RowKit Go.PlainAid

theorem beyondMk (v : Int) (w : World) : Calls Tryz.prog 61 #[.int .i64 v] w fun e w' => e = .returned (.func (.func 94) #[] #[.pointer (some ⟨w.heap.size, 0, none⟩)]) ∧ w.alloc (.cells #[.int .i64 v] 3) = w' := by
  go_enter Tryz.func61, Tryz.ntmps61
  go_wp2
  go_ret
  exact ⟨rfl, rfl⟩
theorem checkG_drop {v : Int} {k : Nat} {cls : List (List Int)} {c : List Int} (h : cls[k]? = some c) : checkG v k (cls.drop k) = if clauseB c then (if c.any (fun l => !litIn v l) then ((k : Int), 51) else checkG v (k + 1) (cls.drop (k + 1))) else ((k : Int), 20) := by
  have hd : cls.drop k = c :: cls.drop (k + 1) := by
    obtain ⟨hk', he⟩ := List.getElem?_eq_some_iff.1 h
    rw [← he, List.drop_eq_getElem_cons hk']
  rw [hd]
  rfl
set_option maxRecDepth 100000 in
set_option maxHeartbeats 1000000 in
theorem checkDC (v : Int) (A : Option Addr) (n c : Nat) (Q : List (SV × List Int)) (w : World) (h : Hid (ClsAt w A n Q)) :
    Calls Tryz.prog 20 #[.agg #[.int .i64 v, .slice A n c]] w fun e w' => e = .returned (.tuple #[.int .i64 (checkD ⟨v, clsOf Q⟩).1, .int .i64 (checkD ⟨v, clsOf Q⟩).2]) ∧ Below w.heap.size w w' := by
  have hn : n ≤ 100000000 := h.out.small
  have hlen : (clsOf Q).length = n := by rw [clsOf_len]; exact h.out.len
  have HX := Lib.hid (Bk.new w 24 #[.int .i64 v, .slice A n c])
  have HB0 : Hid (Below w.heap.size w (w.alloc (.cells #[.int .i64 v, .slice A n c] 24))) := balloc (Below.refl _ _) _
  obtain ⟨C, hC⟩ : ∃ C, clsOf Q = C := ⟨_, rfl⟩
  rw [hC] at hlen ⊢
  have HC := Lib.hid hC
  have HLE := Lib.hid hlen
  clear hC hlen
  by_cases hv : 0 ≤ v ∧ v ≤ 1048576
  rotate_left
  · have hvb : (decide (0 ≤ v) && decide (v ≤ 1048576)) = false := by
      cases hq : (decide (0 ≤ v) && decide (v ≤ 1048576)) with
      | false => rfl
      | true => simp only [Bool.and_eq_true, decide_eq_true_eq] at hq; exact absurd hq hv
    have E : Hid (checkD ⟨v, C⟩ = (-1, 50)) := by show _ = _; unfold checkD; rw [if_pos (by show v < 0 ∨ 1048576 < v; omega)]
    clear hv
    go_enter Tryz.func20, Tryz.ntmps20
    go_upto_region 1 with fail
    generalize (w.alloc (.cells #[.int .i64 v, .slice A n c] 24)) = W0 at *
    obtain ⟨x0, x1⟩ := cells2 HX.out
    go_wp2_with fail
    refine (varsC v W0).mono ?_
    rintro e w1 ⟨rfl, rfl⟩
    rw [hvb]
    go_wp2
    go_ret2
    exact ⟨by rw [E.out]; rfl, HB0.out⟩
  · have hvb : (decide (0 ≤ v) && decide (v ≤ 1048576)) = true := by simp [hv]
    by_cases hbig : 262144 < n
    · have e1 : decide ((262144 : Int) < (n : Int)) = true := by simp; omega
      have E : Hid (checkD ⟨v, C⟩ = (-1, 5)) := by
        show _ = _
        unfold checkD
        rw [if_neg (by show ¬ (v < 0 ∨ 1048576 < v); omega), if_pos (by show 262144 < C.length; rw [HLE.out]; exact hbig)]
      clear hv hbig
      go_enter Tryz.func20, Tryz.ntmps20
      go_upto_region 1 with fail
      generalize (w.alloc (.cells #[.int .i64 v, .slice A n c] 24)) = W0 at *
      obtain ⟨x0, x1⟩ := cells2 HX.out
      go_wp2_with fail
      refine (varsC v W0).mono ?_
      rintro e w1 ⟨rfl, rfl⟩
      rw [hvb]
      go_wp2
      go_ret2
      exact ⟨by rw [E.out]; rfl, HB0.out⟩
    · have e1 : decide ((262144 : Int) < (n : Int)) = false := by simp; omega
      have E : Hid (checkD ⟨v, C⟩ = checkG v 0 C) := by
        show _ = _
        unfold checkD
        rw [if_neg (by show ¬ (v < 0 ∨ 1048576 < v); omega), if_neg (by show ¬ 262144 < C.length; rw [HLE.out]; exact hbig)]
      clear hv hbig
      go_enter Tryz.func20, Tryz.ntmps20
      go_upto_region 1 with fail
      generalize (w.alloc (.cells #[.int .i64 v, .slice A n c] 24)) = W0 at *
      obtain ⟨p, hp⟩ : ∃ p, w.heap.size = p := ⟨_, rfl⟩
      rw [hp] at HX ⊢
      have HP := Lib.hid hp
      clear hp
      obtain ⟨x0, x1⟩ := cells2 HX.out
      go_wp2_with fail
      refine (varsC v W0).mono ?_
      rintro e w1 ⟨rfl, rfl⟩
      rw [hvb]
      go_upto_region 6 with fail
      clear x0 x1
      go_loopw [19] (fun v19 wr => ∃ (k : Nat), k ≤ n ∧ v19 = .int .i64 k ∧ Hid (checkG v 0 C = checkG v k (C.drop k)) ∧ Hid (Below W0.heap.size W0 wr)) (fun v19 _ => n - (intOf v19).toNat)
      case atStart => exact ⟨0, Nat.zero_le _, rfl, rfl, Below.refl _ _⟩
      case round =>
        obtain ⟨k, hk, rfl, HG, HB⟩ := hrel
        by_cases hlt : k < n
        · have e2 : decide ((k : Int) < (n : Int)) = true := by simp; omega
          have hki : (k : Int) < (n : Int) := by omega
          have HW : Hid (Below w.heap.size w wr) := by rw [HP.out] at HB0 ⊢; exact Below.trans HB0.out (HB.out.mono (by have := HX.out.lt; omega))
          obtain ⟨b, off, sA, sn, sc, l, rfl, hq, hbl, c0, hi⟩ := (h.out.below HW.out).at hlt
          have hcl : C[k]? = some l := by rw [← HC.out]; exact clsOf_at hq
          have HG2 := HG.out
          rw [checkG_drop hcl] at HG2
          have HI := Lib.hid hi
          have HQ := Lib.hid (bkbel HX.out HB.out)
          obtain ⟨y0, y1⟩ := cells2 HQ.out
          clear hq hi hcl HG
          cases hcb : clauseB l with
          | false =>
            rw [hcb, if_neg (by simp)] at HG2
            have HG3 := Lib.hid HG2
            clear HG2
            go_wp2_with fail
            refine (clauseRight ⟨sA, sn, sc⟩ l wr HI).mono ?_
            rintro e w2 ⟨rfl, hb⟩
            rw [hcb]
            have HB2 := Lib.hid (bthen HW.out hb)
            clear hb hcb
            go_wp2_with fail
            go_ret2
            exact ⟨by rw [E.out, HG3.out]; rfl, HP.out ▸ HB2.out⟩
          | true =>
            rw [hcb, if_pos rfl] at HG2
            have HG3 := Lib.hid HG2
            clear HG2
            go_wp2_with fail
            refine (clauseRight ⟨sA, sn, sc⟩ l wr HI).mono ?_
            rintro e w2 ⟨rfl, hb⟩
            rw [hcb]
            have HB2 := Lib.hid (bthen HB.out hb)
            have HW2 := Lib.hid (bthen HW.out hb)
            have HI2 := Lib.hid (HI.out.below hb)
            have HQ2 := Lib.hid (bkbel HQ.out hb)
            clear hb hcb y0 y1 c0
            obtain ⟨y0, y1⟩ := cells2 HQ2.out
            go_wp2_with fail
            refine (beyondMk v w2).mono ?_
            rintro e w3 ⟨rfl, rfl⟩
            have HK := Lib.hid (Bk.new w2 3 #[.int .i64 v])
            have HBa : Hid (Below w2.heap.size w2 (w2.alloc (.cells #[.int .i64 v] 3))) := balloc (Below.refl _ _) _
            generalize (w2.alloc (.cells #[.int .i64 v] 3)) = W3 at *
            obtain ⟨g, hg⟩ : ∃ g, w2.heap.size = g := ⟨_, rfl⟩
            rw [hg] at HK ⊢
            have HB3 := Lib.hid (bthen HB2.out HBa.out)
            have HW3 := Lib.hid (bthen HW2.out HBa.out)
            have HI3 := Lib.hid (HI2.out.below HBa.out)
            clear hg y0 y1 HB2 HW2 HI2 HQ2
            have HCF := Lib.hid (containsf_lit sA sn sc l 94 #[.pointer (some ⟨g, 0, none⟩)] (fun x => !litIn v x) W3 (Lib.hid HI3.out.1) (Lib.hid HI3.out.2.1) (by have := HI3.out.2.2.2; dsimp only at this; omega) ent_beyond (Lib.hid (fun x _ W' hW' => beyondC v x g W' (Lib.hid (bkbel HK.out hW')))))
            go_wp2_with fail
            refine HCF.out.mono ?_
            rintro e w4 ⟨rfl, hb⟩
            have HB4 := Lib.hid (bthen HB3.out hb)
            have HW4 := Lib.hid (bthen HW3.out hb)
            clear hb HB3 HW3 HCF
            cases hany : l.any (fun x => !litIn v x) with
            | true =>
              have HG4 := HG3.out
              rw [hany, if_pos rfl] at HG4
              have HG5 := Lib.hid HG4
              clear HG4 HG3 hany
              go_wp2_with fail
              go_ret2
              exact ⟨by rw [E.out, HG5.out]; rfl, HP.out ▸ HW4.out⟩
            | false =>
              have HG4 := HG3.out
              rw [hany, if_neg (by simp)] at HG4
              have HG5 := Lib.hid HG4
              clear HG4 HG3 hany
              go_wp2_with fail
              go_roundw
              case rel => exact ⟨k + 1, by omega, by go_num, HG5, HB4⟩
              case measure => simp [intOf]; omega
        · have e2 : decide ((k : Int) < (n : Int)) = false := by simp; omega
          have hG := HG.out
          rw [List.drop_eq_nil_of_le (by rw [HLE.out]; omega)] at hG
          have HG3 := Lib.hid hG
          have HW : Hid (Below w.heap.size w wr) := by rw [HP.out] at HB0 ⊢; exact Below.trans HB0.out (HB.out.mono (by have := HX.out.lt; omega))
          clear hG HG
          go_wp2_with fail
          go_ret2
          exact ⟨by rw [E.out, HG3.out]; rfl, HP.out ▸ HW.out⟩
/-! ### Same -/
theorem below_drew6 {w w' : World} (m : Nat) (h : w.drewN m = w') : Below w.heap.size w w' := by
  subst h
  exact ⟨rfl, rfl, rfl, Nat.le_refl _, fun _ _ => rfl⟩
theorem sameCl (A1 A2 : Option Addr) (l1 l2 : List Int) (n1 n2 c1 c2 : Nat) (w : World) (H1 : Hid (IntsAt w ⟨A1, n1, c1⟩ l1)) (H2 : Hid (IntsAt w ⟨A2, n2, c2⟩ l2)) :
    Calls Tryz.prog 56 #[.slice A1 n1 c1, .slice A2 n2 c2] w fun e w' => e = .returned (.bool (decide (l1 = l2))) ∧ Below w.heap.size w w' := by
  go_enter Tryz.func56, Tryz.ntmps56
  go_wp2_with fail
  refine (equal_lit A1 A2 l1 l2 n1 n2 c1 c2 w (Lib.hid H1.out.1) (Lib.hid H2.out.1) (Lib.hid H1.out.2.1) (Lib.hid H2.out.2.1) (by have := H1.out.2.2.2; dsimp only at this; omega)).mono ?_
  rintro e w1 ⟨rfl, m, hm⟩
  have HB := Lib.hid (below_drew6 m hm)
  clear hm
  go_wp2
  go_ret
  exact ⟨rfl, HB.out⟩
theorem ent_sameF : Ent Tryz.prog 56 := Ent.of Tryz.func56 (by kernel_rfl) (by kernel_rfl)
set_option maxRecDepth 100000 in
set_option maxHeartbeats 1000000 in
theorem eqCls (A1 A2 : Option Addr) (L1 L2 : List (SV × List Int)) (n1 n2 c1 c2 : Nat) (w : World) (H1 : Hid (ClsAt w A1 n1 L1)) (H2 : Hid (ClsAt w A2 n2 L2)) :
    Calls Tryz.prog 55 #[.slice A1 n1 c1, .slice A2 n2 c2, .func (.func 56) #[] #[]] w fun e w' => e = .returned (.bool (decide (clsOf L1 = clsOf L2))) ∧ Below w.heap.size w w' := by
  have hent : ∀ (args : Array Value) (W : World), (callFunc 56 args).run Tryz.prog W = .ok (.enter 56 args) W := ent_sameF
  have hn1 : n1 ≤ 100000000 := H1.out.small
  have hn2 : n2 ≤ 100000000 := H2.out.small
  by_cases hn : n1 = n2
  · subst hn
    have hd : ((n1 : Int) != (n1 : Int)) = false := by simp
    go_enter Tryz.func55, Tryz.ntmps55
    go_wp2_with fail
    go_loopw [17] (fun i wr => ∃ (k : Nat), k ≤ n1 ∧ i = .int .i64 k ∧ Hid ((clsOf L1).take k = (clsOf L2).take k) ∧ Hid (Below w.heap.size w wr)) (fun i _ => n1 - (intOf i).toNat)
    case atStart => exact ⟨0, Nat.zero_le _, rfl, rfl, Below.refl _ _⟩
    case round =>
      obtain ⟨k, hk, rfl, HE, HB⟩ := hrel
      by_cases hlt : k < n1
      · have e1 : decide ((k : Int) < (n1 : Int)) = true := by simp; omega
        have hki : (k : Int) < (n1 : Int) := by omega
        obtain ⟨b1, o1, sA1, sn1, sc1, l1, rfl, hx1, hbl1, p0, hi1⟩ := (H1.out.below HB.out).at hlt
        obtain ⟨b2, o2, sA2, sn2, sc2, l2, rfl, hx2, hbl2, q0, hi2⟩ := (H2.out.below HB.out).at hlt
        have HI1 := Lib.hid hi1
        have HI2 := Lib.hid hi2
        have HX1 := Lib.hid (clsOf_at hx1)
        have HX2 := Lib.hid (clsOf_at hx2)
        clear hx1 hx2 hi1 hi2
        by_cases hs : l1 = l2
        · have HS := Lib.hid hs
          go_wp2_with fail
          refine (sameCl sA1 sA2 l1 l2 sn1 sn2 sc1 sc2 _ HI1 HI2).mono ?_
          rintro e w1 ⟨rfl, hb⟩
          rw [decide_eq_true hs]
          have HB1 := Lib.hid (bthen HB.out hb)
          clear hb p0 q0 hs
          go_wp2_with fail
          go_roundw
          case rel =>
            refine ⟨k + 1, by omega, by go_num, ?_, HB1⟩
            show _ = _
            rw [take_snoc HX1.out, take_snoc HX2.out, HE.out, HS.out]
          case measure => simp [intOf]; omega
        · have HS := Lib.hid hs
          go_wp2_with fail
          refine (sameCl sA1 sA2 l1 l2 sn1 sn2 sc1 sc2 _ HI1 HI2).mono ?_
          rintro e w1 ⟨rfl, hb⟩
          rw [decide_eq_false hs]
          have HB1 := Lib.hid (bthen HB.out hb)
          clear hb p0 q0 hs
          go_wp2_with fail
          go_ret
          refine ⟨ret_bool (decide_eq_false fun h => HS.out ?_).symm, HB1.out⟩
          have h1 := HX1.out
          rw [h, HX2.out] at h1
          exact (Option.some.inj h1).symm
      · have e1 : decide ((k : Int) < (n1 : Int)) = false := by simp; omega
        go_wp2_with fail
        go_ret
        refine ⟨ret_bool (decide_eq_true ?_).symm, HB.out⟩
        have h1 := HE.out
        rwa [List.take_of_length_le (by rw [clsOf_len, H1.out.len]; omega), List.take_of_length_le (by rw [clsOf_len, H2.out.len]; omega)] at h1
  · have hd : ((n1 : Int) != (n2 : Int)) = true := by simp; omega
    have E : Hid (decide (clsOf L1 = clsOf L2) = false) := decide_eq_false fun h => hn (by have := congrArg List.length h; rw [clsOf_len, clsOf_len, H1.out.len, H2.out.len] at this; exact this)
    clear hn
    go_enter Tryz.func55, Tryz.ntmps55
    go_wp2_with fail
    go_ret
    exact ⟨ret_bool E.out.symm, Below.refl _ _⟩
set_option maxRecDepth 100000 in
theorem sameF (v1 v2 : Int) (A1 A2 : Option Addr) (L1 L2 : List (SV × List Int)) (n1 n2 c1 c2 : Nat) (w : World) (H1 : Hid (ClsAt w A1 n1 L1)) (H2 : Hid (ClsAt w A2 n2 L2)) :
    Calls Tryz.prog 19 #[.agg #[.int .i64 v1, .slice A1 n1 c1], .agg #[.int .i64 v2, .slice A2 n2 c2]] w fun e w' => e = .returned (.bool (decide ((⟨v1, clsOf L1⟩ : Fm) = ⟨v2, clsOf L2⟩))) ∧ Below w.heap.size w w' := by
  have HX1 := Lib.hid ((Bk.new w 24 #[.int .i64 v1, .slice A1 n1 c1]).alloc (.cells #[.int .i64 v2, .slice A2 n2 c2] 24))
  have hx2 := Bk.new (w.alloc (.cells #[.int .i64 v1, .slice A1 n1 c1] 24)) 24 #[.int .i64 v2, .slice A2 n2 c2]
  rw [World.size_alloc] at hx2
  have HX2 := Lib.hid hx2
  have HB0 : Hid (Below w.heap.size w ((w.alloc (.cells #[.int .i64 v1, .slice A1 n1 c1] 24)).alloc (.cells #[.int .i64 v2, .slice A2 n2 c2] 24))) := balloc (balloc (Below.refl _ _) _) _
  clear hx2
  by_cases hv : v1 = v2
  · subst hv
    have e1 : (v1 == v1) = true := by simp
    have E : Hid (decide ((⟨v1, clsOf L1⟩ : Fm) = ⟨v1, clsOf L2⟩) = decide (clsOf L1 = clsOf L2)) := decide_eq_decide.2 ⟨fun h => congrArg Fm.cls h, fun h => by rw [h]⟩
    go_enter Tryz.func19, Tryz.ntmps19
    go_upto_region 1 with fail
    generalize ((w.alloc (.cells #[.int .i64 v1, .slice A1 n1 c1] 24)).alloc (.cells #[.int .i64 v1, .slice A2 n2 c2] 24)) = W at *
    obtain ⟨x0, x1⟩ := cells2 HX1.out
    obtain ⟨y0, y1⟩ := cells2 HX2.out
    go_wp2_with fail
    refine (eqCls A1 A2 L1 L2 n1 n2 c1 c2 W (Lib.hid (H1.out.below HB0.out)) (Lib.hid (H2.out.below HB0.out))).mono ?_
    rintro e w1 ⟨rfl, hb⟩
    have HB1 := Lib.hid (bthen HB0.out hb)
    clear hb
    go_wp2
    go_ret
    exact ⟨ret_bool E.out.symm, HB1.out⟩
  · have e1 : (v1 == v2) = false := by simpa using hv
    have E : Hid (decide ((⟨v1, clsOf L1⟩ : Fm) = ⟨v2, clsOf L2⟩) = false) := decide_eq_false fun h => hv (congrArg Fm.vars h)
    clear hv
    go_enter Tryz.func19, Tryz.ntmps19
    go_upto_region 1 with fail
    generalize ((w.alloc (.cells #[.int .i64 v1, .slice A1 n1 c1] 24)).alloc (.cells #[.int .i64 v2, .slice A2 n2 c2] 24)) = W at *
    obtain ⟨x0, x1⟩ := cells2 HX1.out
    obtain ⟨y0, y1⟩ := cells2 HX2.out
    go_wp2
    go_ret
    exact ⟨ret_bool E.out.symm, HB0.out⟩
end Go.Proofs.YtkpcpclaadgnbaaGreatDoor
