/-
  salvorlaw02.Ints, salvorlaw05.Equal.
-/
import Derived.Test.YtkpcpclaadgnbaaGreatDoorFmW
set_option linter.unusedVariables false
set_option linter.unusedSimpArgs false
namespace Go.Proofs.YtkpcpclaadgnbaaGreatDoor
open Go.RowKit

theorem own_stepE {W w w1 : World} {t : TypeId} {n : Nat} {v : Value} {xs : List Value} {o : Obj} (hb : Below W.heap.size W w) (ho : w.ownsRow W.heap.size t 1 v n xs) (hg : (w.alloc o).grownBy w1 v.ownBlock) : Below W.heap.size W w1 :=
  (balloc hb o).grown hg (by have := hb.size; simp; omega) (fun k hk => (ho.lt k hk).1)
set_option maxRecDepth 100000 in
set_option maxHeartbeats 1000000 in
theorem intsC (A : Option Addr) (n c : Nat) (l : List Int) (w : World) (h : Hid (Rd w A (l.map (Value.int .i64)))) (hl : Hid (l.length = n)) (hn : n ≤ 100000000) :
    Calls Tryz.prog 75 #[.slice A n c] w fun e w' => ∃ A' c', e = .returned (.slice A' n c') ∧ w'.ownsRow w.heap.size 3 1 (.slice A' n c') n (l.map (Value.int .i64)) ∧ Below w.heap.size w w' := by
  go_enter Tryz.func75, Tryz.ntmps75
  go_wp2_with fail
  go_loopw [3, 8] (fun v3 v8 wr => ∃ (k : Nat) (A' : Option Addr) (c' : Nat), k ≤ n ∧ v8 = .int .i64 k ∧ v3 = .slice A' k c' ∧ Hid (wr.ownsRow w.heap.size 3 1 (.slice A' k c') k ((l.take k).map (Value.int .i64))) ∧ Hid (Below w.heap.size w wr)) (fun _ v8 _ => n - (intOf v8).toNat)
  case atStart => exact ⟨0, none, 0, Nat.zero_le _, rfl, rfl, World.ownsRow_nil _ _ _ _, Below.refl _ _⟩
  case round =>
    obtain ⟨k, A', c', hk, rfl, rfl, HO, HB⟩ := hrel
    by_cases hlt : k < n
    · obtain ⟨b, off, x, rfl, hx, hc⟩ := (h.out.below HB.out).getm hl.out hlt
      have HX := Lib.hid hx
      have hws : w.heap.size ≤ wr.heap.size := HB.out.size
      clear hx
      go_wp2_with (at_builtin; refine wpList_app el_int rfl (.tmp 12) (.tmp 14) rfl w.heap.size (.slice A' k c') k _ rfl (HO.out.alloc _) (some ⟨wr.heap.size, 0, none⟩) 1 1 [.int .i64 x] rfl (Rd.new _ #[_] _) rfl (by simp [Value.oneCell']) (by omega) (by simp; omega) ?_; intro A2 c2 w5 hown1 hgr1 hat1; have Ho1 := Lib.hid hown1; have Hg1 := Lib.hid hgr1; clear hown1 hgr1 hat1)
      go_roundw
      case rel => exact ⟨k + 1, A2, c2, by omega, by go_num, rfl, by show World.ownsRow _ _ _ _ _ _ _; rw [take_snoc HX.out, List.map_append]; exact Ho1.out, own_stepE HB.out HO.out Hg1.out⟩
      case measure => simp [intOf]; omega
    · obtain rfl : k = n := by omega
      have ht : l.take k = l := List.take_of_length_le (by rw [hl.out]; omega)
      rw [ht] at HO
      go_wp2
      go_ret
      exact ⟨A', c', rfl, HO.out, HB.out⟩
theorem equalCl (A1 A2 : Option Addr) (l1 l2 : List Int) (n1 n2 c1 c2 : Nat) (w : World) (H1 : Hid (IntsAt w ⟨A1, n1, c1⟩ l1)) (H2 : Hid (IntsAt w ⟨A2, n2, c2⟩ l2)) :
    Calls Tryz.prog 77 #[.slice A1 n1 c1, .slice A2 n2 c2] w fun e w' => e = .returned (.bool (decide (l1 = l2))) ∧ Below w.heap.size w w' := by
  have hn1 : n1 ≤ 100000000 := H1.out.2.2.2
  go_enter Tryz.func77, Tryz.ntmps77
  go_wp2_with fail
  refine (intsC A1 n1 c1 l1 w (Lib.hid H1.out.1) (Lib.hid H1.out.2.1) hn1).mono ?_
  rintro e w1 ⟨A5, c5, rfl, ho5, hb5⟩
  have HO5 := Lib.hid ho5
  have HB5 := Lib.hid hb5
  clear ho5 hb5
  go_wp2_with fail
  refine (equal_int A5 A2 l1 l2 n1 n2 c5 c2 w1 (Lib.hid (Rd.of_own HO5.out)) (Lib.hid (H2.out.1.below HB5.out)) (Lib.hid H1.out.2.1) (Lib.hid H2.out.2.1) (by omega)).mono ?_
  rintro e w2 ⟨rfl, m, hm⟩
  have HB := Lib.hid (bthen HB5.out (below_drew6 m hm))
  clear hm
  go_wp2
  go_ret
  exact ⟨rfl, HB.out⟩
theorem ent_equalF : Ent Tryz.prog 77 := Ent.of Tryz.func77 (by kernel_rfl) (by kernel_rfl)
set_option maxRecDepth 100000 in
set_option maxHeartbeats 1000000 in
theorem eqClsQ (A1 A2 : Option Addr) (L1 L2 : List (SV × List Int)) (n1 n2 c1 c2 : Nat) (w : World) (H1 : Hid (ClsAt w A1 n1 L1)) (H2 : Hid (ClsAt w A2 n2 L2)) :
    Calls Tryz.prog 76 #[.slice A1 n1 c1, .slice A2 n2 c2, .func (.func 77) #[] #[]] w fun e w' => e = .returned (.bool (decide (clsOf L1 = clsOf L2))) ∧ Below w.heap.size w w' := by
  have hent : ∀ (args : Array Value) (W : World), (callFunc 77 args).run Tryz.prog W = .ok (.enter 77 args) W := ent_equalF
  have hn1 : n1 ≤ 100000000 := H1.out.small
  have hn2 : n2 ≤ 100000000 := H2.out.small
  by_cases hn : n1 = n2
  · subst hn
    have hd : ((n1 : Int) != (n1 : Int)) = false := by simp
    go_enter Tryz.func76, Tryz.ntmps76
    go_wp2_with fail
    go_loopw [17] (fun i wr => ∃ (k : Nat), k ≤ n1 ∧ i = .int .i64 k ∧ Hid ((clsOf L1).take k = (clsOf L2).take k) ∧ Hid (Below w.heap.size w wr)) (fun i _ => n1 - (intOf i).toNat)
    case atStart => exact ⟨0, Nat.zero_le _, rfl, rfl, Below.refl _ _⟩
    case round =>
      obtain ⟨k, hk, rfl, HE, HB⟩ := hrel
      by_cases hlt : k < n1
      · have e1 : decide ((k : Int) < (n1 : Int)) = true := by simp; omega
        have hki : (k : Int) < (n1 : Int) := by omega
        obtain ⟨b1, o1, sA1, sn1, sc1, l1, rfl, hx1, hbl1, p0, hi1⟩ := (H1.out.below HB.out).at hlt
        obtain ⟨b2, o2, sA2, sn2, sc2, l2, rfl, hx2, hbl2, q0, hi2⟩ := (H2.out.below HB.out).at hlt
        have HI1 := Lib.hid hi1
        have HI2 := Lib.hid hi2
        have HX1 := Lib.hid (clsOf_at hx1)
        have HX2 := Lib.hid (clsOf_at hx2)
        clear hx1 hx2 hi1 hi2
        by_cases hs : l1 = l2
        · have HS := Lib.hid hs
          go_wp2_with fail
          refine (equalCl sA1 sA2 l1 l2 sn1 sn2 sc1 sc2 _ HI1 HI2).mono ?_
          rintro e w1 ⟨rfl, hb⟩
          rw [decide_eq_true hs]
          have HB1 := Lib.hid (bthen HB.out hb)
          clear hb p0 q0 hs
          go_wp2_with fail
          go_roundw
          case rel =>
            refine ⟨k + 1, by omega, by go_num, ?_, HB1⟩
            show _ = _
            rw [take_snoc HX1.out, take_snoc HX2.out, HE.out, HS.out]
          case measure => simp [intOf]; omega
        · have HS := Lib.hid hs
          go_wp2_with fail
          refine (equalCl sA1 sA2 l1 l2 sn1 sn2 sc1 sc2 _ HI1 HI2).mono ?_
          rintro e w1 ⟨rfl, hb⟩
          rw [decide_eq_false hs]
          have HB1 := Lib.hid (bthen HB.out hb)
          clear hb p0 q0 hs
          go_wp2_with fail
          go_ret
          refine ⟨ret_bool (decide_eq_false fun h => HS.out ?_).symm, HB1.out⟩
          have h1 := HX1.out
          rw [h, HX2.out] at h1
          exact (Option.some.inj h1).symm
      · have e1 : decide ((k : Int) < (n1 : Int)) = false := by simp; omega
        go_wp2_with fail
        go_ret
        refine ⟨ret_bool (decide_eq_true ?_).symm, HB.out⟩
        have h1 := HE.out
        rwa [List.take_of_length_le (by rw [clsOf_len, H1.out.len]; omega), List.take_of_length_le (by rw [clsOf_len, H2.out.len]; omega)] at h1
  · have hd : ((n1 : Int) != (n2 : Int)) = true := by simp; omega
    have E : Hid (decide (clsOf L1 = clsOf L2) = false) := decide_eq_false fun h => hn (by have := congrArg List.length h; rw [clsOf_len, clsOf_len, H1.out.len, H2.out.len] at this; exact this)
    clear hn
    go_enter Tryz.func76, Tryz.ntmps76
    go_wp2_with fail
    go_ret
    exact ⟨ret_bool E.out.symm, Below.refl _ _⟩
set_option maxRecDepth 100000 in
theorem equalF (v1 v2 : Int) (A1 A2 : Option Addr) (L1 L2 : List (SV × List Int)) (n1 n2 c1 c2 : Nat) (w : World) (H1 : Hid (ClsAt w A1 n1 L1)) (H2 : Hid (ClsAt w A2 n2 L2)) :
    Calls Tryz.prog 36 #[.agg #[.int .i64 v1, .slice A1 n1 c1], .agg #[.int .i64 v2, .slice A2 n2 c2]] w fun e w' => e = .returned (.bool (decide ((⟨v1, clsOf L1⟩ : Fm) = ⟨v2, clsOf L2⟩))) ∧ Below w.heap.size w w' := by
  have HX1 := Lib.hid ((Bk.new w 24 #[.int .i64 v1, .slice A1 n1 c1]).alloc (.cells #[.int .i64 v2, .slice A2 n2 c2] 69))
  have hx2 := Bk.new (w.alloc (.cells #[.int .i64 v1, .slice A1 n1 c1] 24)) 69 #[.int .i64 v2, .slice A2 n2 c2]
  rw [World.size_alloc] at hx2
  have HX2 := Lib.hid hx2
  have HB0 : Hid (Below w.heap.size w ((w.alloc (.cells #[.int .i64 v1, .slice A1 n1 c1] 24)).alloc (.cells #[.int .i64 v2, .slice A2 n2 c2] 69))) := balloc (balloc (Below.refl _ _) _) _
  clear hx2
  by_cases hv : v1 = v2
  · subst hv
    have e1 : (v1 == v1) = true := by simp
    have E : Hid (decide ((⟨v1, clsOf L1⟩ : Fm) = ⟨v1, clsOf L2⟩) = decide (clsOf L1 = clsOf L2)) := decide_eq_decide.2 ⟨fun h => congrArg Fm.cls h, fun h => by rw [h]⟩
    go_enter Tryz.func36, Tryz.ntmps36
    go_upto_region 1 with fail
    generalize ((w.alloc (.cells #[.int .i64 v1, .slice A1 n1 c1] 24)).alloc (.cells #[.int .i64 v1, .slice A2 n2 c2] 69)) = W at *
    obtain ⟨x0, x1⟩ := cells2 HX1.out
    obtain ⟨y0, y1⟩ := cells2 HX2.out
    go_wp2_with fail
    refine (eqClsQ A1 A2 L1 L2 n1 n2 c1 c2 W (Lib.hid (H1.out.below HB0.out)) (Lib.hid (H2.out.below HB0.out))).mono ?_
    rintro e w1 ⟨rfl, hb⟩
    have HB1 := Lib.hid (bthen HB0.out hb)
    clear hb
    go_wp2
    go_ret
    exact ⟨ret_bool E.out.symm, HB1.out⟩
  · have e1 : (v1 == v2) = false := by simpa using hv
    have E : Hid (decide ((⟨v1, clsOf L1⟩ : Fm) = ⟨v2, clsOf L2⟩) = false) := decide_eq_false fun h => hv (congrArg Fm.vars h)
    clear hv
    go_enter Tryz.func36, Tryz.ntmps36
    go_upto_region 1 with fail
    generalize ((w.alloc (.cells #[.int .i64 v1, .slice A1 n1 c1] 24)).alloc (.cells #[.int .i64 v2, .slice A2 n2 c2] 69)) = W at *
    obtain ⟨x0, x1⟩ := cells2 HX1.out
    obtain ⟨y0, y1⟩ := cells2 HX2.out
    go_wp2
    go_ret
    exact ⟨ret_bool E.out.symm, HB0.out⟩
end Go.Proofs.YtkpcpclaadgnbaaGreatDoor
