/-
  salvorlaw02.Ints, salvorlaw07.Equal: of equal steps.
-/
import Derived.Test.YteglgcfbmjlnkaaGreatDoorCheck
import Derived.Test.YteglgcfbmjlnkaaGreatDoorSameS
set_option linter.unusedVariables false
set_option linter.unusedSimpArgs false
namespace Go.Proofs.YteglgcfbmjlnkaaGreatDoor
open Go.RowKit

theorem own_stepA {W w w1 : World} {t : TypeId} {n : Nat} {v : Value} {xs : List Value} {o : Obj} (hb : Below W.heap.size W w) (ho : w.ownsRow W.heap.size t 1 v n xs) (hg : (w.alloc o).grownBy w1 v.ownBlock) : Below W.heap.size W w1 :=
  (balloc hb o).grown hg (by have := hb.size; simp; omega) (fun k hk => (ho.lt k hk).1)
set_option maxRecDepth 100000 in
set_option maxHeartbeats 1000000 in
theorem intsC (A : Option Addr) (n c : Nat) (l : List Int) (w : World) (h : Hid (Rd w A (l.map (Value.int .i64)))) (hl : Hid (l.length = n)) (hn : n ≤ 100000000) :
    Calls Tryz.prog 42 #[.slice A n c] w fun e w' => ∃ A' c', e = .returned (.slice A' n c') ∧ w'.ownsRow w.heap.size 3 1 (.slice A' n c') n (l.map (Value.int .i64)) ∧ Below w.heap.size w w' := by
  go_enter Tryz.func42, Tryz.ntmps42
  go_wp2_with fail
  go_loopw [3, 8] (fun v3 v8 wr => ∃ (k : Nat) (A' : Option Addr) (c' : Nat), k ≤ n ∧ v8 = .int .i64 k ∧ v3 = .slice A' k c' ∧ Hid (wr.ownsRow w.heap.size 3 1 (.slice A' k c') k ((l.take k).map (Value.int .i64))) ∧ Hid (Below w.heap.size w wr)) (fun _ v8 _ => n - (intOf v8).toNat)
  case atStart => exact ⟨0, none, 0, Nat.zero_le _, rfl, rfl, World.ownsRow_nil _ _ _ _, Below.refl _ _⟩
  case round =>
    obtain ⟨k, A', c', hk, rfl, rfl, HO, HB⟩ := hrel
    by_cases hlt : k < n
    · obtain ⟨b, off, x, rfl, hx, hc⟩ := (h.out.below HB.out).getm hl.out hlt
      have HX := Lib.hid hx
      have hws : w.heap.size ≤ wr.heap.size := HB.out.size
      clear hx
      go_wp2_with (at_builtin; refine wpList_app el_int rfl (.tmp 12) (.tmp 14) rfl w.heap.size (.slice A' k c') k _ rfl (HO.out.alloc _) (some ⟨wr.heap.size, 0, none⟩) 1 1 [.int .i64 x] rfl (Rd.new _ #[_] _) rfl (by simp [Value.oneCell']) (by omega) (by simp; omega) ?_; intro A2 c2 w5 hown1 hgr1 hat1; have Ho1 := Lib.hid hown1; have Hg1 := Lib.hid hgr1; clear hown1 hgr1 hat1)
      go_roundw
      case rel => exact ⟨k + 1, A2, c2, by omega, by go_num, rfl, by show World.ownsRow _ _ _ _ _ _ _; rw [take_snoc HX.out, List.map_append]; exact Ho1.out, own_stepA HB.out HO.out Hg1.out⟩
      case measure => simp [intOf]; omega
    · obtain rfl : k = n := by omega
      have ht : l.take k = l := List.take_of_length_le (by rw [hl.out]; omega)
      rw [ht] at HO
      go_wp2
      go_ret
      exact ⟨A', c', rfl, HO.out, HB.out⟩
set_option maxRecDepth 100000 in
set_option maxHeartbeats 4000000 in
theorem equalOne (d1 : Bool) (i1 : Int) (l1 h1 : List Int) (LA1 HA1 LA2 HA2 : Option Addr) (Ln1 Lc1 Hn1 Hc1 Ln2 Lc2 Hn2 Hc2 : Nat) (w : World) (H1 : Hid (StpAt w ⟨⟨LA1, Ln1, Lc1⟩, ⟨HA1, Hn1, Hc1⟩⟩ ⟨d1, i1, l1, h1⟩)) (H2 : Hid (StpAt w ⟨⟨LA2, Ln2, Lc2⟩, ⟨HA2, Hn2, Hc2⟩⟩ ⟨d1, i1, l1, h1⟩)) :
    Calls Tryz.prog 47 #[.agg #[.bool d1, .int .i64 i1, .slice LA1 Ln1 Lc1, .slice HA1 Hn1 Hc1], .agg #[.bool d1, .int .i64 i1, .slice LA2 Ln2 Lc2, .slice HA2 Hn2 Hc2]] w fun e w' => e = .returned (.bool true) ∧ Below w.heap.size w w' := by
  have HX1 := Lib.hid ((Bk.new w 33 #[.bool d1, .int .i64 i1, .slice LA1 Ln1 Lc1, .slice HA1 Hn1 Hc1]).alloc (.cells #[.bool d1, .int .i64 i1, .slice LA2 Ln2 Lc2, .slice HA2 Hn2 Hc2] 59))
  have hx2 := Bk.new (w.alloc (.cells #[.bool d1, .int .i64 i1, .slice LA1 Ln1 Lc1, .slice HA1 Hn1 Hc1] 33)) 59 #[.bool d1, .int .i64 i1, .slice LA2 Ln2 Lc2, .slice HA2 Hn2 Hc2]
  rw [World.size_alloc] at hx2
  have HX2 := Lib.hid hx2
  have HB0 : Hid (Below w.heap.size w ((w.alloc (.cells #[.bool d1, .int .i64 i1, .slice LA1 Ln1 Lc1, .slice HA1 Hn1 Hc1] 33)).alloc (.cells #[.bool d1, .int .i64 i1, .slice LA2 Ln2 Lc2, .slice HA2 Hn2 Hc2] 59))) := balloc (balloc (Below.refl _ _) _) _
  clear hx2
  have k1 : (d1 == d1) = true := by simp
  have k2 : (i1 == i1) = true := by simp
  have hL1 : Ln1 ≤ 100000000 := H1.out.lits.2.2.2
  have hH1 : Hn1 ≤ 100000000 := H1.out.hints.2.2.2
  go_enter Tryz.func47, Tryz.ntmps47
  go_upto_region 1 with fail
  have G1 := Lib.hid (H1.out.below HB0.out)
  have G2 := Lib.hid (H2.out.below HB0.out)
  generalize ((w.alloc (.cells #[.bool d1, .int .i64 i1, .slice LA1 Ln1 Lc1, .slice HA1 Hn1 Hc1] 33)).alloc (.cells #[.bool d1, .int .i64 i1, .slice LA2 Ln2 Lc2, .slice HA2 Hn2 Hc2] 59)) = W at *
  obtain ⟨p, hp⟩ : ∃ p, p = w.heap.size := ⟨_, rfl⟩
  rw [← hp] at HX1 HX2
  rw [← hp]
  clear hp
  obtain ⟨x0, x1, x2, x3⟩ := cells4 HX1.out
  obtain ⟨y0, y1, y2, y3⟩ := cells4 HX2.out
  have HBX := HX1; have HBZ := HX2
  have HE1 : Hid (∀ (A5 : Option Addr) (c5 : Nat) (w1 : World), Hid (Rd w1 A5 (l1.map (Value.int .i64))) → Hid (Below W.drew.heap.size W.drew w1) → Calls Tryz.prog 48 #[.slice A5 Ln1 c5, .slice LA2 Ln2 Lc2] w1 fun e w' => e = .returned (.bool true) ∧ ∃ m, w1.drewN m = w') := fun A5 c5 w1 h5 hb5 => by
    have h := equal_int A5 LA2 l1 l1 Ln1 Ln2 c5 Lc2 w1 h5 (Lib.hid ((Rd.drew G2.out.lits.1).below hb5.out)) (Lib.hid G1.out.lits.2.1) (Lib.hid G2.out.lits.2.1) (by omega)
    rw [decide_eq_true rfl] at h
    exact h
  have HE2 : Hid (∀ (w1 : World), Hid (Below W.drew.heap.size W.drew w1) → Calls Tryz.prog 48 #[.slice HA1 Hn1 Hc1, .slice HA2 Hn2 Hc2] w1 fun e w' => e = .returned (.bool true) ∧ ∃ m, w1.drewN m = w') := fun w1 hb5 => by
    have h := equal_int HA1 HA2 h1 h1 Hn1 Hn2 Hc1 Hc2 w1 (Lib.hid ((Rd.drew G1.out.hints.1).below hb5.out)) (Lib.hid ((Rd.drew G2.out.hints.1).below hb5.out)) (Lib.hid G1.out.hints.2.1) (Lib.hid G2.out.hints.2.1) (by omega)
    rw [decide_eq_true rfl] at h
    exact h
  go_region_held3 (fun w' => w'.cell? ⟨p, 0, none⟩ = some (.bool d1) ∧ w'.cell? ⟨p, 1, none⟩ = some (.int .i64 i1) ∧ w'.cell? ⟨p, 2, none⟩ = some (.slice LA1 Ln1 Lc1) ∧ w'.cell? ⟨p, 3, none⟩ = some (.slice HA1 Hn1 Hc1) ∧ w'.cell? ⟨p + 1, 0, none⟩ = some (.bool d1) ∧ w'.cell? ⟨p + 1, 1, none⟩ = some (.int .i64 i1) ∧ w'.cell? ⟨p + 1, 2, none⟩ = some (.slice LA2 Ln2 Lc2) ∧ w'.cell? ⟨p + 1, 3, none⟩ = some (.slice HA2 Hn2 Hc2))
    ((exact ⟨HBX.out.cell 0, HBX.out.cell 1, HBX.out.cell 2, HBX.out.cell 3, HBZ.out.cell 0, HBZ.out.cell 1, HBZ.out.cell 2, HBZ.out.cell 3⟩))
    (first
      | (go_at_call 42
         refine (intsC LA1 Ln1 Lc1 l1 _ (Lib.hid (Rd.drew G1.out.lits.1)) (Lib.hid G1.out.lits.2.1) hL1).mono ?_
         rintro e w1 ⟨A5, c5, rfl, ho5, hb5⟩
         have HO5 := Lib.hid ho5
         have HB5 := Lib.hid hb5
         have HBX' := Lib.hid (HBX.out.drew.below hb5 HBX.out.lt)
         have HBZ' := Lib.hid (HBZ.out.drew.below hb5 HBZ.out.lt)
         clear HBX HBZ
         have HBX := HBX'
         have HBZ := HBZ'
         clear HBX' HBZ' ho5 hb5)
      | (go_at_call 48
         (first
           | with_reducible refine (HE1.out A5 c5 _ (Lib.hid (Rd.of_own HO5.out)) (Lib.hid HB5.out)).mono ?_
           | with_reducible refine (HE2.out _ ?_).mono ?_)
         all_goals try (first | with_reducible exact Lib.hid HB5.out | with_reducible exact Lib.hid (bdrewN HB5.out _))
         rintro e w2 ⟨rfl, m, rfl⟩))
  all_goals
    go_wp2
    go_ret
    exact ⟨rfl, bdrewN (bthen HB0.out.drew HB5.out) _⟩
theorem ent_equal : Ent Tryz.prog 47 := Ent.of Tryz.func47 (by kernel_rfl) (by kernel_rfl)
set_option maxRecDepth 100000 in
set_option maxHeartbeats 1000000 in
theorem equalFuncC (A1 A2 : Option Addr) (L1 L2 : List (StV × Stp)) (n1 n2 c1 c2 : Nat) (w : World) (H1 : Hid (StepsAt w A1 n1 L1)) (H2 : Hid (StepsAt w A2 n2 L2)) (HE : Hid (L1.map (·.2) = L2.map (·.2))) :
    Calls Tryz.prog 46 #[.slice A1 n1 c1, .slice A2 n2 c2, .func (.func 47) #[] #[]] w fun e w' => e = .returned (.bool true) ∧ Below w.heap.size w w' := by
  have hent : ∀ (args : Array Value) (W : World), (callFunc 47 args).run Tryz.prog W = .ok (.enter 47 args) W := ent_equal
  have hn1 : n1 ≤ 100000000 := H1.out.small
  obtain rfl : n1 = n2 := by
    have h := congrArg List.length HE.out
    rw [List.length_map, List.length_map, H1.out.len, H2.out.len] at h
    exact h
  have hd : ((n1 : Int) != (n1 : Int)) = false := by simp
  go_enter Tryz.func46, Tryz.ntmps46
  go_wp2_with fail
  go_loopw [17] (fun i wr => ∃ (k : Nat), k ≤ n1 ∧ i = .int .i64 k ∧ Hid (Below w.heap.size w wr)) (fun i _ => n1 - (intOf i).toNat)
  case atStart => exact ⟨0, Nat.zero_le _, rfl, Below.refl _ _⟩
  case round =>
    obtain ⟨k, hk, rfl, HB⟩ := hrel
    by_cases hlt : k < n1
    · obtain ⟨b1, o1, LA1, HA1, Ln1, Lc1, Hn1, Hc1, d1, i1, l1, h1, rfl, hx1, hbl1, p0, p1, p2, p3⟩ := (H1.out.rd.below HB.out).stp H1.out.len hlt
      obtain ⟨b2, o2, LA2, HA2, Ln2, Lc2, Hn2, Hc2, d2, i2, l2, h2, rfl, hx2, hbl2, q0, q1, q2, q3⟩ := (H2.out.rd.below HB.out).stp H2.out.len hlt
      have HS1 := Lib.hid ((H1.out.all k _ _ hx1).below HB.out)
      have HS2 := Lib.hid ((H2.out.all k _ _ hx2).below HB.out)
      have hse : (⟨d1, i1, l1, h1⟩ : Stp) = ⟨d2, i2, l2, h2⟩ := by
        have e1 : (L1.map (·.2))[k]? = some ⟨d1, i1, l1, h1⟩ := by rw [List.getElem?_map, hx1]; rfl
        have e2 : (L2.map (·.2))[k]? = some ⟨d2, i2, l2, h2⟩ := by rw [List.getElem?_map, hx2]; rfl
        rw [HE.out, e2] at e1
        exact (Option.some.inj e1).symm
      injection hse with r1 r2 r3 r4
      subst r1; subst r2; subst r3; subst r4
      clear hx1 hx2
      have HB0 : Hid (Below wr.heap.size wr ((wr.alloc (.cells #[.bool d1, .int .i64 i1, .slice LA1 Ln1 Lc1, .slice HA1 Hn1 Hc1] 33)).alloc (.cells #[.bool d1, .int .i64 i1, .slice LA2 Ln2 Lc2, .slice HA2 Hn2 Hc2] 59))) := balloc (balloc (Below.refl _ _) _) _
      go_wp2_with fail
      refine (equalOne d1 i1 l1 h1 LA1 HA1 LA2 HA2 Ln1 Lc1 Hn1 Hc1 Ln2 Lc2 Hn2 Hc2 _ (Lib.hid (HS1.out.below HB0.out)) (Lib.hid (HS2.out.below HB0.out))).mono ?_
      rintro e w1 ⟨rfl, hb⟩
      have HB1 := Lib.hid (bthen (bthen HB.out HB0.out) hb)
      clear hb
      go_wp2
      go_roundw
      case rel => exact ⟨k + 1, by omega, by go_num, HB1⟩
      case measure => simp [intOf]; omega
    · go_wp2
      go_ret
      exact ⟨rfl, HB.out⟩
set_option maxRecDepth 100000 in
theorem equalC (A1 A2 : Option Addr) (L1 L2 : List (StV × Stp)) (n1 n2 c1 c2 : Nat) (w : World) (H1 : Hid (StepsAt w A1 n1 L1)) (H2 : Hid (StepsAt w A2 n2 L2)) (HE : Hid (L1.map (·.2) = L2.map (·.2))) :
    Calls Tryz.prog 19 #[.slice A1 n1 c1, .slice A2 n2 c2] w fun e w' => e = .returned (.bool true) ∧ Below w.heap.size w w' := by
  go_enter Tryz.func19, Tryz.ntmps19
  go_wp2_with fail
  refine (equalFuncC A1 A2 L1 L2 n1 n2 c1 c2 w H1 H2 HE).mono ?_
  rintro e w1 ⟨rfl, hb⟩
  have HB := Lib.hid hb
  clear hb
  go_wp2
  go_ret
  exact ⟨rfl, HB.out⟩
end Go.Proofs.YteglgcfbmjlnkaaGreatDoor
