/-
  LratextSmall: the walk.
-/
import Derived.Test.YteglgcfbmjlnkaaGreatDoorSmallH
set_option linter.unusedVariables false
set_option linter.unusedSimpArgs false
namespace Go.Proofs.YteglgcfbmjlnkaaGreatDoor
open Go.RowKit

set_option maxRecDepth 100000 in
set_option maxHeartbeats 4000000 in
theorem smallC (w : World) (hv : Hid (Vars w)) : Calls Tryz.prog 4 #[] w fun e w' => e = .returned (.bool true) ∧ Below w.heap.size w w' := by
  have HW : Hid (WdAt (w.alloc (.cells #[.string ⟨#[48]⟩, .string ⟨#[49]⟩, .string ⟨#[45, 49]⟩, .string ⟨#[100]⟩, .string ⟨#[50]⟩, .string ⟨#[48, 49]⟩, .string ⟨#[]⟩, .string ⟨#[99]⟩, .string ⟨#[43, 49]⟩] 9)) w.heap.size nineS) := wd_new w _ nineS
  have HB0 : Hid (Below w.heap.size w (w.alloc (.cells #[.string ⟨#[48]⟩, .string ⟨#[49]⟩, .string ⟨#[45, 49]⟩, .string ⟨#[100]⟩, .string ⟨#[50]⟩, .string ⟨#[48, 49]⟩, .string ⟨#[]⟩, .string ⟨#[99]⟩, .string ⟨#[43, 49]⟩] 9))) := balloc (Below.refl _ _) _
  go_enter Tryz.func4, Tryz.ntmps4
  go_upto_region 3 with fail
  generalize (w.alloc (.cells #[.string ⟨#[48]⟩, .string ⟨#[49]⟩, .string ⟨#[45, 49]⟩, .string ⟨#[100]⟩, .string ⟨#[50]⟩, .string ⟨#[48, 49]⟩, .string ⟨#[]⟩, .string ⟨#[99]⟩, .string ⟨#[43, 49]⟩] 9)) = W0 at *
  have HV0 := Lib.hid (hv.out.below HB0.out)
  obtain ⟨q, hq⟩ : ∃ q, w.heap.size = q := ⟨_, rfl⟩
  rw [hq] at HW ⊢
  clear hq
  go_loopw [31] (fun v31 wr => ∃ (k : Nat), k ≤ 6561 ∧ v31 = .int .i64 k ∧ Hid (Below W0.heap.size W0 wr)) (fun v31 _ => 6561 - (intOf v31).toNat)
  case atStart => exact ⟨0, Nat.zero_le _, rfl, Below.refl _ _⟩
  case round =>
    obtain ⟨k, hk, rfl, HB⟩ := hrel
    by_cases hlt : k < 6561
    · have e1 : decide ((k : Int) < 6561) = true := by simp; omega
      obtain ⟨k0, hk0⟩ : ∃ k0, k % 9 = k0 := ⟨_, rfl⟩
      obtain ⟨j1, hj1⟩ : ∃ j1, k / 9 = j1 := ⟨_, rfl⟩
      obtain ⟨k1, hk1⟩ : ∃ k1, j1 % 9 = k1 := ⟨_, rfl⟩
      obtain ⟨j2, hj2⟩ : ∃ j2, k / 81 = j2 := ⟨_, rfl⟩
      obtain ⟨k2, hk2⟩ : ∃ k2, j2 % 9 = k2 := ⟨_, rfl⟩
      obtain ⟨k3, hk3⟩ : ∃ k3, k / 729 = k3 := ⟨_, rfl⟩
      obtain ⟨x0, hx0, c0⟩ := (HW.out.below HB.out).some (show k0 < 9 by omega)
      obtain ⟨x1, hx1, c1⟩ := (HW.out.below HB.out).some (show k1 < 9 by omega)
      obtain ⟨x2, hx2, c2⟩ := (HW.out.below HB.out).some (show k2 < 9 by omega)
      obtain ⟨x3, hx3, c3⟩ := (HW.out.below HB.out).some (show k3 < 9 by omega)
      have HX : Hid (∀ x ∈ [x0, x1, x2, x3, (⟨#[48]⟩ : ByteArray)], x.size ≤ 10) := by
        intro x hx
        simp only [List.mem_cons, List.not_mem_nil, or_false] at hx
        rcases hx with rfl | rfl | rfl | rfl | rfl
        · exact nine_short _ hx0
        · exact nine_short _ hx1
        · exact nine_short _ hx2
        · exact nine_short _ hx3
        · decide
      have t0 : (k : Int).tmod 9 = (k0 : Int) := by rw [Int.tmod_eq_emod_of_nonneg (by omega)]; omega
      have t1 : (k : Int).tdiv 9 = (j1 : Int) := by rw [Int.tdiv_eq_ediv_of_nonneg (by omega)]; omega
      have t2 : (j1 : Int).tmod 9 = (k1 : Int) := by rw [Int.tmod_eq_emod_of_nonneg (by omega)]; omega
      have t3 : (k : Int).tdiv 81 = (j2 : Int) := by rw [Int.tdiv_eq_ediv_of_nonneg (by omega)]; omega
      have t4 : (j2 : Int).tmod 9 = (k2 : Int) := by rw [Int.tmod_eq_emod_of_nonneg (by omega)]; omega
      have t5 : (k : Int).tdiv 729 = (k3 : Int) := by rw [Int.tdiv_eq_ediv_of_nonneg (by omega)]; omega
      have d0 : (k : Int) % 9 = (k0 : Int) := by omega
      have d1 : (k : Int) / 9 = (j1 : Int) := by omega
      have d2 : (j1 : Int) % 9 = (k1 : Int) := by omega
      have d3 : (k : Int) / 81 = (j2 : Int) := by omega
      have d4 : (j2 : Int) % 9 = (k2 : Int) := by omega
      have d5 : (k : Int) / 729 = (k3 : Int) := by omega
      have i0 : (k0 : Int) < 9 := by omega
      have i1 : (k1 : Int) < 9 := by omega
      have i2 : (k2 : Int) < 9 := by omega
      have i3 : (k3 : Int) < 9 := by omega
      have n0 : (0 : Int) ≤ (k0 : Int) := by omega
      have n1 : (0 : Int) ≤ (k1 : Int) := by omega
      have n2 : (0 : Int) ≤ (k2 : Int) := by omega
      have n3 : (0 : Int) ≤ (k3 : Int) := by omega
      have w0 : IntKind.i64.wrap (k0 : Int) = (k0 : Int) := by rw [IntKind.wrap_i64]; omega
      have w1 : IntKind.i64.wrap (j1 : Int) = (j1 : Int) := by rw [IntKind.wrap_i64]; omega
      have w2 : IntKind.i64.wrap (k1 : Int) = (k1 : Int) := by rw [IntKind.wrap_i64]; omega
      have w3 : IntKind.i64.wrap (j2 : Int) = (j2 : Int) := by rw [IntKind.wrap_i64]; omega
      have w4 : IntKind.i64.wrap (k2 : Int) = (k2 : Int) := by rw [IntKind.wrap_i64]; omega
      have w5 : IntKind.i64.wrap (k3 : Int) = (k3 : Int) := by rw [IntKind.wrap_i64]; omega
      have hkm : k % 3 = k0 % 3 := by omega
      clear hk0 hj1 hk1 hj2 hk2 hk3 hx0 hx1 hx2 hx3
      go_wp2_with fail
      refine wp_region_oneq 22 (by kernel_rfl) (by kernel_rfl) ?_
      simp only [List.take_succ_cons, List.take_zero, List.drop_succ_cons, List.drop_zero]
      repeat (go_big_quiet_step (fail))
      refine wpQuiet_nil ?_
      refine wpOp_here rfl rfl (fun K hK => ?_)
      go_simp
      refine hK _ _ ?_
      clear hK K
      try go_frame
      repeat (go_big_quiet_step (fail))
      refine wpQuiet_nil ?_
      have HW5 : Hid (WdAt ((wr.alloc (.cells #[.string x0, .string x1, .string x2, .string x3, .string ⟨#[48]⟩] 9)).drew) wr.heap.size [x0, x1, x2, x3, ⟨#[48]⟩]) := wd_new wr _ [x0, x1, x2, x3, ⟨#[48]⟩]
      have HB5 : Hid (Below W0.heap.size W0 ((wr.alloc (.cells #[.string x0, .string x1, .string x2, .string x3, .string ⟨#[48]⟩] 9)).drew)) := (balloc HB.out _).drew
      go_upto_region 7 with fail
      generalize ((wr.alloc (.cells #[.string x0, .string x1, .string x2, .string x3, .string ⟨#[48]⟩] 9)).drew) = W5 at *
      obtain ⟨q5, hq5⟩ : ∃ q5, wr.heap.size = q5 := ⟨_, rfl⟩
      rw [hq5] at HW5 ⊢
      clear hq5 c0 c1 c2 c3
      go_loopw [4] (fun v4 wr => ∃ (n : Nat), 1 ≤ n ∧ n ≤ 6 ∧ v4 = .int .i64 n ∧ Hid (Below W5.heap.size W5 wr)) (fun v4 _ => 6 - (intOf v4).toNat)
      case atStart => exact ⟨1, Nat.le_refl _, by omega, rfl, Below.refl _ _⟩
      case round =>
        obtain ⟨n, hn1, hn6, rfl, HB6⟩ := hrel
        by_cases hn5 : n ≤ 5
        · have e2 : decide ((n : Int) ≤ 5) = true := by simp; omega
          have hn0 : (0 : Int) ≤ (n : Int) := by omega
          have hn5i : (n : Int) ≤ 5 := by omega
          have t6 : (k : Int).tmod 3 = ((k % 3 : Nat) : Int) := by rw [Int.tmod_eq_emod_of_nonneg (by omega)]; omega
          have d6 : (k : Int) % 3 = ((k % 3 : Nat) : Int) := by omega
          obtain ⟨km, hkm⟩ : ∃ km, k % 3 = km := ⟨_, rfl⟩
          rw [hkm] at t6 d6
          have w6 : IntKind.i64.wrap (km : Int) = (km : Int) := by rw [IntKind.wrap_i64]; omega
          have hsl : ∀ w, (Instr.sliceAt 25 (.slice (some ⟨q5, 0, none⟩) 5 5) none (some (.int .i64 (n : Int))) none).run Tryz.prog w = .ok (.slice (some ⟨q5, 0, none⟩) n 5) w := fun w => by go_simp
          have HJ : Hid (∀ W, Below W5.heap.size W5 W → Calls Tryz.prog 9 #[.slice (some ⟨q5, 0, none⟩) n 5, .string ⟨#[32]⟩] W fun e w' => ∃ x, x.size ≤ 100 ∧ e = .returned (.string x) ∧ Below W.heap.size W w') := fun W hW => joinFew q5 n _ HX.out rfl W5 W HW5 hW hn5
          have HVR := Lib.hid ((HV0.out.below HB5.out).below HB6.out)
          clear hkm
          by_cases h3 : 3 < n
          · have e3 : decide ((3 : Int) < (n : Int)) = true := by simp; omega
            by_cases hm : 0 < km
            · have e4 : decide ((0 : Int) < (km : Int)) = true := by simp; omega
              clear HJ HVR
              go_wp2_with fail
              go_roundw
              case rel => exact ⟨n + 1, by omega, by omega, by go_num, HB6⟩
              case measure => simp [intOf]; omega
            · have e4 : decide ((0 : Int) < (km : Int)) = false := by simp; omega
              go_wp2_with fail
              refine (HJ.out _ HB6.out).mono ?_
              rintro e w7 ⟨x, hxs, rfl, hb⟩
              have HB7 := Lib.hid (bthen HB6.out hb)
              have HV7 := Lib.hid (HVR.out.below hb)
              clear hb HJ HVR
              go_wp2_with fail
              refine (readsC x w7 (by omega) HV7).mono ?_
              rintro e w8 ⟨rfl, hb⟩
              have HB8 := Lib.hid (bthen HB7.out hb)
              clear hb HB7 HV7
              go_wp2_with fail
              go_roundw
              case rel => exact ⟨n + 1, by omega, by omega, by go_num, HB8⟩
              case measure => simp [intOf]; omega
          · have e3 : decide ((3 : Int) < (n : Int)) = false := by simp; omega
            go_wp2_with fail
            refine (HJ.out _ HB6.out).mono ?_
            rintro e w7 ⟨x, hxs, rfl, hb⟩
            have HB7 := Lib.hid (bthen HB6.out hb)
            have HV7 := Lib.hid (HVR.out.below hb)
            clear hb HJ HVR
            go_wp2_with fail
            refine (readsC x w7 (by omega) HV7).mono ?_
            rintro e w8 ⟨rfl, hb⟩
            have HB8 := Lib.hid (bthen HB7.out hb)
            clear hb HB7 HV7
            go_wp2_with fail
            go_roundw
            case rel => exact ⟨n + 1, by omega, by omega, by go_num, HB8⟩
            case measure => simp [intOf]; omega
        · have e2 : decide ((n : Int) ≤ 5) = false := by simp; omega
          go_wp2_with fail
          go_roundw
          case rel => exact ⟨k + 1, by omega, by go_num, bthen HB5.out HB6.out⟩
          case measure => simp [intOf]; omega
    · have e1 : decide ((k : Int) < 6561) = false := by simp; omega
      have HW2 : Hid (WdAt (wr.alloc (.cells #[.string ⟨#[49, 32, 48, 32, 48]⟩, .string ⟨#[50, 32, 100, 32, 49, 32, 48]⟩, .string ⟨#[49, 32, 100, 32, 48]⟩, .string ⟨#[48, 32, 100, 32, 48]⟩, .string ⟨#[50, 32, 49, 32, 48, 32, 49, 32, 48]⟩, .string ⟨#[99]⟩, .string ⟨#[99, 32, 120]⟩, .string ⟨#[99, 120]⟩, .string ⟨#[]⟩, .string ⟨#[32]⟩, .string ⟨#[49, 48, 52, 56, 53, 55, 54, 32, 45, 49, 48, 52, 56, 53, 55, 54, 32, 48, 32, 49, 48, 55, 51, 55, 52, 49, 56, 50, 52, 32, 48]⟩, .string ⟨#[49, 48, 55, 51, 55, 52, 49, 56, 50, 53, 32, 48, 32, 48]⟩, .string ⟨#[49, 32, 49, 48, 52, 56, 53, 55, 55, 32, 48, 32, 48]⟩, .string ⟨#[49, 32, 48, 32, 45, 49, 48, 55, 51, 55, 52, 49, 56, 50, 53, 32, 48]⟩, .string ⟨#[49, 32, 49, 32, 49, 32, 48, 32, 49, 32, 49, 32, 48]⟩, .string ⟨#[57, 57, 57, 57, 57, 57, 57, 57, 57, 57, 57, 57, 57, 57, 57, 57, 57, 57, 57, 57, 32, 48, 32, 48]⟩] 9)) wr.heap.size headS) := wd_new wr _ headS
      have HB2 : Hid (Below W0.heap.size W0 (wr.alloc (.cells #[.string ⟨#[49, 32, 48, 32, 48]⟩, .string ⟨#[50, 32, 100, 32, 49, 32, 48]⟩, .string ⟨#[49, 32, 100, 32, 48]⟩, .string ⟨#[48, 32, 100, 32, 48]⟩, .string ⟨#[50, 32, 49, 32, 48, 32, 49, 32, 48]⟩, .string ⟨#[99]⟩, .string ⟨#[99, 32, 120]⟩, .string ⟨#[99, 120]⟩, .string ⟨#[]⟩, .string ⟨#[32]⟩, .string ⟨#[49, 48, 52, 56, 53, 55, 54, 32, 45, 49, 48, 52, 56, 53, 55, 54, 32, 48, 32, 49, 48, 55, 51, 55, 52, 49, 56, 50, 52, 32, 48]⟩, .string ⟨#[49, 48, 55, 51, 55, 52, 49, 56, 50, 53, 32, 48, 32, 48]⟩, .string ⟨#[49, 32, 49, 48, 52, 56, 53, 55, 55, 32, 48, 32, 48]⟩, .string ⟨#[49, 32, 48, 32, 45, 49, 48, 55, 51, 55, 52, 49, 56, 50, 53, 32, 48]⟩, .string ⟨#[49, 32, 49, 32, 49, 32, 48, 32, 49, 32, 49, 32, 48]⟩, .string ⟨#[57, 57, 57, 57, 57, 57, 57, 57, 57, 57, 57, 57, 57, 57, 57, 57, 57, 57, 57, 57, 32, 48, 32, 48]⟩] 9))) := balloc HB.out _
      go_upto_region 14 with fail
      generalize (wr.alloc (.cells #[.string ⟨#[49, 32, 48, 32, 48]⟩, .string ⟨#[50, 32, 100, 32, 49, 32, 48]⟩, .string ⟨#[49, 32, 100, 32, 48]⟩, .string ⟨#[48, 32, 100, 32, 48]⟩, .string ⟨#[50, 32, 49, 32, 48, 32, 49, 32, 48]⟩, .string ⟨#[99]⟩, .string ⟨#[99, 32, 120]⟩, .string ⟨#[99, 120]⟩, .string ⟨#[]⟩, .string ⟨#[32]⟩, .string ⟨#[49, 48, 52, 56, 53, 55, 54, 32, 45, 49, 48, 52, 56, 53, 55, 54, 32, 48, 32, 49, 48, 55, 51, 55, 52, 49, 56, 50, 52, 32, 48]⟩, .string ⟨#[49, 48, 55, 51, 55, 52, 49, 56, 50, 53, 32, 48, 32, 48]⟩, .string ⟨#[49, 32, 49, 48, 52, 56, 53, 55, 55, 32, 48, 32, 48]⟩, .string ⟨#[49, 32, 48, 32, 45, 49, 48, 55, 51, 55, 52, 49, 56, 50, 53, 32, 48]⟩, .string ⟨#[49, 32, 49, 32, 49, 32, 48, 32, 49, 32, 49, 32, 48]⟩, .string ⟨#[57, 57, 57, 57, 57, 57, 57, 57, 57, 57, 57, 57, 57, 57, 57, 57, 57, 57, 57, 57, 32, 48, 32, 48]⟩] 9)) = W2 at *
      obtain ⟨q2, hq2⟩ : ∃ q2, wr.heap.size = q2 := ⟨_, rfl⟩
      rw [hq2] at HW2 ⊢
      clear hq2 HW HB
      have HV2 := Lib.hid (HV0.out.below HB2.out)
      go_loopw [77] (fun v77 wr => ∃ (k : Nat), k ≤ 16 ∧ v77 = .int .i64 k ∧ Hid (Below W2.heap.size W2 wr)) (fun v77 _ => 16 - (intOf v77).toNat)
      case atStart => exact ⟨0, Nat.zero_le _, rfl, Below.refl _ _⟩
      case round =>
        obtain ⟨k, hk, rfl, HB⟩ := hrel
        by_cases hlt : k < 16
        · have e2 : decide ((k : Int) < 16) = true := by simp; omega
          have hki : (k : Int) < 16 := by omega
          obtain ⟨x, hx, c0⟩ := (HW2.out.below HB.out).some (show k < 16 by omega)
          have hxs := head_short x hx
          have HW3 : Hid (WdAt (wr.alloc (.cells #[.string ⟨#[49, 32, 48, 32, 48]⟩, .string ⟨#[50, 32, 100, 32, 49, 32, 48]⟩, .string ⟨#[49, 32, 100, 32, 48]⟩, .string ⟨#[51, 32, 48, 32, 45, 49, 32, 48]⟩, .string ⟨#[]⟩, .string ⟨#[99]⟩, .string ⟨#[51, 32, 48, 32, 48, 13]⟩] 9)) wr.heap.size tailS) := wd_new wr _ tailS
          have HB3 : Hid (Below W2.heap.size W2 (wr.alloc (.cells #[.string ⟨#[49, 32, 48, 32, 48]⟩, .string ⟨#[50, 32, 100, 32, 49, 32, 48]⟩, .string ⟨#[49, 32, 100, 32, 48]⟩, .string ⟨#[51, 32, 48, 32, 45, 49, 32, 48]⟩, .string ⟨#[]⟩, .string ⟨#[99]⟩, .string ⟨#[51, 32, 48, 32, 48, 13]⟩] 9))) := balloc HB.out _
          go_upto_region 17 with fail
          generalize (wr.alloc (.cells #[.string ⟨#[49, 32, 48, 32, 48]⟩, .string ⟨#[50, 32, 100, 32, 49, 32, 48]⟩, .string ⟨#[49, 32, 100, 32, 48]⟩, .string ⟨#[51, 32, 48, 32, 45, 49, 32, 48]⟩, .string ⟨#[]⟩, .string ⟨#[99]⟩, .string ⟨#[51, 32, 48, 32, 48, 13]⟩] 9)) = W3 at *
          obtain ⟨q3, hq3⟩ : ∃ q3, wr.heap.size = q3 := ⟨_, rfl⟩
          rw [hq3] at HW3 ⊢
          clear hq3 c0 hx
          have HV3 := Lib.hid (HV2.out.below HB3.out)
          go_loopw [83] (fun v83 wr => ∃ (j : Nat), j ≤ 7 ∧ v83 = .int .i64 j ∧ Hid (Below W3.heap.size W3 wr)) (fun v83 _ => 7 - (intOf v83).toNat)
          case atStart => exact ⟨0, Nat.zero_le _, rfl, Below.refl _ _⟩
          case round =>
            obtain ⟨j, hj, rfl, HB4⟩ := hrel
            by_cases hlt7 : j < 7
            · have e3 : decide ((j : Int) < 7) = true := by simp; omega
              have hji : (j : Int) < 7 := by omega
              obtain ⟨y, hy, c1⟩ := (HW3.out.below HB4.out).some (show j < 7 by omega)
              have hys := tail_short y hy
              clear hy
              go_wp2_with fail
              refine (readsC _ wr (by simp only [ByteArray.size_append]; show _ + 1 + _ ≤ _; omega) (Lib.hid (HV3.out.below HB4.out))).mono ?_
              rintro e w5 ⟨rfl, hb⟩
              have HB5 := Lib.hid (bthen HB4.out hb)
              clear hb c1 HB4
              go_wp2_with fail
              refine (readsC _ w5 (by simp only [ByteArray.size_append]; show _ + 1 + _ + 1 ≤ _; omega) (Lib.hid (HV3.out.below HB5.out))).mono ?_
              rintro e w6 ⟨rfl, hb⟩
              have HB6 := Lib.hid (bthen HB5.out hb)
              clear hb HB5
              go_wp2_with fail
              refine (readsC _ w6 (by simp only [ByteArray.size_append]; show _ + 4 + _ ≤ _; omega) (Lib.hid (HV3.out.below HB6.out))).mono ?_
              rintro e w7 ⟨rfl, hb⟩
              have HB7 := Lib.hid (bthen HB6.out hb)
              clear hb HB6
              go_wp2_with fail
              go_roundw
              case rel => exact ⟨j + 1, by omega, by go_num, HB7⟩
              case measure => simp [intOf]; omega
            · have e3 : decide ((j : Int) < 7) = false := by simp; omega
              go_wp2_with fail
              go_roundw
              case rel => exact ⟨k + 1, by omega, by go_num, bthen HB3.out HB4.out⟩
              case measure => simp [intOf]; omega
        · have e2 : decide ((k : Int) < 16) = false := by simp; omega
          have HK4 : Hid (Bk (wr.alloc (.cells #[.int .i64 (-9223372036854775808), .int .i64 (-1073741824), .int .i64 (-1073741825), .int .i64 (-1), .int .i64 0, .int .i64 1, .int .i64 1073741824, .int .i64 1073741825, .int .i64 9223372036854775807] 3)) wr.heap.size 3 (nsS.map (Value.int .i64)).toArray) := Bk.new wr _ _
          have HB4 : Hid (Below W2.heap.size W2 (wr.alloc (.cells #[.int .i64 (-9223372036854775808), .int .i64 (-1073741824), .int .i64 (-1073741825), .int .i64 (-1), .int .i64 0, .int .i64 1, .int .i64 1073741824, .int .i64 1073741825, .int .i64 9223372036854775807] 3))) := balloc HB.out _
          go_upto_region 24 with fail
          generalize (wr.alloc (.cells #[.int .i64 (-9223372036854775808), .int .i64 (-1073741824), .int .i64 (-1073741825), .int .i64 (-1), .int .i64 0, .int .i64 1, .int .i64 1073741824, .int .i64 1073741825, .int .i64 9223372036854775807] 3)) = W4 at *
          obtain ⟨q4, hq4⟩ : ∃ q4, wr.heap.size = q4 := ⟨_, rfl⟩
          rw [hq4] at HK4 ⊢
          have HV4 := Lib.hid (HV2.out.below HB4.out)
          have HB40 := Lib.hid (bthen HB2.out HB4.out)
          clear hq4 HW2 HB HV2 HB4 HB2
          go_loopw [114] (fun v114 wr => ∃ (k : Nat), k ≤ 9 ∧ v114 = .int .i64 k ∧ Hid (Below W4.heap.size W4 wr)) (fun v114 _ => 9 - (intOf v114).toNat)
          case atStart => exact ⟨0, Nat.zero_le _, rfl, Below.refl _ _⟩
          case round =>
            obtain ⟨k, hk, rfl, HB⟩ := hrel
            by_cases hlt : k < 9
            · have e3 : decide ((k : Int) < 9) = true := by simp; omega
              have hki : (k : Int) < 9 := by omega
              obtain ⟨n, hn, c0⟩ := (bkbel HK4.out HB.out).someI (show k < 9 by omega)
              have HN := Lib.hid (ns_i64 n hn)
              have HK5 : Hid (Bk (wr.alloc (.cells #[.bool false, .bool true] 4)) wr.heap.size 4 #[.bool false, .bool true]) := Bk.new wr _ _
              have HB5 : Hid (Below W4.heap.size W4 (wr.alloc (.cells #[.bool false, .bool true] 4))) := balloc HB.out _
              clear hn
              go_upto_region 27 with fail
              generalize (wr.alloc (.cells #[.bool false, .bool true] 4)) = W5 at *
              obtain ⟨q5, hq5⟩ : ∃ q5, wr.heap.size = q5 := ⟨_, rfl⟩
              rw [hq5] at HK5 ⊢
              have HV5 := Lib.hid (HV4.out.below HB5.out)
              clear hq5 c0 HB
              go_loopw [120] (fun v120 wr => ∃ (j : Nat), j ≤ 2 ∧ v120 = .int .i64 j ∧ Hid (Below W5.heap.size W5 wr)) (fun v120 _ => 2 - (intOf v120).toNat)
              case atStart => exact ⟨0, Nat.zero_le _, rfl, Below.refl _ _⟩
              case round =>
                obtain ⟨j, hj, rfl, HB6⟩ := hrel
                by_cases hlt2 : j < 2
                · have e4 : decide ((j : Int) < 2) = true := by simp; omega
                  have hji : (j : Int) < 2 := by omega
                  obtain ⟨r, c1⟩ := (bkbel HK5.out HB6.out).someB hlt2
                  have HZ := Lib.hid (six_rows wr r n HN.out)
                  have HB7 : Hid (Below W5.heap.size W5 (((((((((wr.alloc (.cells #[.bool r, .int .i64 n, .slice none 0 0, .slice none 0 0] 33)).alloc (.cells #[.int .i64 1, .int .i64 n] 3)).alloc (.cells #[.bool r, .int .i64 5, .slice none 0 0, .slice (some ⟨wr.heap.size + 1, 0, none⟩) 2 2] 33)).alloc (.cells #[.bool false, .int .i64 3, .slice none 0 0, .slice none 0 0, .bool r, .int .i64 n, .slice none 0 0, .slice none 0 0] 33)).alloc (.cells #[.bool r, .int .i64 3, .slice none 0 0, .slice none 0 0, .bool false, .int .i64 3, .slice none 0 0, .slice none 0 0] 33)).alloc (.cells #[.bool true, .int .i64 3, .slice none 0 0, .slice none 0 0, .bool r, .int .i64 n, .slice none 0 0, .slice none 0 0, .bool false, .int .i64 4, .slice none 0 0, .slice none 0 0] 33)).alloc (.cells #[.int .i64 1] 34)).alloc (.cells #[.bool r, .int .i64 3, .slice (some ⟨wr.heap.size + 6, 0, none⟩) 1 1, .slice none 0 0] 33)).alloc (.cells #[.slice (some ⟨wr.heap.size, 0, none⟩) 1 1, .slice (some ⟨wr.heap.size + 2, 0, none⟩) 1 1, .slice (some ⟨wr.heap.size + 3, 0, none⟩) 2 2, .slice (some ⟨wr.heap.size + 4, 0, none⟩) 2 2, .slice (some ⟨wr.heap.size + 5, 0, none⟩) 3 3, .slice (some ⟨wr.heap.size + 7, 0, none⟩) 1 1] 22))) := balloc (balloc (balloc (balloc (balloc (balloc (balloc (balloc (balloc (HB6.out) _) _) _) _) _) _) _) _) _
                  clear HB6
                  go_upto_region 30 with fail
                  generalize (((((((((wr.alloc (.cells #[.bool r, .int .i64 n, .slice none 0 0, .slice none 0 0] 33)).alloc (.cells #[.int .i64 1, .int .i64 n] 3)).alloc (.cells #[.bool r, .int .i64 5, .slice none 0 0, .slice (some ⟨wr.heap.size + 1, 0, none⟩) 2 2] 33)).alloc (.cells #[.bool false, .int .i64 3, .slice none 0 0, .slice none 0 0, .bool r, .int .i64 n, .slice none 0 0, .slice none 0 0] 33)).alloc (.cells #[.bool r, .int .i64 3, .slice none 0 0, .slice none 0 0, .bool false, .int .i64 3, .slice none 0 0, .slice none 0 0] 33)).alloc (.cells #[.bool true, .int .i64 3, .slice none 0 0, .slice none 0 0, .bool r, .int .i64 n, .slice none 0 0, .slice none 0 0, .bool false, .int .i64 4, .slice none 0 0, .slice none 0 0] 33)).alloc (.cells #[.int .i64 1] 34)).alloc (.cells #[.bool r, .int .i64 3, .slice (some ⟨wr.heap.size + 6, 0, none⟩) 1 1, .slice none 0 0] 33)).alloc (.cells #[.slice (some ⟨wr.heap.size, 0, none⟩) 1 1, .slice (some ⟨wr.heap.size + 2, 0, none⟩) 1 1, .slice (some ⟨wr.heap.size + 3, 0, none⟩) 2 2, .slice (some ⟨wr.heap.size + 4, 0, none⟩) 2 2, .slice (some ⟨wr.heap.size + 5, 0, none⟩) 3 3, .slice (some ⟨wr.heap.size + 7, 0, none⟩) 1 1] 22)) = W9 at *
                  obtain ⟨b9, hb9⟩ : ∃ b9, wr.heap.size = b9 := ⟨_, rfl⟩
                  rw [hb9] at HZ ⊢
                  obtain ⟨Q6, hQ6⟩ : ∃ Q6, sixQ b9 r n = Q6 := ⟨_, rfl⟩
                  have hl6 : Q6.length = 6 := by rw [← hQ6]; rfl
                  rw [hQ6] at HZ
                  have HV7 := Lib.hid (HV5.out.below HB7.out)
                  clear hb9 c1 hQ6
                  go_loopw [154] (fun v154 wr => ∃ (m : Nat), m ≤ 6 ∧ v154 = .int .i64 m ∧ Hid (Below W9.heap.size W9 wr)) (fun v154 _ => 6 - (intOf v154).toNat)
                  case atStart => exact ⟨0, Nat.zero_le _, rfl, Below.refl _ _⟩
                  case round =>
                    obtain ⟨m, hm, rfl, HB8⟩ := hrel
                    by_cases hlt6 : m < 6
                    · have e5 : decide ((m : Int) < 6) = true := by simp; omega
                      have hmi : (m : Int) < 6 := by omega
                      obtain ⟨⟨⟨A, nn, cc⟩, L⟩, hp⟩ : ∃ p, Q6[m]? = some p := ⟨_, List.getElem?_eq_getElem (by omega)⟩
                      have c2 := (HZ.out.below HB8.out).cell m _ hp
                      obtain ⟨hst, hnn, hlen⟩ := (HZ.out.below HB8.out).all m _ hp
                      have HST : Hid (StepsAt wr A nn L) := hst
                      have HLN : Hid (∀ p ∈ L, p.2.lits.length ≤ 2000 ∧ p.2.hints.length ≤ 2000) := hlen
                      dsimp only at c2 hnn
                      clear hst hlen hp
                      go_wp2_with fail
                      refine (tellsC A nn cc L wr (Lib.hid (HV7.out.below HB8.out)) HST (by omega) HLN).mono ?_
                      rintro e w5 ⟨rfl, hb⟩
                      have HB9 := Lib.hid (bthen HB8.out hb)
                      clear hb c2 HB8 HST HLN
                      go_wp2_with fail
                      go_roundw
                      case rel => exact ⟨m + 1, by omega, by go_num, HB9⟩
                      case measure => simp [intOf]; omega
                    · have e5 : decide ((m : Int) < 6) = false := by simp; omega
                      go_wp2_with fail
                      go_roundw
                      case rel => exact ⟨j + 1, by omega, by go_num, bthen HB7.out HB8.out⟩
                      case measure => simp [intOf]; omega
                · have e4 : decide ((j : Int) < 2) = false := by simp; omega
                  go_wp2_with fail
                  go_roundw
                  case rel => exact ⟨k + 1, by omega, by go_num, bthen HB5.out HB6.out⟩
                  case measure => simp [intOf]; omega
            · have e3 : decide ((k : Int) < 9) = false := by simp; omega
              have HK6 : Hid (Bk (wr.alloc (.cells #[.int .i64 1] 3)) wr.heap.size 3 #[.int .i64 1]) := Bk.new wr _ _
              have HB6 : Hid (Below W0.heap.size W0 (wr.alloc (.cells #[.int .i64 1] 3))) := balloc (bthen HB40.out HB.out) _
              clear HK4 HB HB40 HV4
              go_upto_region 37 with fail
              obtain ⟨W6, hW6⟩ : ∃ W6, wr.alloc (.cells #[.int .i64 1] 3) = W6 := ⟨_, rfl⟩
              obtain ⟨q6, hq6⟩ : ∃ q6, wr.heap.size = q6 := ⟨_, rfl⟩
              rw [hW6, hq6] at HK6
              rw [hW6] at HB6
              go_wp2_with fail
              clear hW6 hq6
              refine (hintsMany q6 W6 HK6).mono ?_
              rintro e w1 ⟨g, rfl, ⟨HG0, HG1⟩, hb⟩
              have HB7 := Lib.hid (bthen HB6.out hb)
              clear hb HK6 HB6
              have HK7 : Hid (Bk (w1.alloc (.cells #[.bool true, .int .i64 1, .slice none 0 0, .slice none 0 0] 33)) w1.heap.size 33 #[.bool true, .int .i64 1, .slice none 0 0, .slice none 0 0]) := Bk.new w1 _ _
              have HBa : Hid (Below w1.heap.size w1 (w1.alloc (.cells #[.bool true, .int .i64 1, .slice none 0 0, .slice none 0 0] 33))) := balloc (Below.refl _ _) _
              go_wp2_with fail
              generalize (w1.alloc (.cells #[.bool true, .int .i64 1, .slice none 0 0, .slice none 0 0] 33)) = W7 at *
              obtain ⟨q7, hq7⟩ : ∃ q7, w1.heap.size = q7 := ⟨_, rfl⟩
              rw [hq7] at HK7 ⊢
              clear hq7
              refine (stepsMany q7 W7 HK7).mono ?_
              rintro e w2 ⟨gs, rfl, ⟨HS0, HS1⟩, hb⟩
              have HB8 := Lib.hid (bthen HBa.out hb)
              have HB9 := Lib.hid (bthen HB7.out HB8.out)
              have HG2 := Lib.hid (HG1.out.below HB8.out)
              have HG3 := Lib.hid (HG0.out.below HB8.out)
              clear hb HK7 HBa HB7 HB8 HG0 HG1
              go_wp2_with fail
              refine (checkC (some ⟨gs, 0, none⟩) 262145 262145 _ w2 HS0 (-1) 5 (Lib.hid (checkS_many (by omega)))).mono ?_
              rintro e w3 ⟨rfl, hb⟩
              have HBb := Lib.hid (bthen HB9.out hb)
              have HS2 := Lib.hid (HS1.out.below hb)
              have HG4 := Lib.hid (HG2.out.below hb)
              have HG5 := Lib.hid (HG3.out.below hb)
              clear hb HB9 HS0 HS1 HG2 HG3
              dsimp only
              go_wp2_with fail
              refine (checkC (some ⟨gs, 4, none⟩) 262144 262144 _ w3 HS2 (-1) 0 (Lib.hid (checkS_rep (Nat.le_refl _) rfl rfl rfl))).mono ?_
              rintro e w4 ⟨rfl, hb⟩
              have HBc := Lib.hid (bthen HBb.out hb)
              have HG6 := Lib.hid (HG4.out.below hb)
              have HG7 := Lib.hid (HG5.out.below hb)
              clear hb HBb HS2 HG4 HG5
              dsimp only
              have HK8 : Hid (Bk (w4.alloc (.cells #[.bool true, .int .i64 1, .slice none 0 0, .slice (some ⟨g, 1, none⟩) 65536 65536] 33)) w4.heap.size 33 #[.bool true, .int .i64 1, .slice none 0 0, .slice (some ⟨g, 1, none⟩) 65536 65536]) := Bk.new w4 _ _
              have HBd : Hid (Below w4.heap.size w4 (w4.alloc (.cells #[.bool true, .int .i64 1, .slice none 0 0, .slice (some ⟨g, 1, none⟩) 65536 65536] 33))) := balloc (Below.refl _ _) _
              go_wp2_with fail
              generalize (w4.alloc (.cells #[.bool true, .int .i64 1, .slice none 0 0, .slice (some ⟨g, 1, none⟩) 65536 65536] 33)) = W8 at *
              obtain ⟨q8, hq8⟩ : ∃ q8, w4.heap.size = q8 := ⟨_, rfl⟩
              rw [hq8] at HK8 ⊢
              clear hq8
              have HG8 := Lib.hid (HG6.out.below HBd.out)
              refine (stepsLong q8 g W8 HK8 HG8).mono ?_
              rintro e w5 ⟨gl, rfl, HS3, hb⟩
              have HBe := Lib.hid (bthen HBc.out (bthen HBd.out hb))
              have HG9 := Lib.hid (HG8.out.below hb)
              have HG10 := Lib.hid (HG7.out.below (bthen HBd.out hb))
              have HV9 := Lib.hid (HV0.out.below HBe.out)
              clear hb HBc HBd HG6 HG7 HG8 HK8
              go_wp2_with fail
              refine (writeC (some ⟨gl, 0, none⟩) 129 129 _ w5 HS3 HV9 [] (-1) 3 (Lib.hid (write_long _))).mono ?_
              rintro e w6 ⟨rfl, hb⟩
              have HBf := Lib.hid (bthen HBe.out hb)
              have HG11 := Lib.hid (HG9.out.below hb)
              have HG12 := Lib.hid (HG10.out.below hb)
              have HV10 := Lib.hid (HV9.out.below hb)
              clear hb HBe HG9 HG10 HV9 HS3
              dsimp only
              go_wp2_with fail
              refine (linesMany w6 HV10).mono ?_
              rintro e w7 ⟨sl, rfl, HL, hb⟩
              have HBg := Lib.hid (bthen HBf.out hb)
              have HG13 := Lib.hid (HG11.out.below hb)
              have HG14 := Lib.hid (HG12.out.below hb)
              have HV11 := Lib.hid (HV10.out.below hb)
              clear hb HBf HG11 HG12 HV10
              go_wp2_with fail
              refine (readC sl w7 HV11 HL.out.1 ([], 262145, 5) (Lib.hid HL.out.2)).mono ?_
              rintro e w8 ⟨Ar, nr, cr, Lr, rfl, hs8, hm8, hb⟩
              have hnr : nr = 0 := by
                rw [← hs8.len, List.map_eq_nil_iff.1 hm8]
                rfl
              subst hnr
              have HBh := Lib.hid (bthen HBg.out hb)
              have HG15 := Lib.hid (HG13.out.below hb)
              have HG16 := Lib.hid (HG14.out.below hb)
              have HV12 := Lib.hid (HV11.out.below hb)
              clear hb HBg HG13 HG14 HV11 hs8 hm8 HL
              dsimp only
              go_wp2_with fail
              refine (linesLong w8 HV12).mono ?_
              rintro e w9 ⟨sm, rfl, HL, hb⟩
              have HBi := Lib.hid (bthen HBh.out hb)
              have HG17 := Lib.hid (HG15.out.below hb)
              have HG18 := Lib.hid (HG16.out.below hb)
              have HV13 := Lib.hid (HV12.out.below hb)
              clear hb HBh HG15 HG16 HV12
              go_wp2_with fail
              refine (readC sm w9 HV13 HL.out.1 ([], 0, 3) (Lib.hid HL.out.2)).mono ?_
              rintro e w10 ⟨Aq, nq, cq, Lq, rfl, hs9, hm9, hb⟩
              have HBj := Lib.hid (bthen HBi.out hb)
              have HG19 := Lib.hid (HG17.out.below hb)
              have HG20 := Lib.hid (HG18.out.below hb)
              have HV14 := Lib.hid (HV13.out.below hb)
              clear hb HBi HG17 HG18 HV13 hs9 hm9 HL
              dsimp only
              have HP0 : Hid (StpAt w10 ⟨⟨none, 0, 0⟩, ⟨some ⟨g, 0, none⟩, 65537, 65537⟩⟩ ⟨false, 1, [], List.replicate 65537 1⟩) := ⟨i64_small 1 (by decide) (by decide), ints0, HG20.out⟩
              have HP1 : Hid (StpAt w10 ⟨⟨none, 0, 0⟩, ⟨some ⟨g, 1, none⟩, 65536, 65536⟩⟩ ⟨false, 1, [], List.replicate 65536 1⟩) := ⟨i64_small 1 (by decide) (by decide), ints0, HG19.out⟩
              clear HG19 HG20
              go_wp2_with fail
              refine (stepRight false 1 [] _ none (some ⟨g, 0, none⟩) 0 0 65537 65537 w10 HP0).mono ?_
              rintro e w11 ⟨rfl, hb⟩
              rw [wrong_hints false 65537 (by omega)]
              have HBk := Lib.hid (bthen HBj.out hb)
              have HP2 := Lib.hid (HP1.out.below hb)
              have HV15 := Lib.hid (HV14.out.below hb)
              clear hb HBj HP0 HP1 HV14
              go_wp2_with fail
              refine (stepRight false 1 [] _ none (some ⟨g, 1, none⟩) 0 0 65536 65536 w11 HP2).mono ?_
              rintro e w12 ⟨rfl, hb⟩
              rw [right_hints false 65536 (Nat.le_refl _)]
              have HBl := Lib.hid (bthen HBk.out hb)
              have HV16 := Lib.hid (HV15.out.below hb)
              clear hb HBk HP2 HV15
              go_wp2_with fail
              refine (awakeC w12 HV16).mono ?_
              rintro e w13 ⟨rfl, hb⟩
              have HBm := Lib.hid (bthen HBl.out hb)
              clear hb HBl HV16
              go_wp2_with fail
              go_ret
              exact ⟨rfl, bthen HB0.out HBm.out⟩
end Go.Proofs.YteglgcfbmjlnkaaGreatDoor
