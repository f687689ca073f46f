/-
  salvorref29.SameExpr: equal expressions are the same.
-/
import Derived.Test.YtehcpcpmcngnjaaDoorExpr30
import Derived.Test.YtehcpcpmcngnjaaDoorEnv30
import Derived.Test.YtehcpcpmcngnjaaDoorOneQ
set_option linter.unusedVariables false
set_option linter.unusedSimpArgs false
namespace Go.Proofs.YtehcpcpmcngnjaaDoor
open Go.RowKit Go.PlainAid

theorem pokeS {w : World} {o : Obj} : Below w.heap.size w (w.alloc o) := balloc (Below.refl _ _) _
set_option maxRecDepth 100000 in
set_option maxHeartbeats 8000000 in
theorem sameEC (B1 B2 : Nat) : ∀ (N : Nat) (x : Ex) (S U : SV) (w : World), fewX x ≤ N → Hid (TrR B1 w x S) → Hid (TrR B2 w x U) →
    Calls Tryd.prog 38 #[.agg #[.int .i64 (x.kind : Int), .int .i64 (x.op : Int), .int .i64 (x.value : Int), .int .i64 x.width, .string (str x.name), .slice S.A S.n S.c], .agg #[.int .i64 (x.kind : Int), .int .i64 (x.op : Int), .int .i64 (x.value : Int), .int .i64 x.width, .string (str x.name), .slice U.A U.n U.c]] w fun e w' => e = .returned (.bool true) ∧ Below w.heap.size w w'
  | 0, x, S, U, w, hN, _, _ => by
    have := fewX_eq x
    omega
  | N + 1, x, S, U, w, hN, hS, hU => by
    have IH := Lib.hid (sameEC B1 B2 N)
    obtain ⟨SA, n, Sc⟩ := S
    obtain ⟨UA, m, Uc⟩ := U
    have HL : Hid (n = x.subs.length) := Lib.hid hS.out.len
    have HM : Hid (m = x.subs.length) := Lib.hid hU.out.len
    obtain rfl : n = m := by rw [HL.out, HM.out]
    have hn1 : n ≤ 1000 := by have := HL.out; have := hS.out.ok.s; omega
    obtain ⟨k0, hk0⟩ : ∃ k, (x.kind : Int) = k := ⟨_, rfl⟩
    obtain ⟨k1, hk1⟩ : ∃ k, (x.op : Int) = k := ⟨_, rfl⟩
    obtain ⟨k2, hk2⟩ : ∃ k, (x.value : Int) = k := ⟨_, rfl⟩
    obtain ⟨k3, hk3⟩ : ∃ k, x.width = k := ⟨_, rfl⟩
    obtain ⟨k4, hk4⟩ : ∃ k, str x.name = k := ⟨_, rfl⟩
    rw [hk0, hk1, hk2, hk3, hk4]
    clear hk0 hk1 hk2 hk3 hk4
    have h1 := (Bk.new w 49 #[.int .i64 k0, .int .i64 k1, .int .i64 k2, .int .i64 k3, .string k4, .slice SA n Sc]).alloc (.cells #[.int .i64 k0, .int .i64 k1, .int .i64 k2, .int .i64 k3, .string k4, .slice UA n Uc] 49)
    have h2 := Bk.new (w.alloc (.cells #[.int .i64 k0, .int .i64 k1, .int .i64 k2, .int .i64 k3, .string k4, .slice SA n Sc] 49)) 49 #[.int .i64 k0, .int .i64 k1, .int .i64 k2, .int .i64 k3, .string k4, .slice UA n Uc]
    simp only [World.size_alloc] at h2
    have H1 := Lib.hid h1
    have H2 := Lib.hid h2
    have HB0 : Hid (Below w.heap.size w ((w.alloc (.cells #[.int .i64 k0, .int .i64 k1, .int .i64 k2, .int .i64 k3, .string k4, .slice SA n Sc] 49)).alloc (.cells #[.int .i64 k0, .int .i64 k1, .int .i64 k2, .int .i64 k3, .string k4, .slice UA n Uc] 49))) := balloc (balloc (Below.refl _ _) _) _
    clear h1 h2
    go_enter Tryd.func38, Tryd.ntmps38
    go_wp2_with fail
    generalize ((w.alloc (.cells #[.int .i64 k0, .int .i64 k1, .int .i64 k2, .int .i64 k3, .string k4, .slice SA n Sc] 49)).alloc (.cells #[.int .i64 k0, .int .i64 k1, .int .i64 k2, .int .i64 k3, .string k4, .slice UA n Uc] 49)) = W at H1 H2 HB0 ⊢
    obtain ⟨b1, hb1⟩ : ∃ b, w.heap.size = b := ⟨_, rfl⟩
    obtain ⟨b2, hb2⟩ : ∃ b, w.heap.size + 1 = b := ⟨_, rfl⟩
    rw [hb1] at H1
    rw [hb2] at H2
    rw [hb2, hb1]
    clear hb1 hb2
    go_loopw [5] (fun v5 wr => ∃ j : Nat, j ≤ n ∧ v5 = .int .i64 j ∧ Hid (Below w.heap.size w wr) ∧ Hid (Bk wr b1 49 #[.int .i64 k0, .int .i64 k1, .int .i64 k2, .int .i64 k3, .string k4, .slice SA n Sc]) ∧ Hid (Bk wr b2 49 #[.int .i64 k0, .int .i64 k1, .int .i64 k2, .int .i64 k3, .string k4, .slice UA n Uc])) (fun v5 _ => n - (intOf v5).toNat)
    case atStart => exact ⟨0, Nat.zero_le _, rfl, HB0, H1, H2⟩
    case round =>
      obtain ⟨j, hj, rfl, HB, HX1, HX2⟩ := hrel
      clear HB0 H1 H2
      have x5 := HX1.out.cell 5
      have u5 := HX2.out.cell 5
      simp only [List.getElem?_toArray, List.getElem?_cons_succ, List.getElem?_cons_zero] at x5 u5
      by_cases hlt : j < n
      · have e1 : decide ((j : Int) < (n : Int)) = true := by simp; omega
        have hji : (j : Int) < (n : Int) := by omega
        have wj : IntKind.i64.wrap ((j : Int) + 1) = ((j + 1 : Nat) : Int) := by rw [IntKind.wrap_i64]; omega
        obtain ⟨bb, off, y, v, hA, hx, hty, hbb, hc⟩ := (hS.out.bel HB.out).sub cellR_len (i := j) hlt
        obtain ⟨vA, vn, vc⟩ := v
        obtain ⟨bc, of2, y2, v2, hA2, hx2, hty2, hbb2, hc2⟩ := (hU.out.bel HB.out).sub cellR_len (i := j) hlt
        obtain ⟨zA, zn, zc⟩ := v2
        dsimp only at hA hA2
        subst hA hA2
        obtain rfl : y = y2 := by
          rw [hx] at hx2
          injection hx2
        have hyN : fewX y ≤ N := by have := fewX_sub hx; omega
        have c0 : wr.cell? ⟨bb, off + j * 6, none⟩ = some (.int .i64 (y.kind : Int)) := hc 0 _ (by omega) rfl
        have c1 : wr.cell? ⟨bb, off + j * 6 + 1, none⟩ = some (.int .i64 (y.op : Int)) := hc 1 _ (by omega) rfl
        have c2 : wr.cell? ⟨bb, off + j * 6 + 2, none⟩ = some (.int .i64 (y.value : Int)) := hc 2 _ (by omega) rfl
        have c3 : wr.cell? ⟨bb, off + j * 6 + 3, none⟩ = some (.int .i64 y.width) := hc 3 _ (by omega) rfl
        have c4 : wr.cell? ⟨bb, off + j * 6 + 4, none⟩ = some (.string (str y.name)) := hc 4 _ (by omega) rfl
        have c5 : wr.cell? ⟨bb, off + j * 6 + 5, none⟩ = some (.slice vA vn vc) := hc 5 _ (by omega) rfl
        have d0 : wr.cell? ⟨bc, of2 + j * 6, none⟩ = some (.int .i64 (y.kind : Int)) := hc2 0 _ (by omega) rfl
        have d1 : wr.cell? ⟨bc, of2 + j * 6 + 1, none⟩ = some (.int .i64 (y.op : Int)) := hc2 1 _ (by omega) rfl
        have d2 : wr.cell? ⟨bc, of2 + j * 6 + 2, none⟩ = some (.int .i64 (y.value : Int)) := hc2 2 _ (by omega) rfl
        have d3 : wr.cell? ⟨bc, of2 + j * 6 + 3, none⟩ = some (.int .i64 y.width) := hc2 3 _ (by omega) rfl
        have d4 : wr.cell? ⟨bc, of2 + j * 6 + 4, none⟩ = some (.string (str y.name)) := hc2 4 _ (by omega) rfl
        have d5 : wr.cell? ⟨bc, of2 + j * 6 + 5, none⟩ = some (.slice zA zn zc) := hc2 5 _ (by omega) rfl
        have HC := Lib.hid (IH.out y ⟨vA, vn, vc⟩ ⟨zA, zn, zc⟩ _ hyN (Lib.hid (hty.bel (Below.refl _ _).drew)) (Lib.hid (hty2.bel (Below.refl _ _).drew)))
        dsimp only at HC
        clear hc hx hty hc2 hx2 hty2
        go_upto_region 6 with fail
        refine wp_region_oneq 10 (by kernel_rfl) (by kernel_rfl) ?_
        simp only [List.take_succ_cons, List.take_zero, List.drop_succ_cons, List.drop_zero]
        repeat (go_big_quiet_step (fail))
        refine wpQuiet_nil ?_
        refine wpOp_here rfl rfl (fun K hK => ?_)
        go_simp
        go_at_call 38
        refine HC.out.mono ?_
        rintro e w1 ⟨rfl, hb1⟩
        have HB1 := Lib.hid (bthen (HB.out.trans (Below.refl _ _).drew) hb1)
        have HY1 := Lib.hid (bkbel (bkbel HX1.out (Below.refl _ _).drew) hb1)
        have HY2 := Lib.hid (bkbel (bkbel HX2.out (Below.refl _ _).drew) hb1)
        clear hb1 c0 c1 c2 c3 c4 c5 d0 d1 d2 d3 d4 d5 x5 u5
        refine hK _ _ ?_
        clear hK K
        try go_frame
        repeat (go_big_quiet_step (fail))
        refine wpQuiet_nil ?_
        go_wp2_with fail
        go_roundw
        case rel => exact ⟨j + 1, by omega, by go_num, HB1, HY1, HY2⟩
        case measure => simp [intOf]; omega
      · obtain rfl : j = n := by omega
        have e1 : decide ((j : Int) < (j : Int)) = false := by simp
        go_wp2_with fail
        go_ret
        exact ⟨rfl, HB.out⟩
end Go.Proofs.YtehcpcpmcngnjaaDoor
