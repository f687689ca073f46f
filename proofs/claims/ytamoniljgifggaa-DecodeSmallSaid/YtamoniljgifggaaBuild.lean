/-
  Contract of salvorlaw42.Build.
-/
import Derived.Test.YtamoniljgifggaaBuild0
import Derived.Test.YtamoniljgifggaaOneQ
import Derived.Deep.RegionHeld3
import Derived.Deep.RegionLaw
import Derived.Deep.DeepCutAuto
import Derived.Maps.RangeWalk
set_option linter.unusedVariables false
set_option linter.unusedSimpArgs false
namespace Go.Proofs.Ytamoniljgifggaa
open Go.RowKit

def BuildPost (x : RawP) (w : World) (e : Ending) (w' : World) : Prop :=
  ∃ (B : Nat) (z : RV) (y : QV), e = .returned (.tuple #[.agg #[.pointer (some ⟨z.g, 0, none⟩), .slice z.I.A z.I.n z.I.c, .int .i64 x.req, .slice z.O.A z.O.n z.O.c, .slice z.K.A z.K.n z.K.c, .slice z.C.A z.C.n z.C.c, .slice z.R.A z.R.n z.R.c, .int .i64 x.bey, .int .i64 x.hol], .agg #[.int .i64 400, .slice y.N.A y.N.n y.N.c, .slice y.I.A y.I.n y.I.c, .int .i64 x.req, .slice y.O.A y.O.n y.O.c, .slice y.K.A y.K.n y.K.c, .slice y.C.A y.C.n y.C.c, .slice y.R.A y.R.n y.R.c, .int .i64 x.bey, .int .i64 x.hol], .bool true]) ∧ ResAt w' B 400 z (rawR x) ∧ RefAt w' y (rawR x) ∧ Below w.heap.size w w'

set_option maxHeartbeats 8000000 in
set_option maxRecDepth 100000 in
theorem build (v : RawV) (x : RawP) (w : World) (h : Hid (RawAt w v x)) :
    Calls Try.prog 19 #[.agg #[.int .u8 x.inp, .slice v.A.A v.A.n v.A.c, .slice v.W.A v.W.n v.W.c, .slice v.O.A v.O.n v.O.c, .slice v.K.A v.K.n v.K.c, .slice v.C.A v.C.n v.C.c, .slice v.R.A v.R.n v.R.c, .int .i64 x.req, .int .i64 x.bey, .int .i64 x.hol]] w (BuildPost x w) := by
  obtain ⟨⟨AA, nA, cA⟩, ⟨AW, nW, cW⟩, S, ⟨AO, nO, cO⟩, ⟨AK, nK, cK⟩, ⟨AC, nC, cC⟩, ⟨AR, nR, cR⟩⟩ := v
  obtain ⟨inp, ands, words, ops, keep, cached, rules, req, bey, hol⟩ := x
  obtain ⟨hsA, hsW, hsO, hsK, hsC, hsR⟩ := h.out.small
  have hinp : inp ≤ 255 := h.out.inp
  dsimp only at hsA hsW hsO hsK hsC hsR ⊢
  have hb0 : Below w.heap.size w (((w.alloc (.cells #[.int .u8 inp, .slice AA nA cA, .slice AW nW cW, .slice AO nO cO, .slice AK nK cK, .slice AC nC cC, .slice AR nR cR, .int .i64 req, .int .i64 bey, .int .i64 hol] 27)).alloc (.cells #[.pointer none, .slice none 0 0, .int .i64 0, .slice none 0 0, .slice none 0 0, .slice none 0 0, .slice none 0 0, .int .i64 0, .int .i64 0] 49)).alloc (.cells #[.int .i64 0, .slice none 0 0, .slice none 0 0, .int .i64 0, .slice none 0 0, .slice none 0 0, .slice none 0 0, .slice none 0 0, .int .i64 0, .int .i64 0] 70)) := (((Below.refl _ w).alloc (Nat.le_refl _) _).alloc (by simp) _).alloc (by simp; omega) _
  have hx := ((Bk.new w 27 #[.int .u8 inp, .slice AA nA cA, .slice AW nW cW, .slice AO nO cO, .slice AK nK cK, .slice AC nC cC, .slice AR nR cR, .int .i64 req, .int .i64 bey, .int .i64 hol]).alloc (.cells #[.pointer none, .slice none 0 0, .int .i64 0, .slice none 0 0, .slice none 0 0, .slice none 0 0, .slice none 0 0, .int .i64 0, .int .i64 0] 49)).alloc (.cells #[.int .i64 0, .slice none 0 0, .slice none 0 0, .int .i64 0, .slice none 0 0, .slice none 0 0, .slice none 0 0, .slice none 0 0, .int .i64 0, .int .i64 0] 70)
  have hy := (Bk.new (w.alloc (.cells #[.int .u8 inp, .slice AA nA cA, .slice AW nW cW, .slice AO nO cO, .slice AK nK cK, .slice AC nC cC, .slice AR nR cR, .int .i64 req, .int .i64 bey, .int .i64 hol] 27)) 49 #[.pointer none, .slice none 0 0, .int .i64 0, .slice none 0 0, .slice none 0 0, .slice none 0 0, .slice none 0 0, .int .i64 0, .int .i64 0]).alloc (.cells #[.int .i64 0, .slice none 0 0, .slice none 0 0, .int .i64 0, .slice none 0 0, .slice none 0 0, .slice none 0 0, .slice none 0 0, .int .i64 0, .int .i64 0] 70)
  have hz := Bk.new ((w.alloc (.cells #[.int .u8 inp, .slice AA nA cA, .slice AW nW cW, .slice AO nO cO, .slice AK nK cK, .slice AC nC cC, .slice AR nR cR, .int .i64 req, .int .i64 bey, .int .i64 hol] 27)).alloc (.cells #[.pointer none, .slice none 0 0, .int .i64 0, .slice none 0 0, .slice none 0 0, .slice none 0 0, .slice none 0 0, .int .i64 0, .int .i64 0] 49)) 70 #[.int .i64 0, .slice none 0 0, .slice none 0 0, .int .i64 0, .slice none 0 0, .slice none 0 0, .slice none 0 0, .slice none 0 0, .int .i64 0, .int .i64 0]
  rw [World.size_alloc] at hy
  rw [World.size_alloc, World.size_alloc] at hz
  have HB0 := Lib.hid hb0; have HX := Lib.hid hx; have HY := Lib.hid hy; have HZ := Lib.hid hz
  clear hb0 hx hy hz
  go_enter Try.func19, Try.ntmps19
  go_wp2_with fail
  generalize (((w.alloc (.cells #[.int .u8 inp, .slice AA nA cA, .slice AW nW cW, .slice AO nO cO, .slice AK nK cK, .slice AC nC cC, .slice AR nR cR, .int .i64 req, .int .i64 bey, .int .i64 hol] 27)).alloc (.cells #[.pointer none, .slice none 0 0, .int .i64 0, .slice none 0 0, .slice none 0 0, .slice none 0 0, .slice none 0 0, .int .i64 0, .int .i64 0] 49)).alloc (.cells #[.int .i64 0, .slice none 0 0, .slice none 0 0, .int .i64 0, .slice none 0 0, .slice none 0 0, .slice none 0 0, .slice none 0 0, .int .i64 0, .int .i64 0] 70)) = W0 at *
  refine (begin_0 400 W0 (by omega) (by omega)).mono ?_
  rintro e W1 ⟨B, g, A, c, rfl, hBW, hg1, hr1, hb1⟩
  have HB1 := Lib.hid (bthen HB0.out hb1)
  have HX1 := Lib.hid (HX.out.below hb1 HX.out.lt)
  have HY1 := Lib.hid (HY.out.below hb1 HY.out.lt)
  have HZ1 := Lib.hid (HZ.out.below hb1 HZ.out.lt)
  have hBl : B ≤ W1.heap.size := by obtain ⟨nb, mb, c, iv, D, hD, h1, h2, hs, _⟩ := hg1; exact hs
  have HI0 : Hid (BInv B g W1.heap.size (W1.alloc (.cells #[.int .i64 400, .slice A 1 c] 67)) (gInit 0) A 1 c (W1.alloc (.cells #[.int .i64 400, .slice A 1 c] 67))) :=
    ⟨Below.refl _ _, hBl, hg1.below ((Below.refl _ _).alloc (Nat.le_refl _) _), hr1.below ((Below.refl _ _).alloc (Nat.le_refl _) _), Bk.new _ _ _, rfl⟩
  have HB2 := Lib.hid (bthen HB1.out ((Below.refl _ _).alloc (Nat.le_refl _) (.cells #[.int .i64 400, .slice A 1 c] 67)))
  have HX2 := Lib.hid (HX1.out.alloc (.cells #[.int .i64 400, .slice A 1 c] 67))
  have HY2 := Lib.hid (HY1.out.alloc (.cells #[.int .i64 400, .slice A 1 c] 67))
  have HZ2 := Lib.hid (HZ1.out.alloc (.cells #[.int .i64 400, .slice A 1 c] 67))
  have hN2 : w.heap.size + 1 + 1 < B := Nat.lt_of_lt_of_le HZ.out.lt hBW
  have hN0 : w.heap.size < W1.heap.size := HX1.out.lt
  clear HB0 HX HY HZ hb1 hg1 hr1 hBW HB1 HY1 HZ1
  have x0 : W1.cell? ⟨w.heap.size, 0, none⟩ = some (.int .u8 inp) := HX1.out.cell 0
  obtain ⟨m, hm⟩ : ∃ m, inp % 24 = m := ⟨_, rfl⟩
  have hm24 : m < 24 := by omega
  have HM := Lib.hid hm
  clear hm
  go_wp2
  rw [show ((inp : Int) % 24) = (m : Int) from by rw [← HM.out]; omega]
  generalize hW2 : (W1.alloc (.cells #[.int .i64 400, .slice A 1 c] 67)) = W2 at *
  obtain ⟨rb, hrb⟩ : ∃ rb, W1.heap.size = rb := ⟨_, rfl⟩
  rw [hrb] at HI0 ⊢
  clear hW2 HX1 x0 hN0 hBl hrb
  go_loopw [34] (fun i wr => ∃ (k c : Nat) (A : Option Addr), k ≤ m ∧ i = .int .u8 k ∧ Hid (BInv B g rb W2 (gInit k) A (k + 1) c wr)) (fun i _ => m - (intOf i).toNat)
  case atStart => exact ⟨0, c, A, Nat.zero_le _, rfl, HI0⟩
  case round =>
    obtain ⟨k, c, A, hk, rfl, HI⟩ := hrel
    clear HI0
    by_cases hlt : k < m
    · have hki : (k : Int) < (m : Int) := by omega
      go_wp2_with fail
      refine (gInput B g 400 (gInit k) _ (Lib.hid HI.out.g) (by omega) (by rw [gInit_len]; omega)).mono ?_
      rintro e w1 ⟨rfl, hg1, hf1⟩
      obtain ⟨hbx, hrd⟩ := HI.out.grown hf1
      have HG1 := Lib.hid hg1; have HF1 := Lib.hid hf1; have HR1 := Lib.hid hrd; have HX1 := Lib.hid hbx
      have q0 : w1.cell? ⟨rb, 0, none⟩ = some (.int .i64 400) := hbx.cell 0
      have q1 : w1.cell? ⟨rb, 1, none⟩ = some (.slice A (k + 1) c) := hbx.cell 1
      clear hg1 hf1 hbx hrd
      go_wp2_with fail
      refine (rput 400 A (k + 1) c (gInit k) 2 0 0 w1 (Lib.hid HR1.out.rd) (by show _ = _; rw [gInit_len]) (by omega) (by omega)).mono ?_
      rintro e w2 ⟨A2, n2, c2, rfl, hr2, hl2, hb2, _⟩
      rw [← gInit_succ] at hr2 hl2
      obtain rfl : n2 = k + 1 + 1 := by rw [← hl2, gInit_len]
      have HN : Hid (BInv B g rb W2 (gInit (k + 1)) A2 (k + 1 + 1) c2 ((w2.setCell ⟨rb, 0, none⟩ (.int .i64 400)).setCell ⟨rb, 1, none⟩ (.slice A2 (k + 1 + 1) c2))) := HI.out.next (by rw [gInit_succ]; exact HG1.out) HF1.out hb2 hr2 hl2
      have HX2 := Lib.hid (HX1.out.below hb2 HX1.out.lt)
      have p0 : w2.cell? ⟨rb, 0, none⟩ = some (.int .i64 400) := HX2.out.cell 0
      have p1 : w2.cell? ⟨rb, 1, none⟩ = some (.slice A (k + 1) c) := HX2.out.cell 1
      have f0 := HX2.out.frozen 0
      have f1 := HX2.out.frozen 1
      clear hr2 hl2 hb2 q0 q1
      go_wp2
      go_roundw
      case rel => exact ⟨k + 1, c2, A2, by omega, by go_num, HN⟩
      case measure => simp [intOf]; omega
    · obtain rfl : m = k := by omega
      have HXr := Lib.hid (HX2.out.below HI.out.bel (by omega))
      have x1 : wr.cell? ⟨w.heap.size, 1, none⟩ = some (.slice AA nA cA) := HXr.out.cell 1
      clear hlt
      go_wp2
      clear x1 HXr
      have HI1 : Hid (BInv B g rb W2 (gAnds m (ands.take 0)) A (m + 1) c wr) := HI
      clear HI
      go_loopw [56] (fun i wr => ∃ (k n c : Nat) (A : Option Addr), k ≤ nA ∧ i = .int .i64 k ∧ Hid (BInv B g rb W2 (gAnds m (ands.take k)) A n c wr)) (fun i _ => nA - (intOf i).toNat)
      case atStart => exact ⟨0, m + 1, c, A, Nat.zero_le _, rfl, HI1⟩
      case round =>
        obtain ⟨k, n, c, A, hk, rfl, HI⟩ := hrel
        clear HI1
        have HBr : Hid (Below w.heap.size w wr) := HB2.out.trans (HI.out.bel.mono (by omega))
        by_cases hlt : k < nA
        · obtain ⟨b1, o1, p, rfl, hp, hbl, d0, d1⟩ := (h.out.ands.below HBr.out).pair h.out.andsn hlt
          obtain ⟨⟨pa1, pa2⟩, ⟨pb1, pb2⟩⟩ := h.out.andsw p (List.mem_of_getElem? hp)
          obtain ⟨pa, pb⟩ := p
          dsimp only at d0 d1 pa1 pa2 pb1 pb2
          have HP := Lib.hid hp
          have hgf := gAnds_fact m (ands.take k)
          have htl : (ands.take k).length ≤ k := by rw [List.length_take]; omega
          have hnl := HI.out.len
          have hn64 : n ≤ 64 := by omega
          have hn0 : 0 < n := by omega
          have hki : (k : Int) < (nA : Int) := by omega
          have hrl : rb < wr.heap.size := HI.out.box.lt
          have q1 : wr.cell? ⟨rb, 1, none⟩ = some (.slice A n c) := HI.out.box.cell 1
          clear hp hgf htl hnl
          go_wp2
          have HV0 := Lib.hid (Bk.new wr 99 #[.int .i64 pa, .int .i64 pb])
          have HVI := Lib.hid (HI.out.below ((Below.refl _ wr).alloc (Nat.le_refl _) (.cells #[.int .i64 pa, .int .i64 pb] 99)))
          clear q1
          generalize (wr.alloc (.cells #[.int .i64 pa, .int .i64 pb] 99)) = V at *
          have v0 : V.cell? ⟨wr.heap.size, 0, none⟩ = some (.int .i64 pa) := HV0.out.cell 0
          have v1 : V.cell? ⟨wr.heap.size, 1, none⟩ = some (.int .i64 pb) := HV0.out.cell 1
          obtain ⟨kk, hkk⟩ : ∃ kk : Int, 2 * (n : Int) = kk := ⟨_, rfl⟩
          have hkl : 0 < kk := by omega
          have hku : kk ≤ 128 := by omega
          rw [hkk]
          have HKK := Lib.hid hkk
          clear hkk
          have hk0 : (kk == 0) = false := by simp; omega
          have b1a := tmod_bd pa kk hkl
          have b1b := tmod_bd pb kk hkl
          have wa1 : IntKind.i64.wrap (pa.tmod kk) = pa.tmod kk := IntWalk.i64_in _ (by omega)
          have wb1 : IntKind.i64.wrap (pb.tmod kk) = pb.tmod kk := IntWalk.i64_in _ (by omega)
          have wa2 : IntKind.i64.wrap (pa.tmod kk + kk) = pa.tmod kk + kk := IntWalk.i64_in _ (by omega)
          have wb2 : IntKind.i64.wrap (pb.tmod kk + kk) = pb.tmod kk + kk := IntWalk.i64_in _ (by omega)
          have b2a := nrm_bd pa kk hkl
          have b2b := nrm_bd pb kk hkl
          unfold nrm at b2a b2b
          have wa3 : IntKind.i64.wrap ((pa.tmod kk + kk).tmod kk) = (pa.tmod kk + kk).tmod kk := IntWalk.i64_in _ (by omega)
          have wb3 : IntKind.i64.wrap ((pb.tmod kk + kk).tmod kk) = (pb.tmod kk + kk).tmod kk := IntWalk.i64_in _ (by omega)
          clear b1a b1b b2a b2b
          go_quiet (fail)
          clear wa1 wb1 wa2 wb2 wa3 wb3
          have HVQ := Lib.hid (HVI.out.below (below_drewN V nq))
          clear v0 v1 HVI HV0
          have hna := nrm_bd pa kk hkl
          have hnb := nrm_bd pb kk hkl
          have HNR : Hid (gStep (gAnds m (ands.take k)) (pa, pb) = (andG (gAnds m (ands.take k)) (nrm pa kk) (nrm pb kk)).1) := by
            show gStep _ _ = _
            unfold gStep
            rw [HI.out.len, HKK.out]
          generalize hpp : (pa.tmod kk + kk).tmod kk = pp
          generalize hqq : (pb.tmod kk + kk).tmod kk = qq
          rw [show nrm pa kk = pp from hpp] at HNR hna
          rw [show nrm pb kk = qq from hqq] at HNR hnb
          obtain ⟨hna0, hna1⟩ := hna
          obtain ⟨hnb0, hnb1⟩ := hnb
          clear hpp hqq pa1 pa2 pb1 pb2 d0 d1
          generalize V.drewN nq = VQ at *
          go_wp2_with fail
          have hkk := HKK.out
          have hlen := HI.out.len
          refine (gAnd B g 400 (gAnds m (ands.take k)) pp qq VQ (Lib.hid HVQ.out.g) (by omega) (by rw [hlen]; omega) hna0 (by rw [hlen]; omega) hnb0 (by rw [hlen]; omega)).mono ?_
          clear hlen hkk
          rintro e w1 ⟨rfl, hg1, hf1⟩
          obtain ⟨hbx, hrd⟩ := HVQ.out.grown hf1
          have HG1 := Lib.hid hg1; have HF1 := Lib.hid hf1; have HR1 := Lib.hid hrd; have HX1 := Lib.hid hbx
          have q0 : w1.cell? ⟨rb, 0, none⟩ = some (.int .i64 400) := hbx.cell 0
          have q1 : w1.cell? ⟨rb, 1, none⟩ = some (.slice A n c) := hbx.cell 1
          clear hg1 hf1 hbx hrd
          go_wp2_with fail
          have hkk := HKK.out
          refine (rand 400 A n c (gAnds m (ands.take k)) pp qq w1 HR1 (Lib.hid HI.out.len) hna0 (by omega) hnb0 (by omega) (by omega) (by omega)).mono ?_
          clear hkk
          rintro e w2 ⟨A2, n2, c2, rfl, hr2, hl2, hb2⟩
          have HN : Hid (BInv B g rb W2 (gAnds m (ands.take (k + 1))) A2 n2 c2 ((w2.setCell ⟨rb, 0, none⟩ (.int .i64 400)).setCell ⟨rb, 1, none⟩ (.slice A2 n2 c2))) := by
            show BInv _ _ _ _ _ _ _ _ _
            rw [take_snoc HP.out, gAnds_snoc, HNR.out]
            exact HVQ.out.next HG1.out HF1.out hb2 hr2 hl2
          have HX2 := Lib.hid (HX1.out.below hb2 HX1.out.lt)
          have p0 : w2.cell? ⟨rb, 0, none⟩ = some (.int .i64 400) := HX2.out.cell 0
          have p1 : w2.cell? ⟨rb, 1, none⟩ = some (.slice A n c) := HX2.out.cell 1
          have f0 := HX2.out.frozen 0
          have f1 := HX2.out.frozen 1
          clear hr2 hl2 hb2 q0 q1
          go_wp2
          go_roundw
          case rel => exact ⟨k + 1, n2, c2, A2, by omega, by go_num, HN⟩
          case measure => simp [intOf]; omega
        · obtain rfl : nA = k := by omega
          have HXr := Lib.hid (HX2.out.below HI.out.bel (by omega))
          have HYr := Lib.hid (HY2.out.below HI.out.bel (by omega))
          have HZr := Lib.hid (HZ2.out.below HI.out.bel (by omega))
          have HI1 : Hid (BInv B g rb W2 (gAnds m ands) A n c wr) := by
            have h1 := HI.out
            rw [List.take_of_length_le (by rw [h.out.andsn]; exact Nat.le_refl _)] at h1
            exact h1
          have HRA := Lib.hid (h.out.below HBr.out)
          clear hlt HI
          go_wp2
          have HRK : Hid (Rd wr AK (keep.map (Value.int .i64))) := HRA.out.keep.1
          have HRC : Hid (Rd wr AC (cached.map (Value.int .i64))) := HRA.out.cached.1
          have HRR : Hid (Rd wr AR (rules.map (Value.int .i64))) := HRA.out.rules.1
          have HLK : Hid (keep.length = nK) := HRA.out.keep.2.1
          have HLC : Hid (cached.length = nC) := HRA.out.cached.2.1
          have HLR : Hid (rules.length = nR) := HRA.out.rules.2.1
          have HBe : Hid (Below wr.heap.size wr wr) := Below.refl _ _
          have HXX := HXr
          have hnt : (27 : TypeId) ≠ 49 := by decide
          have HNT := Lib.hid hnt
          clear hnt
          have hn35 : (35 : TypeId) ≠ 49 := by decide
          have HN35 := Lib.hid hn35
          clear hn35
          have x3 : wr.cell? ⟨w.heap.size, 3, none⟩ = some (.slice AO nO cO) := HXr.out.cell 3
          have x4 : wr.cell? ⟨w.heap.size, 4, none⟩ = some (.slice AK nK cK) := HXr.out.cell 4
          have x5 : wr.cell? ⟨w.heap.size, 5, none⟩ = some (.slice AC nC cC) := HXr.out.cell 5
          have x6 : wr.cell? ⟨w.heap.size, 6, none⟩ = some (.slice AR nR cR) := HXr.out.cell 6
          have x7 : wr.cell? ⟨w.heap.size, 7, none⟩ = some (.int .i64 req) := HXr.out.cell 7
          have x8 : wr.cell? ⟨w.heap.size, 8, none⟩ = some (.int .i64 bey) := HXr.out.cell 8
          have x9 : wr.cell? ⟨w.heap.size, 9, none⟩ = some (.int .i64 hol) := HXr.out.cell 9
          have hwl : w.heap.size < wr.heap.size := HXr.out.lt
          go_cut [16] (fun s16 wx => ∃ (a cK' cC' cR' : Nat) (AK' AC' AR' : Option Addr), s16 = .pointer (some ⟨a, 0, none⟩) ∧ wr.heap.size ≤ a ∧ Hid (Bk wx a 49 #[.pointer (some ⟨g, 0, none⟩), .slice none 0 0, .int .i64 req, .slice AO nO cO, .slice AK' nK cK', .slice AC' nC cC', .slice AR' nR cR', .int .i64 bey, .int .i64 hol]) ∧ Hid (RdT wx AK' 35 (keep.map (Value.int .i64))) ∧ Hid (RdT wx AC' 35 (cached.map (Value.int .i64))) ∧ Hid (RdT wx AR' 35 (rules.map (Value.int .i64))) ∧ Hid (Below wr.heap.size wr wx))
          case first =>
                go_region_held3 (fun w' => w'.cell? ⟨w.heap.size, 3, none⟩ = some (.slice AO nO cO) ∧ w'.cell? ⟨w.heap.size, 4, none⟩ = some (.slice AK nK cK) ∧ w'.cell? ⟨w.heap.size, 5, none⟩ = some (.slice AC nC cC) ∧ w'.cell? ⟨w.heap.size, 6, none⟩ = some (.slice AR nR cR) ∧ w'.cell? ⟨w.heap.size, 7, none⟩ = some (.int .i64 req) ∧ w'.cell? ⟨w.heap.size, 8, none⟩ = some (.int .i64 bey) ∧ w'.cell? ⟨w.heap.size, 9, none⟩ = some (.int .i64 hol))
                  (((refine ⟨Bk.cell (t := 27) (cs := #[.int .u8 inp, .slice AA nA cA, .slice AW nW cW, .slice AO nO cO, .slice AK nK cK, .slice AC nC cC, .slice AR nR cR, .int .i64 req, .int .i64 bey, .int .i64 hol]) ?_ 3, Bk.cell (t := 27) (cs := #[.int .u8 inp, .slice AA nA cA, .slice AW nW cW, .slice AO nO cO, .slice AK nK cK, .slice AC nC cC, .slice AR nR cR, .int .i64 req, .int .i64 bey, .int .i64 hol]) ?_ 4, Bk.cell (t := 27) (cs := #[.int .u8 inp, .slice AA nA cA, .slice AW nW cW, .slice AO nO cO, .slice AK nK cK, .slice AC nC cC, .slice AR nR cR, .int .i64 req, .int .i64 bey, .int .i64 hol]) ?_ 5, Bk.cell (t := 27) (cs := #[.int .u8 inp, .slice AA nA cA, .slice AW nW cW, .slice AO nO cO, .slice AK nK cK, .slice AC nC cC, .slice AR nR cR, .int .i64 req, .int .i64 bey, .int .i64 hol]) ?_ 6, Bk.cell (t := 27) (cs := #[.int .u8 inp, .slice AA nA cA, .slice AW nW cW, .slice AO nO cO, .slice AK nK cK, .slice AC nC cC, .slice AR nR cR, .int .i64 req, .int .i64 bey, .int .i64 hol]) ?_ 7, Bk.cell (t := 27) (cs := #[.int .u8 inp, .slice AA nA cA, .slice AW nW cW, .slice AO nO cO, .slice AK nK cK, .slice AC nC cC, .slice AR nR cR, .int .i64 req, .int .i64 bey, .int .i64 hol]) ?_ 8, Bk.cell (t := 27) (cs := #[.int .u8 inp, .slice AA nA cA, .slice AW nW cW, .slice AO nO cO, .slice AK nK cK, .slice AC nC cC, .slice AR nR cR, .int .i64 req, .int .i64 bey, .int .i64 hol]) ?_ 9⟩ <;> (repeat (first | with_reducible exact HXX.out | with_reducible refine Bk.drew ?_ | with_reducible refine Bk.alloc ?_ _ | with_reducible refine Bk.far ?_ HNA.out _)))))
                  (first
                    | (
                      go_at_call 59
                      with_reducible refine (refs_any AK nK cK keep _ (Lib.hid (Rd.below HRK.out ?_)) HLK (by omega)).mono ?_
                      · (first | with_reducible exact HBe.out | with_reducible exact HBe.out.drew | with_reducible exact balloc HBe.out _ | with_reducible exact (balloc HBe.out _).drew)
                      rintro e wK ⟨A1K, c1K, rfl, hoK, hbK⟩
                      have HOK := Lib.hid (RdT.of_own hoK)
                      (first | with_reducible have HBn := Lib.hid (bthen HBe.out hbK) | with_reducible have HBn := Lib.hid (bthen HBe.out.drew hbK) | with_reducible have HBn := Lib.hid (bthen (balloc HBe.out _) hbK) | with_reducible have HBn := Lib.hid (bthen (balloc HBe.out _).drew hbK))
                      (first | with_reducible have HXn := Lib.hid (bkbel HXX.out hbK) | with_reducible have HXn := Lib.hid (bkbel HXX.out.drew hbK) | with_reducible have HXn := Lib.hid (bkbel (HXX.out.alloc _) hbK) | with_reducible have HXn := Lib.hid (bkbel (HXX.out.alloc _).drew hbK))
                      (first | with_reducible have HAK := Lib.hid (bkbel (Bk.new _ _ #[.pointer none, .slice none 0 0, .int .i64 0, .slice none 0 0, .slice none 0 0, .slice none 0 0, .slice none 0 0, .int .i64 0, .int .i64 0]) hbK) | with_reducible have HAK := Lib.hid (bkbel (Bk.new _ _ #[.pointer none, .slice none 0 0, .int .i64 0, .slice none 0 0, .slice none 0 0, .slice none 0 0, .slice none 0 0, .int .i64 0, .int .i64 0]).drew hbK) | skip)
                      have hsK : wr.heap.size ≤ wK.heap.size := HBn.out.size
                      clear HBe HXX hoK hbK
                      have HBe := HBn
                      have HXX := HXn
                      clear HBn HXn)
                    | (
                      go_at_call 59
                      with_reducible refine (refs_any AC nC cC cached _ (Lib.hid (Rd.below HRC.out ?_)) HLC (by omega)).mono ?_
                      · (first | with_reducible exact HBe.out | with_reducible exact HBe.out.drew | with_reducible exact balloc HBe.out _ | with_reducible exact (balloc HBe.out _).drew)
                      rintro e wC ⟨A1C, c1C, rfl, hoC, hbC⟩
                      have HOC := Lib.hid (RdT.of_own hoC)
                      (first | with_reducible have HBn := Lib.hid (bthen HBe.out hbC) | with_reducible have HBn := Lib.hid (bthen HBe.out.drew hbC) | with_reducible have HBn := Lib.hid (bthen (balloc HBe.out _) hbC) | with_reducible have HBn := Lib.hid (bthen (balloc HBe.out _).drew hbC))
                      (first | with_reducible have HXn := Lib.hid (bkbel HXX.out hbC) | with_reducible have HXn := Lib.hid (bkbel HXX.out.drew hbC) | with_reducible have HXn := Lib.hid (bkbel (HXX.out.alloc _) hbC) | with_reducible have HXn := Lib.hid (bkbel (HXX.out.alloc _).drew hbC))
                      (first | with_reducible have HAC := Lib.hid (bkbel HAK.out hbC) | with_reducible have HAC := Lib.hid (bkbel (Bk.new _ _ #[.pointer none, .slice none 0 0, .int .i64 0, .slice none 0 0, .slice none 0 0, .slice none 0 0, .slice none 0 0, .int .i64 0, .int .i64 0]) hbC) | with_reducible have HAC := Lib.hid (bkbel (Bk.new _ _ #[.pointer none, .slice none 0 0, .int .i64 0, .slice none 0 0, .slice none 0 0, .slice none 0 0, .slice none 0 0, .int .i64 0, .int .i64 0]).drew hbC) | skip)
                      (first | with_reducible have HOKC := Lib.hid (HOK.out.below hbC) | with_reducible have HOKC := Lib.hid ((HOK.out.alloc _).below hbC))
                      have hsC : wr.heap.size ≤ wC.heap.size := HBn.out.size
                      clear HBe HXX hoC hbC
                      have HBe := HBn
                      have HXX := HXn
                      clear HBn HXn)
                    | (
                      go_at_call 59
                      with_reducible refine (refs_any AR nR cR rules _ (Lib.hid (Rd.below HRR.out ?_)) HLR (by omega)).mono ?_
                      · (first | with_reducible exact HBe.out | with_reducible exact HBe.out.drew | with_reducible exact balloc HBe.out _ | with_reducible exact (balloc HBe.out _).drew)
                      rintro e wR ⟨A1R, c1R, rfl, hoR, hbR⟩
                      have HOR := Lib.hid (RdT.of_own hoR)
                      (first | with_reducible have HBn := Lib.hid (bthen HBe.out hbR) | with_reducible have HBn := Lib.hid (bthen HBe.out.drew hbR) | with_reducible have HBn := Lib.hid (bthen (balloc HBe.out _) hbR) | with_reducible have HBn := Lib.hid (bthen (balloc HBe.out _).drew hbR))
                      (first | with_reducible have HXn := Lib.hid (bkbel HXX.out hbR) | with_reducible have HXn := Lib.hid (bkbel HXX.out.drew hbR) | with_reducible have HXn := Lib.hid (bkbel (HXX.out.alloc _) hbR) | with_reducible have HXn := Lib.hid (bkbel (HXX.out.alloc _).drew hbR))
                      (first | with_reducible have HAR := Lib.hid (bkbel HAC.out hbR) | with_reducible have HAR := Lib.hid (bkbel (Bk.new _ _ #[.pointer none, .slice none 0 0, .int .i64 0, .slice none 0 0, .slice none 0 0, .slice none 0 0, .slice none 0 0, .int .i64 0, .int .i64 0]) hbR) | with_reducible have HAR := Lib.hid (bkbel (Bk.new _ _ #[.pointer none, .slice none 0 0, .int .i64 0, .slice none 0 0, .slice none 0 0, .slice none 0 0, .slice none 0 0, .int .i64 0, .int .i64 0]).drew hbR) | skip)
                      (first | (have hA9 := cells9 HAR.out; have HNA := Lib.hid (Bk.ne HXn.out HAR.out HNT.out); obtain ⟨⟨a0, a1, a2, a3, a4, a5, a6, a7, a8⟩, ⟨z0, z1, z2, z3, z4, z5, z6, z7, z8⟩⟩ := hA9) | skip)
                      (first | with_reducible have HOKR := Lib.hid (HOKC.out.below hbR) | with_reducible have HOKR := Lib.hid ((HOKC.out.alloc _).below hbR))
                      (first | with_reducible have HOCR := Lib.hid (HOC.out.below hbR) | with_reducible have HOCR := Lib.hid ((HOC.out.alloc _).below hbR))
                      clear HBe HXX hoR hbR
                      have HBe := HBn
                      have HXX := HXn
                      clear HBn HXn))
                all_goals
                  go_wp2_with fail
                  go_meet
                  clear x3 x4 x5 x6 x7 x8 x9
                  first
                    | (have hq := HAR.out; refine ⟨_, c1K, c1C, c1R, A1K, A1C, A1R, rfl, hsC, ?_⟩; clear hq; exact ⟨Lib.hid (bk_put9 HAR.out), Lib.hid (rdT_put9 HOKR.out HAR.out HN35.out), Lib.hid (rdT_put9 HOCR.out HAR.out HN35.out), Lib.hid (rdT_put9 HOR.out HAR.out HN35.out), Lib.hid (below_put9 HBe.out hsC)⟩)
                    | (have hq := HAR.out; refine ⟨_, c1K, c1C, c1R, A1K, A1C, A1R, rfl, hsK, ?_⟩; clear hq; exact ⟨Lib.hid (bk_put9 HAR.out), Lib.hid (rdT_put9 HOKR.out HAR.out HN35.out), Lib.hid (rdT_put9 HOCR.out HAR.out HN35.out), Lib.hid (rdT_put9 HOR.out HAR.out HN35.out), Lib.hid (below_put9 HBe.out hsK)⟩)
                    | (have hq := HAR.out; refine ⟨_, c1K, c1C, c1R, A1K, A1C, A1R, rfl, (Nat.le_refl _), ?_⟩; clear hq; exact ⟨Lib.hid (bk_put9 HAR.out), Lib.hid (rdT_put9 HOKR.out HAR.out HN35.out), Lib.hid (rdT_put9 HOCR.out HAR.out HN35.out), Lib.hid (rdT_put9 HOR.out HAR.out HN35.out), Lib.hid (below_put9 HBe.out (Nat.le_refl _))⟩)
                    | exact ⟨wR.heap.size, c1K, c1C, c1R, A1K, A1C, A1R, rfl, HBe.out.size, Lib.hid (Bk.new _ _ _), Lib.hid (HOKR.out.alloc _), Lib.hid (HOCR.out.alloc _), Lib.hid (HOR.out.alloc _), Lib.hid (balloc HBe.out _)⟩
          case rest =>
            obtain ⟨a, cK', cC', cR', AK', AC', AR', rfl, hwa, HAB, HAK, HAC, HAR, HBx⟩ := hcut
            clear x3 x4 x5 x6 x7 x8 x9 HBe HXX HNT HN35 HRK HRC HRR HLK HLC HLR hwl
            have hBa : B ≤ a := Nat.le_trans HI1.out.size hwa
            have hwa2 : w.heap.size < a := Nat.lt_of_lt_of_le HXr.out.lt hwa
            have HI2 := Lib.hid (HI1.out.below HBx.out)
            have HXc := Lib.hid (bkbel HXr.out HBx.out)
            have HYc := Lib.hid (bkbel HYr.out HBx.out)
            have HZc := Lib.hid (bkbel HZr.out HBx.out)
            have HRc := Lib.hid (HRA.out.below HBx.out)
            have HBc := Lib.hid (bthen HBr.out HBx.out)
            clear HI1 HXr HYr HZr HRA HBr HBx
            have x2 : wc.cell? ⟨w.heap.size, 2, none⟩ = some (.slice AW nW cW) := HXc.out.cell 2
            have x3 : wc.cell? ⟨w.heap.size, 3, none⟩ = some (.slice AO nO cO) := HXc.out.cell 3
            have x4 : wc.cell? ⟨w.heap.size, 4, none⟩ = some (.slice AK nK cK) := HXc.out.cell 4
            have x5 : wc.cell? ⟨w.heap.size, 5, none⟩ = some (.slice AC nC cC) := HXc.out.cell 5
            have x6 : wc.cell? ⟨w.heap.size, 6, none⟩ = some (.slice AR nR cR) := HXc.out.cell 6
            have x7 : wc.cell? ⟨w.heap.size, 7, none⟩ = some (.int .i64 req) := HXc.out.cell 7
            have x8 : wc.cell? ⟨w.heap.size, 8, none⟩ = some (.int .i64 bey) := HXc.out.cell 8
            have x9 : wc.cell? ⟨w.heap.size, 9, none⟩ = some (.int .i64 hol) := HXc.out.cell 9
            have r0 : wc.cell? ⟨rb, 0, none⟩ = some (.int .i64 400) := HI2.out.box.cell 0
            have r1 : wc.cell? ⟨rb, 1, none⟩ = some (.slice A n c) := HI2.out.box.cell 1
            have hwl : w.heap.size < wc.heap.size := HXc.out.lt
            have hrl : rb < wc.heap.size := HI2.out.box.lt
            have hal : a < wc.heap.size := HAB.out.lt
            go_wp2
            clear x2 x3 x4 x5 x6 x7 x8 x9 r0 r1
            have HQb := Lib.hid (Bk.new wc 70 #[.int .i64 400, .slice A n c, .slice AW nW cW, .int .i64 req, .slice none 0 0, .slice AK nK cK, .slice AC nC cC, .slice AR nR cR, .int .i64 bey, .int .i64 hol])
            have HA0 := Lib.hid (HAB.out.alloc (.cells #[.int .i64 400, .slice A n c, .slice AW nW cW, .int .i64 req, .slice none 0 0, .slice AK nK cK, .slice AC nC cC, .slice AR nR cR, .int .i64 bey, .int .i64 hol] 70))
            have HBv : Hid (Below wc.heap.size wc (wc.alloc (.cells #[.int .i64 400, .slice A n c, .slice AW nW cW, .int .i64 req, .slice none 0 0, .slice AK nK cK, .slice AC nC cC, .slice AR nR cR, .int .i64 bey, .int .i64 hol] 70))) := (Below.refl _ _).alloc (Nat.le_refl _) _
            generalize (wc.alloc (.cells #[.int .i64 400, .slice A n c, .slice AW nW cW, .int .i64 req, .slice none 0 0, .slice AK nK cK, .slice AC nC cC, .slice AR nR cR, .int .i64 bey, .int .i64 hol] 70)) = V at *
            have HI3 := Lib.hid (HI2.out.below HBv.out)
            have HRv := Lib.hid (HRc.out.below HBv.out)
            have HBV := Lib.hid (bthen HBc.out HBv.out)
            have HXV := Lib.hid (bkbel HXc.out HBv.out)
            have HYV := Lib.hid (bkbel HYc.out HBv.out)
            have HZV := Lib.hid (bkbel HZc.out HBv.out)
            have HKV := Lib.hid (HAK.out.below HBv.out)
            have HCV := Lib.hid (HAC.out.below HBv.out)
            have HRV := Lib.hid (HAR.out.below HBv.out)
            obtain ⟨bq, hbq⟩ : ∃ bq, wc.heap.size = bq := ⟨_, rfl⟩
            rw [hbq] at HQb hal hrl hwl ⊢
            have hbV : bq < V.heap.size := HQb.out.lt
            clear hbq HI2 HRc HBc HXc HYc HZc HAK HAC HAR HBv HAB
            go_loopw [138] (fun i wr => ∃ (k cI : Nat) (AI : Option Addr) (S2 : List SV), k ≤ nW ∧ i = .int .i64 k ∧ Hid (Bk wr a 49 #[.pointer (some ⟨g, 0, none⟩), .slice AI k cI, .int .i64 req, .slice AO nO cO, .slice AK' nK cK', .slice AC' nC cC', .slice AR' nR cR', .int .i64 bey, .int .i64 hol]) ∧ Hid (LInv a V AI k cI S2 (words.take k) wr)) (fun i _ => nW - (intOf i).toNat)
            case atStart => exact ⟨0, 0, none, [], Nat.zero_le _, rfl, HA0, Fr.refl _ _, World.ownsRow_nil _ _ _ _, rfl, fun i s l hs _ => by simp at hs⟩
            case round =>
              obtain ⟨k, cI, AI, S2, hk, rfl, HA, HL⟩ := hrel
              have hsV : V.heap.size ≤ wr.heap.size := HL.out.fr.size
              have HBw : Hid (Below w.heap.size w wr) := HBV.out.trans (HL.out.fr.below w.heap.size (by omega) (fun q hq => by omega))
              by_cases hlt : k < nW
              · obtain ⟨b2, o2, s, l, rfl, hl, hc2, hrd, hln, hsn, _⟩ := (h.out.words.below HBw.out).at hlt
                obtain ⟨sA, sn, sc⟩ := s
                dsimp only at hc2 hrd hln hsn
                have HLl := Lib.hid hl; have HRd := Lib.hid hrd; have HLn := Lib.hid hln
                clear hl hrd hln
                have hki : (k : Int) < (nW : Int) := by omega
                have a1 : wr.cell? ⟨a, 1, none⟩ = some (.slice AI k cI) := HA.out.cell 1
                have HRD := Lib.hid (Rd.drew HRd.out)
                go_wp2_with fail
                go_region_law
                  (first
                    | (go_simp
                       go_at_call 59
                       with_reducible refine (refs_any sA sn sc l _ HRD HLn (by omega)).mono ?_
                       rintro e w1 ⟨A1, c1, rfl, ho1, hb1⟩
                       have HO1 := Lib.hid (RdT.of_own ho1)
                       have HL1 := Lib.hid ((HL.out.below ((Below.refl _ wr).drew)).below hb1)
                       have HA1 := Lib.hid (bkbel HA.out.drew hb1)
                       have a11 : w1.cell? ⟨a, 1, none⟩ = some (.slice AI k cI) := HA1.out.cell 1
                       have hal1 : a < w1.heap.size := HA1.out.lt
                       clear ho1 hb1)
                    | (refine step_app el_refs rfl (.tmp 143) (.tmp 146) rfl V.heap.size (.slice AI k cI) k (S2.map SV.val) rfl ?_ (some ⟨_, 0, none⟩) 1 1 [.slice A1 sn c1] rfl ?_ rfl (by simp [Value.oneCell']) (by omega) ?_ ?_
                       · (first | exact HL1.out.own.alloc _ | exact (HL1.out.own.alloc _).drew)
                       · (first | exact Rd.newAt _ #[_] _ _ rfl)
                       · (have := HL1.out.fr.size; simp; omega)
                       intro A3 c3 w2 ho2 hg2 hat2
                       have HL2 := Lib.hid (LInv.app (HL1.out.below ((Below.refl _ _).alloc (Nat.le_refl _) _)) (HO1.out.alloc _) HLn.out ho2 hg2)
                       have HA2 := Lib.hid (Bk.grown (HA1.out.alloc _) hg2 (own_ne HL1.out.own HA1.out (by decide)))
                       have a12 : w2.cell? ⟨a, 1, none⟩ = some (.slice AI k cI) := HA2.out.cell 1
                       have f12 : w2.frozen? ⟨a, 1, none⟩ = false := HA2.out.frozen 1
                       clear ho2 hg2 hat2))
                all_goals
                  clear a1 a11 hc2
                  go_wp2
                  go_roundw
                  case rel => exact ⟨k + 1, c3, A3, S2 ++ [⟨A1, sn, c1⟩], by omega, by go_num, HA2.out.put 1 (.slice A3 (k + 1) c3), by show LInv _ _ _ _ _ _ _ _; rw [take_snoc HLl.out]; exact HL2.out.put HA2.out _⟩
                  case measure => simp [intOf]; omega
              · obtain rfl : nW = k := by omega
                have HLw : Hid (LInv a V AI nW cI S2 words wr) := by
                  have h1 := HL.out
                  rw [List.take_of_length_le (by rw [← h.out.words.len, h.out.words.sn]; exact Nat.le_refl _)] at h1
                  exact h1
                have hng49 : ¬ gType 49 := by unfold gType; decide
                have HGU := Lib.hid (HI3.out.g.offB HL.out.fr HA0.out hng49)
                have HNU := Lib.hid (HI3.out.rd.frT HL.out.fr HA0.out (by decide))
                have HbU := Lib.hid (HI3.out.box.fr HL.out.fr (Bk.ne HI3.out.box HA0.out (by decide)))
                have HKU := Lib.hid (HKV.out.frT HL.out.fr HA0.out (by decide))
                have HCU := Lib.hid (HCV.out.frT HL.out.fr HA0.out (by decide))
                have HRU := Lib.hid (HRV.out.frT HL.out.fr HA0.out (by decide))
                have HQU := Lib.hid (HQb.out.fr HL.out.fr (by omega))
                have HXU := Lib.hid (HXV.out.fr HL.out.fr (by omega))
                have HYU := Lib.hid (HYV.out.fr HL.out.fr (by omega))
                have HZU := Lib.hid (HZV.out.fr HL.out.fr (by omega))
                have HLEN := Lib.hid HI3.out.len
                have HrB := Lib.hid HI3.out.le
                clear HL HI3 HKV HCV HRV HQb HXV HYV HZV HA0 HRv HBV hlt hng49 hk
                obtain ⟨U, rfl⟩ : ∃ U : World, U = wr := ⟨_, rfl⟩
                have hbU : bq < U.heap.size := HQU.out.lt
                have x3 : U.cell? ⟨w.heap.size, 3, none⟩ = some (.slice AO nO cO) := HXU.out.cell 3
                go_wp2
                clear x3
                go_loopw [153] (fun i wr => ∃ (k cQ : Nat) (AQ : Option Addr), k ≤ nO ∧ i = .int .i64 k ∧ Hid (Bk wr bq 70 #[.int .i64 400, .slice A n c, .slice AW nW cW, .int .i64 req, .slice AQ k cQ, .slice AK nK cK, .slice AC nC cC, .slice AR nR cR, .int .i64 bey, .int .i64 hol]) ∧ Hid (QInv bq U AQ k cQ (ops.take k) wr)) (fun i _ => nO - (intOf i).toNat)
                case atStart => exact ⟨0, 0, none, Nat.zero_le _, rfl, HQU, Fr.refl _ _, World.ownsRow_nil _ _ _ _⟩
                case round =>
                  obtain ⟨k, cQ, AQ, hk, rfl, HQ, HQI⟩ := hrel
                  have hsU : U.heap.size ≤ wr.heap.size := HQI.out.fr.size
                  have HBq : Hid (Below w.heap.size w wr) := HBw.out.trans (HQI.out.fr.below w.heap.size (by omega) (fun q hq => by omega))
                  have hbl : bq < wr.heap.size := HQ.out.lt
                  by_cases hlt : k < nO
                  · obtain ⟨b1, o1, y, rfl, hy, _, d0, d1, d2, d3⟩ := (h.out.ops.below HBq.out).op h.out.opsn hlt
                    obtain ⟨_, _, _, hkd0, hkd1⟩ := h.out.opsw y (List.mem_of_getElem? hy)
                    obtain ⟨kd, dn, sl, wt⟩ := y
                    dsimp only at d0 d1 d2 d3 hkd0 hkd1
                    have HYo := Lib.hid hy
                    clear hy
                    have hki : (k : Int) < (nO : Int) := by omega
                    have q4 : wr.cell? ⟨bq, 4, none⟩ = some (.slice AQ k cQ) := HQ.out.cell 4
                    go_wp2_with (at_builtin; refine wpList_app el_qop rfl (.tmp 158) (.tmp 169) rfl U.heap.size (.slice AQ k cQ) k (qcells (ops.take k)) rfl ((HQI.out.own.alloc _).alloc _) (some ⟨_, 0, none⟩) 1 1 [.int .i64 kd, .int .i64 dn, .int .i64 sl, .int .i64 wt] rfl (Rd.newAt _ #[_, _, _, _] _ _ (World.size_alloc _ _)) rfl (by simp [Value.oneCell']) (by omega) (by simp; omega) ?_; intro A3 c3 w2 ho2 hg2 hat2; have HQ2 := Lib.hid (QInv.app (o := ⟨kd, dn, sl, wt⟩) (HQI.out.below (balloc (balloc (Below.refl _ _) _) _)) ho2 hg2); have HB2 := Lib.hid (Bk.grown ((HQ.out.alloc _).alloc _) hg2 (own_ne HQI.out.own HQ.out (by decide))); have q42 : w2.cell? ⟨bq, 4, none⟩ = some (.slice AQ k cQ) := HB2.out.cell 4; have f42 : w2.frozen? ⟨bq, 4, none⟩ = false := HB2.out.frozen 4; clear ho2 hg2 hat2)
                    go_roundw
                    case rel => exact ⟨k + 1, c3, A3, by omega, by go_num, HB2.out.put 4 (.slice A3 (k + 1) c3), by show QInv _ _ _ _ _ _ _; rw [take_snoc HYo.out]; exact HQ2.out.put HB2.out _⟩
                    case measure => simp [intOf]; omega
                  · obtain rfl : nO = k := by omega
                    have HQw : Hid (QInv bq U AQ nO cQ ops wr) := by
                      have h1 := HQI.out
                      rw [List.take_of_length_le (by rw [h.out.opsn]; exact Nat.le_refl _)] at h1
                      exact h1
                    have hng70 : ¬ gType 70 := by unfold gType; decide
                    have HGX := Lib.hid (HGU.out.offB HQw.out.fr HQU.out hng70)
                    have HNX := Lib.hid (HNU.out.frT HQw.out.fr HQU.out (by decide))
                    have HbX := Lib.hid (HbU.out.fr HQw.out.fr (Bk.ne HbU.out HQU.out (by decide)))
                    have HKX := Lib.hid (HKU.out.frT HQw.out.fr HQU.out (by decide))
                    have HCX := Lib.hid (HCU.out.frT HQw.out.fr HQU.out (by decide))
                    have HRX := Lib.hid (HRU.out.frT HQw.out.fr HQU.out (by decide))
                    have HAX := Lib.hid (HA.out.fr HQw.out.fr (by omega))
                    have HYX := Lib.hid (HYU.out.fr HQw.out.fr (by omega))
                    have HZX := Lib.hid (HZU.out.fr HQw.out.fr (by omega))
                    have HLI := Lib.hid (HLw.out.later HQw.out.fr HQU.out)
                    have HQO := Lib.hid (RdT.of_own HQw.out.own)
                    obtain ⟨⟨y0, y1, y2, y3, y4, y5, y6, y7, y8⟩, ⟨g0, g1, g2, g3, g4, g5, g6, g7, g8⟩⟩ := cells9 HYX.out
                    obtain ⟨⟨z0, z1, z2, z3, z4, z5, z6, z7, z8, z9⟩, ⟨f0, f1, f2, f3, f4, f5, f6, f7, f8, f9⟩⟩ := cells10 HZX.out
                    obtain ⟨⟨a0, a1, a2, a3, a4, a5, a6, a7, a8⟩, _⟩ := cells9 HAX.out
                    obtain ⟨⟨q0, q1, q2, q3, q4, q5, q6, q7, q8, q9⟩, _⟩ := cells10 HQ.out
                    have r1 : wr.cell? ⟨rb, 1, none⟩ = some (.slice A n c) := HbX.out.cell 1
                    have hGn : (gAnds m ands).length = n := HLEN.out
                    have HLn := Lib.hid (glen B g 400 (gAnds m ands) wr.drew (HGX.out.below ((Below.refl _ wr).drew)))
                    rw [hGn] at HLn
                    have hnn : ((n : Int) == (n : Int)) = true := by simp
                    have hrB : B ≤ rb := HrB.out
                    have HN1 : Hid (rb ≠ w.heap.size + 1) := fun e => by omega
                    have HN2 : Hid (rb ≠ w.heap.size + 1 + 1) := fun e => by omega
                    have HN3 : Hid (bq ≠ w.heap.size + 1) := fun e => by omega
                    have HN4 : Hid (bq ≠ w.heap.size + 1 + 1) := fun e => by omega
                    have HN5 : Hid (a ≠ w.heap.size + 1) := fun e => by omega
                    have HN6 : Hid (a ≠ w.heap.size + 1 + 1) := fun e => by omega
                    clear HGU HNU HbU HKU HCU HRU HQU HXU HYU HZU HQI HLw hk hlt hng70 hGn
                    go_wp2_with fail
                    go_region_held3 (fun w' => w'.cell? ⟨a, 0, none⟩ = some (.pointer (some ⟨g, 0, none⟩)) ∧ w'.cell? ⟨a, 1, none⟩ = some (.slice AI nW cI) ∧ w'.cell? ⟨a, 2, none⟩ = some (.int .i64 req) ∧ w'.cell? ⟨a, 3, none⟩ = some (.slice AO nO cO) ∧ w'.cell? ⟨a, 4, none⟩ = some (.slice AK' nK cK') ∧ w'.cell? ⟨a, 5, none⟩ = some (.slice AC' nC cC') ∧ w'.cell? ⟨a, 6, none⟩ = some (.slice AR' nR cR') ∧ w'.cell? ⟨a, 7, none⟩ = some (.int .i64 bey) ∧ w'.cell? ⟨a, 8, none⟩ = some (.int .i64 hol) ∧ w'.cell? ⟨bq, 0, none⟩ = some (.int .i64 400) ∧ w'.cell? ⟨bq, 1, none⟩ = some (.slice A n c) ∧ w'.cell? ⟨bq, 2, none⟩ = some (.slice AW nW cW) ∧ w'.cell? ⟨bq, 3, none⟩ = some (.int .i64 req) ∧ w'.cell? ⟨bq, 4, none⟩ = some (.slice AQ nO cQ) ∧ w'.cell? ⟨bq, 5, none⟩ = some (.slice AK nK cK) ∧ w'.cell? ⟨bq, 6, none⟩ = some (.slice AC nC cC) ∧ w'.cell? ⟨bq, 7, none⟩ = some (.slice AR nR cR) ∧ w'.cell? ⟨bq, 8, none⟩ = some (.int .i64 bey) ∧ w'.cell? ⟨bq, 9, none⟩ = some (.int .i64 hol) ∧ w'.cell? ⟨rb, 1, none⟩ = some (.slice A n c))
                      ((refine held33 (t1 := 49) (t2 := 70) (t3 := 67) (s0 := .int .i64 400) ?_ ?_ ?_ <;> (repeat (first | with_reducible exact HAX.out | with_reducible exact HQ.out | with_reducible exact HbX.out | with_reducible refine Bk.drew ?_ | with_reducible refine Bk.far ?_ HN1.out _ | with_reducible refine Bk.far ?_ HN2.out _ | with_reducible refine Bk.far ?_ HN3.out _ | with_reducible refine Bk.far ?_ HN4.out _ | with_reducible refine Bk.far ?_ HN5.out _ | with_reducible refine Bk.far ?_ HN6.out _))))
                      (first
                        | (go_at_call 48
                           with_reducible refine HLn.out.mono ?_
                           rintro e w' ⟨rfl, rfl⟩))
                    all_goals
                      go_wp2
                      have HFIN : Hid (Bk (((((((((((((((((((wr.setCell ⟨w.heap.size + 1, 0, none⟩ (.pointer (some ⟨g, 0, none⟩))).setCell ⟨w.heap.size + 1, 1, none⟩ (.slice AI nW cI)).setCell ⟨w.heap.size + 1, 2, none⟩ (.int .i64 req)).setCell ⟨w.heap.size + 1, 3, none⟩ (.slice AO nO cO)).setCell ⟨w.heap.size + 1, 4, none⟩ (.slice AK' nK cK')).setCell ⟨w.heap.size + 1, 5, none⟩ (.slice AC' nC cC')).setCell ⟨w.heap.size + 1, 6, none⟩ (.slice AR' nR cR')).setCell ⟨w.heap.size + 1, 7, none⟩ (.int .i64 bey)).setCell ⟨w.heap.size + 1, 8, none⟩ (.int .i64 hol)).setCell ⟨w.heap.size + 1 + 1, 0, none⟩ (.int .i64 400)).setCell ⟨w.heap.size + 1 + 1, 1, none⟩ (.slice A n c)).setCell ⟨w.heap.size + 1 + 1, 2, none⟩ (.slice AW nW cW)).setCell ⟨w.heap.size + 1 + 1, 3, none⟩ (.int .i64 req)).setCell ⟨w.heap.size + 1 + 1, 4, none⟩ (.slice AQ nO cQ)).setCell ⟨w.heap.size + 1 + 1, 5, none⟩ (.slice AK nK cK)).setCell ⟨w.heap.size + 1 + 1, 6, none⟩ (.slice AC nC cC)).setCell ⟨w.heap.size + 1 + 1, 7, none⟩ (.slice AR nR cR)).setCell ⟨w.heap.size + 1 + 1, 8, none⟩ (.int .i64 bey)).setCell ⟨w.heap.size + 1 + 1, 9, none⟩ (.int .i64 hol)) (w.heap.size + 1) 49 #[.pointer (some ⟨g, 0, none⟩), .slice AI nW cI, .int .i64 req, .slice AO nO cO, .slice AK' nK cK', .slice AC' nC cC', .slice AR' nR cR', .int .i64 bey, .int .i64 hol] ∧ Bk (((((((((((((((((((wr.setCell ⟨w.heap.size + 1, 0, none⟩ (.pointer (some ⟨g, 0, none⟩))).setCell ⟨w.heap.size + 1, 1, none⟩ (.slice AI nW cI)).setCell ⟨w.heap.size + 1, 2, none⟩ (.int .i64 req)).setCell ⟨w.heap.size + 1, 3, none⟩ (.slice AO nO cO)).setCell ⟨w.heap.size + 1, 4, none⟩ (.slice AK' nK cK')).setCell ⟨w.heap.size + 1, 5, none⟩ (.slice AC' nC cC')).setCell ⟨w.heap.size + 1, 6, none⟩ (.slice AR' nR cR')).setCell ⟨w.heap.size + 1, 7, none⟩ (.int .i64 bey)).setCell ⟨w.heap.size + 1, 8, none⟩ (.int .i64 hol)).setCell ⟨w.heap.size + 1 + 1, 0, none⟩ (.int .i64 400)).setCell ⟨w.heap.size + 1 + 1, 1, none⟩ (.slice A n c)).setCell ⟨w.heap.size + 1 + 1, 2, none⟩ (.slice AW nW cW)).setCell ⟨w.heap.size + 1 + 1, 3, none⟩ (.int .i64 req)).setCell ⟨w.heap.size + 1 + 1, 4, none⟩ (.slice AQ nO cQ)).setCell ⟨w.heap.size + 1 + 1, 5, none⟩ (.slice AK nK cK)).setCell ⟨w.heap.size + 1 + 1, 6, none⟩ (.slice AC nC cC)).setCell ⟨w.heap.size + 1 + 1, 7, none⟩ (.slice AR nR cR)).setCell ⟨w.heap.size + 1 + 1, 8, none⟩ (.int .i64 bey)).setCell ⟨w.heap.size + 1 + 1, 9, none⟩ (.int .i64 hol)) (w.heap.size + 1 + 1) 70 #[.int .i64 400, .slice A n c, .slice AW nW cW, .int .i64 req, .slice AQ nO cQ, .slice AK nK cK, .slice AC nC cC, .slice AR nR cR, .int .i64 bey, .int .i64 hol] ∧ Fr (fun k => k = w.heap.size + 1 ∨ k = w.heap.size + 1 + 1) wr (((((((((((((((((((wr.setCell ⟨w.heap.size + 1, 0, none⟩ (.pointer (some ⟨g, 0, none⟩))).setCell ⟨w.heap.size + 1, 1, none⟩ (.slice AI nW cI)).setCell ⟨w.heap.size + 1, 2, none⟩ (.int .i64 req)).setCell ⟨w.heap.size + 1, 3, none⟩ (.slice AO nO cO)).setCell ⟨w.heap.size + 1, 4, none⟩ (.slice AK' nK cK')).setCell ⟨w.heap.size + 1, 5, none⟩ (.slice AC' nC cC')).setCell ⟨w.heap.size + 1, 6, none⟩ (.slice AR' nR cR')).setCell ⟨w.heap.size + 1, 7, none⟩ (.int .i64 bey)).setCell ⟨w.heap.size + 1, 8, none⟩ (.int .i64 hol)).setCell ⟨w.heap.size + 1 + 1, 0, none⟩ (.int .i64 400)).setCell ⟨w.heap.size + 1 + 1, 1, none⟩ (.slice A n c)).setCell ⟨w.heap.size + 1 + 1, 2, none⟩ (.slice AW nW cW)).setCell ⟨w.heap.size + 1 + 1, 3, none⟩ (.int .i64 req)).setCell ⟨w.heap.size + 1 + 1, 4, none⟩ (.slice AQ nO cQ)).setCell ⟨w.heap.size + 1 + 1, 5, none⟩ (.slice AK nK cK)).setCell ⟨w.heap.size + 1 + 1, 6, none⟩ (.slice AC nC cC)).setCell ⟨w.heap.size + 1 + 1, 7, none⟩ (.slice AR nR cR)).setCell ⟨w.heap.size + 1 + 1, 8, none⟩ (.int .i64 bey)).setCell ⟨w.heap.size + 1 + 1, 9, none⟩ (.int .i64 hol))) := fin33 HYX.out HZX.out (by omega)
                      clear y0 y1 y2 y3 y4 y5 y6 y7 y8 g0 g1 g2 g3 g4 g5 g6 g7 g8 z0 z1 z2 z3 z4 z5 z6 z7 z8 z9 f0 f1 f2 f3 f4 f5 f6 f7 f8 f9 a0 a1 a2 a3 a4 a5 a6 a7 a8 q0 q1 q2 q3 q4 q5 q6 q7 q8 q9 r1
                      generalize (((((((((((((((((((wr.setCell ⟨w.heap.size + 1, 0, none⟩ (.pointer (some ⟨g, 0, none⟩))).setCell ⟨w.heap.size + 1, 1, none⟩ (.slice AI nW cI)).setCell ⟨w.heap.size + 1, 2, none⟩ (.int .i64 req)).setCell ⟨w.heap.size + 1, 3, none⟩ (.slice AO nO cO)).setCell ⟨w.heap.size + 1, 4, none⟩ (.slice AK' nK cK')).setCell ⟨w.heap.size + 1, 5, none⟩ (.slice AC' nC cC')).setCell ⟨w.heap.size + 1, 6, none⟩ (.slice AR' nR cR')).setCell ⟨w.heap.size + 1, 7, none⟩ (.int .i64 bey)).setCell ⟨w.heap.size + 1, 8, none⟩ (.int .i64 hol)).setCell ⟨w.heap.size + 1 + 1, 0, none⟩ (.int .i64 400)).setCell ⟨w.heap.size + 1 + 1, 1, none⟩ (.slice A n c)).setCell ⟨w.heap.size + 1 + 1, 2, none⟩ (.slice AW nW cW)).setCell ⟨w.heap.size + 1 + 1, 3, none⟩ (.int .i64 req)).setCell ⟨w.heap.size + 1 + 1, 4, none⟩ (.slice AQ nO cQ)).setCell ⟨w.heap.size + 1 + 1, 5, none⟩ (.slice AK nK cK)).setCell ⟨w.heap.size + 1 + 1, 6, none⟩ (.slice AC nC cC)).setCell ⟨w.heap.size + 1 + 1, 7, none⟩ (.slice AR nR cR)).setCell ⟨w.heap.size + 1 + 1, 8, none⟩ (.int .i64 bey)).setCell ⟨w.heap.size + 1 + 1, 9, none⟩ (.int .i64 hol)) = WF at *
                      obtain ⟨⟨e0, e1, e2, e3, e4, e5, e6, e7, e8⟩, _⟩ := cells9 HFIN.out.1
                      obtain ⟨⟨s0, s1, s2, s3, s4, s5, s6, s7, s8, s9⟩, _⟩ := cells10 HFIN.out.2.1
                      refine bodyPost_ret (v := .tuple #[.agg #[.pointer (some ⟨g, 0, none⟩), .slice AI nW cI, .int .i64 req, .slice AO nO cO, .slice AK' nK cK', .slice AC' nC cC', .slice AR' nR cR', .int .i64 bey, .int .i64 hol], .agg #[.int .i64 400, .slice A n c, .slice AW nW cW, .int .i64 req, .slice AQ nO cQ, .slice AK nK cK, .slice AC nC cC, .slice AR nR cR, .int .i64 bey, .int .i64 hol], .bool true]) (by simp [results, Try.results19, go_sem, e0, e1, e2, e3, e4, e5, e6, e7, e8, s0, s1, s2, s3, s4, s5, s6, s7, s8, s9]) rfl ?_
                      have hbel : Below w.heap.size w WF := HBq.out.trans (HFIN.out.2.2.below w.heap.size (by omega) (fun k hk hq => by rcases hq with hq | hq <;> omega))
                      have hend := build_end (cI := cI) (cK' := cK') (cC' := cC') (cR' := cR') (cQ := cQ) (c := c) h.out HM.out hm24 HFIN.out.2.2 HYX.out HZX.out (by omega) (by omega) hbel HGX.out HNX.out HLEN.out HKX.out HCX.out HRX.out HLI.out HQO.out
                      exact ⟨B, _, _, rfl, hend.1.below ((Below.refl _ WF).drew), hend.2.below ((Below.refl _ WF).drew), hbel.drew⟩
end Go.Proofs.Ytamoniljgifggaa
