/-
  Contract of decode.Assign.
-/
import Derived.Test.YtamoniljgifggaaRange
import Derived.Test.YtamoniljgifggaaBuild0
import Derived.Test.YtamoniljgifggaaOneQ
import Derived.Test.YtamoniljgifggaaSched
import Derived.Deep.RegionHeld3
import Derived.Deep.DeepCutAuto
import Derived.Maps.RangeWalk
import Derived.OwnWalkIn
import Derived.TacticsInMore
import Derived.LoopIn
set_option linter.unusedVariables false
set_option linter.unusedSimpArgs false
namespace Go.Proofs.Ytamoniljgifggaa
open Go.RowKit Go.Shelf
attribute [local go_sem] Oper.semAt_some

def AsgPost (r : List Bool × Int) (w : World) (e : Ending) (w' : World) : Prop :=
  ∃ A n c, e = .returned (.tuple #[.slice A n c, .int .i64 r.2]) ∧ Rd w' A (r.1.map Value.bool) ∧ r.1.length = n ∧ n ≤ 100000 ∧ Below w.heap.size w w'
theorem asg_err {R : Res} {sin : List Int} {pt : Int} {kp : List Bool} {er : Int} {w : World} {w' : World} (h : assignR R sin pt kp = ([], er)) (hb : Below w.heap.size w w') : AsgPost (assignR R sin pt kp) w (.returned (.tuple #[.slice none 0 0, .int .i64 er])) w' := by
  rw [h]
  exact ⟨none, 0, 0, rfl, Rd.nil, rfl, by omega, hb⟩

theorem IsAt.frA {a pb : Nat} {U W : World} {G : List Nd} {inp l : List Bool} (h : IsAt U pb G inp) (hf : Fr (fun q => q = a) U W) (ha : Bk U a 4 (bcells l)) : IsAt W pb G inp := by
  obtain ⟨hl, ob, n, ws, hc, h1, h2, h3, h4, h5, h6⟩ := h
  have na : pb ≠ a := by
    rintro rfl
    rw [ha.cell 0] at hc
    simp [bcells] at hc
  exact ⟨Nat.lt_of_lt_of_le hl hf.size, ob, n, ws, (World.cell?_of_block (hf.block pb hl na)).trans hc, h1, h2, h3, h4, h5, h6.fr hf (Bk.ne h6 ha (by decide))⟩
theorem fr_putObj (W : World) (D : Nat) (o : Obj) : Fr (fun q => q = D) W (W.putObj D o) := by
  refine ⟨rfl, rfl, rfl, by simp [World.putObj], fun k _ hk => ?_⟩
  simp [World.putObj, Array.getElem?_setIfInBounds]
  omega
theorem asg_put {r : List Bool × Int} {w : World} {e : Ending} {W : World} {D : Nat} {o o' : Obj} (h : AsgPost r w e W) (hK : W.heap[D]? = some o) (ho : o.isCells = false) (hD : w.heap.size ≤ D) : AsgPost r w e (W.putObj D o') := by
  obtain ⟨A, n, c, he, hr, hl, hn, hb⟩ := h
  refine ⟨A, n, c, he, fun hx => ?_, hl, hn, hb.trans ((fr_putObj W D o').below w.heap.size hb.size (fun k hk e => by omega))⟩
  obtain ⟨b, off, cs, t, fr, rfl, hh, hc⟩ := hr hx
  refine ⟨b, off, cs, t, fr, rfl, ((fr_putObj W D o').block b (lt_of_heap hh) ?_).trans hh, hc⟩
  rintro rfl
  rw [hh] at hK
  injection hK with hK
  subst hK
  simp [Obj.isCells] at ho

set_option maxHeartbeats 8000000 in
set_option maxRecDepth 100000 in
theorem decAssign (B : Nat) (M : Int) (x : RV) (R : Res) (sA : Option Addr) (nS cS : Nat) (sin : List Int) (pt : Int) (kA : Option Addr) (nk ck : Nat) (kp : List Bool) (w : World) (h : Hid (ResAt w B M x R)) (hS : Hid (Rd w sA (sin.map (Value.int .u32)))) (hSl : Hid (sin.length = nS)) (hSu : Hid (∀ v ∈ sin, U32 v)) (hK : Hid (Rd w kA (kp.map Value.bool))) (hKl : Hid (kp.length = nk)) (hnS : nS ≤ 100000) (hnk : nk ≤ 100000) (hpt : I64 pt) :
    Calls Try.prog 12 #[.agg #[.pointer (some ⟨x.g, 0, none⟩), .slice x.I.A x.I.n x.I.c, .int .i64 R.req, .slice x.O.A x.O.n x.O.c, .slice x.K.A x.K.n x.K.c, .slice x.C.A x.C.n x.C.c, .slice x.R.A x.R.n x.R.c, .int .i64 R.bey, .int .i64 R.hol], .agg #[.slice sA nS cS, .int .i64 pt, .slice kA nk ck]] w (AsgPost (assignR R sin pt kp) w) := by
  obtain ⟨g, ⟨AI, nI, cI⟩, S, ⟨AO, nO, cO⟩, ⟨AK, nK, cK⟩, ⟨AC, nC, cC⟩, ⟨AR, nR, cR⟩⟩ := x
  obtain ⟨hsI, hsO, hsK, hsC, hsR⟩ := h.out.small
  dsimp only at hsI hsO hsK hsC hsR ⊢
  have hb0 : Below w.heap.size w ((w.alloc (.cells #[.pointer (some ⟨g, 0, none⟩), .slice AI nI cI, .int .i64 R.req, .slice AO nO cO, .slice AK nK cK, .slice AC nC cC, .slice AR nR cR, .int .i64 R.bey, .int .i64 R.hol] 49)).alloc (.cells #[.slice sA nS cS, .int .i64 pt, .slice kA nk ck] 51)) := ((Below.refl _ w).alloc (Nat.le_refl _) _).alloc (by simp) _
  have hx := (Bk.new w 49 #[.pointer (some ⟨g, 0, none⟩), .slice AI nI cI, .int .i64 R.req, .slice AO nO cO, .slice AK nK cK, .slice AC nC cC, .slice AR nR cR, .int .i64 R.bey, .int .i64 R.hol]).alloc (.cells #[.slice sA nS cS, .int .i64 pt, .slice kA nk ck] 51)
  have hy := Bk.new (w.alloc (.cells #[.pointer (some ⟨g, 0, none⟩), .slice AI nI cI, .int .i64 R.req, .slice AO nO cO, .slice AK nK cK, .slice AC nC cC, .slice AR nR cR, .int .i64 R.bey, .int .i64 R.hol] 49)) 51 #[.slice sA nS cS, .int .i64 pt, .slice kA nk ck]
  rw [World.size_alloc] at hy
  have HB0 := Lib.hid hb0; have HX := Lib.hid hx; have HY := Lib.hid hy
  clear hb0 hx hy
  refine (callsIn_wide (n := 6)).1 ?_
  refine callsIn_of_wp_marks Try.func12 rfl trivial ?_ rfl
  simp only [Try.ntmps12, List.size_toArray, List.length_cons, List.length_nil, Nat.reduceAdd, Nat.reduceSub, Array.replicate_succ, Array.replicate_zero, List.push_toArray, List.append_toArray, List.nil_append, List.cons_append]
  refine wpIn_wide.2 ?_
  go_wp2_with fail
  generalize ((w.alloc (.cells #[.pointer (some ⟨g, 0, none⟩), .slice AI nI cI, .int .i64 R.req, .slice AO nO cO, .slice AK nK cK, .slice AC nC cC, .slice AR nR cR, .int .i64 R.bey, .int .i64 R.hol] 49)).alloc (.cells #[.slice sA nS cS, .int .i64 pt, .slice kA nk ck] 51)) = W0 at *
  cases hrt : rightR R with
  | false =>
    have HNO : Hid (assignR R sin pt kp = ([], 420)) := by show _ = _; rw [assignR, if_pos hrt]
    have HRT := Lib.hid hrt
    clear hrt
    have h1 := decRight B M ⟨g, ⟨AI, nI, cI⟩, S, ⟨AO, nO, cO⟩, ⟨AK, nK, cK⟩, ⟨AC, nC, cC⟩, ⟨AR, nR, cR⟩⟩ R W0 (Lib.hid (h.out.below HB0.out))
    rw [HRT.out] at h1
    refine h1.mono ?_
    clear h1
    rintro e W1 ⟨rfl, hb1⟩
    have HB1 := Lib.hid (bthen HB0.out hb1)
    clear hb1
    go_wp2
    exact ⟨.tuple #[.slice none 0 0, .int .i64 420], by simp [results, Try.results12, go_sem], asg_err HNO.out HB1.out⟩
  | true =>
    have HRT := Lib.hid hrt
    have HRS := Lib.hid (Rts.of hrt)
    clear hrt
    have h1 := decRight B M ⟨g, ⟨AI, nI, cI⟩, S, ⟨AO, nO, cO⟩, ⟨AK, nK, cK⟩, ⟨AC, nC, cC⟩, ⟨AR, nR, cR⟩⟩ R W0 (Lib.hid (h.out.below HB0.out))
    rw [HRT.out] at h1
    refine h1.mono ?_
    clear h1
    rintro e W1 ⟨rfl, hb1⟩
    have HB1 := Lib.hid (bthen HB0.out hb1)
    have HX1 := Lib.hid (bkbel HX.out hb1)
    have HY1 := Lib.hid (bkbel HY.out hb1)
    clear hb1 HB0 HX HY
    have s0 : W1.cell? ⟨w.heap.size + 1, 0, none⟩ = some (.slice sA nS cS) := HY1.out.cell 0
    have r0 : W1.cell? ⟨w.heap.size, 0, none⟩ = some (.pointer (some ⟨g, 0, none⟩)) := HX1.out.cell 0
    have r1 : W1.cell? ⟨w.heap.size, 1, none⟩ = some (.slice AI nI cI) := HX1.out.cell 1
    have hINS : Hid (R.ins.length = nI) := h.out.inner.1.symm.trans h.out.insn
    by_cases hlen : nS = nI
    rotate_left
    · have hlb : ((nS : Int) != (nI : Int)) = true := by simp; omega
      have HNO : Hid (assignR R sin pt kp = ([], 422)) := by
        show _ = _
        rw [assignR, if_neg (by rw [HRT.out]; simp), if_pos (by rw [hSl.out, hINS.out]; exact hlen)]
      clear hlen
      go_wp2
      exact ⟨.tuple #[.slice none 0 0, .int .i64 422], by simp [results, Try.results12, go_sem], asg_err HNO.out HB1.out⟩
    subst hlen
    have hlb : ((nS : Int) != (nS : Int)) = false := by simp
    have hmm := @run_makeMap Try.prog
    have hW0 : w.heap.size < W1.heap.size := HX1.out.lt
    have hW1 : w.heap.size + 1 < W1.heap.size := HY1.out.lt
    go_wp2_with fail
    clear hmm hlb
    have HM0 := Lib.hid ((MapI.new W1).below ((Below.refl _ _).alloc (Nat.le_refl _) (.cells #[.map (some W1.heap.size)] 106)))
    have hwb := Bk.new (W1.alloc (.map #[] 0)) 106 #[.map (some W1.heap.size)]
    rw [World.size_alloc] at hwb
    have HWB := Lib.hid hwb
    have HBa : Hid (Below W1.heap.size W1 ((W1.alloc (.map #[] 0)).alloc (.cells #[.map (some W1.heap.size)] 106))) := balloc (balloc (Below.refl _ _) _) _
    clear hwb s0 r0 r1
    generalize ((W1.alloc (.map #[] 0)).alloc (.cells #[.map (some W1.heap.size)] 106)) = W2 at *
    obtain ⟨mb, hmb⟩ : ∃ mb, W1.heap.size = mb := ⟨_, rfl⟩
    rw [hmb] at HM0 HWB hW0 hW1 ⊢
    have HB2 := Lib.hid (bthen HB1.out HBa.out)
    have HX2 := Lib.hid (bkbel HX1.out HBa.out)
    have HY2 := Lib.hid (bkbel HY1.out HBa.out)
    clear hmb HBa HB1 HX1 HY1
    refine (gInputs B g M R.G W2 (Lib.hid (h.out.below HB2.out).g) (by have := h.out.glen; omega)).mono ?_
    rintro e W3 ⟨A7, na, c7, rfl, hna, ho3, hb3⟩
    have HNA := Lib.hid hna
    have hna6 : na ≤ 65536 := by have h1 := inputsOf_len R.G; have h2 := h.out.glen; omega
    have HO3 := Lib.hid (Rd.of_own ho3)
    have HB3 := Lib.hid (bthen HB2.out hb3)
    have HX3 := Lib.hid (bkbel HX2.out hb3)
    have HY3 := Lib.hid (bkbel HY2.out hb3)
    have HW3 := Lib.hid (bkbel HWB.out hb3)
    have HM3 := Lib.hid (HM0.out.below hb3)
    clear hna ho3 hb3 HB2 HX2 HY2 HWB HM0
    go_wp2
    go_loopw [41] (fun i wr => ∃ k : Nat, k ≤ na ∧ i = .int .i64 k ∧ Hid (MapI wr mb (whereL ((inputsOf R.G).take k))) ∧ Hid (Fr (fun q => q = mb) W3 wr)) (fun i _ => na - (intOf i).toNat)
    case atStart => exact ⟨0, Nat.zero_le _, rfl, HM3, Fr.refl _ _⟩
    case round =>
      obtain ⟨k, hk, rfl, HMk, HFk⟩ := hrel
      have HWk := Lib.hid (HW3.out.fr HFk.out (by omega))
      by_cases hlt : k < na
      · obtain ⟨b7, o7, y, rfl, hy, hc⟩ := (HO3.out.frM HM3.out HFk.out).getm HNA.out hlt
        have hki : (k : Int) < (na : Int) := by omega
        have w0 : wr.cell? ⟨mb + 1, 0, none⟩ = some (.map (some mb)) := HWk.out.cell 0
        obtain ⟨ob, hup, hm'⟩ := run_update_I wr mb _ HMk.out y (k : Int)
        have hlk : ((inputsOf R.G).take k).length = k := by rw [List.length_take, HNA.out]; omega
        have HMn : Hid (MapI (ChangeMaps.setBlock wr mb ob) mb (whereL ((inputsOf R.G).take (k + 1)))) := by
          have e := whereL_put _ y (not_take (inputsFrom_nodup R.G 0) hy)
          change putI (whereL ((inputsOf R.G).take k)) y (((inputsOf R.G).take k).length : Int) = _ at e
          rw [hlk] at e
          rw [e] at hm'
          rw [take_snoc hy]
          exact hm'
        have HFn : Hid (Fr (fun q => q = mb) W3 (ChangeMaps.setBlock wr mb ob)) := setBlock_fr HFk.out ob rfl
        clear hm' hlk hy
        go_wp2
        go_roundw
        case rel => exact ⟨k + 1, by omega, by go_num, HMn, HFn⟩
        case measure => simp [intOf]; omega
      · obtain rfl : na = k := by omega
        have HMA : Hid (MapI wr mb (whereL (inputsOf R.G))) := by
          have h1 := HMk.out
          rw [List.take_of_length_le (by rw [HNA.out]; exact Nat.le_refl _)] at h1
          exact h1
        have HXk := Lib.hid (HX3.out.fr HFk.out (by omega))
        have HYk := Lib.hid (HY3.out.fr HFk.out (by omega))
        have HBk : Hid (Below w.heap.size w wr) := HB3.out.trans (HFk.out.below w.heap.size (Nat.le_of_lt HX3.out.lt) (fun q hq => by omega))
        clear HMk HFk hlt HX3 HY3 HW3 HM3 HB3 HO3 hk
        have hmk := makeBools na (by omega) wr
        have r1 : wr.cell? ⟨w.heap.size, 1, none⟩ = some (.slice AI nS cI) := HXk.out.cell 1
        have hwl : w.heap.size < wr.heap.size := HXk.out.lt
        go_wp2
        obtain ⟨ib, hib⟩ : ∃ ib, wr.heap.size = ib := ⟨_, rfl⟩
        have HA0 := Lib.hid ((Bk.new wr 4 (bcells (List.replicate na false))).alloc (.cells #[.slice (some ⟨wr.heap.size, 0, none⟩) na na] 28))
        have hnv := Bk.new (wr.alloc (.cells (bcells (List.replicate na false)) 4)) 28 #[.slice (some ⟨wr.heap.size, 0, none⟩) na na]
        rw [World.size_alloc] at hnv
        have HNV := Lib.hid hnv
        have HBa : Hid (Below wr.heap.size wr ((wr.alloc (.cells (bcells (List.replicate na false)) 4)).alloc (.cells #[.slice (some ⟨wr.heap.size, 0, none⟩) na na] 28))) := balloc (balloc (Below.refl _ _) _) _
        clear hnv hmk r1
        generalize ((wr.alloc (.cells (bcells (List.replicate na false)) 4)).alloc (.cells #[.slice (some ⟨wr.heap.size, 0, none⟩) na na] 28)) = V at *
        have HXV := Lib.hid (bkbel HXk.out HBa.out)
        have HYV := Lib.hid (bkbel HYk.out HBa.out)
        have HWV := Lib.hid (bkbel HWk.out HBa.out)
        have HMV := Lib.hid (HMA.out.below HBa.out)
        have HBV := Lib.hid (bthen HBk.out HBa.out)
        have hmbl : mb < wr.heap.size := HMA.out.lt
        rw [hib] at HA0 HNV hwl hmbl ⊢
        have hyl : w.heap.size + 1 < ib := by rw [← hib]; exact HYk.out.lt
        have hwbl : mb + 1 < ib := by rw [← hib]; exact HWk.out.lt
        have hiV : ib + 1 < V.heap.size := HNV.out.lt
        clear hib HBa HXk HYk HWk HMA HBk
        go_loopw [56] (fun i wr => ∃ (k : Nat) (l : List Bool), k ≤ nS ∧ i = .int .i64 k ∧ Hid (l = wordsTo (inputsOf R.G) ((R.ins.zip sin).take k) (List.replicate na false)) ∧ Hid (((R.ins.zip sin).take k).all fitP = true) ∧ Hid (AInv V ib l wr)) (fun i _ => nS - (intOf i).toNat)
        case atStart => exact ⟨0, _, Nat.zero_le _, rfl, rfl, rfl, Fr.refl _ _, HA0.out⟩
        case round =>
          obtain ⟨k, l, hk, rfl, HL, HFT, HA⟩ := hrel
          clear HA0
          have hsV : V.heap.size ≤ wr.heap.size := HA.out.fr.size
          have HBw : Hid (Below w.heap.size w wr) := HBV.out.trans (HA.out.fr.below w.heap.size (by omega) (fun q hq => by omega))
          have HYw := Lib.hid (HYV.out.fr HA.out.fr (by omega))
          have s0 : wr.cell? ⟨w.heap.size + 1, 0, none⟩ = some (.slice sA nS cS) := HYw.out.cell 0
          by_cases hlt : k < nS
          · obtain ⟨b1, o1, sv, rfl, hsv, hc1⟩ := (h.out.below HBw.out).ins.getm (h.out.below HBw.out).insn hlt
            obtain ⟨wA, wn, wc⟩ := sv
            have hc1' : wr.cell? ⟨b1, o1 + k, none⟩ = some (.slice wA wn wc) := hc1
            obtain ⟨lw, hlw⟩ : ∃ lw, R.ins[k]? = some lw := ⟨_, List.getElem?_eq_getElem (by rw [hINS.out]; exact hlt)⟩
            have hin := ((h.out.below HBw.out).inner.2 k _ lw hsv hlw).1
            obtain ⟨b2, o2, v, rfl, hv, hc2⟩ := (hS.out.below HBw.out).getm hSl.out hlt
            have hvu := hSu.out v (List.mem_of_getElem? hv)
            have hwd := (HRS.out.ins lw (List.mem_of_getElem? hlw)).1
            have hll : lw.length = wn := hin.2.1
            rw [hll] at hwd
            obtain ⟨hw1, hw2⟩ := hwd
            have hzip : (R.ins.zip sin)[k]? = some (lw, v) := by rw [List.getElem?_zip_eq_some]; exact ⟨hlw, hv⟩
            have HSV := Lib.hid hsv
            have HZ := Lib.hid hzip; have HLW := Lib.hid hlw; have HLL := Lib.hid hll; have HIN := Lib.hid hin; have HVU := Lib.hid hvu
            have hki : (k : Int) < (nS : Int) := by omega
            clear hsv hc1 hlw hin hv hvu hzip hll
            have HCU := Lib.hid (cutC v wn wr HVU.out hw1 hw2)
            obtain ⟨cv, hcv⟩ : ∃ cv, v % 2 ^ wn = cv := ⟨_, rfl⟩
            rw [hcv] at HCU
            have HCV := Lib.hid hcv
            clear hcv
            go_wp2_with fail
            refine HCU.out.mono ?_
            rintro e w' ⟨rfl, rfl⟩
            clear HCU
            by_cases hfit : cv = v
            rotate_left
            · have hfb : (cv != v) = true := by simpa using hfit
              have HNO : Hid (assignR R sin pt kp = ([], 422)) := by
                have hf : (R.ins.zip sin).all fitP = false := by
                  rw [List.all_eq_false]
                  refine ⟨(lw, v), List.mem_of_getElem? HZ.out, ?_⟩
                  unfold fitP
                  dsimp only
                  rw [HLL.out, HCV.out]
                  simpa using hfit
                show _ = _
                rw [assignR, if_neg (by rw [HRT.out]; simp), if_neg (by rw [hSl.out, hINS.out]; simp), if_pos hf]
              clear hfit
              go_wp2
              exact ⟨.tuple #[.slice none 0 0, .int .i64 422], by simp [results, Try.results12, go_sem], asg_err HNO.out HBw.out⟩
            subst hfit
            have hfb : (cv != cv) = false := by simp
            go_wp2
            clear hc1' hfb s0
            obtain ⟨wo, rfl⟩ : ∃ wo : World, wo = wr := ⟨_, rfl⟩
            have HIN0 : Hid (Rd w wA (lw.map (Value.int .i64))) := (h.out.inner.2 k ⟨wA, wn, wc⟩ lw HSV.out HLW.out).1.1
            go_loopw [81] (fun i wr => ∃ (j : Nat) (l2 : List Bool), j ≤ wn ∧ i = .int .i64 j ∧ Hid (l2 = wordTo (inputsOf R.G) cv lw j l) ∧ Hid (AInv V ib l2 wr)) (fun i _ => wn - (intOf i).toNat)
            case atStart => exact ⟨0, l, Nat.zero_le _, rfl, rfl, HA⟩
            case round =>
              obtain ⟨j, l2, hj, rfl, HL2, HA2⟩ := hrel
              have hsV2 : V.heap.size ≤ wr.heap.size := HA2.out.fr.size
              have HBw2 : Hid (Below w.heap.size w wr) := HBV.out.trans (HA2.out.fr.below w.heap.size (by omega) (fun q hq => by omega))
              by_cases hlj : j < wn
              · obtain ⟨b3, o3, y, rfl, hy, hc3⟩ := (HIN0.out.below HBw2.out).getm HLL.out hlj
                have hyin := inOk_mem (own_all HRT.out y (by unfold ownL; exact List.mem_append_right _ (List.mem_flatten.2 ⟨lw, List.mem_of_getElem? HLW.out, List.mem_of_getElem? hy⟩)))
                have hidx := idx_lt hyin
                rw [HNA.out] at hidx
                have HLK : Hid ((lookI (whereL (inputsOf R.G)) y).getD 0 = (((inputsOf R.G).idxOf y : Nat) : Int)) := by show _ = _; rw [whereL_some _ _ hyin]; rfl
                have HGD : Hid (lw.getD j 0 = y) := by show _ = _; rw [List.getD_eq_getElem?_getD, hy]; rfl
                clear hyin hy
                have HMw := Lib.hid ((HMV.out.fr HA2.out.fr (by omega)).below ((Below.refl _ wr).drew))
                have hlk := run_lookup_I wr.drew mb _ HMw.out y
                rw [HLK.out] at hlk
                have HYw2 := Lib.hid (HYV.out.fr HA2.out.fr (by omega))
                have HWw2 := Lib.hid (HWV.out.fr HA2.out.fr (by omega))
                have HNw2 := Lib.hid (HNV.out.fr HA2.out.fr (by omega))
                have t0 : wr.cell? ⟨w.heap.size + 1, 0, none⟩ = some (.slice (some ⟨b2, o2, none⟩) nS cS) := HYw2.out.cell 0
                have t1 : wr.cell? ⟨mb + 1, 0, none⟩ = some (.map (some mb)) := HWw2.out.cell 0
                have t2 : wr.cell? ⟨ib + 1, 0, none⟩ = some (.slice (some ⟨ib, 0, none⟩) na na) := HNw2.out.cell 0
                have t3 : wr.cell? ⟨b2, o2 + k, none⟩ = some (.int .u32 cv) := by
                  obtain ⟨b4, o4, v4, e4, hv4, hc4⟩ := (hS.out.below HBw2.out).getm hSl.out hlt
                  injection e4 with e4
                  injection e4 with e4 e5
                  subst e4 e5
                  have e6 := (List.getElem?_zip_eq_some.1 HZ.out).2
                  dsimp only at e6
                  rw [e6] at hv4
                  injection hv4 with hv4
                  rw [hv4]
                  exact hc4
                have hl2 : l2.length = na := by rw [HL2.out, wordTo_len, HL.out, wordsTo_len, List.length_replicate]
                obtain ⟨bb, hbb⟩ := bcells_at (l := l2) (i := (inputsOf R.G).idxOf y) (by omega)
                have t4 : wr.cell? ⟨ib, (inputsOf R.G).idxOf y, none⟩ = some (.bool bb) := (HA2.out.arr.cell _).trans hbb
                have t5 : wr.frozen? ⟨ib, (inputsOf R.G).idxOf y, none⟩ = false := HA2.out.arr.frozen _
                have HNX : Hid (AInv V ib (wordTo (inputsOf R.G) cv lw (j + 1) l) (wr.drew.setCell ⟨ib, (inputsOf R.G).idxOf y, none⟩ (.bool (bitN cv j)))) := by
                  show AInv _ _ _ _
                  rw [wordTo_succ, ← HL2.out, HGD.out]
                  exact HA2.out.drew.set (inputsOf R.G) y (bitN cv j)
                clear hbb hl2 HLK
                generalize (inputsOf R.G).idxOf y = ix at *
                obtain ⟨bt, hbt⟩ : ∃ bt, bitN cv j = bt := ⟨_, rfl⟩
                have HBT := Lib.hid hbt
                rw [hbt] at HNX
                clear hbt
                have hji : (j : Int) < (wn : Int) := by omega
                have hki2 : (0 : Int) ≤ (k : Int) := by omega
                have hxi : ((ix : Nat) : Int) < (na : Int) := by omega
                have hx0 : (0 : Int) ≤ ((ix : Nat) : Int) := by omega
                have HBC := Lib.hid (bitC cv j wr.drew HVU.out (by omega))
                rw [HBT.out] at HBC
                go_wp2
                refine wp_region_oneq 12 (by kernel_rfl) (by kernel_rfl) ?_
                simp only [List.take_succ_cons, List.take_zero, List.drop_succ_cons, List.drop_zero]
                repeat (go_big_quiet_step (fail))
                go_big_quiet_want
                go_big_quiet_op
                apply Exists.intro
                refine ⟨?_, ?_⟩
                · go_at_call 43
                  refine HBC.out.mono ?_
                  rintro e w' ⟨rfl, rfl⟩
                  exact ⟨rfl, rfl⟩
                go_big_quiet_on
                repeat (go_big_quiet_step (fail))
                refine wpQuiet_nil ?_
                refine wpOp_here rfl rfl (fun K hK => ?_)
                go_simp
                refine hK _ _ ?_
                clear hK K
                try go_frame
                refine wpQuiet_nil ?_
                clear t0 t1 t2 t3 t4 t5 hlk hc3
                go_wp2
                go_roundw
                case rel => exact ⟨j + 1, _, by omega, by go_num, rfl, HNX⟩
                case measure => simp [intOf]; omega
              · obtain rfl : wn = j := by omega
                have HLn : Hid (l2 = wordsTo (inputsOf R.G) ((R.ins.zip sin).take (k + 1)) (List.replicate na false)) := by
                  show _ = _
                  rw [take_snoc HZ.out, wordsTo_snoc, ← HL.out, HLL.out]
                  exact HL2.out
                have HFn : Hid (((R.ins.zip sin).take (k + 1)).all fitP = true) := by
                  show _ = _
                  rw [take_snoc HZ.out, List.all_append, HFT.out]
                  simp [fitP, HLL.out, HCV.out]
                clear hlj
                go_wp2
                go_roundw
                case rel => exact ⟨k + 1, l2, by omega, by go_num, HLn, HFn, HA2⟩
                case measure => simp [intOf]; omega
          · obtain rfl : nS = k := by omega
            have HLF : Hid (l = asg0 R sin) := by
              show _ = _
              have h1 := HL.out
              rw [List.take_of_length_le (by rw [List.length_zip, hINS.out, hSl.out]; omega)] at h1
              rw [h1, asg0, HNA.out]
            have HFF : Hid ((R.ins.zip sin).all fitP = true) := by
              have h1 := HFT.out
              rw [List.take_of_length_le (by rw [List.length_zip, hINS.out, hSl.out]; omega)] at h1
              exact h1
            clear HL HFT hlt hk s0 HYw
            have hll : l.length = na := by rw [HLF.out, asg0, wordsTo_len, List.length_replicate]; exact HNA.out
            have HLN := Lib.hid hll
            have HXw := Lib.hid (HXV.out.fr HA.out.fr (by omega))
            have HYw := Lib.hid (HYV.out.fr HA.out.fr (by omega))
            have HWw := Lib.hid (HWV.out.fr HA.out.fr (by omega))
            have HNw := Lib.hid (HNV.out.fr HA.out.fr (by omega))
            have HMw := Lib.hid (HMV.out.fr HA.out.fr (by omega))
            have HAr := Lib.hid HA.out.arr
            clear hll HXV HYV HWV HNV HMV HA HBV
            obtain ⟨⟨x0, x1, x2, x3, x4, x5, x6, x7, x8⟩, _⟩ := cells9 HXw.out
            have n0 : wr.cell? ⟨ib + 1, 0, none⟩ = some (.slice (some ⟨ib, 0, none⟩) na na) := HNw.out.cell 0
            have hVA := decValues B M ⟨g, ⟨AI, nS, cI⟩, S, ⟨AO, nO, cO⟩, ⟨AK, nK, cK⟩, ⟨AC, nC, cC⟩, ⟨AR, nR, cR⟩⟩ R (some ⟨ib, 0, none⟩) na na l wr (Lib.hid (h.out.below HBw.out)) (Lib.hid (rd_bools HAr.out)) HLN (by omega)
            dsimp only at hVA
            have HVA := Lib.hid hVA
            clear hVA
            go_wp2_with fail
            refine HVA.out.mono ?_
            clear HVA x0 x1 x2 x3 x4 x5 x6 x7 x8 n0
            rintro e W4 ⟨pb, rfl, his, hb4⟩
            have HIS := Lib.hid (his HNA.out.symm)
            have HB4 := Lib.hid (bthen HBw.out hb4)
            have HX4 := Lib.hid (bkbel HXw.out hb4)
            have HY4 := Lib.hid (bkbel HYw.out hb4)
            have HW4 := Lib.hid (bkbel HWw.out hb4)
            have HN4 := Lib.hid (bkbel HNw.out hb4)
            have HA4 := Lib.hid (bkbel HAr.out hb4)
            have HM4 := Lib.hid (HMw.out.below hb4)
            have hdn : decide (na = (inputsOf R.G).length) = true := by simp [HNA.out]
            rw [hdn]
            clear his hb4 HXw HYw HWw HNw HAr HMw hdn HBw
            obtain ⟨⟨x0, x1, x2, x3, x4, x5, x6, x7, x8⟩, _⟩ := cells9 HX4.out
            have hwl4 : w.heap.size < W4.heap.size := HX4.out.lt
            go_wp2_with fail
            refine (doneC g pb AI AO AK AC AR nS cI nO cO nK cK nC cC nR cR R.req R.bey R.hol _).mono ?_
            rintro e w' ⟨rfl, rfl⟩
            clear x0 x1 x2 x3 x4 x5 x6 x7 x8
            go_wp2_with fail
            have HNB := Lib.hid (((Bk.new W4 3 #[.int .i64 0]).alloc (.cells #[.pointer (some ⟨g, 0, none⟩), .slice AI nS cI, .int .i64 R.req, .slice AO nO cO, .slice AK nK cK, .slice AC nC cC, .slice AR nR cR, .int .i64 R.bey, .int .i64 R.hol] 49)).alloc (.cells #[.func (.func 76) #[] #[.pointer (some ⟨pb, 0, none⟩)]] 100))
            have hrb := (Bk.new (W4.alloc (.cells #[.int .i64 0] 3)) 49 #[.pointer (some ⟨g, 0, none⟩), .slice AI nS cI, .int .i64 R.req, .slice AO nO cO, .slice AK nK cK, .slice AC nC cC, .slice AR nR cR, .int .i64 R.bey, .int .i64 R.hol]).alloc (.cells #[.func (.func 76) #[] #[.pointer (some ⟨pb, 0, none⟩)]] 100)
            have hibx := Bk.new ((W4.alloc (.cells #[.int .i64 0] 3)).alloc (.cells #[.pointer (some ⟨g, 0, none⟩), .slice AI nS cI, .int .i64 R.req, .slice AO nO cO, .slice AK nK cK, .slice AC nC cC, .slice AR nR cR, .int .i64 R.bey, .int .i64 R.hol] 49)) 100 #[.func (.func 76) #[] #[.pointer (some ⟨pb, 0, none⟩)]]
            rw [World.size_alloc] at hrb
            rw [World.size_alloc, World.size_alloc] at hibx
            have HRB := Lib.hid hrb; have HIB := Lib.hid hibx
            have HBu : Hid (Below W4.heap.size W4 (((W4.alloc (.cells #[.int .i64 0] 3)).alloc (.cells #[.pointer (some ⟨g, 0, none⟩), .slice AI nS cI, .int .i64 R.req, .slice AO nO cO, .slice AK nK cK, .slice AC nC cC, .slice AR nR cR, .int .i64 R.bey, .int .i64 R.hol] 49)).alloc (.cells #[.func (.func 76) #[] #[.pointer (some ⟨pb, 0, none⟩)]] 100))) := balloc (balloc (balloc (Below.refl _ _) _) _) _
            clear hrb hibx
            generalize (((W4.alloc (.cells #[.int .i64 0] 3)).alloc (.cells #[.pointer (some ⟨g, 0, none⟩), .slice AI nS cI, .int .i64 R.req, .slice AO nO cO, .slice AK nK cK, .slice AC nC cC, .slice AR nR cR, .int .i64 R.bey, .int .i64 R.hol] 49)).alloc (.cells #[.func (.func 76) #[] #[.pointer (some ⟨pb, 0, none⟩)]] 100)) = U at *
            have HIS5 := Lib.hid (HIS.out.below HBu.out)
            have HB5 := Lib.hid (bthen HB4.out HBu.out)
            have HX5 := Lib.hid (bkbel HX4.out HBu.out)
            have HY5 := Lib.hid (bkbel HY4.out HBu.out)
            have HW5 := Lib.hid (bkbel HW4.out HBu.out)
            have HN5 := Lib.hid (bkbel HN4.out HBu.out)
            have HA5 := Lib.hid (bkbel HA4.out HBu.out)
            have HM5 := Lib.hid (HM4.out.below HBu.out)
            obtain ⟨nbx, hnbx⟩ : ∃ nbx, W4.heap.size = nbx := ⟨_, rfl⟩
            have hi4 : ib + 1 < nbx := by rw [← hnbx]; exact HN4.out.lt
            have hUl : nbx + 1 + 1 < U.heap.size := by rw [← hnbx]; exact HIB.out.lt
            have hHIS : Hid (pb < nbx) := by show pb < nbx; rw [← hnbx]; exact HIS.out.lt
            rw [hnbx]
            rw [hnbx] at HNB HRB HIB hwl4
            clear HIS HB4 HX4 HY4 HW4 HN4 HA4 HM4 HBu hnbx
            refine (wpIn_wide (n := 6)).1 ?_
            refine range_done 6 (nbx + 1) (nbx + 1 + 1) pb ib nbx AO nO cO R l pt w U rfl (by omega) (fun W hk => ⟨(HRB.out.kp hk (by omega) (by omega) (by omega)).cell 3, (HRB.out.kp hk (by omega) (by omega) (by omega)).lt, (HIB.out.kp hk hUl (by omega) (by omega)).cell 0, (HIB.out.kp hk hUl (by omega) (by omega)).lt, h.out.ops.kp HB5.out hk (by omega) (by omega) (by omega), HIS5.out.kp hk HA5.out HNB.out⟩) h.out.opsn (by omega) HRS.out (by omega) HNB.out HA5.out HB5.out ?_ ?_ ?_
            · intro l0 i o W K hK
              go_frame
              unfold opC at hK ⊢
              gi_wp2
              unfold rFrame at hK
              simp only [List.setIfInBounds_toArray, List.set_cons_succ, List.set_cons_zero, opC] at hK
              exact hK
            · intro l0 pre x bx W hi hbx hop hlt
              obtain ⟨⟨i, o⟩, hx⟩ := x
              dsimp only at hop ⊢
              have hiO : i < nO := by
                have h1 := (List.getElem?_eq_some_iff.1 hx).1
                have h2 : (doneL (valR (evalG R.G l)) R.ops).length ≤ R.ops.length := List.length_filter_le _ _
                have h3 := h.out.opsn
                dsimp only at h1 h3
                omega
              have hmem : o ∈ R.ops := (List.mem_filter.1 (List.mem_of_getElem? hx)).1
              have hyin := inOk_mem (own_all HRT.out o.sel (by unfold ownL; exact List.mem_append_left _ (List.mem_append_right _ (List.mem_map_of_mem hmem))))
              have hidx := idx_lt hyin
              rw [HNA.out] at hidx
              have HLK : Hid ((lookI (whereL (inputsOf R.G)) o.sel).getD 0 = (((inputsOf R.G).idxOf o.sel : Nat) : Int)) := by show _ = _; rw [whereL_some _ _ hyin]; rfl
              clear hmem hyin
              have HYW := Lib.hid (HY5.out.kp hi.kp (by omega) (by omega) (by omega))
              have HWW := Lib.hid (HW5.out.kp hi.kp (by omega) (by omega) (by omega))
              have HNW := Lib.hid (HN5.out.kp hi.kp (by omega) (by omega) (by omega))
              have HMW := Lib.hid (HM5.out.kp hi.kp (by omega) (by omega) (by omega))
              have HI := Lib.hid hi
              have HOP := Lib.hid hop
              have hbl : bx < W.heap.size := hop.lt
              have hUW : U.heap.size ≤ W.heap.size := hi.kp.1
              obtain ⟨kd, dn, sl, wt⟩ := o
              have t0 : W.cell? ⟨w.heap.size + 1, 1, none⟩ = some (.int .i64 pt) := HYW.out.cell 1
              have t1 : W.cell? ⟨nbx, 0, none⟩ = some (.int .i64 (nOf pre)) := HI.out.num.cell 0
              have t2 : W.frozen? ⟨nbx, 0, none⟩ = false := HI.out.num.frozen 0
              have t3 : W.cell? ⟨bx, 2, none⟩ = some (.int .i64 sl) := HOP.out.cell 2
              dsimp only at hidx HLK
              have hnn : ((nOf (pre ++ [(⟨(i, ⟨kd, dn, sl, wt⟩), hx⟩ : Yld (valR (evalG R.G l)) R.ops)]) : Nat) : Int) = (i : Int) + 1 := by rw [nOf_snoc]; rfl
              have HNN := Lib.hid hnn
              have HX := Lib.hid hx
              clear hi hop hnn
              have HN1 := Lib.hid (HI.out.num.put 0 (.int .i64 ((i : Int) + 1)))
              have HA1 := Lib.hid (HI.out.arr.far (p := ⟨nbx, 0, none⟩) (by show ib ≠ nbx; omega) (.int .i64 ((i : Int) + 1)))
              by_cases hpe : (i : Int) = pt
              · have hpb : ((i : Int) == pt) = true := by simpa using hpe
                have HPE := Lib.hid hpe
                clear hpe
                have hlk := run_lookup_I (W.setCell ⟨nbx, 0, none⟩ (.int .i64 ((i : Int) + 1))) mb _ (HMW.out.fr (F := fun k => k = nbx) (Fr.setCell (Fr.refl (fun k => k = nbx) W) (p := ⟨nbx, 0, none⟩) (.inl rfl) _) (by omega)) sl
                rw [HLK.out] at hlk
                have v1 : (W.setCell ⟨nbx, 0, none⟩ (.int .i64 ((i : Int) + 1))).cell? ⟨w.heap.size + 1, 1, none⟩ = some (.int .i64 pt) := (HYW.out.far (p := ⟨nbx, 0, none⟩) (by show w.heap.size + 1 ≠ nbx; omega) _).cell 1
                have v2 : (W.setCell ⟨nbx, 0, none⟩ (.int .i64 ((i : Int) + 1))).cell? ⟨ib + 1, 0, none⟩ = some (.slice (some ⟨ib, 0, none⟩) na na) := (HNW.out.far (p := ⟨nbx, 0, none⟩) (by show ib + 1 ≠ nbx; omega) _).cell 0
                have v3 : (W.setCell ⟨nbx, 0, none⟩ (.int .i64 ((i : Int) + 1))).cell? ⟨mb + 1, 0, none⟩ = some (.map (some mb)) := (HWW.out.far (p := ⟨nbx, 0, none⟩) (by show mb + 1 ≠ nbx; omega) _).cell 0
                have v4 : (W.setCell ⟨nbx, 0, none⟩ (.int .i64 ((i : Int) + 1))).cell? ⟨bx, 2, none⟩ = some (.int .i64 sl) := (HOP.out.far (p := ⟨nbx, 0, none⟩) (by show bx ≠ nbx; omega) _).cell 2
                obtain ⟨bb, hbb⟩ := bcells_at (l := lOf (inputsOf R.G) pt l pre) (i := (inputsOf R.G).idxOf sl) (by rw [lOf_len, HLN.out]; exact hidx)
                have v5 : (W.setCell ⟨nbx, 0, none⟩ (.int .i64 ((i : Int) + 1))).cell? ⟨ib, (inputsOf R.G).idxOf sl, none⟩ = some (.bool bb) := (HA1.out.cell _).trans hbb
                have v6 : (W.setCell ⟨nbx, 0, none⟩ (.int .i64 ((i : Int) + 1))).frozen? ⟨ib, (inputsOf R.G).idxOf sl, none⟩ = false := HA1.out.frozen _
                have HF : Hid (RngI w U ib nbx R l pt (pre ++ [⟨(i, ⟨kd, dn, sl, wt⟩), hx⟩]) ((W.setCell ⟨nbx, 0, none⟩ (.int .i64 ((i : Int) + 1))).setCell ⟨ib, (inputsOf R.G).idxOf sl, none⟩ (.bool true))) := by
                  refine ⟨?_, ?_, (HI.out.kp.set (p := ⟨nbx, 0, none⟩) (.inr rfl) _).set (p := ⟨ib, (inputsOf R.G).idxOf sl, none⟩) (.inl rfl) _, (HI.out.bel.setCell (p := ⟨nbx, 0, none⟩) (by show w.heap.size ≤ nbx; omega) _).setCell (p := ⟨ib, (inputsOf R.G).idxOf sl, none⟩) (by show w.heap.size ≤ ib; omega) _⟩
                  · rw [HNN.out]
                    exact HN1.out.far (p := ⟨ib, (inputsOf R.G).idxOf sl, none⟩) (by show nbx ≠ ib; omega) _
                  · rw [lOf_snoc, if_pos HPE.out]
                    have h1 := HA1.out.put ((inputsOf R.G).idxOf sl) (.bool true)
                    rw [bcells_set] at h1
                    exact h1
                clear hbb HLK
                generalize (inputsOf R.G).idxOf sl = ix at *
                have hxi : ((ix : Nat) : Int) < (na : Int) := by omega
                have hx0 : (0 : Int) ≤ ((ix : Nat) : Int) := by omega
                unfold rFrame
                simp only [List.setIfInBounds_toArray, List.set_cons_succ, List.set_cons_zero, opC]
                gi_wp2
                exact ⟨((KeepsOthers.setCell _ _ _).trans (KeepsOthers.setCell _ _ _)).from _, ((KpA.refl _ _ _ W).set (p := ⟨nbx, 0, none⟩) (.inr rfl) _).set (p := ⟨ib, ix, none⟩) (.inl rfl) _, HF.out⟩
              · have hpb : ((i : Int) == pt) = false := by simpa using hpe
                have v1 : (W.setCell ⟨nbx, 0, none⟩ (.int .i64 ((i : Int) + 1))).cell? ⟨w.heap.size + 1, 1, none⟩ = some (.int .i64 pt) := (HYW.out.far (p := ⟨nbx, 0, none⟩) (by show w.heap.size + 1 ≠ nbx; omega) _).cell 1
                have HF : Hid (RngI w U ib nbx R l pt (pre ++ [⟨(i, ⟨kd, dn, sl, wt⟩), hx⟩]) (W.setCell ⟨nbx, 0, none⟩ (.int .i64 ((i : Int) + 1)))) := by
                  refine ⟨?_, ?_, HI.out.kp.set (p := ⟨nbx, 0, none⟩) (.inr rfl) _, HI.out.bel.setCell (p := ⟨nbx, 0, none⟩) (by show w.heap.size ≤ nbx; omega) _⟩
                  · rw [HNN.out]
                    exact HN1.out
                  · rw [lOf_snoc, if_neg hpe]
                    exact HA1.out
                clear hpe
                unfold rFrame
                simp only [List.setIfInBounds_toArray, List.set_cons_succ, List.set_cons_zero, opC]
                gi_wp2
                exact ⟨(KeepsOthers.setCell _ _ _).from _, (KpA.refl _ _ _ W).set (p := ⟨nbx, 0, none⟩) (.inr rfl) _, HF.out⟩
            · intro D xs W hD hall hi hK
              have hnA := nOf_all hall
              have hlA := lOf_all (all := inputsOf R.G) (pt := pt) (l := l) hall
              have HXW := Lib.hid (HX5.out.kp hi.kp (by omega) (by omega) (by omega))
              have HYW := Lib.hid (HY5.out.kp hi.kp (by omega) (by omega) (by omega))
              have HWW := Lib.hid (HW5.out.kp hi.kp (by omega) (by omega) (by omega))
              have HNW := Lib.hid (HN5.out.kp hi.kp (by omega) (by omega) (by omega))
              have HMW := Lib.hid (HM5.out.kp hi.kp (by omega) (by omega) (by omega))
              obtain ⟨dl, hdl⟩ : ∃ dl, (asgD R l).length = dl := ⟨_, rfl⟩
              obtain ⟨l1, hl1⟩ : ∃ l1, pick1 R l (asgD R l) pt = l1 := ⟨_, rfl⟩
              have hnum := hi.num
              have harr := hi.arr
              rw [show nOf xs = dl from hnA.trans hdl] at hnum
              rw [show lOf (inputsOf R.G) pt l xs = l1 from hlA.trans hl1] at harr
              have hl1n : l1.length = na := by
                rw [← hl1, ← HLN.out]
                exact (congrArg List.length (hlA.symm)).trans (lOf_len _ _ _ _)
              have HNUM := Lib.hid hnum; have HARR := Lib.hid harr; have HBW := Lib.hid hi.bel; have HDK := Lib.hid hK
              have HDL := Lib.hid hdl; have HL1 := Lib.hid hl1; have HL1N := Lib.hid hl1n
              have hdlb : dl ≤ 100000 := by
                rw [← hdl]
                have h2 : (asgD R l).length ≤ R.ops.length := List.length_filter_le _ _
                have h3 := h.out.opsn
                dsimp only at h3
                omega
              clear hnA hlA hnum harr hi hK hall hdl hl1 hl1n HX5 HY5 HW5 HN5 HM5 HA5 HNB HRB HIB HIS5 hHIS
              have hDl : D < W.heap.size := lt_of_heap HDK.out
              have y1 : W.cell? ⟨w.heap.size + 1, 1, none⟩ = some (.int .i64 pt) := HYW.out.cell 1
              have z1 : W.cell? ⟨nbx, 0, none⟩ = some (.int .i64 dl) := HNUM.out.cell 0
              have HERR : Hid (pt < 0 ∨ (dl : Int) < pt → assignR R sin pt kp = ([], 422)) := by
                intro hp
                rw [assignR, if_neg (by rw [HRT.out]; simp), if_neg (by rw [hSl.out, hINS.out]; simp), if_neg (by rw [HFF.out]; simp), if_pos (by rw [← HLF.out, HDL.out]; exact hp)]
              by_cases hp0 : pt < 0
              · have HNO := Lib.hid (HERR.out (.inl hp0))
                go_wp2
                exact ⟨by simp, .inl ⟨D, _, rfl, run_takeDeferred HDK.out, ⟨.tuple #[.slice none 0 0, .int .i64 422], by simp [results, Try.results12, go_sem], asg_put (asg_err HNO.out HBW.out) HDK.out rfl (by omega)⟩⟩⟩
              by_cases hp1 : (dl : Int) < pt
              · have HNO := Lib.hid (HERR.out (.inr hp1))
                go_wp2
                exact ⟨by simp, .inl ⟨D, _, rfl, run_takeDeferred HDK.out, ⟨.tuple #[.slice none 0 0, .int .i64 422], by simp [results, Try.results12, go_sem], asg_put (asg_err HNO.out HBW.out) HDK.out rfl (by omega)⟩⟩⟩
              clear HERR
              obtain ⟨⟨x0, x1, x2, x3, x4, x5, x6, x7, x8⟩, _⟩ := cells9 HXW.out
              have n0 : W.cell? ⟨ib + 1, 0, none⟩ = some (.slice (some ⟨ib, 0, none⟩) na na) := HNW.out.cell 0
              have hVA := decValues B M ⟨g, ⟨AI, nS, cI⟩, S, ⟨AO, nO, cO⟩, ⟨AK, nK, cK⟩, ⟨AC, nC, cC⟩, ⟨AR, nR, cR⟩⟩ R (some ⟨ib, 0, none⟩) na na l1 W (Lib.hid (h.out.below HBW.out)) (Lib.hid (rd_bools HARR.out)) HL1N (by omega)
              dsimp only at hVA
              have HVA := Lib.hid hVA
              clear hVA
              go_wp2_with fail
              refine HVA.out.mono ?_
              clear HVA x0 x1 x2 x3 x4 x5 x6 x7 x8 n0 y1 z1
              rintro e W6 ⟨pb2, rfl, his, hb6⟩
              have HIS := Lib.hid (his HNA.out.symm)
              have HB6 := Lib.hid (bthen HBW.out hb6)
              have HX6 := Lib.hid (bkbel HXW.out hb6)
              have HY6 := Lib.hid (bkbel HYW.out hb6)
              have HW6 := Lib.hid (bkbel HWW.out hb6)
              have HN6 := Lib.hid (bkbel HNW.out hb6)
              have HA6 := Lib.hid (bkbel HARR.out hb6)
              have HM6 := Lib.hid (HMW.out.below hb6)
              have HD6 : Hid (W6.heap[D]? = some (.deferred (some []))) := (hb6.block D hDl).trans HDK.out
              have hsz6 : W.heap.size ≤ W6.heap.size := hb6.size
              clear his hb6 HXW HYW HWW HNW HARR HMW HBW HDK HNUM
              have c5 : W6.cell? ⟨w.heap.size, 5, none⟩ = some (.slice AC nC cC) := HX6.out.cell 5
              go_wp2
              clear c5
              go_loopw [22, 141] (fun kk ii wr => ∃ (j q : Nat) (l2 : List Bool), j ≤ nC ∧ q ≤ j ∧ ii = .int .i64 j ∧ kk = .int .i64 q ∧ Hid (keepTo (inputsOf R.G) (valR (evalG R.G l1)) kp ((R.cached.zip R.keep).take j) l1 = (l2, q)) ∧ Hid (AInv W6 ib l2 wr)) (fun _ ii _ => nC - (intOf ii).toNat)
              case atStart => exact ⟨0, 0, l1, Nat.zero_le _, Nat.le_refl _, rfl, rfl, rfl, Fr.refl _ _, HA6.out⟩
              case round =>
                obtain ⟨j, q, l2, hj, hq, rfl, rfl, HKT, HA7⟩ := hrel
                have hs7 : W6.heap.size ≤ wr.heap.size := HA7.out.fr.size
                have HX7 := Lib.hid (HX6.out.fr HA7.out.fr (by omega))
                have HY7 := Lib.hid (HY6.out.fr HA7.out.fr (by omega))
                have HW7 := Lib.hid (HW6.out.fr HA7.out.fr (by omega))
                have HN7 := Lib.hid (HN6.out.fr HA7.out.fr (by omega))
                have HM7 := Lib.hid (HM6.out.fr HA7.out.fr (by omega))
                have HB7 : Hid (Below w.heap.size w wr) := HB6.out.trans (HA7.out.fr.below w.heap.size (by omega) (fun q hq => by omega))
                have HD7 : Hid (wr.heap[D]? = some (.deferred (some []))) := (HA7.out.fr.block D (by omega) (by omega)).trans HD6.out
                have y2 : wr.cell? ⟨w.heap.size + 1, 2, none⟩ = some (.slice kA nk ck) := HY7.out.cell 2
                by_cases hlt : j < nC
                · have hcn := h.out.cached.2.1
                  have hkn := h.out.keep.2.1
                  have hck := HRS.out.keepn
                  dsimp only at hcn hkn
                  obtain ⟨b1, o1, xc, rfl, hxc, hc1⟩ := ((h.out.below HB7.out).cached.1).getm (h.out.below HB7.out).cached.2.1 hlt
                  obtain ⟨b2, o2, xk, rfl, hxk, hc2⟩ := ((h.out.below HB7.out).keep.1).getm (h.out.below HB7.out).keep.2.1 (k := j) (by dsimp only; omega)
                  have hzip : (R.cached.zip R.keep)[j]? = some (xc, xk) := by rw [List.getElem?_zip_eq_some]; exact ⟨hxc, hxk⟩
                  have HZ := Lib.hid hzip
                  have HRC := Lib.hid (HRS.out.cached xc (List.mem_of_getElem? hxc))
                  have hyin := inOk_mem (own_all HRT.out xk (by unfold ownL; exact List.mem_append_left _ (List.mem_append_left _ (List.mem_of_getElem? hxk))))
                  have hjK : j < nK := by omega
                  have hji : (j : Int) < (nC : Int) := by omega
                  have hjk : (j : Int) < (nK : Int) := by omega
                  have hj0 : (0 : Int) ≤ (j : Int) := by omega
                  clear hcn hkn hck hxc hxk hzip
                  have HCL := Lib.hid (isClo pb2 R.G l1 xc wr (HIS.out.frA HA7.out.fr HA6.out) HRC.out)
                  cases hv : valR (evalG R.G l1) xc with
                  | false =>
                    have HV := Lib.hid hv
                    rw [hv] at HCL
                    have HKN : Hid (keepTo (inputsOf R.G) (valR (evalG R.G l1)) kp ((R.cached.zip R.keep).take (j + 1)) l1 = (l2, q)) := by
                      show _ = _
                      rw [take_snoc HZ.out, keepTo_snoc, HKT.out, keepStep, if_neg (by rw [HV.out]; simp)]
                    clear hv
                    go_wp2_with fail
                    refine HCL.out.mono ?_
                    rintro e w' ⟨rfl, rfl⟩
                    go_wp2
                    go_roundw
                    case rel => exact ⟨j + 1, q, l2, by omega, by omega, by go_num, rfl, HKN, HA7⟩
                    case measure => simp [intOf]; omega
                  | true =>
                    have HV := Lib.hid hv
                    rw [hv] at HCL
                    clear hv
                    by_cases hqk : q < nk
                    · have hqb : decide (q < nk) = true := by simp; omega
                      obtain ⟨b3, o3, kb, rfl, hkb, hc3⟩ := (hK.out.below HB7.out).getm hKl.out hqk
                      have hidx := idx_lt hyin
                      rw [HNA.out] at hidx
                      have HLK : Hid ((lookI (whereL (inputsOf R.G)) xk).getD 0 = (((inputsOf R.G).idxOf xk : Nat) : Int)) := by show _ = _; rw [whereL_some _ _ hyin]; rfl
                      have hlk := run_lookup_I wr.drew mb _ (HM7.out.below ((Below.refl _ wr).drew)) xk
                      rw [HLK.out] at hlk
                      have hl2n : l2.length = na := by
                        have h1 := (keepTo_len (inputsOf R.G) (valR (evalG R.G l1)) kp ((R.cached.zip R.keep).take j) l1).1
                        rw [HKT.out] at h1
                        exact h1.trans HL1N.out
                      obtain ⟨bb, hbb⟩ := bcells_at (l := l2) (i := (inputsOf R.G).idxOf xk) (by omega)
                      have t4 : wr.cell? ⟨ib, (inputsOf R.G).idxOf xk, none⟩ = some (.bool bb) := (HA7.out.arr.cell _).trans hbb
                      have t5 : wr.frozen? ⟨ib, (inputsOf R.G).idxOf xk, none⟩ = false := HA7.out.arr.frozen _
                      have t2 : wr.cell? ⟨ib + 1, 0, none⟩ = some (.slice (some ⟨ib, 0, none⟩) na na) := HN7.out.cell 0
                      have t1 : wr.cell? ⟨mb + 1, 0, none⟩ = some (.map (some mb)) := HW7.out.cell 0
                      have t3 : wr.cell? ⟨w.heap.size, 4, none⟩ = some (.slice (some ⟨b2, o2, none⟩) nK cK) := HX7.out.cell 4
                      have HKN : Hid (keepTo (inputsOf R.G) (valR (evalG R.G l1)) kp ((R.cached.zip R.keep).take (j + 1)) l1 = (setIn (inputsOf R.G) l2 xk kb, q + 1)) := by
                        show _ = _
                        rw [take_snoc HZ.out, keepTo_snoc, HKT.out, keepStep, if_pos HV.out, if_pos (by rw [hKl.out]; exact hqk)]
                        rw [List.getD_eq_getElem?_getD, hkb]
                        rfl
                      have HNX : Hid (AInv W6 ib (setIn (inputsOf R.G) l2 xk kb) (wr.drew.setCell ⟨ib, (inputsOf R.G).idxOf xk, none⟩ (.bool kb))) := HA7.out.drew.set (inputsOf R.G) xk kb
                      clear hbb hl2n HLK hyin hkb
                      generalize (inputsOf R.G).idxOf xk = ix at *
                      have hqi : (q : Int) < (nk : Int) := by omega
                      have hq0 : (0 : Int) ≤ (q : Int) := by omega
                      have hxi : ((ix : Nat) : Int) < (na : Int) := by omega
                      have hx0 : (0 : Int) ≤ ((ix : Nat) : Int) := by omega
                      go_wp2_with fail
                      refine HCL.out.mono ?_
                      rintro e w' ⟨rfl, rfl⟩
                      go_wp2
                      refine wp_region_oneq 14 (by kernel_rfl) (by kernel_rfl) ?_
                      simp only [List.take_succ_cons, List.take_zero, List.drop_succ_cons, List.drop_zero]
                      repeat (go_big_quiet_step (fail))
                      refine wpQuiet_nil ?_
                      refine wpOp_here rfl rfl (fun K hK => ?_)
                      go_simp
                      refine hK _ _ ?_
                      clear hK K
                      try go_frame
                      refine wpQuiet_nil ?_
                      clear t1 t2 t3 t4 t5 hlk hc1 hc2 hc3 y2
                      go_wp2
                      go_roundw
                      case rel => exact ⟨j + 1, q + 1, _, by omega, by omega, by go_num, by go_num, HKN, HNX⟩
                      case measure => simp [intOf]; omega
                    · have hqb : decide (q < nk) = false := by simp; omega
                      have hqg : nk ≤ q := by omega
                      have HKN : Hid (keepTo (inputsOf R.G) (valR (evalG R.G l1)) kp ((R.cached.zip R.keep).take (j + 1)) l1 = (l2, q + 1)) := by
                        show _ = _
                        rw [take_snoc HZ.out, keepTo_snoc, HKT.out, keepStep, if_pos HV.out, if_neg (by rw [hKl.out]; exact hqk)]
                      clear hqk
                      go_wp2_with fail
                      refine HCL.out.mono ?_
                      rintro e w' ⟨rfl, rfl⟩
                      go_wp2
                      go_roundw
                      case rel => exact ⟨j + 1, q + 1, l2, by omega, by omega, by go_num, by go_num, HKN, HA7⟩
                      case measure => simp [intOf]; omega
                · obtain rfl : nC = j := by omega
                  have HFK : Hid (asg2 R kp l1 = (l2, q)) := by
                    have h1 := HKT.out
                    rw [List.take_of_length_le (by rw [List.length_zip]; have h2 := h.out.cached.2.1; dsimp only at h2; omega)] at h1
                    exact h1
                  have HAS : Hid (assignR R sin pt kp = if q ≠ kp.length then ([], 422) else (l2, 0)) := by
                    show _ = _
                    rw [assignR, if_neg (by rw [HRT.out]; simp), if_neg (by rw [hSl.out, hINS.out]; simp), if_neg (by rw [HFF.out]; simp), if_neg (by rw [← HLF.out, HDL.out]; omega)]
                    rw [← HLF.out, HL1.out, HFK.out]
                  clear hlt HKT
                  by_cases hqe : q = nk
                  rotate_left
                  · have hqb : ((q : Int) != (nk : Int)) = true := by simp; omega
                    have HNO : Hid (assignR R sin pt kp = ([], 422)) := by show _ = _; rw [HAS.out, if_pos (by rw [hKl.out]; exact hqe)]
                    clear hqe
                    go_wp2
                    exact ⟨by simp, .inl ⟨D, _, rfl, run_takeDeferred HD7.out, ⟨.tuple #[.slice none 0 0, .int .i64 422], by simp [results, Try.results12, go_sem], asg_put (asg_err HNO.out HB7.out) HD7.out rfl (by omega)⟩⟩⟩
                  · have hqb : ((q : Int) != (nk : Int)) = false := by simp; omega
                    have HYE : Hid (assignR R sin pt kp = (l2, 0)) := by show _ = _; rw [HAS.out, if_neg (by rw [hKl.out]; simp; exact hqe)]
                    have hl2n : l2.length = na := by
                      have h1 := (keepTo_len (inputsOf R.G) (valR (evalG R.G l1)) kp (R.cached.zip R.keep) l1).1
                      rw [show keepTo (inputsOf R.G) (valR (evalG R.G l1)) kp (R.cached.zip R.keep) l1 = (l2, q) from HFK.out] at h1
                      exact h1.trans HL1N.out
                    clear hqe
                    have n7 : wr.cell? ⟨ib + 1, 0, none⟩ = some (.slice (some ⟨ib, 0, none⟩) na na) := HN7.out.cell 0
                    have HL2N := Lib.hid hl2n
                    clear hl2n
                    go_wp2
                    refine ⟨by simp, .inl ⟨D, _, rfl, run_takeDeferred HD7.out, ⟨.tuple #[.slice (some ⟨ib, 0, none⟩) na na, .int .i64 0], by simp [results, Try.results12, go_sem], asg_put ?_ HD7.out rfl (by omega)⟩⟩⟩
                    rw [HYE.out]
                    exact ⟨_, _, _, rfl, rd_bools HA7.out.arr, HL2N.out, by omega, HB7.out⟩
end Go.Proofs.Ytamoniljgifggaa
