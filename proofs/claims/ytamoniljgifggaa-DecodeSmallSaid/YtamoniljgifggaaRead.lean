/-
  Contract of the reference's Read.
-/
import Derived.Test.YtamoniljgifggaaRefT
import Derived.Test.YtamoniljgifggaaRefG
set_option linter.unusedVariables false
set_option linter.unusedSimpArgs false
namespace Go.Proofs.Ytamoniljgifggaa
open Go.RowKit

/-- What the reference's Read leaves. -/
theorem RdT.nil {w : World} {t : TypeId} : RdT w none t [] := ⟨Rd.nil, fun _ _ h => by cases h⟩
def QSchPost (s : Sch) (err : Int) (w : World) (e : Ending) (w' : World) : Prop :=
  ∃ (sI sK : SV), e = .returned (.tuple #[.agg #[.slice sI.A sI.n sI.c, .int .i64 s.pt, .slice sK.A sK.n sK.c], .int .i64 err]) ∧ RdT w' sI.A 3 (s.ins.map (Value.int .i64)) ∧ s.ins.length = sI.n ∧ RdT w' sK.A 3 ((s.keep.map bitI).map (Value.int .i64)) ∧ s.keep.length = sK.n ∧ sI.n ≤ 100000 ∧ sK.n ≤ 100000 ∧ Below w.heap.size w w'
def qsched (R : Res) (inp : List Bool) : Sch := if inp.length = (inputsOf R.G).length then schedV (valR (evalG R.G inp)) R else ⟨[], 0, []⟩

theorem numB_drop {l : List Int} {j : Nat} {y : Int} (v : Int → Bool) (h : l[j]? = some y) : numB ((l.drop j).map v) = bitI (v y) + 2 * numB ((l.drop (j + 1)).map v) := by
  rw [drop_get h, List.map_cons, numB]

theorem Two.setCell {B e g i : Nat} {wr W : World} {v1 v2 : Value} {n1 n2 : Nat} {l1 l2 : List Value} (h : Two B e wr v1 n1 l1 v2 n2 l2 W) (hg : B ≤ g) (h1 : some g ≠ v1.ownBlock) (h2 : some g ≠ v2.ownBlock) (u : Value) : Two B e wr v1 n1 l1 v2 n2 l2 (W.setCell ⟨g, i, none⟩ u) :=
  ⟨h.bel.setCell (p := ⟨g, i, none⟩) hg u, by have := h.base; simpa [World.setCell] using this, ownsRow_setCell_other h.o1 (a := ⟨g, i, none⟩) (fun e => h1 e.symm) u, ownsRow_setCell_other h.o2 (a := ⟨g, i, none⟩) (fun e => h2 e.symm) u, h.ne⟩

set_option maxHeartbeats 4000000 in
set_option maxRecDepth 100000 in
theorem refRead (M : Int) (y : QV) (R : Res) (A : Option Addr) (m c : Nat) (inp : List Bool) (w : World) (h : Hid (RefAt w y R)) (hR : Hid (Rts R)) (hr : Hid (Rd w A ((inp.map bitI).map (Value.int .i64)))) (hl : Hid (inp.length = m)) (hm' : m ≤ 1000000) (err : Int) (herr : Hid (err = if m = (inputsOf R.G).length then 0 else 421)) :
    Calls Try.prog 24 #[.agg #[.int .i64 M, .slice y.N.A y.N.n y.N.c, .slice y.I.A y.I.n y.I.c, .int .i64 R.req, .slice y.O.A y.O.n y.O.c, .slice y.K.A y.K.n y.K.c, .slice y.C.A y.C.n y.C.c, .slice y.R.A y.R.n y.R.c, .int .i64 R.bey, .int .i64 R.hol], .slice A m c] w (QSchPost (qsched R inp) err w) := by
  have hgl := h.out.glen
  have HNN : Hid (R.G.length = y.N.n) := h.out.noden
  have hNn : y.N.n ≤ 65536 := by rw [← HNN.out]; exact hgl.2
  have HIN := Lib.hid (fun (w' : World) (hb : Below w.heap.size w w') => rinputs M y.N.A y.N.n y.N.c R.G w' (h.out.nodes.below hb) HNN (by omega))
  have HV := Lib.hid (fun (w' : World) (hb : Below w.heap.size w w') (hm : m = (inputsOf R.G).length) => rvalues M y.N.A A y.N.n y.N.c m c R.G inp w' h.out.gok (h.out.nodes.below hb) HNN hNn (hr.out.below hb) hl hm hm')
  have HIL : Hid (ListsAt w y.I.A y.I.n y.S R.ins) := h.out.ins
  have HCC : Hid (IntsAt w y.C R.cached) := h.out.cached
  have HKK : Hid (IntsAt w y.K R.keep) := h.out.keep
  have hop := Lib.hid (fun (w' : World) (hb : Below w.heap.size w w') (k : Nat) (hk : k < y.O.n) => (h.out.ops.below hb).qop h.out.opsn hk)
  have hlO : Hid (R.ops.length = y.O.n) := h.out.opsn
  obtain ⟨hsI, hsO, hsK, hsC, hsR⟩ := h.out.small
  clear h hr
  obtain ⟨⟨AN, nN, cN⟩, ⟨AI, nI, cI⟩, S, ⟨AO, nO, cO⟩, ⟨AK, nK, cK⟩, ⟨AC, nC, cC⟩, ⟨AR, nR, cR⟩⟩ := y
  dsimp only at hNn hsI hsO hsK hsC hsR
  have hb0 : Below w.heap.size w ((w.alloc (.cells #[.int .i64 M, .slice AN nN cN, .slice AI nI cI, .int .i64 R.req, .slice AO nO cO, .slice AK nK cK, .slice AC nC cC, .slice AR nR cR, .int .i64 R.bey, .int .i64 R.hol] 70)).alloc (.cells #[.slice none 0 0, .int .i64 0, .slice none 0 0] 78)) := ((Below.refl _ w).alloc (Nat.le_refl _) _).alloc (by simp) _
  have hx0 := (Bk.new w 70 #[.int .i64 M, .slice AN nN cN, .slice AI nI cI, .int .i64 R.req, .slice AO nO cO, .slice AK nK cK, .slice AC nC cC, .slice AR nR cR, .int .i64 R.bey, .int .i64 R.hol]).alloc (.cells #[.slice none 0 0, .int .i64 0, .slice none 0 0] 78)
  have hy0 := Bk.new (w.alloc (.cells #[.int .i64 M, .slice AN nN cN, .slice AI nI cI, .int .i64 R.req, .slice AO nO cO, .slice AK nK cK, .slice AC nC cC, .slice AR nR cR, .int .i64 R.bey, .int .i64 R.hol] 70)) 78 #[.slice none 0 0, .int .i64 0, .slice none 0 0]
  rw [World.size_alloc] at hy0
  have HB0 := Lib.hid hb0; have HX0 := Lib.hid hx0; have HY0 := Lib.hid hy0
  clear hb0 hx0 hy0
  dsimp only
  go_enter Try.func24, Try.ntmps24
  go_wp2_with fail
  generalize ((w.alloc (.cells #[.int .i64 M, .slice AN nN cN, .slice AI nI cI, .int .i64 R.req, .slice AO nO cO, .slice AK nK cK, .slice AC nC cC, .slice AR nR cR, .int .i64 R.bey, .int .i64 R.hol] 70)).alloc (.cells #[.slice none 0 0, .int .i64 0, .slice none 0 0] 78)) = W0 at *
  refine (HIN.out W0 HB0.out).mono ?_
  rintro e w1 ⟨A1, m1, c1, rfl, hm1, _, hb1⟩
  have HB1 : Hid (Below w.heap.size w w1) := bthen HB0.out hb1
  have HX1 := Lib.hid (HX0.out.below hb1 HX0.out.lt)
  have HY1 := Lib.hid (HY0.out.below hb1 HY0.out.lt)
  have hs1 : w.heap.size + 1 < w1.heap.size := HY1.out.lt
  have HM1 := Lib.hid hm1
  have hm1' : m1 ≤ 65536 := by
    have := inputsOf_len R.G
    omega
  clear hb1 HIN HX0 HY0 HB0 hm1
  by_cases hin : m = m1
  · have hne : ((m : Int) == (m1 : Int)) = true := by rw [hin]; simp
    have x0 : w1.cell? ⟨w.heap.size, 0, none⟩ = some (.int .i64 M) := HX1.out.cell 0
    have x1 : w1.cell? ⟨w.heap.size, 1, none⟩ = some (.slice AN nN cN) := HX1.out.cell 1
    have HE := Lib.hid hin
    clear hin
    go_wp2_with fail
    clear x0 x1 hne
    refine (HV.out w1 HB1.out (HE.out.trans HM1.out.symm)).mono ?_
    rintro e w3 ⟨A', c', rfl, ho3, hb3⟩
    have HB3 : Hid (Below w.heap.size w w3) := bthen HB1.out hb3
    have HX3 := Lib.hid (HX1.out.below hb3 HX1.out.lt)
    have HY3 := Lib.hid (HY1.out.below hb3 HY1.out.lt)
    have hs3 : w.heap.size + 1 < w3.heap.size := HY3.out.lt
    have hs3' : w.heap.size < w3.heap.size := HX3.out.lt
    obtain ⟨vv, hvv⟩ : ∃ vv, evalG R.G inp = vv := ⟨_, rfl⟩
    have hvl : vv.length = nN := by rw [← hvv, evalG_len]; exact HNN.out
    rw [hvv] at ho3
    have HVV := Lib.hid hvv
    have hval : ∀ (W : World), Below w3.heap.size w3 W → ∀ r, refOk R.G r = true → Calls Try.prog 66 #[.slice A' nN c', .int .i64 r] W fun e w' => e = .returned (.int .i64 (bitI (valR vv r))) ∧ W = w' := by
      intro W hW r hr
      have hr' := refOk_iff hr
      refine rvalue A' nN c' vv r W ((Rd.of_own ho3).below hW) hvl (by omega) hr'.1 ?_
      have hn : R.G.length = nN := HNN.out
      rw [← hn]
      exact hr'.2
    have HVAL := Lib.hid hval
    clear hb3 hval ho3 hvl hvv HV HX1 HY1 HB1
    go_wp2
    have hbs : Bk (w3.alloc (.cells #[.slice none 0 0, .int .i64 0, .slice none 0 0] 78)) w3.heap.size 78 #[.slice none 0 0, .int .i64 0, .slice none 0 0] := Bk.new _ _ _
    have hbb : Below w3.heap.size w3 (w3.alloc (.cells #[.slice none 0 0, .int .i64 0, .slice none 0 0] 78)) := (Below.refl _ w3).alloc (Nat.le_refl _) _
    have HBS := Lib.hid hbs; have HBB := Lib.hid hbb
    clear hbs hbb
    generalize (w3.alloc (.cells #[.slice none 0 0, .int .i64 0, .slice none 0 0] 78)) = W1 at *
    go_loopw [8] (fun i wr => ∃ (k : Nat) (A1 : Option Addr) (c1 : Nat), k ≤ nI ∧ i = .int .i64 k ∧ Hid (Below w3.heap.size w3 wr) ∧ Hid (Bk wr w3.heap.size 78 #[.slice A1 k c1, .int .i64 0, .slice none 0 0]) ∧
      Hid (wr.ownsRow w3.heap.size 3 1 (.slice A1 k c1) k (((R.ins.take k).map fun l => numB (l.map (valR vv))).map (Value.int .i64)))) (fun i _ => nI - (intOf i).toNat)
    case atStart => exact ⟨0, none, 0, Nat.zero_le _, rfl, HBB, HBS, ⟨rfl, .inl ⟨rfl, rfl⟩⟩⟩
    case round =>
      obtain ⟨k, A1, c1, hk, rfl, HBl, HBk, HOw⟩ := hrel
      clear HBS HBB
      have HXr := Lib.hid (HX3.out.below HBl.out HX3.out.lt)
      have x2 : wr.cell? ⟨w.heap.size, 2, none⟩ = some (.slice AI nI cI) := HXr.out.cell 2
      have hsV : w3.heap.size < wr.heap.size := HBk.out.lt
      have hsV' : w.heap.size < wr.heap.size := by omega
      by_cases hlt : k < nI
      · have HBw : Hid (Below w.heap.size w wr) := bthen HB3.out HBl.out
        obtain ⟨b, off, s, l, rfl, hl2, hc, hr2, hln, hsn, _⟩ := (HIL.out.below HBw.out).at hlt
        obtain ⟨sA, sn, sc⟩ := s
        dsimp only at hc hr2 hln hsn
        have hwd := hR.out.ins l (List.mem_of_getElem? hl2)
        rw [hln] at hwd
        obtain ⟨⟨hw1, hw16⟩, hrefs⟩ := hwd
        have HL := Lib.hid hl2; have HLN := Lib.hid hln; have HRl := Lib.hid hr2; have HREF := Lib.hid hrefs
        clear hl2 hln hr2 hrefs
        go_wp2
        generalize wr = V at *
        go_loopw [9, 10] (fun v i wr => ∃ (j : Nat) (X : Int), j ≤ sn ∧ i = .int .i64 ((j : Int) - 1) ∧ v = .int .i64 X ∧ 0 ≤ X ∧ X ≤ 65535 ∧ Hid (X = numB ((l.drop j).map (valR vv))) ∧ V = wr) (fun _ i _ => (intOf i + 1).toNat)
        case atStart => exact ⟨sn, 0, Nat.le_refl _, by go_num, rfl, by omega, by omega, by show _ = _; rw [List.drop_eq_nil_of_le (by rw [HLN.out]; omega)]; rfl, rfl⟩
        case round =>
          obtain ⟨j, X, hj, rfl, rfl, hX0, hX1, HX, rfl⟩ := hrel
          by_cases hj0 : 0 < j
          · obtain ⟨j, rfl⟩ : ∃ i, j = i + 1 := ⟨j - 1, by omega⟩
            obtain ⟨b2, o2, y, rfl, hy, hc2⟩ := HRl.out.getm HLN.out (k := j) (by omega)
            have HY := Lib.hid hy
            have HRo := Lib.hid (HREF.out y (List.mem_of_getElem? hy))
            have hjj : ((j + 1 : Nat) : Int) - 1 = (j : Int) := by omega
            rw [hjj]
            have hnx := numB_drop (valR vv) hy
            rw [← HX.out] at hnx
            have hlt2 := numB_lt ((l.drop j).map (valR vv))
            rw [List.length_map, List.length_drop, HLN.out] at hlt2
            have hpw := pow_small (k := sn - j) (by omega)
            have hb01 := bitI_01 (valR vv y)
            obtain ⟨t, ht⟩ : ∃ t, bitI (valR vv y) = t := ⟨_, rfl⟩
            rw [ht] at hnx hb01
            have hbd : t + 2 * X ≤ 65535 := by omega
            have HNX := Lib.hid hnx; have HTT := Lib.hid ht
            clear hy hnx hlt2 hpw ht
            have hjs : (j : Int) < (sn : Int) := by omega
            go_wp2_with fail
            refine (HVAL.out _ HBl.out y HRo.out).mono ?_
            rintro e w' ⟨rfl, rfl⟩
            rw [HTT.out]
            go_wp2
            go_roundw
            case rel => exact ⟨j, 2 * X + t, by omega, by go_num, rfl, by omega, by omega, by show _ = _; rw [HNX.out]; omega, trivial⟩
            case measure => simp [intOf] <;> omega
          · obtain rfl : j = 0 := by omega
            have q0 : V.cell? ⟨w3.heap.size, 0, none⟩ = some (.slice A1 k c1) := HBk.out.cell 0
            go_wp2_with (at_builtin; refine wpList_app el_int rfl (.tmp 57) (.tmp 59) rfl w3.heap.size (.slice A1 k c1) k _ rfl (HOw.out.alloc _) (some ⟨V.heap.size, 0, none⟩) 1 1 [.int .i64 X] rfl (Rd.new _ #[_] _) rfl (by simp [Value.oneCell']) (by omega) (by simp; omega) ?_; intro A3 c3 w4 ho4 hg4 hat4; have Ho4 := Lib.hid ho4; have HB4 := Lib.hid (Bk.grown (HBk.out.alloc _) hg4 (own_ne HOw.out HBk.out (by decide))); have HBl4 := Lib.hid ((HBl.out.alloc (Nat.le_of_lt hsV) _).grown hg4 (by simp; omega) (fun q hq => (HOw.out.lt q hq).1)); have q4 := HB4.out.cell 0; have f4 := HB4.out.frozen 0; clear ho4 hg4 hat4)
            go_roundw
            case rel =>
              refine ⟨k + 1, A3, c3, by omega, by go_num, HBl4.out.setCell (p := ⟨w3.heap.size, 0, none⟩) (Nat.le_refl _) _, HB4.out.put 0 _, ?_⟩
              have h := ownsRow_setCell_other Ho4.out (a := ⟨w3.heap.size, 0, none⟩) (fun e => own_ne Ho4.out HB4.out (by decide) e.symm) (.slice A3 (k + 1) c3)
              have hx := HX.out
              rw [List.drop_zero] at hx
              show World.ownsRow _ _ _ _ _ _ _
              rw [take_snoc HL.out, List.map_append, List.map_append, List.map_singleton, List.map_singleton, ← hx]
              exact h
            case measure => simp [intOf]; omega
      · obtain rfl : nI = k := by omega
        have hfull : R.ins.take nI = R.ins := List.take_of_length_le (by rw [← HIL.out.len, HIL.out.sn]; omega)
        have hown := HOw.out
        rw [hfull] at hown
        have HOI := Lib.hid hown
        clear hown hfull HOw hlt
        go_wp2
        clear x2 HXr hsV hsV'
        go_loopw [11] (fun i wr => ∃ (k : Nat) (P : Int), k ≤ nO ∧ 0 ≤ P ∧ P ≤ k ∧ i = .int .i64 k ∧ Hid (Below w3.heap.size w3 wr) ∧ Hid (Bk wr w3.heap.size 78 #[.slice A1 nI c1, .int .i64 P, .slice none 0 0]) ∧
          Hid (wr.ownsRow w3.heap.size 3 1 (.slice A1 nI c1) nI ((R.ins.map fun l => numB (l.map (valR vv))).map (Value.int .i64))) ∧ Hid ((pointN (valR vv) R.ops : Int) = P + (pointN (valR vv) (R.ops.drop k) : Int))) (fun i _ => nO - (intOf i).toNat)
        case atStart => exact ⟨0, 0, Nat.zero_le _, by omega, by omega, rfl, HBl, HBk, HOI, by show _ = _; simp⟩
        case round =>
          obtain ⟨k, P, hk, hP0, hP, rfl, HBr, HBs, HOa, HPN⟩ := hrel
          clear HBl HBk HOI
          have HXr := Lib.hid (HX3.out.below HBr.out HX3.out.lt)
          have x4 : wr.cell? ⟨w.heap.size, 4, none⟩ = some (.slice AO nO cO) := HXr.out.cell 4
          have hsV : w3.heap.size < wr.heap.size := HBs.out.lt
          have HBw : Hid (Below w.heap.size w wr) := bthen HB3.out HBr.out
          by_cases hlt : k < nO
          · obtain ⟨b1, o1, y, rfl, hy, hbl, d0, d1, d2, d3⟩ := hop.out wr HBw.out k hlt
            obtain ⟨kd, dn, sl, wt⟩ := y
            dsimp only at d0 d1 d2 d3
            have HY := Lib.hid hy
            have HS : Hid (refOk R.G sl = true) := hR.out.sel _ (List.mem_of_getElem? hy)
            have HD : Hid (refOk R.G dn = true) := hR.out.done _ (List.mem_of_getElem? hy)
            have hp : (pointN (valR vv) R.ops : Int) = P + ((if valR vv sl then 0 else (if valR vv dn then 1 else 0) + pointN (valR vv) (R.ops.drop (k + 1)) : Nat) : Int) := by
              have := HPN.out
              rw [drop_get hy] at this
              exact this
            have HPn := Lib.hid hp
            clear hy hp HPN
            have hki : (k : Int) < (nO : Int) := by omega
            go_wp2_with fail
            refine (HVAL.out _ HBr.out sl HS.out).mono ?_
            rintro e w' ⟨rfl, rfl⟩
            cases hvs : valR vv sl with
            | true =>
              have hPf := HPn.out
              rw [hvs, if_pos rfl] at hPf
              have HPF : Hid ((pointN (valR vv) R.ops : Int) = P) := by show _ = _; omega
              clear hPf HPn hvs d0 d1 d2 d3
              rw [show bitI true = 1 from rfl]
              go_wp2
              clear x4
              go_loopw [12] (fun i wr => ∃ (k n2 : Nat) (A2 : Option Addr) (c2 : Nat), k ≤ nC ∧ n2 ≤ k ∧ i = .int .i64 k ∧ Hid (Bk wr w3.heap.size 78 #[.slice A1 nI c1, .int .i64 P, .slice A2 n2 c2]) ∧
                Hid (Two w3.heap.size 3 w3 (.slice A1 nI c1) nI ((R.ins.map fun l => numB (l.map (valR vv))).map (Value.int .i64)) (.slice A2 n2 c2) n2 (((keepL (valR vv) ((R.cached.zip R.keep).take k)).map bitI).map (Value.int .i64)) wr)) (fun i _ => nC - (intOf i).toNat)
              case atStart => exact ⟨0, 0, none, 0, Nat.zero_le _, Nat.le_refl _, rfl, HBs, HBr.out, Nat.le_of_lt HBs.out.lt, HOa.out, ⟨rfl, .inl ⟨rfl, rfl⟩⟩, fun q _ h => by simp [Value.ownBlock] at h⟩
              case round =>
                obtain ⟨k, n2, A2, c2, hk, hn2, rfl, HBq, HTw⟩ := hrel
                clear HBr HBs HOa HXr hsV HBw
                have HXr := Lib.hid (HX3.out.below HTw.out.bel HX3.out.lt)
                have x6 : wr.cell? ⟨w.heap.size, 6, none⟩ = some (.slice AC nC cC) := HXr.out.cell 6
                have HBw : Hid (Below w.heap.size w wr) := bthen HB3.out HTw.out.bel
                have hsV : w3.heap.size < wr.heap.size := HBq.out.lt
                by_cases hlt : k < nC
                · have hnK : nK = nC := by
                    have h1 := HCC.out.2.1
                    have h2 := HKK.out.2.1
                    have h3 := hR.out.keepn
                    dsimp only at h1 h2
                    omega
                  obtain ⟨b2, o2, y, rfl, hy, hc2⟩ := (HCC.out.1.below HBw.out).getm HCC.out.2.1 hlt
                  obtain ⟨b3, o3, z, rfl, hz, hc3⟩ := (HKK.out.1.below HBw.out).getm HKK.out.2.1 (k := k) (by dsimp only; omega)
                  have HYc := Lib.hid (hR.out.cached y (List.mem_of_getElem? hy))
                  have HZc := Lib.hid (hR.out.keep z (List.mem_of_getElem? hz))
                  have hzip : (R.cached.zip R.keep)[k]? = some (y, z) := by rw [List.getElem?_zip_eq_some]; exact ⟨hy, hz⟩
                  have HZP := Lib.hid hzip
                  have hkK : k < nK := by omega
                  have hki : (k : Int) < (nC : Int) := by omega
                  have HZG := Lib.hid hz
                  clear hy hz hzip hnK
                  go_wp2_with fail
                  refine (HVAL.out _ HTw.out.bel y HYc.out).mono ?_
                  rintro e w' ⟨rfl, rfl⟩
                  cases hvy : valR vv y with
                  | false =>
                    have HVY := Lib.hid hvy
                    clear hvy
                    rw [show bitI false = 0 from rfl]
                    go_wp2
                    go_roundw
                    case rel =>
                      refine ⟨k + 1, n2, A2, c2, by omega, by omega, by go_num, HBq, ?_⟩
                      show Two _ _ _ _ _ _ _ _ _ _
                      rw [take_snoc HZP.out, keepL_snoc, HVY.out]
                      exact HTw.out
                    case measure => simp [intOf]; omega
                  | true =>
                    have HVY := Lib.hid hvy
                    clear hvy
                    rw [show bitI true = 1 from rfl]
                    have x5 : wr.cell? ⟨w.heap.size, 5, none⟩ = some (.slice (some ⟨b3, o3, none⟩) nK cK) := HXr.out.cell 5
                    have q2 : wr.cell? ⟨w3.heap.size, 2, none⟩ = some (.slice A2 n2 c2) := HBq.out.cell 2
                    have HBD := Lib.hid HTw.out.bel.drew
                    obtain ⟨t, ht⟩ : ∃ t, bitI (valR vv z) = t := ⟨_, rfl⟩
                    have HTT := Lib.hid ht
                    clear ht
                    go_wp2_with fail
                    go_region_law
                      (first
                        | (go_simp; go_at_call 66
                           refine (HVAL.out _ HBD.out z HZc.out).mono ?_
                           rintro e w' ⟨rfl, rfl⟩
                           rw [HTT.out])
                        | (refine step_app el_int rfl (.tmp 108) (.tmp 116) rfl w3.heap.size (.slice A2 n2 c2) n2 (((keepL (valR vv) ((R.cached.zip R.keep).take k)).map bitI).map (Value.int .i64)) rfl ?_ (some ⟨_, 0, none⟩) 1 1 [.int .i64 t] rfl ?_ rfl (by simp [Value.oneCell']) (by omega) ?_ ?_
                           · (first | exact (HTw.out.drew.alloc _).o2 | exact HTw.out.drew.o2)
                           · (first | exact Rd.newAt _ #[_] _ _ rfl)
                           · (simp; omega)
                           intro A3 c3 w4 ho4 hg4 hat4
                           have HT4 := Lib.hid (Two.app2 (HTw.out.alloc _).drew ho4 hg4 hat4)
                           have HB4 := Lib.hid (Bk.grown (HBq.out.alloc _).drew hg4 (own_ne HTw.out.o2 HBq.out (by decide)))
                           have q4 : w4.cell? ⟨w3.heap.size, 2, none⟩ = some (.slice A2 n2 c2) := HB4.out.cell 2
                           have f4 : w4.frozen? ⟨w3.heap.size, 2, none⟩ = false := HB4.out.frozen 2
                           have x44 : w4.cell? ⟨w.heap.size, 5, none⟩ = some (.slice (some ⟨b3, o3, none⟩) nK cK) := (HX3.out.below HT4.out.bel HX3.out.lt).cell 5
                           have hc4 : w4.cell? ⟨b3, o3 + k, none⟩ = some (.int .i64 z) := (HKK.out.1.below (bthen HB3.out HT4.out.bel)).get HZG.out
                           clear ho4 hg4 hat4))
                    all_goals
                      clear q2 x5 x6 hc2 hc3 hc4 x44
                      go_wp2
                      go_roundw
                      case rel =>
                        refine ⟨k + 1, n2 + 1, A3, c3, by omega, by omega, by go_num, HB4.out.put 2 _, ?_⟩
                        have h := HT4.out.setCell (g := w3.heap.size) (i := 2) (Nat.le_refl _) (own_ne HT4.out.o1 HB4.out (by decide)) (own_ne HT4.out.o2 HB4.out (by decide)) (.slice A3 (n2 + 1) c3)
                        show Two _ _ _ _ _ _ _ _ _ _
                        rw [take_snoc HZP.out, keepL_snoc, HVY.out, if_pos rfl, List.map_append, List.map_append, List.map_singleton, List.map_singleton, HTT.out]
                        exact h
                      case measure => simp [intOf]; omega
                · obtain rfl : nC = k := by omega
                  have hfull : (R.cached.zip R.keep).take nC = R.cached.zip R.keep := List.take_of_length_le (by
                    have h1 := HCC.out.2.1
                    dsimp only at h1
                    rw [List.length_zip]
                    omega)
                  have htw := HTw.out
                  rw [hfull] at htw
                  have HTW := Lib.hid htw
                  clear htw hfull HTw hlt
                  have HYr := Lib.hid (HY3.out.below HTW.out.bel hs3)
                  have s0 : wr.cell? ⟨w3.heap.size, 0, none⟩ = some (.slice A1 nI c1) := HBq.out.cell 0
                  have s1 : wr.cell? ⟨w3.heap.size, 1, none⟩ = some (.int .i64 P) := HBq.out.cell 1
                  have s2 : wr.cell? ⟨w3.heap.size, 2, none⟩ = some (.slice A2 n2 c2) := HBq.out.cell 2
                  have y0 : wr.cell? ⟨w.heap.size + 1, 0, none⟩ = some (.slice none 0 0) := HYr.out.cell 0
                  have y1 : wr.cell? ⟨w.heap.size + 1, 1, none⟩ = some (.int .i64 0) := HYr.out.cell 1
                  have y2 : wr.cell? ⟨w.heap.size + 1, 2, none⟩ = some (.slice none 0 0) := HYr.out.cell 2
                  have z0 := HYr.out.frozen 0
                  have z1 := HYr.out.frozen 1
                  have z2 := HYr.out.frozen 2
                  go_wp2
                  have HF := Lib.hid (((HYr.out.put 0 (.slice A1 nI c1)).put 1 (.int .i64 P)).put 2 (.slice A2 n2 c2))
                  have HFB := Lib.hid ((((Below.refl (w.heap.size + 1) wr).setCell (p := ⟨w.heap.size + 1, 0, none⟩) (Nat.le_refl _) (.slice A1 nI c1)).setCell (p := ⟨w.heap.size + 1, 1, none⟩) (Nat.le_refl _) (.int .i64 P)).setCell (p := ⟨w.heap.size + 1, 2, none⟩) (Nat.le_refl _) (.slice A2 n2 c2))
                  clear y0 y1 y2 z0 z1 z2
                  have HOA' : Hid (RdT (((wr.setCell ⟨w.heap.size + 1, 0, none⟩ (.slice A1 nI c1)).setCell ⟨w.heap.size + 1, 1, none⟩ (.int .i64 P)).setCell ⟨w.heap.size + 1, 2, none⟩ (.slice A2 n2 c2)) A1 3 ((R.ins.map fun l => numB (l.map (valR vv))).map (Value.int .i64))) := RdT.of_own (ownsRow_setCell_below (ownsRow_setCell_below (ownsRow_setCell_below HTW.out.o1 (a := ⟨w.heap.size + 1, 0, none⟩) hs3 _) (a := ⟨w.heap.size + 1, 1, none⟩) hs3 _) (a := ⟨w.heap.size + 1, 2, none⟩) hs3 _)
                  have HOB' : Hid (RdT (((wr.setCell ⟨w.heap.size + 1, 0, none⟩ (.slice A1 nI c1)).setCell ⟨w.heap.size + 1, 1, none⟩ (.int .i64 P)).setCell ⟨w.heap.size + 1, 2, none⟩ (.slice A2 n2 c2)) A2 3 (((keepL (valR vv) (R.cached.zip R.keep)).map bitI).map (Value.int .i64))) := RdT.of_own (ownsRow_setCell_below (ownsRow_setCell_below (ownsRow_setCell_below HTW.out.o2 (a := ⟨w.heap.size + 1, 0, none⟩) hs3 _) (a := ⟨w.heap.size + 1, 1, none⟩) hs3 _) (a := ⟨w.heap.size + 1, 2, none⟩) hs3 _)
                  clear s0 s1 s2
                  generalize (((wr.setCell ⟨w.heap.size + 1, 0, none⟩ (.slice A1 nI c1)).setCell ⟨w.heap.size + 1, 1, none⟩ (.int .i64 P)).setCell ⟨w.heap.size + 1, 2, none⟩ (.slice A2 n2 c2)) = WF at *
                  have r0 : WF.cell? ⟨w.heap.size + 1, 0, none⟩ = some (.slice A1 nI c1) := HF.out.cell 0
                  have r1 : WF.cell? ⟨w.heap.size + 1, 1, none⟩ = some (.int .i64 P) := HF.out.cell 1
                  have r2 : WF.cell? ⟨w.heap.size + 1, 2, none⟩ = some (.slice A2 n2 c2) := HF.out.cell 2
                  refine bodyPost_ret (v := .tuple #[.agg #[.slice A1 nI c1, .int .i64 P, .slice A2 n2 c2], .int .i64 0]) (by simp [results, Try.results24, go_sem, r0, r1, r2]) rfl ?_
                  have herr0 : err = 0 := by rw [herr.out, if_pos (HE.out.trans HM1.out.symm)]
                  have hsch : qsched R inp = ⟨R.ins.map fun l => numB (l.map (valR vv)), P, keepL (valR vv) (R.cached.zip R.keep)⟩ := by rw [qsched, if_pos (hl.out.trans (HE.out.trans HM1.out.symm)), HVV.out, schedV, HPF.out]
                  have hk1 := HTW.out.o2.1
                  rw [herr0, hsch]
                  refine ⟨⟨A1, nI, c1⟩, ⟨A2, n2, c2⟩, rfl, HOA'.out, ?_, HOB'.out, ?_, by dsimp only; omega, by dsimp only; omega, HBw.out.trans (HFB.out.mono (Nat.le_succ _))⟩
                  · dsimp only; rw [List.length_map, ← HIL.out.len, HIL.out.sn]
                  · dsimp only; simpa using hk1
            | false =>
              rw [show bitI false = 0 from rfl]
              have hPf := HPn.out
              rw [hvs, if_neg (by simp)] at hPf
              have hb01 := bitI_01 (valR vv dn)
              have hbt : ((if valR vv dn then 1 else 0 : Nat) : Int) = bitI (valR vv dn) := by cases valR vv dn <;> rfl
              obtain ⟨t, ht⟩ : ∃ t, bitI (valR vv dn) = t := ⟨_, rfl⟩
              rw [ht] at hb01 hbt
              have hPf2 : (pointN (valR vv) R.ops : Int) = (P + t) + (pointN (valR vv) (R.ops.drop (k + 1)) : Int) := by omega
              have HPf := Lib.hid hPf2; have HTT := Lib.hid ht
              obtain ⟨ht0, ht1⟩ := hb01
              clear hPf HPn hvs ht hbt hPf2
              have HBD := Lib.hid HBr.out.drew
              have q1 : wr.cell? ⟨w3.heap.size, 1, none⟩ = some (.int .i64 P) := HBs.out.cell 1
              have f1 : wr.frozen? ⟨w3.heap.size, 1, none⟩ = false := HBs.out.frozen 1
              go_wp2_with fail
              go_region_law
                (go_simp; go_at_call 66
                 refine (HVAL.out _ HBD.out dn HD.out).mono ?_
                 rintro e w' ⟨rfl, rfl⟩
                 rw [HTT.out])
              all_goals
                go_wp2
                go_roundw
                case rel =>
                  refine ⟨k + 1, P + t, by omega, by omega, by omega, by go_num, HBD.out.setCell (p := ⟨w3.heap.size, 1, none⟩) (Nat.le_refl _) _, HBs.out.drew.put 1 _, ?_, HPf⟩
                  exact ownsRow_setCell_other (own_drew HOa.out) (a := ⟨w3.heap.size, 1, none⟩) (fun e => own_ne HOa.out HBs.out (by decide) e.symm) _
                case measure => simp [intOf]; omega
          · obtain rfl : nO = k := by omega
            have HPF : Hid ((pointN (valR vv) R.ops : Int) = P) := by
              have := HPN.out
              rw [List.drop_eq_nil_of_le (by rw [hlO.out]; exact Nat.le_refl _)] at this
              show _ = _
              rw [this]
              simp [pointN]
            clear HPN hlt
            go_wp2
            clear x4
            go_loopw [12] (fun i wr => ∃ (k n2 : Nat) (A2 : Option Addr) (c2 : Nat), k ≤ nC ∧ n2 ≤ k ∧ i = .int .i64 k ∧ Hid (Bk wr w3.heap.size 78 #[.slice A1 nI c1, .int .i64 P, .slice A2 n2 c2]) ∧
              Hid (Two w3.heap.size 3 w3 (.slice A1 nI c1) nI ((R.ins.map fun l => numB (l.map (valR vv))).map (Value.int .i64)) (.slice A2 n2 c2) n2 (((keepL (valR vv) ((R.cached.zip R.keep).take k)).map bitI).map (Value.int .i64)) wr)) (fun i _ => nC - (intOf i).toNat)
            case atStart => exact ⟨0, 0, none, 0, Nat.zero_le _, Nat.le_refl _, rfl, HBs, HBr.out, Nat.le_of_lt HBs.out.lt, HOa.out, ⟨rfl, .inl ⟨rfl, rfl⟩⟩, fun q _ h => by simp [Value.ownBlock] at h⟩
            case round =>
              obtain ⟨k, n2, A2, c2, hk, hn2, rfl, HBq, HTw⟩ := hrel
              clear HBr HBs HOa HXr hsV HBw
              have HXr := Lib.hid (HX3.out.below HTw.out.bel HX3.out.lt)
              have x6 : wr.cell? ⟨w.heap.size, 6, none⟩ = some (.slice AC nC cC) := HXr.out.cell 6
              have HBw : Hid (Below w.heap.size w wr) := bthen HB3.out HTw.out.bel
              have hsV : w3.heap.size < wr.heap.size := HBq.out.lt
              by_cases hlt : k < nC
              · have hnK : nK = nC := by
                  have h1 := HCC.out.2.1
                  have h2 := HKK.out.2.1
                  have h3 := hR.out.keepn
                  dsimp only at h1 h2
                  omega
                obtain ⟨b2, o2, y, rfl, hy, hc2⟩ := (HCC.out.1.below HBw.out).getm HCC.out.2.1 hlt
                obtain ⟨b3, o3, z, rfl, hz, hc3⟩ := (HKK.out.1.below HBw.out).getm HKK.out.2.1 (k := k) (by dsimp only; omega)
                have HYc := Lib.hid (hR.out.cached y (List.mem_of_getElem? hy))
                have HZc := Lib.hid (hR.out.keep z (List.mem_of_getElem? hz))
                have hzip : (R.cached.zip R.keep)[k]? = some (y, z) := by rw [List.getElem?_zip_eq_some]; exact ⟨hy, hz⟩
                have HZP := Lib.hid hzip
                have hkK : k < nK := by omega
                have hki : (k : Int) < (nC : Int) := by omega
                have HZG := Lib.hid hz
                clear hy hz hzip hnK
                go_wp2_with fail
                refine (HVAL.out _ HTw.out.bel y HYc.out).mono ?_
                rintro e w' ⟨rfl, rfl⟩
                cases hvy : valR vv y with
                | false =>
                  have HVY := Lib.hid hvy
                  clear hvy
                  rw [show bitI false = 0 from rfl]
                  go_wp2
                  go_roundw
                  case rel =>
                    refine ⟨k + 1, n2, A2, c2, by omega, by omega, by go_num, HBq, ?_⟩
                    show Two _ _ _ _ _ _ _ _ _ _
                    rw [take_snoc HZP.out, keepL_snoc, HVY.out]
                    exact HTw.out
                  case measure => simp [intOf]; omega
                | true =>
                  have HVY := Lib.hid hvy
                  clear hvy
                  rw [show bitI true = 1 from rfl]
                  have x5 : wr.cell? ⟨w.heap.size, 5, none⟩ = some (.slice (some ⟨b3, o3, none⟩) nK cK) := HXr.out.cell 5
                  have q2 : wr.cell? ⟨w3.heap.size, 2, none⟩ = some (.slice A2 n2 c2) := HBq.out.cell 2
                  have HBD := Lib.hid HTw.out.bel.drew
                  obtain ⟨t, ht⟩ : ∃ t, bitI (valR vv z) = t := ⟨_, rfl⟩
                  have HTT := Lib.hid ht
                  clear ht
                  go_wp2_with fail
                  go_region_law
                    (first
                      | (go_simp; go_at_call 66
                         refine (HVAL.out _ HBD.out z HZc.out).mono ?_
                         rintro e w' ⟨rfl, rfl⟩
                         rw [HTT.out])
                      | (refine step_app el_int rfl (.tmp 108) (.tmp 116) rfl w3.heap.size (.slice A2 n2 c2) n2 (((keepL (valR vv) ((R.cached.zip R.keep).take k)).map bitI).map (Value.int .i64)) rfl ?_ (some ⟨_, 0, none⟩) 1 1 [.int .i64 t] rfl ?_ rfl (by simp [Value.oneCell']) (by omega) ?_ ?_
                         · (first | exact (HTw.out.drew.alloc _).o2 | exact HTw.out.drew.o2)
                         · (first | exact Rd.newAt _ #[_] _ _ rfl)
                         · (simp; omega)
                         intro A3 c3 w4 ho4 hg4 hat4
                         have HT4 := Lib.hid (Two.app2 (HTw.out.alloc _).drew ho4 hg4 hat4)
                         have HB4 := Lib.hid (Bk.grown (HBq.out.alloc _).drew hg4 (own_ne HTw.out.o2 HBq.out (by decide)))
                         have q4 : w4.cell? ⟨w3.heap.size, 2, none⟩ = some (.slice A2 n2 c2) := HB4.out.cell 2
                         have f4 : w4.frozen? ⟨w3.heap.size, 2, none⟩ = false := HB4.out.frozen 2
                         have x44 : w4.cell? ⟨w.heap.size, 5, none⟩ = some (.slice (some ⟨b3, o3, none⟩) nK cK) := (HX3.out.below HT4.out.bel HX3.out.lt).cell 5
                         have hc4 : w4.cell? ⟨b3, o3 + k, none⟩ = some (.int .i64 z) := (HKK.out.1.below (bthen HB3.out HT4.out.bel)).get HZG.out
                         clear ho4 hg4 hat4))
                  all_goals
                    clear q2 x5 x6 hc2 hc3 hc4 x44
                    go_wp2
                    go_roundw
                    case rel =>
                      refine ⟨k + 1, n2 + 1, A3, c3, by omega, by omega, by go_num, HB4.out.put 2 _, ?_⟩
                      have h := HT4.out.setCell (g := w3.heap.size) (i := 2) (Nat.le_refl _) (own_ne HT4.out.o1 HB4.out (by decide)) (own_ne HT4.out.o2 HB4.out (by decide)) (.slice A3 (n2 + 1) c3)
                      show Two _ _ _ _ _ _ _ _ _ _
                      rw [take_snoc HZP.out, keepL_snoc, HVY.out, if_pos rfl, List.map_append, List.map_append, List.map_singleton, List.map_singleton, HTT.out]
                      exact h
                    case measure => simp [intOf]; omega
              · obtain rfl : nC = k := by omega
                have hfull : (R.cached.zip R.keep).take nC = R.cached.zip R.keep := List.take_of_length_le (by
                  have h1 := HCC.out.2.1
                  dsimp only at h1
                  rw [List.length_zip]
                  omega)
                have htw := HTw.out
                rw [hfull] at htw
                have HTW := Lib.hid htw
                clear htw hfull HTw hlt
                have HYr := Lib.hid (HY3.out.below HTW.out.bel hs3)
                have s0 : wr.cell? ⟨w3.heap.size, 0, none⟩ = some (.slice A1 nI c1) := HBq.out.cell 0
                have s1 : wr.cell? ⟨w3.heap.size, 1, none⟩ = some (.int .i64 P) := HBq.out.cell 1
                have s2 : wr.cell? ⟨w3.heap.size, 2, none⟩ = some (.slice A2 n2 c2) := HBq.out.cell 2
                have y0 : wr.cell? ⟨w.heap.size + 1, 0, none⟩ = some (.slice none 0 0) := HYr.out.cell 0
                have y1 : wr.cell? ⟨w.heap.size + 1, 1, none⟩ = some (.int .i64 0) := HYr.out.cell 1
                have y2 : wr.cell? ⟨w.heap.size + 1, 2, none⟩ = some (.slice none 0 0) := HYr.out.cell 2
                have z0 := HYr.out.frozen 0
                have z1 := HYr.out.frozen 1
                have z2 := HYr.out.frozen 2
                go_wp2
                have HF := Lib.hid (((HYr.out.put 0 (.slice A1 nI c1)).put 1 (.int .i64 P)).put 2 (.slice A2 n2 c2))
                have HFB := Lib.hid ((((Below.refl (w.heap.size + 1) wr).setCell (p := ⟨w.heap.size + 1, 0, none⟩) (Nat.le_refl _) (.slice A1 nI c1)).setCell (p := ⟨w.heap.size + 1, 1, none⟩) (Nat.le_refl _) (.int .i64 P)).setCell (p := ⟨w.heap.size + 1, 2, none⟩) (Nat.le_refl _) (.slice A2 n2 c2))
                clear y0 y1 y2 z0 z1 z2
                have HOA' : Hid (RdT (((wr.setCell ⟨w.heap.size + 1, 0, none⟩ (.slice A1 nI c1)).setCell ⟨w.heap.size + 1, 1, none⟩ (.int .i64 P)).setCell ⟨w.heap.size + 1, 2, none⟩ (.slice A2 n2 c2)) A1 3 ((R.ins.map fun l => numB (l.map (valR vv))).map (Value.int .i64))) := RdT.of_own (ownsRow_setCell_below (ownsRow_setCell_below (ownsRow_setCell_below HTW.out.o1 (a := ⟨w.heap.size + 1, 0, none⟩) hs3 _) (a := ⟨w.heap.size + 1, 1, none⟩) hs3 _) (a := ⟨w.heap.size + 1, 2, none⟩) hs3 _)
                have HOB' : Hid (RdT (((wr.setCell ⟨w.heap.size + 1, 0, none⟩ (.slice A1 nI c1)).setCell ⟨w.heap.size + 1, 1, none⟩ (.int .i64 P)).setCell ⟨w.heap.size + 1, 2, none⟩ (.slice A2 n2 c2)) A2 3 (((keepL (valR vv) (R.cached.zip R.keep)).map bitI).map (Value.int .i64))) := RdT.of_own (ownsRow_setCell_below (ownsRow_setCell_below (ownsRow_setCell_below HTW.out.o2 (a := ⟨w.heap.size + 1, 0, none⟩) hs3 _) (a := ⟨w.heap.size + 1, 1, none⟩) hs3 _) (a := ⟨w.heap.size + 1, 2, none⟩) hs3 _)
                clear s0 s1 s2
                generalize (((wr.setCell ⟨w.heap.size + 1, 0, none⟩ (.slice A1 nI c1)).setCell ⟨w.heap.size + 1, 1, none⟩ (.int .i64 P)).setCell ⟨w.heap.size + 1, 2, none⟩ (.slice A2 n2 c2)) = WF at *
                have r0 : WF.cell? ⟨w.heap.size + 1, 0, none⟩ = some (.slice A1 nI c1) := HF.out.cell 0
                have r1 : WF.cell? ⟨w.heap.size + 1, 1, none⟩ = some (.int .i64 P) := HF.out.cell 1
                have r2 : WF.cell? ⟨w.heap.size + 1, 2, none⟩ = some (.slice A2 n2 c2) := HF.out.cell 2
                refine bodyPost_ret (v := .tuple #[.agg #[.slice A1 nI c1, .int .i64 P, .slice A2 n2 c2], .int .i64 0]) (by simp [results, Try.results24, go_sem, r0, r1, r2]) rfl ?_
                have herr0 : err = 0 := by rw [herr.out, if_pos (HE.out.trans HM1.out.symm)]
                have hsch : qsched R inp = ⟨R.ins.map fun l => numB (l.map (valR vv)), P, keepL (valR vv) (R.cached.zip R.keep)⟩ := by rw [qsched, if_pos (hl.out.trans (HE.out.trans HM1.out.symm)), HVV.out, schedV, HPF.out]
                have hk1 := HTW.out.o2.1
                rw [herr0, hsch]
                refine ⟨⟨A1, nI, c1⟩, ⟨A2, n2, c2⟩, rfl, HOA'.out, ?_, HOB'.out, ?_, by dsimp only; omega, by dsimp only; omega, HBw.out.trans (HFB.out.mono (Nat.le_succ _))⟩
                · dsimp only; rw [List.length_map, ← HIL.out.len, HIL.out.sn]
                · dsimp only; simpa using hk1
  · have hne : ((m : Int) == (m1 : Int)) = false := by
      simp only [beq_eq_false_iff_ne, ne_eq]
      omega
    have herr0 : err = 421 := by
      rw [herr.out, if_neg]
      have := HM1.out
      omega
    have hsch : qsched R inp = ⟨[], 0, []⟩ := by
      rw [qsched, if_neg]
      have := HM1.out
      have := hl.out
      omega
    have HER := Lib.hid herr0; have HSC := Lib.hid hsch
    clear hin herr0 hsch
    have y0 : w1.cell? ⟨w.heap.size + 1, 0, none⟩ = some (.slice none 0 0) := HY1.out.cell 0
    have y1 : w1.cell? ⟨w.heap.size + 1, 1, none⟩ = some (.int .i64 0) := HY1.out.cell 1
    have y2 : w1.cell? ⟨w.heap.size + 1, 2, none⟩ = some (.slice none 0 0) := HY1.out.cell 2
    have z0 := HY1.out.frozen 0
    have z1 := HY1.out.frozen 1
    have z2 := HY1.out.frozen 2
    go_wp2
    have HF := Lib.hid (((HY1.out.put 0 (.slice none 0 0)).put 1 (.int .i64 0)).put 2 (.slice none 0 0))
    have HFB := Lib.hid ((((Below.refl (w.heap.size + 1) w1).setCell (p := ⟨w.heap.size + 1, 0, none⟩) (Nat.le_refl _) (.slice none 0 0)).setCell (p := ⟨w.heap.size + 1, 1, none⟩) (Nat.le_refl _) (.int .i64 0)).setCell (p := ⟨w.heap.size + 1, 2, none⟩) (Nat.le_refl _) (.slice none 0 0))
    clear y0 y1 y2 z0 z1 z2
    generalize (((w1.setCell ⟨w.heap.size + 1, 0, none⟩ (.slice none 0 0)).setCell ⟨w.heap.size + 1, 1, none⟩ (.int .i64 0)).setCell ⟨w.heap.size + 1, 2, none⟩ (.slice none 0 0)) = WF at *
    have r0 : WF.cell? ⟨w.heap.size + 1, 0, none⟩ = some (.slice none 0 0) := HF.out.cell 0
    have r1 : WF.cell? ⟨w.heap.size + 1, 1, none⟩ = some (.int .i64 0) := HF.out.cell 1
    have r2 : WF.cell? ⟨w.heap.size + 1, 2, none⟩ = some (.slice none 0 0) := HF.out.cell 2
    refine bodyPost_ret (v := .tuple #[.agg #[.slice none 0 0, .int .i64 0, .slice none 0 0], .int .i64 421]) (by simp [results, Try.results24, go_sem, r0, r1, r2]) rfl ?_
    rw [HER.out, HSC.out]
    exact ⟨⟨none, 0, 0⟩, ⟨none, 0, 0⟩, rfl, RdT.nil, rfl, RdT.nil, rfl, Nat.zero_le _, Nat.zero_le _, HB1.out.trans (HFB.out.mono (Nat.le_succ _))⟩
end Go.Proofs.Ytamoniljgifggaa
