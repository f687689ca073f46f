/-
  A result of the reference in memory; contracts of the reference's Tells and Valid.
-/
import Derived.Test.YtamoniljgifggaaRefV
set_option linter.unusedVariables false
set_option linter.unusedSimpArgs false
namespace Go.Proofs.Ytamoniljgifggaa
open Go.RowKit

def qcell (x : OpR) : List Value := [.int .i64 x.kind, .int .i64 x.done, .int .i64 x.sel, .int .i64 x.write]
def qcells (L : List OpR) : List Value := L.flatMap qcell
theorem qcells_length (L : List OpR) : (qcells L).length = L.length * 4 := by
  induction L with
  | nil => rfl
  | cons x D ih => simp only [qcells, List.flatMap_cons, List.length_append] at ih ⊢; rw [ih]; simp [qcell]; omega
theorem qcells_at (L : List OpR) (i : Nat) (x : OpR) (h : L[i]? = some x) :
    (qcells L)[i * 4]? = some (.int .i64 x.kind) ∧ (qcells L)[i * 4 + 1]? = some (.int .i64 x.done) ∧ (qcells L)[i * 4 + 2]? = some (.int .i64 x.sel) ∧ (qcells L)[i * 4 + 3]? = some (.int .i64 x.write) := by
  induction L generalizing i with
  | nil => simp at h
  | cons y D ih =>
    have hc : qcells (y :: D) = qcell y ++ qcells D := rfl
    cases i with
    | zero => simp at h; subst h; simp [hc, qcell]
    | succ i =>
      simp at h
      obtain ⟨h1, h2, h3, h4⟩ := ih i h
      have hl : (qcell y).length = 4 := rfl
      refine ⟨?_, ?_, ?_, ?_⟩
      · rw [hc, List.getElem?_append_right (by rw [hl]; omega), hl]; rw [← h1]; congr 1; omega
      · rw [hc, List.getElem?_append_right (by rw [hl]; omega), hl]; rw [← h2]; congr 1; omega
      · rw [hc, List.getElem?_append_right (by rw [hl]; omega), hl]; rw [← h3]; congr 1; omega
      · rw [hc, List.getElem?_append_right (by rw [hl]; omega), hl]; rw [← h4]; congr 1; omega
theorem Rd.qop {w : World} {A : Option Addr} {L : List OpR} {n i : Nat} (h : Rd w A (qcells L)) (hl : L.length = n) (hi : i < n) :
    ∃ b off x, A = some ⟨b, off, none⟩ ∧ L[i]? = some x ∧ b < w.heap.size ∧ w.cell? ⟨b, off + i * 4, none⟩ = some (.int .i64 x.kind) ∧ w.cell? ⟨b, off + i * 4 + 1, none⟩ = some (.int .i64 x.done) ∧ w.cell? ⟨b, off + i * 4 + 2, none⟩ = some (.int .i64 x.sel) ∧ w.cell? ⟨b, off + i * 4 + 3, none⟩ = some (.int .i64 x.write) := by
  have hne : qcells L ≠ [] := by
    intro e
    have := qcells_length L
    rw [e] at this
    simp at this
    omega
  obtain ⟨b, off, rfl, hb, hc⟩ := h.cells hne
  have hx : L[i]? = some (L[i]'(by omega)) := List.getElem?_eq_getElem _
  obtain ⟨h1, h2, h3, h4⟩ := qcells_at L i _ hx
  exact ⟨b, off, _, rfl, hx, hb, hc _ _ h1, hc _ _ h2, hc _ _ h3, hc _ _ h4⟩

/-- Where a result of the reference lies. -/
structure QV where
  N : SV
  I : SV
  S : List SV
  O : SV
  K : SV
  C : SV
  R : SV

/-- The result R of the reference lies at y. -/
structure RefAt (w : World) (y : QV) (R : Res) : Prop where
  nodes : Rd w y.N.A (rcells R.G)
  noden : R.G.length = y.N.n
  gok : GOk R.G
  glen : 0 < R.G.length ∧ R.G.length ≤ 65536
  ins : ListsAt w y.I.A y.I.n y.S R.ins
  ops : Rd w y.O.A (qcells R.ops)
  opsn : R.ops.length = y.O.n
  opsw : ∀ o ∈ R.ops, I64 o.done ∧ I64 o.sel ∧ I64 o.write ∧ 0 ≤ o.kind ∧ o.kind ≤ 255
  keep : IntsAt w y.K R.keep
  cached : IntsAt w y.C R.cached
  rules : IntsAt w y.R R.rules
  nums : I64 R.req ∧ I64 R.bey ∧ I64 R.hol
  small : y.I.n ≤ 100000 ∧ y.O.n ≤ 100000 ∧ y.K.n ≤ 100000 ∧ y.C.n ≤ 100000 ∧ y.R.n ≤ 100000
theorem RefAt.below {w w' : World} {y : QV} {R : Res} (h : RefAt w y R) (hb : Below w.heap.size w w') : RefAt w' y R :=
  ⟨h.nodes.below hb, h.noden, h.gok, h.glen, h.ins.below hb, h.ops.below hb, h.opsn, h.opsw, h.keep.below hb, h.cached.below hb, h.rules.below hb, h.nums, h.small⟩

theorem refOk_iff {G : List Nd} {r : Int} (h : refOk G r = true) : 0 ≤ r ∧ r < 2 * (G.length : Int) := of_decide_eq_true h

set_option maxHeartbeats 1000000 in
set_option maxRecDepth 100000 in
theorem refTells (M : Int) (y : QV) (R : Res) (A : Option Addr) (m c : Nat) (inp : List Bool) (w : World) (h : Hid (RefAt w y R)) (hR : Hid (Rts R)) (hr : Hid (Rd w A ((inp.map bitI).map (Value.int .i64)))) (hl : Hid (inp.length = m)) (hm : Hid (m = (inputsOf R.G).length)) (hm' : m ≤ 1000000) :
    Calls Try.prog 26 #[.agg #[.int .i64 M, .slice y.N.A y.N.n y.N.c, .slice y.I.A y.I.n y.I.c, .int .i64 R.req, .slice y.O.A y.O.n y.O.c, .slice y.K.A y.K.n y.K.c, .slice y.C.A y.C.n y.C.c, .slice y.R.A y.R.n y.R.c, .int .i64 R.bey, .int .i64 R.hol], .slice A m c] w fun e w' => e = .returned (.tuple #[.int .i64 (bitI (valR (evalG R.G inp) R.bey)), .int .i64 (bitI (valR (evalG R.G inp) R.hol))]) ∧ Below w.heap.size w w' := by
  have HV := Lib.hid (fun (w' : World) (hb : Below w.heap.size w w') => rvalues M y.N.A A y.N.n y.N.c m c R.G inp w' h.out.gok (h.out.nodes.below hb) h.out.noden (by have := h.out.glen; have := h.out.noden; omega) (hr.out.below hb) hl hm hm')
  have hgl := h.out.glen
  have HNN : Hid (R.G.length = y.N.n) := h.out.noden
  have hNn : y.N.n ≤ 65536 := by rw [← HNN.out]; exact hgl.2
  have HB1 := Lib.hid (refOk_iff hR.out.bey); have HB2 := Lib.hid (refOk_iff hR.out.hol)
  clear h hR hr
  obtain ⟨⟨AN, nN, cN⟩, ⟨AI, nI, cI⟩, S, ⟨AO, nO, cO⟩, ⟨AK, nK, cK⟩, ⟨AC, nC, cC⟩, ⟨AR, nR, cR⟩⟩ := y
  dsimp only at hNn
  have hb0 : Below w.heap.size w (w.alloc (.cells #[.int .i64 M, .slice AN nN cN, .slice AI nI cI, .int .i64 R.req, .slice AO nO cO, .slice AK nK cK, .slice AC nC cC, .slice AR nR cR, .int .i64 R.bey, .int .i64 R.hol] 70)) := (Below.refl _ w).alloc (Nat.le_refl _) _
  have hx0 := Bk.new w 70 #[.int .i64 M, .slice AN nN cN, .slice AI nI cI, .int .i64 R.req, .slice AO nO cO, .slice AK nK cK, .slice AC nC cC, .slice AR nR cR, .int .i64 R.bey, .int .i64 R.hol]
  have HB0 := Lib.hid hb0; have HX0 := Lib.hid hx0
  clear hb0 hx0
  dsimp only
  go_enter Try.func26, Try.ntmps26
  go_wp2_with fail
  generalize (w.alloc (.cells #[.int .i64 M, .slice AN nN cN, .slice AI nI cI, .int .i64 R.req, .slice AO nO cO, .slice AK nK cK, .slice AC nC cC, .slice AR nR cR, .int .i64 R.bey, .int .i64 R.hol] 70)) = W0 at *
  refine (HV.out W0 HB0.out).mono ?_
  rintro e w1 ⟨A', c', rfl, ho, hb1⟩
  have HB : Hid (Below w.heap.size w w1) := bthen HB0.out hb1
  have HX1 := Lib.hid (HX0.out.below hb1 HX0.out.lt)
  have x7 : w1.cell? ⟨w.heap.size, 8, none⟩ = some (.int .i64 R.bey) := HX1.out.cell 8
  have x8 : w1.cell? ⟨w.heap.size, 9, none⟩ = some (.int .i64 R.hol) := HX1.out.cell 9
  have hn : R.G.length = nN := HNN.out
  have hc1 := rvalueQ A' nN c' (evalG R.G inp) R.bey w1 (Rd.of_own ho) (by rw [evalG_len]; exact hn) (by omega) HB1.out.1 (by rw [← hn]; exact HB1.out.2)
  have hc2 := rvalueQ A' nN c' (evalG R.G inp) R.hol w1 (Rd.of_own ho) (by rw [evalG_len]; exact hn) (by omega) HB2.out.1 (by rw [← hn]; exact HB2.out.2)
  obtain ⟨t1, ht1⟩ : ∃ t, bitI (valR (evalG R.G inp) R.bey) = t := ⟨_, rfl⟩
  obtain ⟨t2, ht2⟩ : ∃ t, bitI (valR (evalG R.G inp) R.hol) = t := ⟨_, rfl⟩
  rw [ht1] at hc1
  rw [ht2] at hc2
  have HC1 := Lib.hid hc1; have HC2 := Lib.hid hc2; have HT1 := Lib.hid ht1; have HT2 := Lib.hid ht2
  clear hc1 hc2 ht1 ht2 hn ho hb1 HV
  go_wp2
  go_quiet ((go_at_call 66; first | with_reducible exact Calls.quiet_of_same (HC1.out _) | with_reducible exact Calls.quiet_of_same (HC2.out _)))
  go_wp2
  go_ret2
  refine ⟨?_, bdrewN HB.out _⟩
  rw [HT1.out, HT2.out]
  rfl

set_option maxHeartbeats 1000000 in
set_option maxRecDepth 100000 in
theorem refValid (M : Int) (y : QV) (R : Res) (A : Option Addr) (m c : Nat) (inp : List Bool) (w : World) (h : Hid (RefAt w y R)) (hR : Hid (Rts R)) (hr : Hid (Rd w A ((inp.map bitI).map (Value.int .i64)))) (hl : Hid (inp.length = m)) (hm : Hid (m = (inputsOf R.G).length)) (hm' : m ≤ 1000000) :
    Calls Try.prog 27 #[.agg #[.int .i64 M, .slice y.N.A y.N.n y.N.c, .slice y.I.A y.I.n y.I.c, .int .i64 R.req, .slice y.O.A y.O.n y.O.c, .slice y.K.A y.K.n y.K.c, .slice y.C.A y.C.n y.C.c, .slice y.R.A y.R.n y.R.c, .int .i64 R.bey, .int .i64 R.hol], .slice A m c] w fun e w' => e = .returned (.int .i64 (bitI (validR R inp))) ∧ Below w.heap.size w w' := by
  have HV := Lib.hid (fun (w' : World) (hb : Below w.heap.size w w') => rvalues M y.N.A A y.N.n y.N.c m c R.G inp w' h.out.gok (h.out.nodes.below hb) h.out.noden (by have := h.out.glen; have := h.out.noden; omega) (hr.out.below hb) hl hm hm')
  have hgl := h.out.glen
  have HNN : Hid (R.G.length = y.N.n) := h.out.noden
  have hNn : y.N.n ≤ 65536 := by rw [← HNN.out]; exact hgl.2
  have HB1 := Lib.hid (refOk_iff hR.out.req)
  have HRR := Lib.hid (fun r hr => refOk_iff (hR.out.rules r hr))
  have HRU : Hid (IntsAt w y.R R.rules) := h.out.rules
  have hsR := h.out.small.2.2.2.2
  clear h hR hr
  obtain ⟨⟨AN, nN, cN⟩, ⟨AI, nI, cI⟩, S, ⟨AO, nO, cO⟩, ⟨AK, nK, cK⟩, ⟨AC, nC, cC⟩, ⟨AR, nR, cR⟩⟩ := y
  dsimp only at hNn hsR
  have hb0 : Below w.heap.size w (w.alloc (.cells #[.int .i64 M, .slice AN nN cN, .slice AI nI cI, .int .i64 R.req, .slice AO nO cO, .slice AK nK cK, .slice AC nC cC, .slice AR nR cR, .int .i64 R.bey, .int .i64 R.hol] 70)) := (Below.refl _ w).alloc (Nat.le_refl _) _
  have hx0 := Bk.new w 70 #[.int .i64 M, .slice AN nN cN, .slice AI nI cI, .int .i64 R.req, .slice AO nO cO, .slice AK nK cK, .slice AC nC cC, .slice AR nR cR, .int .i64 R.bey, .int .i64 R.hol]
  have HB0 := Lib.hid hb0; have HX0 := Lib.hid hx0
  clear hb0 hx0
  dsimp only
  go_enter Try.func27, Try.ntmps27
  go_wp2_with fail
  generalize (w.alloc (.cells #[.int .i64 M, .slice AN nN cN, .slice AI nI cI, .int .i64 R.req, .slice AO nO cO, .slice AK nK cK, .slice AC nC cC, .slice AR nR cR, .int .i64 R.bey, .int .i64 R.hol] 70)) = W0 at *
  refine (HV.out W0 HB0.out).mono ?_
  rintro e w1 ⟨A', c', rfl, ho, hb1⟩
  have HB : Hid (Below w.heap.size w w1) := bthen HB0.out hb1
  have HX1 := Lib.hid (HX0.out.below hb1 HX0.out.lt)
  have x3 : w1.cell? ⟨w.heap.size, 3, none⟩ = some (.int .i64 R.req) := HX1.out.cell 3
  have hn : R.G.length = nN := HNN.out
  have hval : ∀ (r : Int), 0 ≤ r ∧ r < 2 * (R.G.length : Int) → Calls Try.prog 66 #[.slice A' nN c', .int .i64 r] w1 fun e w' => e = .returned (.int .i64 (bitI (valR (evalG R.G inp) r))) ∧ w1 = w' := fun r hr => rvalue A' nN c' (evalG R.G inp) r w1 (Rd.of_own ho) (by rw [evalG_len]; exact hn) (by omega) hr.1 (by rw [← hn]; exact hr.2)
  have HVAL := Lib.hid hval
  clear hval hn ho hb1 HV
  go_wp2_with fail
  refine (HVAL.out _ HB1.out).mono ?_
  rintro e w' ⟨rfl, rfl⟩
  obtain ⟨t, ht⟩ : ∃ t, bitI (valR (evalG R.G inp) R.req) = t := ⟨_, rfl⟩
  rw [ht]
  have ht01 := bitI_01 (valR (evalG R.G inp) R.req)
  rw [ht] at ht01
  have HT := Lib.hid ht
  clear ht x3
  have x7 : w1.cell? ⟨w.heap.size, 7, none⟩ = some (.slice AR nR cR) := HX1.out.cell 7
  go_wp2
  go_loopw [6, 7] (fun v i wr => ∃ (k : Nat) (u : Int), k ≤ nR ∧ i = .int .i64 k ∧ v = .int .i64 u ∧ 0 ≤ u ∧ u ≤ 1 ∧ Hid (u = bitI (valR (evalG R.G inp) R.req && (R.rules.take k).all (valR (evalG R.G inp)))) ∧ w1 = wr) (fun _ i _ => nR - (intOf i).toNat)
  case atStart => exact ⟨0, t, Nat.zero_le _, rfl, rfl, ht01.1, ht01.2, by show _ = _; rw [← HT.out]; simp, rfl⟩
  case round =>
    obtain ⟨k, u, hk, rfl, rfl, hu0, hu1, HU, rfl⟩ := hrel
    by_cases hlt : k < nR
    · obtain ⟨b2, o2, r, rfl, hr2, hc2⟩ := (HRU.out.1.below HB.out).getm HRU.out.2.1 hlt
      have HR2 := Lib.hid hr2
      have HRo := Lib.hid (HRR.out r (List.mem_of_getElem? hr2))
      clear hr2
      go_wp2_with fail
      refine (HVAL.out _ HRo.out).mono ?_
      rintro e w' ⟨rfl, rfl⟩
      obtain ⟨t2, ht2⟩ : ∃ t, bitI (valR (evalG R.G inp) r) = t := ⟨_, rfl⟩
      rw [ht2]
      have ht201 := bitI_01 (valR (evalG R.G inp) r)
      rw [ht2] at ht201
      obtain ⟨ht20, ht21⟩ := ht201
      have hnext : u * t2 = bitI (valR (evalG R.G inp) R.req && (R.rules.take (k + 1)).all (valR (evalG R.G inp))) := by
        rw [take_snoc HR2.out, List.all_append, ← Bool.and_assoc, HU.out, ← ht2]
        simp only [List.all_cons, List.all_nil, Bool.and_true]
        cases (valR (evalG R.G inp) R.req && (R.rules.take k).all (valR (evalG R.G inp))) <;> cases valR (evalG R.G inp) r <;> rfl
      have hut : 0 ≤ u * t2 ∧ u * t2 ≤ 1 := by
        rw [hnext]
        exact bitI_01 _
      obtain ⟨hut0, hut1⟩ := hut
      have HNX := Lib.hid hnext
      clear ht2 hnext
      go_wp2
      go_roundw
      case rel => exact ⟨k + 1, u * t2, by omega, by go_num, by go_num, hut0, hut1, HNX, trivial⟩
      case measure => simp [intOf]; omega
    · obtain rfl : nR = k := by omega
      go_wp2
      go_ret
      refine ⟨ret_int ?_, HB.out⟩
      rw [HU.out, List.take_of_length_le (by have := HRU.out.2.1; dsimp only at this; omega), validR]
end Go.Proofs.Ytamoniljgifggaa

