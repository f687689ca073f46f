/-
  Contract of salvorlaw42.reads.
-/
import Derived.Test.YtamoniljgifggaaBuild
import Derived.Test.YtamoniljgifggaaSame
import Derived.Test.YtamoniljgifggaaRead
import Derived.Test.YtamoniljgifggaaQRight
import Derived.Deep.DeepCutAuto
import Derived.Deep.RegionHeld3
set_option linter.unusedVariables false
set_option linter.unusedSimpArgs false
namespace Go.Proofs.Ytamoniljgifggaa
open Go.RowKit

theorem build2 (v : RawV) (x : RawP) (w : World) (h : Hid (RawAt w v x)) : Calls Try.prog 19 #[.agg #[.int .u8 x.inp, .slice v.A.A v.A.n v.A.c, .slice v.W.A v.W.n v.W.c, .slice v.O.A v.O.n v.O.c, .slice v.K.A v.K.n v.K.c, .slice v.C.A v.C.n v.C.c, .slice v.R.A v.R.n v.R.c, .int .i64 x.req, .int .i64 x.bey, .int .i64 x.hol]] w fun e w' => ∃ (B : Nat) (z : RV) (y : QV) (R : Res), e = .returned (.tuple #[.agg #[.pointer (some ⟨z.g, 0, none⟩), .slice z.I.A z.I.n z.I.c, .int .i64 R.req, .slice z.O.A z.O.n z.O.c, .slice z.K.A z.K.n z.K.c, .slice z.C.A z.C.n z.C.c, .slice z.R.A z.R.n z.R.c, .int .i64 R.bey, .int .i64 R.hol], .agg #[.int .i64 400, .slice y.N.A y.N.n y.N.c, .slice y.I.A y.I.n y.I.c, .int .i64 R.req, .slice y.O.A y.O.n y.O.c, .slice y.K.A y.K.n y.K.c, .slice y.C.A y.C.n y.C.c, .slice y.R.A y.R.n y.R.c, .int .i64 R.bey, .int .i64 R.hol], .bool true]) ∧ ResAt w' B 400 z R ∧ RefAt w' y R ∧ Below w.heap.size w w' :=
  (build v x w h).mono fun _ _ ⟨B, z, y, he, h1, h2, h3⟩ => ⟨B, z, y, rawR x, he, h1, h2, h3⟩
theorem sched2 (B : Nat) (M : Int) (x : RV) (R : Res) (A : Option Addr) (m c : Nat) (inp : List Bool) (ins : List Int) (pt : Int) (kp : List Bool) (er : Int) (w : World) (h : Hid (ResAt w B M x R)) (hr : Hid (Rd w A (inp.map Value.bool))) (hl : Hid (inp.length = m)) (hm : m ≤ 1000000) (HS : Hid (schedR R inp = ⟨ins, pt, kp⟩)) (HE : Hid (errR R m = er)) :
    Calls Try.prog 11 #[.agg #[.pointer (some ⟨x.g, 0, none⟩), .slice x.I.A x.I.n x.I.c, .int .i64 R.req, .slice x.O.A x.O.n x.O.c, .slice x.K.A x.K.n x.K.c, .slice x.C.A x.C.n x.C.c, .slice x.R.A x.R.n x.R.c, .int .i64 R.bey, .int .i64 R.hol], .slice A m c] w fun e w' => ∃ (sI sK : SV), e = .returned (.tuple #[.agg #[.slice sI.A sI.n sI.c, .int .i64 pt, .slice sK.A sK.n sK.c], .int .i64 er]) ∧ Rd w' sI.A (ins.map (Value.int .u32)) ∧ ins.length = sI.n ∧ Rd w' sK.A (kp.map Value.bool) ∧ kp.length = sK.n ∧ sI.n ≤ 100000 ∧ sK.n ≤ 100000 ∧ Below w.heap.size w w' := by
  have h1 := decSchedule B M x R A m c inp w h hr hl hm
  rw [HS.out, HE.out] at h1
  exact h1
theorem valid2 (B : Nat) (M : Int) (x : RV) (R : Res) (A : Option Addr) (m c : Nat) (inp : List Bool) (bv : Bool) (er : Int) (w : World) (h : Hid (ResAt w B M x R)) (hr : Hid (Rd w A (inp.map Value.bool))) (hl : Hid (inp.length = m)) (hm : m ≤ 1000000) (HV : Hid ((decide (errR R m = 0) && validR R inp) = bv)) (HE : Hid (errR R m = er)) :
    Calls Try.prog 14 #[.agg #[.pointer (some ⟨x.g, 0, none⟩), .slice x.I.A x.I.n x.I.c, .int .i64 R.req, .slice x.O.A x.O.n x.O.c, .slice x.K.A x.K.n x.K.c, .slice x.C.A x.C.n x.C.c, .slice x.R.A x.R.n x.R.c, .int .i64 R.bey, .int .i64 R.hol], .slice A m c] w fun e w' => e = .returned (.tuple #[.bool bv, .int .i64 er]) ∧ Below w.heap.size w w' := by
  have h1 := decValid B M x R A m c inp w h hr hl hm
  rw [HV.out, HE.out] at h1
  exact h1
theorem tells2 (B : Nat) (M : Int) (x : RV) (R : Res) (A : Option Addr) (m c : Nat) (inp : List Bool) (b1 b2 : Bool) (er : Int) (w : World) (h : Hid (ResAt w B M x R)) (hr : Hid (Rd w A (inp.map Value.bool))) (hl : Hid (inp.length = m)) (hm : m ≤ 1000000) (H1 : Hid ((decide (errR R m = 0) && valR (evalG R.G inp) R.bey) = b1)) (H2 : Hid ((decide (errR R m = 0) && valR (evalG R.G inp) R.hol) = b2)) (HE : Hid (errR R m = er)) :
    Calls Try.prog 15 #[.agg #[.pointer (some ⟨x.g, 0, none⟩), .slice x.I.A x.I.n x.I.c, .int .i64 R.req, .slice x.O.A x.O.n x.O.c, .slice x.K.A x.K.n x.K.c, .slice x.C.A x.C.n x.C.c, .slice x.R.A x.R.n x.R.c, .int .i64 R.bey, .int .i64 R.hol], .slice A m c] w fun e w' => e = .returned (.tuple #[.bool b1, .bool b2, .int .i64 er]) ∧ Below w.heap.size w w' := by
  have h1 := decTells B M x R A m c inp w h hr hl hm
  rw [H1.out, H2.out, HE.out] at h1
  exact h1
theorem decRight2 (B : Nat) (M : Int) (x : RV) (R : Res) (rt : Bool) (w : World) (h : Hid (ResAt w B M x R)) (HR : Hid (rightR R = rt)) :
    Calls Try.prog 16 #[.agg #[.pointer (some ⟨x.g, 0, none⟩), .slice x.I.A x.I.n x.I.c, .int .i64 R.req, .slice x.O.A x.O.n x.O.c, .slice x.K.A x.K.n x.K.c, .slice x.C.A x.C.n x.C.c, .slice x.R.A x.R.n x.R.c, .int .i64 R.bey, .int .i64 R.hol]] w fun e w' => e = .returned (.bool rt) ∧ Below w.heap.size w w' := by
  have h1 := decRight B M x R w h
  rw [HR.out] at h1
  exact h1
theorem refRight2 (M : Int) (y : QV) (R : Res) (rt : Bool) (w : World) (h : Hid (RefAt w y R)) (HR : Hid (rightR R = rt)) :
    Calls Try.prog 21 #[.agg #[.int .i64 M, .slice y.N.A y.N.n y.N.c, .slice y.I.A y.I.n y.I.c, .int .i64 R.req, .slice y.O.A y.O.n y.O.c, .slice y.K.A y.K.n y.K.c, .slice y.C.A y.C.n y.C.c, .slice y.R.A y.R.n y.R.c, .int .i64 R.bey, .int .i64 R.hol]] w fun e w' => e = .returned (.bool rt) ∧ Below w.heap.size w w' := by
  have h1 := refRight M y R w h
  rw [HR.out] at h1
  exact h1
theorem cells3 {w : World} {g : Nat} {t : TypeId} {v0 v1 v2 : Value} (h : Bk w g t #[v0, v1, v2]) : w.cell? ⟨g, 0, none⟩ = some v0 ∧ w.cell? ⟨g, 1, none⟩ = some v1 ∧ w.cell? ⟨g, 2, none⟩ = some v2 := ⟨h.cell 0, h.cell 1, h.cell 2⟩

theorem frozen3 {w : World} {g : Nat} {t : TypeId} {v0 v1 v2 : Value} (h : Bk w g t #[v0, v1, v2]) : w.frozen? ⟨g, 0, none⟩ = false ∧ w.frozen? ⟨g, 1, none⟩ = false ∧ w.frozen? ⟨g, 2, none⟩ = false := ⟨h.frozen 0, h.frozen 1, h.frozen 2⟩
theorem bk_put3 {w : World} {a : Nat} {t : TypeId} {z0 z1 z2 v0 v1 v2 : Value} (h : Bk w a t #[z0, z1, z2]) : Bk (((w.setCell ⟨a, 0, none⟩ v0).setCell ⟨a, 1, none⟩ v1).setCell ⟨a, 2, none⟩ v2) a t #[v0, v1, v2] := by
  have h1 := ((h.put 0 v0).put 1 v1).put 2 v2
  simp only [List.setIfInBounds_toArray, List.set_cons_succ, List.set_cons_zero] at h1
  exact h1
theorem rdT_put3 {w : World} {a : Nat} {t t' : TypeId} {A : Option Addr} {xs : List Value} {cs : Array Value} {v0 v1 v2 : Value} (h : RdT w A t xs) (hb : Bk w a t' cs) (hne : t ≠ t') : RdT (((w.setCell ⟨a, 0, none⟩ v0).setCell ⟨a, 1, none⟩ v1).setCell ⟨a, 2, none⟩ v2) A t xs :=
  ((h.put hb hne v0).put (hb.put 0 v0) hne v1).put ((hb.put 0 v0).put 1 v1) hne v2
theorem below_put3 {B a : Nat} {w0 w : World} {v0 v1 v2 : Value} (h : Below B w0 w) (ha : B ≤ a) : Below B w0 (((w.setCell ⟨a, 0, none⟩ v0).setCell ⟨a, 1, none⟩ v1).setCell ⟨a, 2, none⟩ v2) := ((h.setCell (p := ⟨a, 0, none⟩) ha v0).setCell (p := ⟨a, 1, none⟩) ha v1).setCell (p := ⟨a, 2, none⟩) ha v2
theorem qsched_eq {R : Res} {inp : List Bool} (h : rightR R = true) : qsched R inp = schedR R inp := by
  unfold qsched schedR errR
  rw [if_pos h]
  by_cases hm : inp.length = (inputsOf R.G).length
  · rw [if_pos hm, if_pos hm]; rfl
  · rw [if_neg hm, if_neg hm]; rfl
theorem sched_range {R : Res} {inp : List Bool} {ins : List Int} {pt : Int} {kp : List Bool} (h : rightR R = true) (hs : schedR R inp = ⟨ins, pt, kp⟩) : ∀ x ∈ ins, 0 ≤ x ∧ x ≤ 65535 := by
  intro x hx
  unfold schedR at hs
  split at hs
  · have hi : (R.ins.map fun l => numB (l.map (valR (evalG R.G inp)))) = ins := congrArg Sch.ins hs
    rw [← hi] at hx
    obtain ⟨l, hl, rfl⟩ := List.mem_map.1 hx
    obtain ⟨h0, h1⟩ := numB_lt (l.map (valR (evalG R.G inp)))
    rw [List.length_map] at h1
    have h2 := (pow_small ((Rts.of h).ins l hl).1.2).1
    omega
  · have hi : [] = ins := congrArg Sch.ins hs
    rw [← hi] at hx
    cases hx
theorem tellsR2 (M : Int) (y : QV) (R : Res) (A : Option Addr) (m c : Nat) (inp : List Bool) (b1 b2 : Bool) (H1 : Hid (valR (evalG R.G inp) R.bey = b1)) (H2 : Hid (valR (evalG R.G inp) R.hol = b2)) (w : World) (h : Hid (RefAt w y R)) (hR : Hid (Rts R)) (hr : Hid (Rd w A ((inp.map bitI).map (Value.int .i64)))) (hl : Hid (inp.length = m)) (hm : Hid (m = (inputsOf R.G).length)) (hm' : m ≤ 1000000) :
    Calls Try.prog 26 #[.agg #[.int .i64 M, .slice y.N.A y.N.n y.N.c, .slice y.I.A y.I.n y.I.c, .int .i64 R.req, .slice y.O.A y.O.n y.O.c, .slice y.K.A y.K.n y.K.c, .slice y.C.A y.C.n y.C.c, .slice y.R.A y.R.n y.R.c, .int .i64 R.bey, .int .i64 R.hol], .slice A m c] w fun e w' => e = .returned (.tuple #[.int .i64 (bitI b1), .int .i64 (bitI b2)]) ∧ Below w.heap.size w w' := by
  have h3 := refTells M y R A m c inp w h hR hr hl hm hm'
  rw [H1.out, H2.out] at h3
  exact h3
theorem validR2 (M : Int) (y : QV) (R : Res) (A : Option Addr) (m c : Nat) (inp : List Bool) (bv : Bool) (H1 : Hid (validR R inp = bv)) (w : World) (h : Hid (RefAt w y R)) (hR : Hid (Rts R)) (hr : Hid (Rd w A ((inp.map bitI).map (Value.int .i64)))) (hl : Hid (inp.length = m)) (hm : Hid (m = (inputsOf R.G).length)) (hm' : m ≤ 1000000) :
    Calls Try.prog 27 #[.agg #[.int .i64 M, .slice y.N.A y.N.n y.N.c, .slice y.I.A y.I.n y.I.c, .int .i64 R.req, .slice y.O.A y.O.n y.O.c, .slice y.K.A y.K.n y.K.c, .slice y.C.A y.C.n y.C.c, .slice y.R.A y.R.n y.R.c, .int .i64 R.bey, .int .i64 R.hol], .slice A m c] w fun e w' => e = .returned (.int .i64 (bitI bv)) ∧ Below w.heap.size w w' := by
  have h3 := refValid M y R A m c inp w h hR hr hl hm hm'
  rw [H1.out] at h3
  exact h3
theorem read2 (M : Int) (y : QV) (R : Res) (A : Option Addr) (m c : Nat) (inp : List Bool) (ins : List Int) (pt : Int) (kp : List Bool) (er : Int) (n1 n2 : Nat) (w : World) (h : Hid (RefAt w y R)) (hR : Hid (Rts R)) (hr : Hid (Rd w A ((inp.map bitI).map (Value.int .i64)))) (hl : Hid (inp.length = m)) (hm : m ≤ 1000000) (HE : Hid (er = if m = (inputsOf R.G).length then 0 else 421)) (HQ : Hid (qsched R inp = ⟨ins, pt, kp⟩)) (h1 : Hid (ins.length = n1)) (h2 : Hid (kp.length = n2)) :
    Calls Try.prog 24 #[.agg #[.int .i64 M, .slice y.N.A y.N.n y.N.c, .slice y.I.A y.I.n y.I.c, .int .i64 R.req, .slice y.O.A y.O.n y.O.c, .slice y.K.A y.K.n y.K.c, .slice y.C.A y.C.n y.C.c, .slice y.R.A y.R.n y.R.c, .int .i64 R.bey, .int .i64 R.hol], .slice A m c] w fun e w' => ∃ (A3 : Option Addr) (c3 : Nat) (A4 : Option Addr) (c4 : Nat), e = .returned (.tuple #[.agg #[.slice A3 n1 c3, .int .i64 pt, .slice A4 n2 c4], .int .i64 er]) ∧ RdT w' A3 3 (ins.map (Value.int .i64)) ∧ RdT w' A4 3 ((kp.map bitI).map (Value.int .i64)) ∧ Below w.heap.size w w' := by
  have h3 := refRead M y R A m c inp w h hR hr hl hm er HE
  rw [HQ.out] at h3
  refine h3.mono ?_
  rintro e w' ⟨⟨A3, n3, c3⟩, ⟨A4, n4, c4⟩, rfl, hi, hn, hk, hkn, _, _, hb⟩
  dsimp only at hi hn hk hkn ⊢
  obtain rfl : n1 = n3 := h1.out.symm.trans hn
  obtain rfl : n2 = n4 := h2.out.symm.trans hkn
  exact ⟨A3, c3, A4, c4, rfl, hi, hk, hb⟩

set_option maxHeartbeats 8000000 in
set_option maxRecDepth 100000 in
theorem reads (v : RawV) (x : RawP) (A : Option Addr) (m c : Nat) (inp : List Bool) (w : World) (h : Hid (RawAt w v x)) (hr : Hid (Rd w A (inp.map Value.bool))) (hl : Hid (inp.length = m)) (hm : m ≤ 30) :
    Calls Try.prog 7 #[.agg #[.int .u8 x.inp, .slice v.A.A v.A.n v.A.c, .slice v.W.A v.W.n v.W.c, .slice v.O.A v.O.n v.O.c, .slice v.K.A v.K.n v.K.c, .slice v.C.A v.C.n v.C.c, .slice v.R.A v.R.n v.R.c, .int .i64 x.req, .int .i64 x.bey, .int .i64 x.hol], .slice A m c] w fun e w' => e = .returned (.bool true) ∧ Below w.heap.size w w' := by
  obtain ⟨⟨AA, nA, cA⟩, ⟨AW, nW, cW⟩, S, ⟨AO, nO, cO⟩, ⟨AK, nK, cK⟩, ⟨AC, nC, cC⟩, ⟨AR, nR, cR⟩⟩ := v
  obtain ⟨inp0, ands, words, ops, keep, cached, rules, req, bey, hol⟩ := x
  dsimp only
  have HW : Hid (Below w.heap.size w (w.alloc (.cells #[.int .u8 inp0, .slice AA nA cA, .slice AW nW cW, .slice AO nO cO, .slice AK nK cK, .slice AC nC cC, .slice AR nR cR, .int .i64 req, .int .i64 bey, .int .i64 hol] 27))) := (Below.refl _ w).alloc (Nat.le_refl _) _
  go_enter Try.func7, Try.ntmps7
  go_wp2_with fail
  generalize (w.alloc (.cells #[.int .u8 inp0, .slice AA nA cA, .slice AW nW cW, .slice AO nO cO, .slice AK nK cK, .slice AC nC cC, .slice AR nR cR, .int .i64 req, .int .i64 bey, .int .i64 hol] 27)) = W0 at *
  have HBD := build2 ⟨⟨AA, nA, cA⟩, ⟨AW, nW, cW⟩, S, ⟨AO, nO, cO⟩, ⟨AK, nK, cK⟩, ⟨AC, nC, cC⟩, ⟨AR, nR, cR⟩⟩ ⟨inp0, ands, words, ops, keep, cached, rules, req, bey, hol⟩ W0 (Lib.hid (h.out.below HW.out))
  dsimp only at HBD
  refine HBD.mono ?_
  clear HBD
  rintro e W1 ⟨B, z, y, R, rfl, hres, href, hb1⟩
  obtain ⟨g, ⟨AI1, nI1, cI1⟩, S1, ⟨AO1, nO1, cO1⟩, ⟨AK1, nK1, cK1⟩, ⟨AC1, nC1, cC1⟩, ⟨AR1, nR1, cR1⟩⟩ := z
  obtain ⟨⟨AN2, nN2, cN2⟩, ⟨AI2, nI2, cI2⟩, S2, ⟨AO2, nO2, cO2⟩, ⟨AK2, nK2, cK2⟩, ⟨AC2, nC2, cC2⟩, ⟨AR2, nR2, cR2⟩⟩ := y
  dsimp only
  obtain ⟨er, her⟩ : ∃ er, errR R m = er := ⟨_, rfl⟩
  obtain ⟨rt, hrt⟩ : ∃ rt, rightR R = rt := ⟨_, rfl⟩
  obtain ⟨⟨ins, pt, kp⟩, hs1⟩ : ∃ s, schedR R inp = s := ⟨_, rfl⟩
  obtain ⟨bv, hbv⟩ : ∃ b, (decide (errR R m = 0) && validR R inp) = b := ⟨_, rfl⟩
  obtain ⟨b1, hbb1⟩ : ∃ b, (decide (errR R m = 0) && valR (evalG R.G inp) R.bey) = b := ⟨_, rfl⟩
  obtain ⟨b2, hbb2⟩ : ∃ b, (decide (errR R m = 0) && valR (evalG R.G inp) R.hol) = b := ⟨_, rfl⟩
  have HE := Lib.hid her; have HRT := Lib.hid hrt; have HS1 := Lib.hid hs1; have HV := Lib.hid hbv; have HT1 := Lib.hid hbb1; have HT2 := Lib.hid hbb2
  clear her hrt hs1 hbv hbb1 hbb2
  have HIN := Lib.hid (hr.out.below HW.out)
  have H5 := Lib.hid ((Bk.new W1 49 #[.pointer (some ⟨g, 0, none⟩), .slice AI1 nI1 cI1, .int .i64 R.req, .slice AO1 nO1 cO1, .slice AK1 nK1 cK1, .slice AC1 nC1 cC1, .slice AR1 nR1 cR1, .int .i64 R.bey, .int .i64 R.hol]).alloc (.cells #[.int .i64 400, .slice AN2 nN2 cN2, .slice AI2 nI2 cI2, .int .i64 R.req, .slice AO2 nO2 cO2, .slice AK2 nK2 cK2, .slice AC2 nC2 cC2, .slice AR2 nR2 cR2, .int .i64 R.bey, .int .i64 R.hol] 70))
  have h6 := Bk.new (W1.alloc (.cells #[.pointer (some ⟨g, 0, none⟩), .slice AI1 nI1 cI1, .int .i64 R.req, .slice AO1 nO1 cO1, .slice AK1 nK1 cK1, .slice AC1 nC1 cC1, .slice AR1 nR1 cR1, .int .i64 R.bey, .int .i64 R.hol] 49)) 70 #[.int .i64 400, .slice AN2 nN2 cN2, .slice AI2 nI2 cI2, .int .i64 R.req, .slice AO2 nO2 cO2, .slice AK2 nK2 cK2, .slice AC2 nC2 cC2, .slice AR2 nR2 cR2, .int .i64 R.bey, .int .i64 R.hol]
  rw [World.size_alloc] at h6
  have H6 := Lib.hid h6
  have HBa : Hid (Below W1.heap.size W1 ((W1.alloc (.cells #[.pointer (some ⟨g, 0, none⟩), .slice AI1 nI1 cI1, .int .i64 R.req, .slice AO1 nO1 cO1, .slice AK1 nK1 cK1, .slice AC1 nC1 cC1, .slice AR1 nR1 cR1, .int .i64 R.bey, .int .i64 R.hol] 49)).alloc (.cells #[.int .i64 400, .slice AN2 nN2 cN2, .slice AI2 nI2 cI2, .int .i64 R.req, .slice AO2 nO2 cO2, .slice AK2 nK2 cK2, .slice AC2 nC2 cC2, .slice AR2 nR2 cR2, .int .i64 R.bey, .int .i64 R.hol] 70))) := balloc (balloc (Below.refl _ _) _) _
  have HRES := Lib.hid (hres.below HBa.out)
  have HREF := Lib.hid (href.below HBa.out)
  have HB1 := Lib.hid (bthen hb1 HBa.out)
  clear h6 hres href hb1 HBa h hr
  go_wp2_with fail
  generalize ((W1.alloc (.cells #[.pointer (some ⟨g, 0, none⟩), .slice AI1 nI1 cI1, .int .i64 R.req, .slice AO1 nO1 cO1, .slice AK1 nK1 cK1, .slice AC1 nC1 cC1, .slice AR1 nR1 cR1, .int .i64 R.bey, .int .i64 R.hol] 49)).alloc (.cells #[.int .i64 400, .slice AN2 nN2 cN2, .slice AI2 nI2 cI2, .int .i64 R.req, .slice AO2 nO2 cO2, .slice AK2 nK2 cK2, .slice AC2 nC2 cC2, .slice AR2 nR2 cR2, .int .i64 R.bey, .int .i64 R.hol] 70)) = W2 at *
  obtain ⟨p5, hp5⟩ : ∃ p, W1.heap.size = p := ⟨_, rfl⟩
  rw [hp5] at H5 H6 ⊢
  clear hp5
  have HIN' := Lib.hid (HIN.out.below HB1.out)
  clear HIN
  have HIN := HIN'
  clear HIN'
  have HW' := Lib.hid (bthen HW.out HB1.out)
  clear HW
  have HW := HW'
  clear HW'
  clear HB1
  refine (clone_bool A m c (inp.map Value.bool) W2 HIN (by show _ = _; rw [List.length_map]; exact hl.out) (one_bools _) (by omega)).mono ?_
  rintro e W3 ⟨A8, c8, rfl, ho3, hb3⟩
  have HLT := Lib.hid (Rd.of_own ho3)
  have HIN' := Lib.hid (HIN.out.below hb3)
  clear HIN
  have HIN := HIN'
  clear HIN'
  have HW' := Lib.hid (bthen HW.out hb3)
  clear HW
  have HW := HW'
  clear HW'
  have H5' := Lib.hid (bkbel H5.out hb3)
  clear H5
  have H5 := H5'
  clear H5'
  have H6' := Lib.hid (bkbel H6.out hb3)
  clear H6
  have H6 := H6'
  clear H6'
  have HRES' := Lib.hid (HRES.out.below hb3)
  clear HRES
  have HRES := HRES'
  clear HRES'
  have HREF' := Lib.hid (HREF.out.below hb3)
  clear HREF
  have HREF := HREF'
  clear HREF'
  clear ho3 hb3
  obtain ⟨⟨x0, x1, x2, x3, x4, x5, x6, x7, x8⟩, _⟩ := cells9 H5.out
  go_wp2_with fail
  refine (sched2 B 400 ⟨g, ⟨AI1, nI1, cI1⟩, S1, ⟨AO1, nO1, cO1⟩, ⟨AK1, nK1, cK1⟩, ⟨AC1, nC1, cC1⟩, ⟨AR1, nR1, cR1⟩⟩ R A8 m c8 inp ins pt kp er W3 HRES HLT hl (by omega) HS1 HE).mono ?_
  rintro e W4 ⟨⟨A1, n1, c1⟩, ⟨A2, n2, c2⟩, rfl, hi4, hn4, hk4, hkn4, hle1, hle2, hb4⟩
  dsimp only at hi4 hn4 hk4 hkn4 hle1 hle2 ⊢
  have HI := Lib.hid hi4; have HK := Lib.hid hk4
  have HN4 := Lib.hid hn4; have HM4 := Lib.hid hkn4
  clear x0 x1 x2 x3 x4 x5 x6 x7 x8
  have HIN' := Lib.hid (HIN.out.below hb4)
  clear HIN
  have HIN := HIN'
  clear HIN'
  have HW' := Lib.hid (bthen HW.out hb4)
  clear HW
  have HW := HW'
  clear HW'
  have H5' := Lib.hid (bkbel H5.out hb4)
  clear H5
  have H5 := H5'
  clear H5'
  have H6' := Lib.hid (bkbel H6.out hb4)
  clear H6
  have H6 := H6'
  clear H6'
  have HRES' := Lib.hid (HRES.out.below hb4)
  clear HRES
  have HRES := HRES'
  clear HRES'
  have HREF' := Lib.hid (HREF.out.below hb4)
  clear HREF
  have HREF := HREF'
  clear HREF'
  have HLT' := Lib.hid (HLT.out.below hb4)
  clear HLT
  have HLT := HLT'
  clear HLT'
  clear hi4 hn4 hk4 hkn4 hb4
  obtain ⟨⟨x0, x1, x2, x3, x4, x5, x6, x7, x8⟩, _⟩ := cells9 H5.out
  have hp5l : p5 < W4.heap.size := H5.out.lt
  have H9 := Lib.hid (Bk.new W4 51 #[.slice A1 n1 c1, .int .i64 pt, .slice A2 n2 c2])
  have HBb : Hid (Below W4.heap.size W4 (W4.alloc (.cells #[.slice A1 n1 c1, .int .i64 pt, .slice A2 n2 c2] 51))) := balloc (Below.refl _ _) _
  go_wp2_with fail
  clear x0 x1 x2 x3 x4 x5 x6 x7 x8
  have HIN' := Lib.hid (HIN.out.below HBb.out)
  clear HIN
  have HIN := HIN'
  clear HIN'
  have HW' := Lib.hid (bthen HW.out HBb.out)
  clear HW
  have HW := HW'
  clear HW'
  have H5' := Lib.hid (bkbel H5.out HBb.out)
  clear H5
  have H5 := H5'
  clear H5'
  have H6' := Lib.hid (bkbel H6.out HBb.out)
  clear H6
  have H6 := H6'
  clear H6'
  have HRES' := Lib.hid (HRES.out.below HBb.out)
  clear HRES
  have HRES := HRES'
  clear HRES'
  have HREF' := Lib.hid (HREF.out.below HBb.out)
  clear HREF
  have HREF := HREF'
  clear HREF'
  have HLT' := Lib.hid (HLT.out.below HBb.out)
  clear HLT
  have HLT := HLT'
  clear HLT'
  have HI' := Lib.hid (HI.out.below HBb.out)
  clear HI
  have HI := HI'
  clear HI'
  have HK' := Lib.hid (HK.out.below HBb.out)
  clear HK
  have HK := HK'
  clear HK'
  clear HBb
  generalize (W4.alloc (.cells #[.slice A1 n1 c1, .int .i64 pt, .slice A2 n2 c2] 51)) = W5 at *
  obtain ⟨p9, hp9⟩ : ∃ p, W4.heap.size = p := ⟨_, rfl⟩
  rw [hp9] at H9 ⊢
  clear hp9 hp5l
  refine (valid2 B 400 ⟨g, ⟨AI1, nI1, cI1⟩, S1, ⟨AO1, nO1, cO1⟩, ⟨AK1, nK1, cK1⟩, ⟨AC1, nC1, cC1⟩, ⟨AR1, nR1, cR1⟩⟩ R A8 m c8 inp bv er W5 HRES HLT hl (by omega) HV HE).mono ?_
  rintro e W6 ⟨rfl, hb6⟩
  have HIN' := Lib.hid (HIN.out.below hb6)
  clear HIN
  have HIN := HIN'
  clear HIN'
  have HW' := Lib.hid (bthen HW.out hb6)
  clear HW
  have HW := HW'
  clear HW'
  have H5' := Lib.hid (bkbel H5.out hb6)
  clear H5
  have H5 := H5'
  clear H5'
  have H6' := Lib.hid (bkbel H6.out hb6)
  clear H6
  have H6 := H6'
  clear H6'
  have HRES' := Lib.hid (HRES.out.below hb6)
  clear HRES
  have HRES := HRES'
  clear HRES'
  have HREF' := Lib.hid (HREF.out.below hb6)
  clear HREF
  have HREF := HREF'
  clear HREF'
  have HLT' := Lib.hid (HLT.out.below hb6)
  clear HLT
  have HLT := HLT'
  clear HLT'
  have HI' := Lib.hid (HI.out.below hb6)
  clear HI
  have HI := HI'
  clear HI'
  have HK' := Lib.hid (HK.out.below hb6)
  clear HK
  have HK := HK'
  clear HK'
  have H9' := Lib.hid (bkbel H9.out hb6)
  clear H9
  have H9 := H9'
  clear H9'
  clear hb6
  obtain ⟨⟨x0, x1, x2, x3, x4, x5, x6, x7, x8⟩, _⟩ := cells9 H5.out
  go_wp2_with fail
  refine (tells2 B 400 ⟨g, ⟨AI1, nI1, cI1⟩, S1, ⟨AO1, nO1, cO1⟩, ⟨AK1, nK1, cK1⟩, ⟨AC1, nC1, cC1⟩, ⟨AR1, nR1, cR1⟩⟩ R A8 m c8 inp b1 b2 er W6 HRES HLT hl (by omega) HT1 HT2 HE).mono ?_
  rintro e W7 ⟨rfl, hb7⟩
  clear x0 x1 x2 x3 x4 x5 x6 x7 x8
  have HIN' := Lib.hid (HIN.out.below hb7)
  clear HIN
  have HIN := HIN'
  clear HIN'
  have HW' := Lib.hid (bthen HW.out hb7)
  clear HW
  have HW := HW'
  clear HW'
  have H5' := Lib.hid (bkbel H5.out hb7)
  clear H5
  have H5 := H5'
  clear H5'
  have H6' := Lib.hid (bkbel H6.out hb7)
  clear H6
  have H6 := H6'
  clear H6'
  have HRES' := Lib.hid (HRES.out.below hb7)
  clear HRES
  have HRES := HRES'
  clear HRES'
  have HREF' := Lib.hid (HREF.out.below hb7)
  clear HREF
  have HREF := HREF'
  clear HREF'
  have HLT' := Lib.hid (HLT.out.below hb7)
  clear HLT
  have HLT := HLT'
  clear HLT'
  have HI' := Lib.hid (HI.out.below hb7)
  clear HI
  have HI := HI'
  clear HI'
  have HK' := Lib.hid (HK.out.below hb7)
  clear HK
  have HK := HK'
  clear HK'
  have H9' := Lib.hid (bkbel H9.out hb7)
  clear H9
  have H9 := H9'
  clear H9'
  clear hb7
  obtain ⟨⟨q0, q1, q2, q3, q4, q5, q6, q7, q8, q9⟩, _⟩ := cells10 H6.out
  go_wp2_with fail
  refine (refRight2 400 ⟨⟨AN2, nN2, cN2⟩, ⟨AI2, nI2, cI2⟩, S2, ⟨AO2, nO2, cO2⟩, ⟨AK2, nK2, cK2⟩, ⟨AC2, nC2, cC2⟩, ⟨AR2, nR2, cR2⟩⟩ R rt W7 HREF HRT).mono ?_
  rintro e W8 ⟨rfl, hb8⟩
  clear q0 q1 q2 q3 q4 q5 q6 q7 q8 q9
  have HIN' := Lib.hid (HIN.out.below hb8)
  clear HIN
  have HIN := HIN'
  clear HIN'
  have HW' := Lib.hid (bthen HW.out hb8)
  clear HW
  have HW := HW'
  clear HW'
  have H5' := Lib.hid (bkbel H5.out hb8)
  clear H5
  have H5 := H5'
  clear H5'
  have H6' := Lib.hid (bkbel H6.out hb8)
  clear H6
  have H6 := H6'
  clear H6'
  have HRES' := Lib.hid (HRES.out.below hb8)
  clear HRES
  have HRES := HRES'
  clear HRES'
  have HREF' := Lib.hid (HREF.out.below hb8)
  clear HREF
  have HREF := HREF'
  clear HREF'
  have HLT' := Lib.hid (HLT.out.below hb8)
  clear HLT
  have HLT := HLT'
  clear HLT'
  have HI' := Lib.hid (HI.out.below hb8)
  clear HI
  have HI := HI'
  clear HI'
  have HK' := Lib.hid (HK.out.below hb8)
  clear HK
  have HK := HK'
  clear HK'
  have H9' := Lib.hid (bkbel H9.out hb8)
  clear H9
  have H9 := H9'
  clear H9'
  clear hb8
  obtain ⟨⟨x0, x1, x2, x3, x4, x5, x6, x7, x8⟩, _⟩ := cells9 H5.out
  go_wp2_with fail
  refine (decRight2 B 400 ⟨g, ⟨AI1, nI1, cI1⟩, S1, ⟨AO1, nO1, cO1⟩, ⟨AK1, nK1, cK1⟩, ⟨AC1, nC1, cC1⟩, ⟨AR1, nR1, cR1⟩⟩ R rt W8 HRES HRT).mono ?_
  rintro e W9 ⟨rfl, hb9⟩
  clear x0 x1 x2 x3 x4 x5 x6 x7 x8
  have HIN' := Lib.hid (HIN.out.below hb9)
  clear HIN
  have HIN := HIN'
  clear HIN'
  have HW' := Lib.hid (bthen HW.out hb9)
  clear HW
  have HW := HW'
  clear HW'
  have H5' := Lib.hid (bkbel H5.out hb9)
  clear H5
  have H5 := H5'
  clear H5'
  have H6' := Lib.hid (bkbel H6.out hb9)
  clear H6
  have H6 := H6'
  clear H6'
  have HRES' := Lib.hid (HRES.out.below hb9)
  clear HRES
  have HRES := HRES'
  clear HRES'
  have HREF' := Lib.hid (HREF.out.below hb9)
  clear HREF
  have HREF := HREF'
  clear HREF'
  have HLT' := Lib.hid (HLT.out.below hb9)
  clear HLT
  have HLT := HLT'
  clear HLT'
  have HI' := Lib.hid (HI.out.below hb9)
  clear HI
  have HI := HI'
  clear HI'
  have HK' := Lib.hid (HK.out.below hb9)
  clear HK
  have HK := HK'
  clear HK'
  have H9' := Lib.hid (bkbel H9.out hb9)
  clear H9
  have H9 := H9'
  clear H9'
  clear hb9
  have HEQ := Lib.hid (equal_bool A8 A inp inp m m c8 c W9 HLT HIN hl hl (by omega))
  rw [decide_eq_true (rfl : inp = inp)] at HEQ
  go_wp2_with fail
  refine HEQ.out.mono ?_
  rintro e W10 ⟨rfl, nq, rfl⟩
  clear HEQ
  have HIN' := Lib.hid (HIN.out.below (below_drewN W9 nq))
  clear HIN
  have HIN := HIN'
  clear HIN'
  have HW' := Lib.hid (bthen HW.out (below_drewN W9 nq))
  clear HW
  have HW := HW'
  clear HW'
  have H5' := Lib.hid (bkbel H5.out (below_drewN W9 nq))
  clear H5
  have H5 := H5'
  clear H5'
  have H6' := Lib.hid (bkbel H6.out (below_drewN W9 nq))
  clear H6
  have H6 := H6'
  clear H6'
  have HRES' := Lib.hid (HRES.out.below (below_drewN W9 nq))
  clear HRES
  have HRES := HRES'
  clear HRES'
  have HREF' := Lib.hid (HREF.out.below (below_drewN W9 nq))
  clear HREF
  have HREF := HREF'
  clear HREF'
  have HLT' := Lib.hid (HLT.out.below (below_drewN W9 nq))
  clear HLT
  have HLT := HLT'
  clear HLT'
  have HI' := Lib.hid (HI.out.below (below_drewN W9 nq))
  clear HI
  have HI := HI'
  clear HI'
  have HK' := Lib.hid (HK.out.below (below_drewN W9 nq))
  clear HK
  have HK := HK'
  clear HK'
  have H9' := Lib.hid (bkbel H9.out (below_drewN W9 nq))
  clear H9
  have H9 := H9'
  clear H9'
  generalize W9.drewN nq = WA at *
  cases rt with
  | false =>
    obtain rfl : er = 420 := by rw [← HE.out]; simp [errR, HRT.out]
    have hs : (⟨[], 0, []⟩ : Sch) = ⟨ins, pt, kp⟩ := by rw [← HS1.out, schedR, if_neg (by rw [hl.out, HE.out]; omega)]
    obtain rfl : [] = ins := congrArg Sch.ins hs
    obtain rfl : (0 : Int) = pt := congrArg Sch.pt hs
    obtain rfl : [] = kp := congrArg Sch.keep hs
    obtain rfl : bv = false := by rw [← HV.out, HE.out]; rfl
    obtain rfl : b1 = false := by rw [← HT1.out, HE.out]; rfl
    obtain rfl : b2 = false := by rw [← HT2.out, HE.out]; rfl
    obtain rfl : n1 = 0 := HN4.out.symm
    obtain rfl : n2 = 0 := HM4.out.symm
    clear hs
    obtain ⟨s0, s1, s2⟩ := cells3 H9.out
    go_wp2_with fail
    refine (sameC A1 A2 none none 0 0 c1 c2 0 0 [] 0 [] WA Rd.nil Rd.nil Rd.nil Rd.nil rfl rfl (by omega) (by omega) (fun x hx => by simp at hx)).mono ?_
    rintro e WB ⟨rfl, hbB⟩
    have HWB := Lib.hid (bthen HW.out hbB)
    clear hbB
    go_wp2
    go_ret
    exact ⟨rfl, HWB.out⟩
  | true =>
    have HRts := Lib.hid (Rts.of HRT.out)
    have HE2 : Hid (er = if m = (inputsOf R.G).length then 0 else 421) := by show _ = _; rw [← HE.out, errR, if_pos HRT.out]
    have HQ1 : Hid (qsched R inp = ⟨ins, pt, kp⟩) := by show _ = _; rw [← HS1.out]; exact qsched_eq HRT.out
    have HRG := Lib.hid (sched_range HRT.out HS1.out)
    have HBe : Hid (Below WA.heap.size WA WA) := Below.refl _ _
    have HXX := H6
    obtain ⟨q0, q1, q2, q3, q4, q5, q6, q7, q8, q9⟩ := (cells10 H6.out).1
    have hp6l : p5 + 1 < WA.heap.size := H6.out.lt
    have hnt : (70 : TypeId) ≠ 78 := by decide
    have HNT := Lib.hid hnt
    clear hnt
    have hni : (3 : TypeId) ≠ 78 := by decide
    have HNI := Lib.hid hni
    clear hni
    go_wp2_with fail
    go_cut [17, 18] (fun s17 s18 wx => ∃ (p c3 c4 : Nat) (A3 A4 : Option Addr), s17 = .pointer (some ⟨p, 0, none⟩) ∧ s18 = .int .i64 er ∧ Hid (Bk wx p 78 #[.slice A3 n1 c3, .int .i64 pt, .slice A4 n2 c4]) ∧ Hid (RdT wx A3 3 (ins.map (Value.int .i64))) ∧ Hid (RdT wx A4 3 ((kp.map bitI).map (Value.int .i64))) ∧ Hid (Below WA.heap.size WA wx))
    case first =>
      go_region_held3 (fun w' => w'.cell? ⟨p5 + 1, 0, none⟩ = some (.int .i64 400) ∧ w'.cell? ⟨p5 + 1, 1, none⟩ = some (.slice AN2 nN2 cN2) ∧ w'.cell? ⟨p5 + 1, 2, none⟩ = some (.slice AI2 nI2 cI2) ∧ w'.cell? ⟨p5 + 1, 3, none⟩ = some (.int .i64 R.req) ∧ w'.cell? ⟨p5 + 1, 4, none⟩ = some (.slice AO2 nO2 cO2) ∧ w'.cell? ⟨p5 + 1, 5, none⟩ = some (.slice AK2 nK2 cK2) ∧ w'.cell? ⟨p5 + 1, 6, none⟩ = some (.slice AC2 nC2 cC2) ∧ w'.cell? ⟨p5 + 1, 7, none⟩ = some (.slice AR2 nR2 cR2) ∧ w'.cell? ⟨p5 + 1, 8, none⟩ = some (.int .i64 R.bey) ∧ w'.cell? ⟨p5 + 1, 9, none⟩ = some (.int .i64 R.hol))
        ((refine (cells10 (t := 70) (v0 := .int .i64 400) (v1 := .slice AN2 nN2 cN2) (v2 := .slice AI2 nI2 cI2) (v3 := .int .i64 R.req) (v4 := .slice AO2 nO2 cO2) (v5 := .slice AK2 nK2 cK2) (v6 := .slice AC2 nC2 cC2) (v7 := .slice AR2 nR2 cR2) (v8 := .int .i64 R.bey) (v9 := .int .i64 R.hol) ?_).1 <;> (repeat (first | with_reducible exact HXX.out | with_reducible refine Bk.drew ?_ | with_reducible refine Bk.alloc ?_ _ | with_reducible refine Bk.far ?_ HNA.out _))))
        (first
          | (
            go_at_call 25
            with_reducible refine (ints_any A m c inp _ (Lib.hid (Rd.below HIN.out ?_)) hl (by omega)).mono ?_
            · (first | with_reducible exact HBe.out | with_reducible exact HBe.out.drew | with_reducible exact balloc HBe.out _ | with_reducible exact (balloc HBe.out _).drew)
            rintro e wI ⟨A5, c5, rfl, hoI, hbI⟩
            have HO5 := Lib.hid (Rd.of_own hoI)
            (first | with_reducible have HBn := Lib.hid (bthen HBe.out hbI) | with_reducible have HBn := Lib.hid (bthen HBe.out.drew hbI) | with_reducible have HBn := Lib.hid (bthen (balloc HBe.out _) hbI) | with_reducible have HBn := Lib.hid (bthen (balloc HBe.out _).drew hbI))
            (first | with_reducible have HXn := Lib.hid (bkbel HXX.out hbI) | with_reducible have HXn := Lib.hid (bkbel HXX.out.drew hbI) | with_reducible have HXn := Lib.hid (bkbel (HXX.out.alloc _) hbI) | with_reducible have HXn := Lib.hid (bkbel (HXX.out.alloc _).drew hbI))
            (first | with_reducible have HAI := Lib.hid (bkbel (Bk.new _ _ #[.slice none 0 0, .int .i64 0, .slice none 0 0]) hbI) | with_reducible have HAI := Lib.hid (bkbel (Bk.new _ _ #[.slice none 0 0, .int .i64 0, .slice none 0 0]).drew hbI) | skip)
            have hsI : WA.heap.size ≤ wI.heap.size := HBn.out.size
            clear HBe HXX hoI hbI
            have HBe := HBn
            have HXX := HXn
            clear HBn HXn)
          | (
            go_at_call 24
            with_reducible refine (read2 400 ⟨⟨AN2, nN2, cN2⟩, ⟨AI2, nI2, cI2⟩, S2, ⟨AO2, nO2, cO2⟩, ⟨AK2, nK2, cK2⟩, ⟨AC2, nC2, cC2⟩, ⟨AR2, nR2, cR2⟩⟩ R A5 m c5 inp ins pt kp er n1 n2 _ (Lib.hid (RefAt.below HREF.out ?_)) HRts (Lib.hid (Rd.below HO5.out ?_)) hl (by omega) HE2 HQ1 HN4 HM4).mono ?_
            · (first | with_reducible exact HBe.out | with_reducible exact balloc HBe.out _)
            · (first | with_reducible exact Below.refl _ _ | with_reducible exact balloc (Below.refl _ _) _)
            rintro e wQ ⟨A3, c3, A4, c4, rfl, hi3, hk3, hbQ⟩
            have HI3 := Lib.hid hi3; have HK3 := Lib.hid hk3
            (first | with_reducible have HBn := Lib.hid (bthen HBe.out hbQ) | with_reducible have HBn := Lib.hid (bthen (balloc HBe.out _) hbQ))
            (first | with_reducible have HXn := Lib.hid (bkbel HXX.out hbQ) | with_reducible have HXn := Lib.hid (bkbel (HXX.out.alloc _) hbQ))
            (first | with_reducible have HAQ := Lib.hid (bkbel HAI.out hbQ) | with_reducible have HAQ := Lib.hid (bkbel (Bk.new _ _ #[.slice none 0 0, .int .i64 0, .slice none 0 0]) hbQ) | skip)
            (first | (have hA3 := cells3 HAQ.out; have hF3 := frozen3 HAQ.out; have HNA := Lib.hid (Bk.ne HXn.out HAQ.out HNT.out); obtain ⟨a0, a1, a2⟩ := hA3; obtain ⟨z0, z1, z2⟩ := hF3) | skip)
            clear HBe HXX hi3 hk3 hbQ
            have HBe := HBn
            have HXX := HXn
            clear HBn HXn))
      all_goals
        go_wp2_with fail
        go_meet
        clear q0 q1 q2 q3 q4 q5 q6 q7 q8 q9
        first
          | (have hq := HAQ.out; refine ⟨_, c3, c4, A3, A4, rfl, rfl, ?_⟩; clear hq; exact ⟨Lib.hid (bk_put3 HAQ.out), Lib.hid (rdT_put3 HI3.out HAQ.out HNI.out), Lib.hid (rdT_put3 HK3.out HAQ.out HNI.out), Lib.hid (below_put3 HBe.out hsI)⟩)
          | (have hq := HAQ.out; refine ⟨_, c3, c4, A3, A4, rfl, rfl, ?_⟩; clear hq; exact ⟨Lib.hid (bk_put3 HAQ.out), Lib.hid (rdT_put3 HI3.out HAQ.out HNI.out), Lib.hid (rdT_put3 HK3.out HAQ.out HNI.out), Lib.hid (below_put3 HBe.out (Nat.le_refl _))⟩)
          | exact ⟨wQ.heap.size, c3, c4, A3, A4, rfl, rfl, Lib.hid (Bk.new _ _ _), Lib.hid (HI3.out.alloc _), Lib.hid (HK3.out.alloc _), Lib.hid (balloc HBe.out _)⟩
    case rest =>
      obtain ⟨p17, c3, c4, A3, A4, rfl, rfl, H17, HI3, HK3, HBx⟩ := hcut
      clear HBe HXX q0 q1 q2 q3 q4 q5 q6 q7 q8 q9 HNT HNI hp6l
      have HIN' := Lib.hid (HIN.out.below HBx.out)
      clear HIN
      have HIN := HIN'
      clear HIN'
      have HW' := Lib.hid (bthen HW.out HBx.out)
      clear HW
      have HW := HW'
      clear HW'
      have H5' := Lib.hid (bkbel H5.out HBx.out)
      clear H5
      have H5 := H5'
      clear H5'
      have H6' := Lib.hid (bkbel H6.out HBx.out)
      clear H6
      have H6 := H6'
      clear H6'
      have HRES' := Lib.hid (HRES.out.below HBx.out)
      clear HRES
      have HRES := HRES'
      clear HRES'
      have HREF' := Lib.hid (HREF.out.below HBx.out)
      clear HREF
      have HREF := HREF'
      clear HREF'
      have HLT' := Lib.hid (HLT.out.below HBx.out)
      clear HLT
      have HLT := HLT'
      clear HLT'
      have HI' := Lib.hid (HI.out.below HBx.out)
      clear HI
      have HI := HI'
      clear HI'
      have HK' := Lib.hid (HK.out.below HBx.out)
      clear HK
      have HK := HK'
      clear HK'
      have H9' := Lib.hid (bkbel H9.out HBx.out)
      clear H9
      have H9 := H9'
      clear H9'
      clear HBx
      obtain ⟨s0, s1, s2⟩ := cells3 H9.out
      obtain ⟨t0, t1, t2⟩ := cells3 H17.out
      go_wp2_with fail
      refine (sameC A1 A2 A3 A4 n1 n2 c1 c2 c3 c4 ins pt kp wc HI HK (Lib.hid HI3.out.rd) (Lib.hid HK3.out.rd) HN4 HM4 hle1 hle2 HRG).mono ?_
      rintro e WB ⟨rfl, hbB⟩
      clear s0 s1 s2 t0 t1 t2
      have HIN' := Lib.hid (HIN.out.below hbB)
      clear HIN
      have HIN := HIN'
      clear HIN'
      have HW' := Lib.hid (bthen HW.out hbB)
      clear HW
      have HW := HW'
      clear HW'
      have H5' := Lib.hid (bkbel H5.out hbB)
      clear H5
      have H5 := H5'
      clear H5'
      have H6' := Lib.hid (bkbel H6.out hbB)
      clear H6
      have H6 := H6'
      clear H6'
      have HRES' := Lib.hid (HRES.out.below hbB)
      clear HRES
      have HRES := HRES'
      clear HRES'
      have HREF' := Lib.hid (HREF.out.below hbB)
      clear HREF
      have HREF := HREF'
      clear HREF'
      have HLT' := Lib.hid (HLT.out.below hbB)
      clear HLT
      have HLT := HLT'
      clear HLT'
      have HI' := Lib.hid (HI.out.below hbB)
      clear HI
      have HI := HI'
      clear HI'
      have HK' := Lib.hid (HK.out.below hbB)
      clear HK
      have HK := HK'
      clear HK'
      have H9' := Lib.hid (bkbel H9.out hbB)
      clear H9
      have H9 := H9'
      clear H9'
      have H17' := Lib.hid (bkbel H17.out hbB)
      clear H17
      have H17 := H17'
      clear H17'
      have HI3' := Lib.hid (HI3.out.below hbB)
      clear HI3
      have HI3 := HI3'
      clear HI3'
      have HK3' := Lib.hid (HK3.out.below hbB)
      clear HK3
      have HK3 := HK3'
      clear HK3'
      clear hbB
      by_cases hmi : m = (inputsOf R.G).length
      rotate_left
      · obtain rfl : er = 421 := by rw [HE2.out, if_neg hmi]
        obtain rfl : bv = false := by rw [← HV.out, HE.out]; rfl
        obtain rfl : b1 = false := by rw [← HT1.out, HE.out]; rfl
        obtain rfl : b2 = false := by rw [← HT2.out, HE.out]; rfl
        clear hmi
        go_wp2
        go_ret
        exact ⟨rfl, HW.out⟩
      obtain rfl : er = 0 := by rw [HE2.out, if_pos hmi]
      have HMI := Lib.hid hmi
      clear hmi
      have HV2 : Hid (validR R inp = bv) := by show _ = _; rw [← HV.out, HE.out]; simp
      have HB12 : Hid (valR (evalG R.G inp) R.bey = b1) := by show _ = _; rw [← HT1.out, HE.out]; simp
      have HB22 : Hid (valR (evalG R.G inp) R.hol = b2) := by show _ = _; rw [← HT2.out, HE.out]; simp
      go_wp2_with fail
      have HBe : Hid (Below WB.heap.size WB WB) := Below.refl _ _
      have HXX := H6
      obtain ⟨q0, q1, q2, q3, q4, q5, q6, q7, q8, q9⟩ := (cells10 H6.out).1
      go_region_held3 (fun w' => w'.cell? ⟨p5 + 1, 0, none⟩ = some (.int .i64 400) ∧ w'.cell? ⟨p5 + 1, 1, none⟩ = some (.slice AN2 nN2 cN2) ∧ w'.cell? ⟨p5 + 1, 2, none⟩ = some (.slice AI2 nI2 cI2) ∧ w'.cell? ⟨p5 + 1, 3, none⟩ = some (.int .i64 R.req) ∧ w'.cell? ⟨p5 + 1, 4, none⟩ = some (.slice AO2 nO2 cO2) ∧ w'.cell? ⟨p5 + 1, 5, none⟩ = some (.slice AK2 nK2 cK2) ∧ w'.cell? ⟨p5 + 1, 6, none⟩ = some (.slice AC2 nC2 cC2) ∧ w'.cell? ⟨p5 + 1, 7, none⟩ = some (.slice AR2 nR2 cR2) ∧ w'.cell? ⟨p5 + 1, 8, none⟩ = some (.int .i64 R.bey) ∧ w'.cell? ⟨p5 + 1, 9, none⟩ = some (.int .i64 R.hol))
        ((refine (cells10 (t := 70) (v0 := .int .i64 400) (v1 := .slice AN2 nN2 cN2) (v2 := .slice AI2 nI2 cI2) (v3 := .int .i64 R.req) (v4 := .slice AO2 nO2 cO2) (v5 := .slice AK2 nK2 cK2) (v6 := .slice AC2 nC2 cC2) (v7 := .slice AR2 nR2 cR2) (v8 := .int .i64 R.bey) (v9 := .int .i64 R.hol) ?_).1 <;> (repeat (first | with_reducible exact HXX.out | with_reducible refine Bk.drew ?_))))
        (first
          | (
            go_at_call 25
            with_reducible refine (ints_any A m c inp _ (Lib.hid (Rd.drew HIN.out)) hl (by omega)).mono ?_
            rintro e wI ⟨A5, c5, rfl, hoI, hbI⟩
            have HO5 := Lib.hid (Rd.of_own hoI)
            have HBn := Lib.hid (bthen HBe.out.drew hbI)
            have HXn := Lib.hid (bkbel HXX.out.drew hbI)
            clear HBe HXX hoI hbI
            have HBe := HBn
            have HXX := HXn
            clear HBn HXn)
          | (
            go_at_call 26
            with_reducible refine (tellsR2 400 ⟨⟨AN2, nN2, cN2⟩, ⟨AI2, nI2, cI2⟩, S2, ⟨AO2, nO2, cO2⟩, ⟨AK2, nK2, cK2⟩, ⟨AC2, nC2, cC2⟩, ⟨AR2, nR2, cR2⟩⟩ R A5 m c5 inp b1 b2 HB12 HB22 wI (Lib.hid (RefAt.below HREF.out HBe.out)) HRts HO5 hl HMI (by omega)).mono ?_
            rintro e wT ⟨rfl, hbT⟩
            have HBn := Lib.hid (bthen HBe.out hbT)
            have HXn := Lib.hid (bkbel HXX.out hbT)
            clear HBe HXX hbT
            have HBe := HBn
            have HXX := HXn
            clear HBn HXn))
      clear q0 q1 q2 q3 q4 q5 q6 q7 q8 q9 HXX HO5
      have HIN' := Lib.hid (HIN.out.below HBe.out)
      clear HIN
      have HIN := HIN'
      clear HIN'
      have HW' := Lib.hid (bthen HW.out HBe.out)
      clear HW
      have HW := HW'
      clear HW'
      have H5' := Lib.hid (bkbel H5.out HBe.out)
      clear H5
      have H5 := H5'
      clear H5'
      have H6' := Lib.hid (bkbel H6.out HBe.out)
      clear H6
      have H6 := H6'
      clear H6'
      have HRES' := Lib.hid (HRES.out.below HBe.out)
      clear HRES
      have HRES := HRES'
      clear HRES'
      have HREF' := Lib.hid (HREF.out.below HBe.out)
      clear HREF
      have HREF := HREF'
      clear HREF'
      have HLT' := Lib.hid (HLT.out.below HBe.out)
      clear HLT
      have HLT := HLT'
      clear HLT'
      have HI' := Lib.hid (HI.out.below HBe.out)
      clear HI
      have HI := HI'
      clear HI'
      have HK' := Lib.hid (HK.out.below HBe.out)
      clear HK
      have HK := HK'
      clear HK'
      have H9' := Lib.hid (bkbel H9.out HBe.out)
      clear H9
      have H9 := H9'
      clear H9'
      have H17' := Lib.hid (bkbel H17.out HBe.out)
      clear H17
      have H17 := H17'
      clear H17'
      have HI3' := Lib.hid (HI3.out.below HBe.out)
      clear HI3
      have HI3 := HI3'
      clear HI3'
      have HK3' := Lib.hid (HK3.out.below HBe.out)
      clear HK3
      have HK3 := HK3'
      clear HK3'
      clear HBe
      generalize wT = WC at *
      have hv0 : (bitI bv == 1) = bv := by cases bv <;> rfl
      have hv1 : (bitI b1 == 1) = b1 := by cases b1 <;> rfl
      have hv2 : (bitI b2 == 1) = b2 := by cases b2 <;> rfl
      have hw0 : (bv == bv) = true := by cases bv <;> rfl
      have hw1 : (b1 == b1) = true := by cases b1 <;> rfl
      have hw2 : (b2 == b2) = true := by cases b2 <;> rfl
      go_wp2_with fail
      generalize WC = WB at *
      have HBe : Hid (Below WB.heap.size WB WB) := Below.refl _ _
      have HXX := H6
      obtain ⟨q0, q1, q2, q3, q4, q5, q6, q7, q8, q9⟩ := (cells10 H6.out).1
      go_region_held3 (fun w' => w'.cell? ⟨p5 + 1, 0, none⟩ = some (.int .i64 400) ∧ w'.cell? ⟨p5 + 1, 1, none⟩ = some (.slice AN2 nN2 cN2) ∧ w'.cell? ⟨p5 + 1, 2, none⟩ = some (.slice AI2 nI2 cI2) ∧ w'.cell? ⟨p5 + 1, 3, none⟩ = some (.int .i64 R.req) ∧ w'.cell? ⟨p5 + 1, 4, none⟩ = some (.slice AO2 nO2 cO2) ∧ w'.cell? ⟨p5 + 1, 5, none⟩ = some (.slice AK2 nK2 cK2) ∧ w'.cell? ⟨p5 + 1, 6, none⟩ = some (.slice AC2 nC2 cC2) ∧ w'.cell? ⟨p5 + 1, 7, none⟩ = some (.slice AR2 nR2 cR2) ∧ w'.cell? ⟨p5 + 1, 8, none⟩ = some (.int .i64 R.bey) ∧ w'.cell? ⟨p5 + 1, 9, none⟩ = some (.int .i64 R.hol))
        ((refine (cells10 (t := 70) (v0 := .int .i64 400) (v1 := .slice AN2 nN2 cN2) (v2 := .slice AI2 nI2 cI2) (v3 := .int .i64 R.req) (v4 := .slice AO2 nO2 cO2) (v5 := .slice AK2 nK2 cK2) (v6 := .slice AC2 nC2 cC2) (v7 := .slice AR2 nR2 cR2) (v8 := .int .i64 R.bey) (v9 := .int .i64 R.hol) ?_).1 <;> (repeat (first | with_reducible exact HXX.out | with_reducible refine Bk.drew ?_))))
        (first
          | (
            go_at_call 25
            with_reducible refine (ints_any A m c inp _ (Lib.hid (Rd.drew HIN.out)) hl (by omega)).mono ?_
            rintro e wI ⟨A5, c5, rfl, hoI, hbI⟩
            have HO5 := Lib.hid (Rd.of_own hoI)
            have HBn := Lib.hid (bthen HBe.out.drew hbI)
            have HXn := Lib.hid (bkbel HXX.out.drew hbI)
            clear HBe HXX hoI hbI
            have HBe := HBn
            have HXX := HXn
            clear HBn HXn)
          | (
            go_at_call 27
            with_reducible refine (validR2 400 ⟨⟨AN2, nN2, cN2⟩, ⟨AI2, nI2, cI2⟩, S2, ⟨AO2, nO2, cO2⟩, ⟨AK2, nK2, cK2⟩, ⟨AC2, nC2, cC2⟩, ⟨AR2, nR2, cR2⟩⟩ R A5 m c5 inp bv HV2 wI (Lib.hid (RefAt.below HREF.out HBe.out)) HRts HO5 hl HMI (by omega)).mono ?_
            rintro e wT ⟨rfl, hbT⟩
            have HBn := Lib.hid (bthen HBe.out hbT)
            have HXn := Lib.hid (bkbel HXX.out hbT)
            clear HBe HXX hbT
            have HBe := HBn
            have HXX := HXn
            clear HBn HXn))
      clear q0 q1 q2 q3 q4 q5 q6 q7 q8 q9 HXX HO5
      go_wp2
      go_ret
      exact ⟨rfl, bthen HW.out HBe.out⟩
end Go.Proofs.Ytamoniljgifggaa
