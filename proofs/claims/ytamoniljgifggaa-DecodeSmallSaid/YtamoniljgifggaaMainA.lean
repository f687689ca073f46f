/-
  Contract of salvorlaw42.assigns (written by gen/assigns.py). The walk of salvorlaw42.DecodeAssigns (written by gen/maina.py).
-/
import Derived.Test.YtamoniljgifggaaRAssign
import Derived.Test.YtamoniljgifggaaTse
import Derived.Deep.DeepCutAuto
import Derived.Deep.RegionHeld3
import Derived.Test.YtamoniljgifggaaAwake
import Derived.Test.YtamoniljgifggaaFew
set_option linter.unusedVariables false
set_option linter.unusedSimpArgs false
namespace Go.Proofs.Ytamoniljgifggaa
open Go.RowKit

theorem assign2 (B : Nat) (M : Int) (x : RV) (R : Res) (sA : Option Addr) (nS cS : Nat) (sin : List Int) (pt : Int) (kA : Option Addr) (nk ck : Nat) (kp : List Bool) (al : List Bool) (ae : Int) (w : World) (h : Hid (ResAt w B M x R)) (hS : Hid (Rd w sA (sin.map (Value.int .u32)))) (hSl : Hid (sin.length = nS)) (hSu : Hid (∀ v ∈ sin, U32 v)) (hK : Hid (Rd w kA (kp.map Value.bool))) (hKl : Hid (kp.length = nk)) (hnS : nS ≤ 100000) (hnk : nk ≤ 100000) (hpt : I64 pt) (HA : Hid (assignR R sin pt kp = (al, ae))) :
    Calls Try.prog 12 #[.agg #[.pointer (some ⟨x.g, 0, none⟩), .slice x.I.A x.I.n x.I.c, .int .i64 R.req, .slice x.O.A x.O.n x.O.c, .slice x.K.A x.K.n x.K.c, .slice x.C.A x.C.n x.C.c, .slice x.R.A x.R.n x.R.c, .int .i64 R.bey, .int .i64 R.hol], .agg #[.slice sA nS cS, .int .i64 pt, .slice kA nk ck]] w fun e w' => ∃ A n c, e = .returned (.tuple #[.slice A n c, .int .i64 ae]) ∧ Rd w' A (al.map Value.bool) ∧ al.length = n ∧ n ≤ 100000 ∧ Below w.heap.size w w' := by
  have h1 := decAssign B M x R sA nS cS sin pt kA nk ck kp w h hS hSl hSu hK hKl hnS hnk hpt
  rw [HA.out] at h1
  exact h1
theorem model2 (B : Nat) (M : Int) (x : RV) (R : Res) (A : Option Addr) (n c : Nat) (m : List Int) (A2 : Option Addr) (n2 c2 : Nat) (model : List Bool) (mi : List Int) (mp : Int) (mk : List Bool) (me : Int) (w : World) (h : Hid (ResAt w B M x R)) (hr : Hid (Rd w A (m.map (Value.int .i64)))) (hl : Hid (m.length = n)) (hn : n ≤ 100000) (hr2 : Hid (Rd w A2 (model.map Value.bool))) (hl2 : Hid (model.length = n2)) (hn2 : n2 ≤ 100000) (HS : Hid (modS R m model = ⟨mi, mp, mk⟩)) (HE : Hid (modErr R m n2 = me)) :
    Calls Try.prog 13 #[.agg #[.pointer (some ⟨x.g, 0, none⟩), .slice x.I.A x.I.n x.I.c, .int .i64 R.req, .slice x.O.A x.O.n x.O.c, .slice x.K.A x.K.n x.K.c, .slice x.C.A x.C.n x.C.c, .slice x.R.A x.R.n x.R.c, .int .i64 R.bey, .int .i64 R.hol], .slice A n c, .slice A2 n2 c2] w fun e w' => ∃ (sI sK : SV), e = .returned (.tuple #[.agg #[.slice sI.A sI.n sI.c, .int .i64 mp, .slice sK.A sK.n sK.c], .int .i64 me]) ∧ Rd w' sI.A (mi.map (Value.int .u32)) ∧ mi.length = sI.n ∧ Rd w' sK.A (mk.map Value.bool) ∧ mk.length = sK.n ∧ sI.n ≤ 100000 ∧ sK.n ≤ 100000 ∧ Below w.heap.size w w' := by
  have h1 := decModel B M x R A n c m A2 n2 c2 model w h hr hl hn hr2 hl2 hn2
  rw [HS.out, HE.out] at h1
  exact h1
theorem rassign2 (M : Int) (y : QV) (R : Res) (sA : Option Addr) (nS cS : Nat) (sin : List Int) (pt : Int) (kA : Option Addr) (nk ck : Nat) (kp : List Bool) (al : List Bool) (ae : Int) (w : World) (h : Hid (RefAt w y R)) (hRT : Hid (rightR R = true)) (hS : Hid (Rd w sA (sin.map (Value.int .i64)))) (hSl : Hid (sin.length = nS)) (hSu : Hid (∀ v ∈ sin, U32 v)) (hK : Hid (Rd w kA ((kp.map bitI).map (Value.int .i64)))) (hKl : Hid (kp.length = nk)) (hnS : nS ≤ 100000) (hnk : nk ≤ 100000) (hpt : I64 pt) (HA : Hid (assignR R sin pt kp = (al, ae))) :
    Calls Try.prog 35 #[.agg #[.int .i64 M, .slice y.N.A y.N.n y.N.c, .slice y.I.A y.I.n y.I.c, .int .i64 R.req, .slice y.O.A y.O.n y.O.c, .slice y.K.A y.K.n y.K.c, .slice y.C.A y.C.n y.C.c, .slice y.R.A y.R.n y.R.c, .int .i64 R.bey, .int .i64 R.hol], .agg #[.slice sA nS cS, .int .i64 pt, .slice kA nk ck]] w fun e w' => ∃ A n c, e = .returned (.tuple #[.slice A n c, .int .i64 ae]) ∧ Rd w' A ((al.map bitI).map (Value.int .i64)) ∧ al.length = n ∧ n ≤ 100000 ∧ Below w.heap.size w w' := by
  have h1 := refAssign M y R sA nS cS sin pt kA nk ck kp w h hRT hS hSl hSu hK hKl hnS hnk hpt
  rw [HA.out] at h1
  exact h1
theorem rmodel2 (M : Int) (y : QV) (R : Res) (A : Option Addr) (n c : Nat) (m : List Int) (A2 : Option Addr) (n2 c2 : Nat) (model : List Bool) (mi : List Int) (mp : Int) (mk : List Bool) (me : Int) (k1 k2 : Nat) (w : World) (h : Hid (RefAt w y R)) (hRT : Hid (rightR R = true)) (hr : Hid (Rd w A (m.map (Value.int .i64)))) (hl : Hid (m.length = n)) (hn : n ≤ 100000) (hr2 : Hid (Rd w A2 ((model.map bitI).map (Value.int .i64)))) (hl2 : Hid (model.length = n2)) (hn2 : n2 ≤ 100000) (HS : Hid (modS R m model = ⟨mi, mp, mk⟩)) (HE : Hid (modErr R m n2 = me)) (h1 : Hid (mi.length = k1)) (h2 : Hid (mk.length = k2)) :
    Calls Try.prog 36 #[.agg #[.int .i64 M, .slice y.N.A y.N.n y.N.c, .slice y.I.A y.I.n y.I.c, .int .i64 R.req, .slice y.O.A y.O.n y.O.c, .slice y.K.A y.K.n y.K.c, .slice y.C.A y.C.n y.C.c, .slice y.R.A y.R.n y.R.c, .int .i64 R.bey, .int .i64 R.hol], .slice A n c, .slice A2 n2 c2] w fun e w' => ∃ (A3 : Option Addr) (c3 : Nat) (A4 : Option Addr) (c4 : Nat), e = .returned (.tuple #[.agg #[.slice A3 k1 c3, .int .i64 mp, .slice A4 k2 c4], .int .i64 me]) ∧ RdT w' A3 3 (mi.map (Value.int .i64)) ∧ RdT w' A4 3 ((mk.map bitI).map (Value.int .i64)) ∧ Below w.heap.size w w' := by
  have h3 := refModel M y R A n c m A2 n2 c2 model w h hRT hr hl hn hr2 hl2 hn2
  rw [HS.out, HE.out] at h3
  refine h3.mono ?_
  rintro e w' ⟨⟨A3, n3, c3⟩, ⟨A4, n4, c4⟩, rfl, hi, hn, hk, hkn, _, _, hb⟩
  dsimp only at hi hn hk hkn ⊢
  obtain rfl : k1 = n3 := h1.out.symm.trans hn
  obtain rfl : k2 = n4 := h2.out.symm.trans hkn
  exact ⟨A3, c3, A4, c4, rfl, hi, hk, hb⟩
theorem mod_range {R : Res} {m : List Int} {model : List Bool} {ins : List Int} {pt : Int} {kp : List Bool} (h : rightR R = true) (hs : modS R m model = ⟨ins, pt, kp⟩) : ∀ x ∈ ins, 0 ≤ x ∧ x ≤ 65535 := by
  unfold modS at hs
  split at hs
  · exact sched_range h hs
  · intro x hx
    have hi : [] = ins := congrArg Sch.ins hs
    rw [← hi] at hx
    cases hx

set_option maxHeartbeats 8000000 in
set_option maxRecDepth 100000 in
theorem assigns (v : RawV) (x : RawP) (A1 : Option Addr) (n1 c1 : Nat) (sin : List Int) (pt : Int) (A2 : Option Addr) (n2 c2 : Nat) (kp : List Bool) (A3 : Option Addr) (n3 c3 : Nat) (m : List Int) (A4 : Option Addr) (n4 c4 : Nat) (model : List Bool) (w : World) (h : Hid (RawAt w v x)) (hr1 : Hid (Rd w A1 (sin.map (Value.int .u32)))) (hl1 : Hid (sin.length = n1)) (hu1 : Hid (∀ v ∈ sin, U32 v)) (hn1 : n1 ≤ 30) (hpt : I64 pt) (hr2 : Hid (Rd w A2 (kp.map Value.bool))) (hl2 : Hid (kp.length = n2)) (hn2 : n2 ≤ 30) (hr3 : Hid (Rd w A3 (m.map (Value.int .i64)))) (hl3 : Hid (m.length = n3)) (hn3 : n3 ≤ 60) (hr4 : Hid (Rd w A4 (model.map Value.bool))) (hl4 : Hid (model.length = n4)) (hn4 : n4 ≤ 60) :
    Calls Try.prog 9 #[.agg #[.int .u8 x.inp, .slice v.A.A v.A.n v.A.c, .slice v.W.A v.W.n v.W.c, .slice v.O.A v.O.n v.O.c, .slice v.K.A v.K.n v.K.c, .slice v.C.A v.C.n v.C.c, .slice v.R.A v.R.n v.R.c, .int .i64 x.req, .int .i64 x.bey, .int .i64 x.hol], .slice A1 n1 c1, .int .i64 pt, .slice A2 n2 c2, .slice A3 n3 c3, .slice A4 n4 c4] w fun e w' => e = .returned (.bool true) ∧ Below w.heap.size w w' := by
  obtain ⟨⟨AA, nA, cA⟩, ⟨AW, nW, cW⟩, S, ⟨AO, nO, cO⟩, ⟨AK, nK, cK⟩, ⟨AC, nC, cC⟩, ⟨AR, nR, cR⟩⟩ := v
  obtain ⟨inp0, ands, words, ops, keep, cached, rules, req, bey, hol⟩ := x
  dsimp only
  have HPT := Lib.hid hpt
  clear hpt
  have HW : Hid (Below w.heap.size w (w.alloc (.cells #[.int .u8 inp0, .slice AA nA cA, .slice AW nW cW, .slice AO nO cO, .slice AK nK cK, .slice AC nC cC, .slice AR nR cR, .int .i64 req, .int .i64 bey, .int .i64 hol] 27))) := (Below.refl _ w).alloc (Nat.le_refl _) _
  go_enter Try.func9, Try.ntmps9
  go_wp2_with fail
  generalize (w.alloc (.cells #[.int .u8 inp0, .slice AA nA cA, .slice AW nW cW, .slice AO nO cO, .slice AK nK cK, .slice AC nC cC, .slice AR nR cR, .int .i64 req, .int .i64 bey, .int .i64 hol] 27)) = W0 at *
  have HBD := build2 ⟨⟨AA, nA, cA⟩, ⟨AW, nW, cW⟩, S, ⟨AO, nO, cO⟩, ⟨AK, nK, cK⟩, ⟨AC, nC, cC⟩, ⟨AR, nR, cR⟩⟩ ⟨inp0, ands, words, ops, keep, cached, rules, req, bey, hol⟩ W0 (Lib.hid (h.out.below HW.out))
  dsimp only at HBD
  refine HBD.mono ?_
  clear HBD
  rintro e W1 ⟨B, z, y, R, rfl, hres, href, hb1⟩
  obtain ⟨g, ⟨AI1, nI1, cI1⟩, S1, ⟨AO1, nO1, cO1⟩, ⟨AK1, nK1, cK1⟩, ⟨AC1, nC1, cC1⟩, ⟨AR1, nR1, cR1⟩⟩ := z
  obtain ⟨⟨AN2, nN2, cN2⟩, ⟨AI2, nI2, cI2⟩, S2, ⟨AO2, nO2, cO2⟩, ⟨AK2, nK2, cK2⟩, ⟨AC2, nC2, cC2⟩, ⟨AR2, nR2, cR2⟩⟩ := y
  dsimp only
  obtain ⟨rt, hrt⟩ : ∃ rt, rightR R = rt := ⟨_, rfl⟩
  obtain ⟨⟨al, ae⟩, hasg⟩ : ∃ p, assignR R sin pt kp = p := ⟨_, rfl⟩
  obtain ⟨⟨mi, mp, mk⟩, hms⟩ : ∃ s, modS R m model = s := ⟨_, rfl⟩
  obtain ⟨me, hme⟩ : ∃ e, modErr R m n4 = e := ⟨_, rfl⟩
  have HRT := Lib.hid hrt; have HASG := Lib.hid hasg; have HMS := Lib.hid hms; have HME := Lib.hid hme
  clear hrt hasg hms hme
  have HI1 := Lib.hid (hr1.out.below HW.out)
  have HI2 := Lib.hid (hr2.out.below HW.out)
  have HI3 := Lib.hid (hr3.out.below HW.out)
  have HI4 := Lib.hid (hr4.out.below HW.out)
  have H5 := Lib.hid ((Bk.new W1 49 #[.pointer (some ⟨g, 0, none⟩), .slice AI1 nI1 cI1, .int .i64 R.req, .slice AO1 nO1 cO1, .slice AK1 nK1 cK1, .slice AC1 nC1 cC1, .slice AR1 nR1 cR1, .int .i64 R.bey, .int .i64 R.hol]).alloc (.cells #[.int .i64 400, .slice AN2 nN2 cN2, .slice AI2 nI2 cI2, .int .i64 R.req, .slice AO2 nO2 cO2, .slice AK2 nK2 cK2, .slice AC2 nC2 cC2, .slice AR2 nR2 cR2, .int .i64 R.bey, .int .i64 R.hol] 70))
  have h6 := Bk.new (W1.alloc (.cells #[.pointer (some ⟨g, 0, none⟩), .slice AI1 nI1 cI1, .int .i64 R.req, .slice AO1 nO1 cO1, .slice AK1 nK1 cK1, .slice AC1 nC1 cC1, .slice AR1 nR1 cR1, .int .i64 R.bey, .int .i64 R.hol] 49)) 70 #[.int .i64 400, .slice AN2 nN2 cN2, .slice AI2 nI2 cI2, .int .i64 R.req, .slice AO2 nO2 cO2, .slice AK2 nK2 cK2, .slice AC2 nC2 cC2, .slice AR2 nR2 cR2, .int .i64 R.bey, .int .i64 R.hol]
  rw [World.size_alloc] at h6
  have H6 := Lib.hid h6
  have HBa : Hid (Below W1.heap.size W1 ((W1.alloc (.cells #[.pointer (some ⟨g, 0, none⟩), .slice AI1 nI1 cI1, .int .i64 R.req, .slice AO1 nO1 cO1, .slice AK1 nK1 cK1, .slice AC1 nC1 cC1, .slice AR1 nR1 cR1, .int .i64 R.bey, .int .i64 R.hol] 49)).alloc (.cells #[.int .i64 400, .slice AN2 nN2 cN2, .slice AI2 nI2 cI2, .int .i64 R.req, .slice AO2 nO2 cO2, .slice AK2 nK2 cK2, .slice AC2 nC2 cC2, .slice AR2 nR2 cR2, .int .i64 R.bey, .int .i64 R.hol] 70))) := balloc (balloc (Below.refl _ _) _) _
  have HRES := Lib.hid (hres.below HBa.out)
  have HREF := Lib.hid (href.below HBa.out)
  have HB1 := Lib.hid (bthen hb1 HBa.out)
  clear h6 hres href hb1 HBa h hr1 hr2 hr3 hr4
  go_wp2_with fail
  generalize ((W1.alloc (.cells #[.pointer (some ⟨g, 0, none⟩), .slice AI1 nI1 cI1, .int .i64 R.req, .slice AO1 nO1 cO1, .slice AK1 nK1 cK1, .slice AC1 nC1 cC1, .slice AR1 nR1 cR1, .int .i64 R.bey, .int .i64 R.hol] 49)).alloc (.cells #[.int .i64 400, .slice AN2 nN2 cN2, .slice AI2 nI2 cI2, .int .i64 R.req, .slice AO2 nO2 cO2, .slice AK2 nK2 cK2, .slice AC2 nC2 cC2, .slice AR2 nR2 cR2, .int .i64 R.bey, .int .i64 R.hol] 70)) = W2 at *
  obtain ⟨p5, hp5⟩ : ∃ p, W1.heap.size = p := ⟨_, rfl⟩
  rw [hp5] at H5 H6 ⊢
  clear hp5
  have HW' := Lib.hid (bthen HW.out HB1.out)
  clear HW
  have HW := HW'
  clear HW'
  have HI1' := Lib.hid (HI1.out.below HB1.out)
  clear HI1
  have HI1 := HI1'
  clear HI1'
  have HI2' := Lib.hid (HI2.out.below HB1.out)
  clear HI2
  have HI2 := HI2'
  clear HI2'
  have HI3' := Lib.hid (HI3.out.below HB1.out)
  clear HI3
  have HI3 := HI3'
  clear HI3'
  have HI4' := Lib.hid (HI4.out.below HB1.out)
  clear HI4
  have HI4 := HI4'
  clear HI4'
  clear HB1
  refine (clone_word A1 n1 c1 (sin.map (Value.int .u32)) W2 HI1 (by show _ = _; rw [List.length_map]; exact hl1.out) (one_int id .u32 _) (by omega)).mono ?_
  rintro e W3 ⟨A5, c5, rfl, ho, hb⟩
  have HC1 := Lib.hid (Rd.of_own ho)
  have HW' := Lib.hid (bthen HW.out hb)
  clear HW
  have HW := HW'
  clear HW'
  have HI1' := Lib.hid (HI1.out.below hb)
  clear HI1
  have HI1 := HI1'
  clear HI1'
  have HI2' := Lib.hid (HI2.out.below hb)
  clear HI2
  have HI2 := HI2'
  clear HI2'
  have HI3' := Lib.hid (HI3.out.below hb)
  clear HI3
  have HI3 := HI3'
  clear HI3'
  have HI4' := Lib.hid (HI4.out.below hb)
  clear HI4
  have HI4 := HI4'
  clear HI4'
  have H5' := Lib.hid (bkbel H5.out hb)
  clear H5
  have H5 := H5'
  clear H5'
  have H6' := Lib.hid (bkbel H6.out hb)
  clear H6
  have H6 := H6'
  clear H6'
  have HRES' := Lib.hid (HRES.out.below hb)
  clear HRES
  have HRES := HRES'
  clear HRES'
  have HREF' := Lib.hid (HREF.out.below hb)
  clear HREF
  have HREF := HREF'
  clear HREF'
  clear ho hb
  go_wp2_with fail
  refine (clone_bool A2 n2 c2 (kp.map Value.bool) W3 HI2 (by show _ = _; rw [List.length_map]; exact hl2.out) (one_bools _) (by omega)).mono ?_
  rintro e W4 ⟨A6, c6, rfl, ho, hb⟩
  have HC2 := Lib.hid (Rd.of_own ho)
  have HW' := Lib.hid (bthen HW.out hb)
  clear HW
  have HW := HW'
  clear HW'
  have HI1' := Lib.hid (HI1.out.below hb)
  clear HI1
  have HI1 := HI1'
  clear HI1'
  have HI2' := Lib.hid (HI2.out.below hb)
  clear HI2
  have HI2 := HI2'
  clear HI2'
  have HI3' := Lib.hid (HI3.out.below hb)
  clear HI3
  have HI3 := HI3'
  clear HI3'
  have HI4' := Lib.hid (HI4.out.below hb)
  clear HI4
  have HI4 := HI4'
  clear HI4'
  have H5' := Lib.hid (bkbel H5.out hb)
  clear H5
  have H5 := H5'
  clear H5'
  have H6' := Lib.hid (bkbel H6.out hb)
  clear H6
  have H6 := H6'
  clear H6'
  have HRES' := Lib.hid (HRES.out.below hb)
  clear HRES
  have HRES := HRES'
  clear HRES'
  have HREF' := Lib.hid (HREF.out.below hb)
  clear HREF
  have HREF := HREF'
  clear HREF'
  have HC1' := Lib.hid (HC1.out.below hb)
  clear HC1
  have HC1 := HC1'
  clear HC1'
  clear ho hb
  go_wp2_with fail
  have H16 := Lib.hid (Bk.new W4 51 #[.slice A5 n1 c5, .int .i64 pt, .slice A6 n2 c6])
  have HBb : Hid (Below W4.heap.size W4 (W4.alloc (.cells #[.slice A5 n1 c5, .int .i64 pt, .slice A6 n2 c6] 51))) := balloc (Below.refl _ _) _
  have HW' := Lib.hid (bthen HW.out HBb.out)
  clear HW
  have HW := HW'
  clear HW'
  have HI1' := Lib.hid (HI1.out.below HBb.out)
  clear HI1
  have HI1 := HI1'
  clear HI1'
  have HI2' := Lib.hid (HI2.out.below HBb.out)
  clear HI2
  have HI2 := HI2'
  clear HI2'
  have HI3' := Lib.hid (HI3.out.below HBb.out)
  clear HI3
  have HI3 := HI3'
  clear HI3'
  have HI4' := Lib.hid (HI4.out.below HBb.out)
  clear HI4
  have HI4 := HI4'
  clear HI4'
  have H5' := Lib.hid (bkbel H5.out HBb.out)
  clear H5
  have H5 := H5'
  clear H5'
  have H6' := Lib.hid (bkbel H6.out HBb.out)
  clear H6
  have H6 := H6'
  clear H6'
  have HRES' := Lib.hid (HRES.out.below HBb.out)
  clear HRES
  have HRES := HRES'
  clear HRES'
  have HREF' := Lib.hid (HREF.out.below HBb.out)
  clear HREF
  have HREF := HREF'
  clear HREF'
  have HC1' := Lib.hid (HC1.out.below HBb.out)
  clear HC1
  have HC1 := HC1'
  clear HC1'
  have HC2' := Lib.hid (HC2.out.below HBb.out)
  clear HC2
  have HC2 := HC2'
  clear HC2'
  clear HBb
  generalize (W4.alloc (.cells #[.slice A5 n1 c5, .int .i64 pt, .slice A6 n2 c6] 51)) = W5 at *
  obtain ⟨p16, hp16⟩ : ∃ p, W4.heap.size = p := ⟨_, rfl⟩
  rw [hp16] at H16 ⊢
  clear hp16
  refine (clone_int A3 n3 c3 (m.map (Value.int .i64)) W5 HI3 (by show _ = _; rw [List.length_map]; exact hl3.out) (one_ints .i64 _) (by omega)).mono ?_
  rintro e W6 ⟨A7, c7, rfl, ho, hb⟩
  have HC3 := Lib.hid (Rd.of_own ho)
  have HW' := Lib.hid (bthen HW.out hb)
  clear HW
  have HW := HW'
  clear HW'
  have HI1' := Lib.hid (HI1.out.below hb)
  clear HI1
  have HI1 := HI1'
  clear HI1'
  have HI2' := Lib.hid (HI2.out.below hb)
  clear HI2
  have HI2 := HI2'
  clear HI2'
  have HI3' := Lib.hid (HI3.out.below hb)
  clear HI3
  have HI3 := HI3'
  clear HI3'
  have HI4' := Lib.hid (HI4.out.below hb)
  clear HI4
  have HI4 := HI4'
  clear HI4'
  have H5' := Lib.hid (bkbel H5.out hb)
  clear H5
  have H5 := H5'
  clear H5'
  have H6' := Lib.hid (bkbel H6.out hb)
  clear H6
  have H6 := H6'
  clear H6'
  have HRES' := Lib.hid (HRES.out.below hb)
  clear HRES
  have HRES := HRES'
  clear HRES'
  have HREF' := Lib.hid (HREF.out.below hb)
  clear HREF
  have HREF := HREF'
  clear HREF'
  have HC1' := Lib.hid (HC1.out.below hb)
  clear HC1
  have HC1 := HC1'
  clear HC1'
  have HC2' := Lib.hid (HC2.out.below hb)
  clear HC2
  have HC2 := HC2'
  clear HC2'
  have H16' := Lib.hid (bkbel H16.out hb)
  clear H16
  have H16 := H16'
  clear H16'
  clear ho hb
  go_wp2_with fail
  refine (clone_bool A4 n4 c4 (model.map Value.bool) W6 HI4 (by show _ = _; rw [List.length_map]; exact hl4.out) (one_bools _) (by omega)).mono ?_
  rintro e W7 ⟨A8, c8, rfl, ho, hb⟩
  have HC4 := Lib.hid (Rd.of_own ho)
  have HW' := Lib.hid (bthen HW.out hb)
  clear HW
  have HW := HW'
  clear HW'
  have HI1' := Lib.hid (HI1.out.below hb)
  clear HI1
  have HI1 := HI1'
  clear HI1'
  have HI2' := Lib.hid (HI2.out.below hb)
  clear HI2
  have HI2 := HI2'
  clear HI2'
  have HI3' := Lib.hid (HI3.out.below hb)
  clear HI3
  have HI3 := HI3'
  clear HI3'
  have HI4' := Lib.hid (HI4.out.below hb)
  clear HI4
  have HI4 := HI4'
  clear HI4'
  have H5' := Lib.hid (bkbel H5.out hb)
  clear H5
  have H5 := H5'
  clear H5'
  have H6' := Lib.hid (bkbel H6.out hb)
  clear H6
  have H6 := H6'
  clear H6'
  have HRES' := Lib.hid (HRES.out.below hb)
  clear HRES
  have HRES := HRES'
  clear HRES'
  have HREF' := Lib.hid (HREF.out.below hb)
  clear HREF
  have HREF := HREF'
  clear HREF'
  have HC1' := Lib.hid (HC1.out.below hb)
  clear HC1
  have HC1 := HC1'
  clear HC1'
  have HC2' := Lib.hid (HC2.out.below hb)
  clear HC2
  have HC2 := HC2'
  clear HC2'
  have H16' := Lib.hid (bkbel H16.out hb)
  clear H16
  have H16 := H16'
  clear H16'
  have HC3' := Lib.hid (HC3.out.below hb)
  clear HC3
  have HC3 := HC3'
  clear HC3'
  clear ho hb
  obtain ⟨⟨x0, x1, x2, x3, x4, x5, x6, x7, x8⟩, _⟩ := cells9 H5.out
  obtain ⟨s0, s1, s2⟩ := cells3 H16.out
  go_wp2_with fail
  refine (assign2 B 400 ⟨g, ⟨AI1, nI1, cI1⟩, S1, ⟨AO1, nO1, cO1⟩, ⟨AK1, nK1, cK1⟩, ⟨AC1, nC1, cC1⟩, ⟨AR1, nR1, cR1⟩⟩ R A5 n1 c5 sin pt A6 n2 c6 kp al ae W7 HRES HC1 hl1 hu1 HC2 hl2 (by omega) (by omega) HPT.out HASG).mono ?_
  rintro e W8 ⟨A9, n9, c9, rfl, hr9, hl9, hn9, hb⟩
  have HA9 := Lib.hid hr9; have HL9 := Lib.hid hl9
  clear hr9 hl9 x0 x1 x2 x3 x4 x5 x6 x7 x8 s0 s1 s2
  have HW' := Lib.hid (bthen HW.out hb)
  clear HW
  have HW := HW'
  clear HW'
  have HI1' := Lib.hid (HI1.out.below hb)
  clear HI1
  have HI1 := HI1'
  clear HI1'
  have HI2' := Lib.hid (HI2.out.below hb)
  clear HI2
  have HI2 := HI2'
  clear HI2'
  have HI3' := Lib.hid (HI3.out.below hb)
  clear HI3
  have HI3 := HI3'
  clear HI3'
  have HI4' := Lib.hid (HI4.out.below hb)
  clear HI4
  have HI4 := HI4'
  clear HI4'
  have H5' := Lib.hid (bkbel H5.out hb)
  clear H5
  have H5 := H5'
  clear H5'
  have H6' := Lib.hid (bkbel H6.out hb)
  clear H6
  have H6 := H6'
  clear H6'
  have HRES' := Lib.hid (HRES.out.below hb)
  clear HRES
  have HRES := HRES'
  clear HRES'
  have HREF' := Lib.hid (HREF.out.below hb)
  clear HREF
  have HREF := HREF'
  clear HREF'
  have HC1' := Lib.hid (HC1.out.below hb)
  clear HC1
  have HC1 := HC1'
  clear HC1'
  have HC2' := Lib.hid (HC2.out.below hb)
  clear HC2
  have HC2 := HC2'
  clear HC2'
  have H16' := Lib.hid (bkbel H16.out hb)
  clear H16
  have H16 := H16'
  clear H16'
  have HC3' := Lib.hid (HC3.out.below hb)
  clear HC3
  have HC3 := HC3'
  clear HC3'
  have HC4' := Lib.hid (HC4.out.below hb)
  clear HC4
  have HC4 := HC4'
  clear HC4'
  clear hb
  obtain ⟨⟨x0, x1, x2, x3, x4, x5, x6, x7, x8⟩, _⟩ := cells9 H5.out
  go_wp2_with fail
  refine (model2 B 400 ⟨g, ⟨AI1, nI1, cI1⟩, S1, ⟨AO1, nO1, cO1⟩, ⟨AK1, nK1, cK1⟩, ⟨AC1, nC1, cC1⟩, ⟨AR1, nR1, cR1⟩⟩ R A7 n3 c7 m A8 n4 c8 model mi mp mk me W8 HRES HC3 hl3 (by omega) HC4 hl4 (by omega) HMS HME).mono ?_
  rintro e W9 ⟨⟨AM1, k1, cM1⟩, ⟨AM2, k2, cM2⟩, rfl, hi4, hn4', hk4, hkn4, hle1, hle2, hb⟩
  dsimp only at hi4 hn4' hk4 hkn4 hle1 hle2 ⊢
  have HMI := Lib.hid hi4; have HMK := Lib.hid hk4; have HN4 := Lib.hid hn4'; have HM4 := Lib.hid hkn4
  clear hi4 hn4' hk4 hkn4 x0 x1 x2 x3 x4 x5 x6 x7 x8
  have HW' := Lib.hid (bthen HW.out hb)
  clear HW
  have HW := HW'
  clear HW'
  have HI1' := Lib.hid (HI1.out.below hb)
  clear HI1
  have HI1 := HI1'
  clear HI1'
  have HI2' := Lib.hid (HI2.out.below hb)
  clear HI2
  have HI2 := HI2'
  clear HI2'
  have HI3' := Lib.hid (HI3.out.below hb)
  clear HI3
  have HI3 := HI3'
  clear HI3'
  have HI4' := Lib.hid (HI4.out.below hb)
  clear HI4
  have HI4 := HI4'
  clear HI4'
  have H5' := Lib.hid (bkbel H5.out hb)
  clear H5
  have H5 := H5'
  clear H5'
  have H6' := Lib.hid (bkbel H6.out hb)
  clear H6
  have H6 := H6'
  clear H6'
  have HRES' := Lib.hid (HRES.out.below hb)
  clear HRES
  have HRES := HRES'
  clear HRES'
  have HREF' := Lib.hid (HREF.out.below hb)
  clear HREF
  have HREF := HREF'
  clear HREF'
  have HC1' := Lib.hid (HC1.out.below hb)
  clear HC1
  have HC1 := HC1'
  clear HC1'
  have HC2' := Lib.hid (HC2.out.below hb)
  clear HC2
  have HC2 := HC2'
  clear HC2'
  have H16' := Lib.hid (bkbel H16.out hb)
  clear H16
  have H16 := H16'
  clear H16'
  have HC3' := Lib.hid (HC3.out.below hb)
  clear HC3
  have HC3 := HC3'
  clear HC3'
  have HC4' := Lib.hid (HC4.out.below hb)
  clear HC4
  have HC4 := HC4'
  clear HC4'
  have HA9' := Lib.hid (HA9.out.below hb)
  clear HA9
  have HA9 := HA9'
  clear HA9'
  clear hb
  obtain ⟨s0, s1, s2⟩ := cells3 H16.out
  have hp16l : p16 < W9.heap.size := H16.out.lt
  go_wp2_with fail
  have H21 := Lib.hid (Bk.new W9 51 #[.slice AM1 k1 cM1, .int .i64 mp, .slice AM2 k2 cM2])
  have HBb : Hid (Below W9.heap.size W9 (W9.alloc (.cells #[.slice AM1 k1 cM1, .int .i64 mp, .slice AM2 k2 cM2] 51))) := balloc (Below.refl _ _) _
  clear s0 s1 s2 hp16l
  have HW' := Lib.hid (bthen HW.out HBb.out)
  clear HW
  have HW := HW'
  clear HW'
  have HI1' := Lib.hid (HI1.out.below HBb.out)
  clear HI1
  have HI1 := HI1'
  clear HI1'
  have HI2' := Lib.hid (HI2.out.below HBb.out)
  clear HI2
  have HI2 := HI2'
  clear HI2'
  have HI3' := Lib.hid (HI3.out.below HBb.out)
  clear HI3
  have HI3 := HI3'
  clear HI3'
  have HI4' := Lib.hid (HI4.out.below HBb.out)
  clear HI4
  have HI4 := HI4'
  clear HI4'
  have H5' := Lib.hid (bkbel H5.out HBb.out)
  clear H5
  have H5 := H5'
  clear H5'
  have H6' := Lib.hid (bkbel H6.out HBb.out)
  clear H6
  have H6 := H6'
  clear H6'
  have HRES' := Lib.hid (HRES.out.below HBb.out)
  clear HRES
  have HRES := HRES'
  clear HRES'
  have HREF' := Lib.hid (HREF.out.below HBb.out)
  clear HREF
  have HREF := HREF'
  clear HREF'
  have HC1' := Lib.hid (HC1.out.below HBb.out)
  clear HC1
  have HC1 := HC1'
  clear HC1'
  have HC2' := Lib.hid (HC2.out.below HBb.out)
  clear HC2
  have HC2 := HC2'
  clear HC2'
  have H16' := Lib.hid (bkbel H16.out HBb.out)
  clear H16
  have H16 := H16'
  clear H16'
  have HC3' := Lib.hid (HC3.out.below HBb.out)
  clear HC3
  have HC3 := HC3'
  clear HC3'
  have HC4' := Lib.hid (HC4.out.below HBb.out)
  clear HC4
  have HC4 := HC4'
  clear HC4'
  have HA9' := Lib.hid (HA9.out.below HBb.out)
  clear HA9
  have HA9 := HA9'
  clear HA9'
  have HMI' := Lib.hid (HMI.out.below HBb.out)
  clear HMI
  have HMI := HMI'
  clear HMI'
  have HMK' := Lib.hid (HMK.out.below HBb.out)
  clear HMK
  have HMK := HMK'
  clear HMK'
  clear HBb
  generalize (W9.alloc (.cells #[.slice AM1 k1 cM1, .int .i64 mp, .slice AM2 k2 cM2] 51)) = W10 at *
  obtain ⟨p21, hp21⟩ : ∃ p, W9.heap.size = p := ⟨_, rfl⟩
  rw [hp21] at H21 ⊢
  clear hp21
  have HEQ := Lib.hid (equal_word A5 A1 sin sin n1 n1 c5 c1 W10 HC1 HI1 hl1 hl1 (by omega))
  rw [decide_eq_true (rfl : sin = sin)] at HEQ
  refine HEQ.out.mono ?_
  rintro e W11 ⟨rfl, nq, rfl⟩
  clear HEQ
  have HW' := Lib.hid (bthen HW.out (below_drewN W10 nq))
  clear HW
  have HW := HW'
  clear HW'
  have HI1' := Lib.hid (HI1.out.below (below_drewN W10 nq))
  clear HI1
  have HI1 := HI1'
  clear HI1'
  have HI2' := Lib.hid (HI2.out.below (below_drewN W10 nq))
  clear HI2
  have HI2 := HI2'
  clear HI2'
  have HI3' := Lib.hid (HI3.out.below (below_drewN W10 nq))
  clear HI3
  have HI3 := HI3'
  clear HI3'
  have HI4' := Lib.hid (HI4.out.below (below_drewN W10 nq))
  clear HI4
  have HI4 := HI4'
  clear HI4'
  have H5' := Lib.hid (bkbel H5.out (below_drewN W10 nq))
  clear H5
  have H5 := H5'
  clear H5'
  have H6' := Lib.hid (bkbel H6.out (below_drewN W10 nq))
  clear H6
  have H6 := H6'
  clear H6'
  have HRES' := Lib.hid (HRES.out.below (below_drewN W10 nq))
  clear HRES
  have HRES := HRES'
  clear HRES'
  have HREF' := Lib.hid (HREF.out.below (below_drewN W10 nq))
  clear HREF
  have HREF := HREF'
  clear HREF'
  have HC1' := Lib.hid (HC1.out.below (below_drewN W10 nq))
  clear HC1
  have HC1 := HC1'
  clear HC1'
  have HC2' := Lib.hid (HC2.out.below (below_drewN W10 nq))
  clear HC2
  have HC2 := HC2'
  clear HC2'
  have H16' := Lib.hid (bkbel H16.out (below_drewN W10 nq))
  clear H16
  have H16 := H16'
  clear H16'
  have HC3' := Lib.hid (HC3.out.below (below_drewN W10 nq))
  clear HC3
  have HC3 := HC3'
  clear HC3'
  have HC4' := Lib.hid (HC4.out.below (below_drewN W10 nq))
  clear HC4
  have HC4 := HC4'
  clear HC4'
  have HA9' := Lib.hid (HA9.out.below (below_drewN W10 nq))
  clear HA9
  have HA9 := HA9'
  clear HA9'
  have HMI' := Lib.hid (HMI.out.below (below_drewN W10 nq))
  clear HMI
  have HMI := HMI'
  clear HMI'
  have HMK' := Lib.hid (HMK.out.below (below_drewN W10 nq))
  clear HMK
  have HMK := HMK'
  clear HMK'
  have H21' := Lib.hid (bkbel H21.out (below_drewN W10 nq))
  clear H21
  have H21 := H21'
  clear H21'
  generalize W10.drewN nq = W11 at *
  obtain ⟨s0, s1, s2⟩ := cells3 H16.out
  have HEQ := Lib.hid (equal_bool A6 A2 kp kp n2 n2 c6 c2 W11 HC2 HI2 hl2 hl2 (by omega))
  rw [decide_eq_true (rfl : kp = kp)] at HEQ
  go_wp2_with fail
  refine HEQ.out.mono ?_
  rintro e W12 ⟨rfl, nq2, rfl⟩
  clear HEQ s0 s1 s2
  have HW' := Lib.hid (bthen HW.out (below_drewN W11 nq2))
  clear HW
  have HW := HW'
  clear HW'
  have HI1' := Lib.hid (HI1.out.below (below_drewN W11 nq2))
  clear HI1
  have HI1 := HI1'
  clear HI1'
  have HI2' := Lib.hid (HI2.out.below (below_drewN W11 nq2))
  clear HI2
  have HI2 := HI2'
  clear HI2'
  have HI3' := Lib.hid (HI3.out.below (below_drewN W11 nq2))
  clear HI3
  have HI3 := HI3'
  clear HI3'
  have HI4' := Lib.hid (HI4.out.below (below_drewN W11 nq2))
  clear HI4
  have HI4 := HI4'
  clear HI4'
  have H5' := Lib.hid (bkbel H5.out (below_drewN W11 nq2))
  clear H5
  have H5 := H5'
  clear H5'
  have H6' := Lib.hid (bkbel H6.out (below_drewN W11 nq2))
  clear H6
  have H6 := H6'
  clear H6'
  have HRES' := Lib.hid (HRES.out.below (below_drewN W11 nq2))
  clear HRES
  have HRES := HRES'
  clear HRES'
  have HREF' := Lib.hid (HREF.out.below (below_drewN W11 nq2))
  clear HREF
  have HREF := HREF'
  clear HREF'
  have HC1' := Lib.hid (HC1.out.below (below_drewN W11 nq2))
  clear HC1
  have HC1 := HC1'
  clear HC1'
  have HC2' := Lib.hid (HC2.out.below (below_drewN W11 nq2))
  clear HC2
  have HC2 := HC2'
  clear HC2'
  have H16' := Lib.hid (bkbel H16.out (below_drewN W11 nq2))
  clear H16
  have H16 := H16'
  clear H16'
  have HC3' := Lib.hid (HC3.out.below (below_drewN W11 nq2))
  clear HC3
  have HC3 := HC3'
  clear HC3'
  have HC4' := Lib.hid (HC4.out.below (below_drewN W11 nq2))
  clear HC4
  have HC4 := HC4'
  clear HC4'
  have HA9' := Lib.hid (HA9.out.below (below_drewN W11 nq2))
  clear HA9
  have HA9 := HA9'
  clear HA9'
  have HMI' := Lib.hid (HMI.out.below (below_drewN W11 nq2))
  clear HMI
  have HMI := HMI'
  clear HMI'
  have HMK' := Lib.hid (HMK.out.below (below_drewN W11 nq2))
  clear HMK
  have HMK := HMK'
  clear HMK'
  have H21' := Lib.hid (bkbel H21.out (below_drewN W11 nq2))
  clear H21
  have H21 := H21'
  clear H21'
  generalize W11.drewN nq2 = W12 at *
  have HEQ := Lib.hid (equal_map A7 A3 m m n3 n3 c7 c3 W12 HC3 HI3 hl3 hl3 (by omega))
  rw [decide_eq_true (rfl : m = m)] at HEQ
  go_wp2_with fail
  refine HEQ.out.mono ?_
  rintro e W13 ⟨rfl, nq3, rfl⟩
  clear HEQ
  have HW' := Lib.hid (bthen HW.out (below_drewN W12 nq3))
  clear HW
  have HW := HW'
  clear HW'
  have HI1' := Lib.hid (HI1.out.below (below_drewN W12 nq3))
  clear HI1
  have HI1 := HI1'
  clear HI1'
  have HI2' := Lib.hid (HI2.out.below (below_drewN W12 nq3))
  clear HI2
  have HI2 := HI2'
  clear HI2'
  have HI3' := Lib.hid (HI3.out.below (below_drewN W12 nq3))
  clear HI3
  have HI3 := HI3'
  clear HI3'
  have HI4' := Lib.hid (HI4.out.below (below_drewN W12 nq3))
  clear HI4
  have HI4 := HI4'
  clear HI4'
  have H5' := Lib.hid (bkbel H5.out (below_drewN W12 nq3))
  clear H5
  have H5 := H5'
  clear H5'
  have H6' := Lib.hid (bkbel H6.out (below_drewN W12 nq3))
  clear H6
  have H6 := H6'
  clear H6'
  have HRES' := Lib.hid (HRES.out.below (below_drewN W12 nq3))
  clear HRES
  have HRES := HRES'
  clear HRES'
  have HREF' := Lib.hid (HREF.out.below (below_drewN W12 nq3))
  clear HREF
  have HREF := HREF'
  clear HREF'
  have HC1' := Lib.hid (HC1.out.below (below_drewN W12 nq3))
  clear HC1
  have HC1 := HC1'
  clear HC1'
  have HC2' := Lib.hid (HC2.out.below (below_drewN W12 nq3))
  clear HC2
  have HC2 := HC2'
  clear HC2'
  have H16' := Lib.hid (bkbel H16.out (below_drewN W12 nq3))
  clear H16
  have H16 := H16'
  clear H16'
  have HC3' := Lib.hid (HC3.out.below (below_drewN W12 nq3))
  clear HC3
  have HC3 := HC3'
  clear HC3'
  have HC4' := Lib.hid (HC4.out.below (below_drewN W12 nq3))
  clear HC4
  have HC4 := HC4'
  clear HC4'
  have HA9' := Lib.hid (HA9.out.below (below_drewN W12 nq3))
  clear HA9
  have HA9 := HA9'
  clear HA9'
  have HMI' := Lib.hid (HMI.out.below (below_drewN W12 nq3))
  clear HMI
  have HMI := HMI'
  clear HMI'
  have HMK' := Lib.hid (HMK.out.below (below_drewN W12 nq3))
  clear HMK
  have HMK := HMK'
  clear HMK'
  have H21' := Lib.hid (bkbel H21.out (below_drewN W12 nq3))
  clear H21
  have H21 := H21'
  clear H21'
  generalize W12.drewN nq3 = W13 at *
  have HEQ := Lib.hid (equal_bool A8 A4 model model n4 n4 c8 c4 W13 HC4 HI4 hl4 hl4 (by omega))
  rw [decide_eq_true (rfl : model = model)] at HEQ
  go_wp2_with fail
  refine HEQ.out.mono ?_
  rintro e W14 ⟨rfl, nq4, rfl⟩
  clear HEQ
  have HW' := Lib.hid (bthen HW.out (below_drewN W13 nq4))
  clear HW
  have HW := HW'
  clear HW'
  have HI1' := Lib.hid (HI1.out.below (below_drewN W13 nq4))
  clear HI1
  have HI1 := HI1'
  clear HI1'
  have HI2' := Lib.hid (HI2.out.below (below_drewN W13 nq4))
  clear HI2
  have HI2 := HI2'
  clear HI2'
  have HI3' := Lib.hid (HI3.out.below (below_drewN W13 nq4))
  clear HI3
  have HI3 := HI3'
  clear HI3'
  have HI4' := Lib.hid (HI4.out.below (below_drewN W13 nq4))
  clear HI4
  have HI4 := HI4'
  clear HI4'
  have H5' := Lib.hid (bkbel H5.out (below_drewN W13 nq4))
  clear H5
  have H5 := H5'
  clear H5'
  have H6' := Lib.hid (bkbel H6.out (below_drewN W13 nq4))
  clear H6
  have H6 := H6'
  clear H6'
  have HRES' := Lib.hid (HRES.out.below (below_drewN W13 nq4))
  clear HRES
  have HRES := HRES'
  clear HRES'
  have HREF' := Lib.hid (HREF.out.below (below_drewN W13 nq4))
  clear HREF
  have HREF := HREF'
  clear HREF'
  have HC1' := Lib.hid (HC1.out.below (below_drewN W13 nq4))
  clear HC1
  have HC1 := HC1'
  clear HC1'
  have HC2' := Lib.hid (HC2.out.below (below_drewN W13 nq4))
  clear HC2
  have HC2 := HC2'
  clear HC2'
  have H16' := Lib.hid (bkbel H16.out (below_drewN W13 nq4))
  clear H16
  have H16 := H16'
  clear H16'
  have HC3' := Lib.hid (HC3.out.below (below_drewN W13 nq4))
  clear HC3
  have HC3 := HC3'
  clear HC3'
  have HC4' := Lib.hid (HC4.out.below (below_drewN W13 nq4))
  clear HC4
  have HC4 := HC4'
  clear HC4'
  have HA9' := Lib.hid (HA9.out.below (below_drewN W13 nq4))
  clear HA9
  have HA9 := HA9'
  clear HA9'
  have HMI' := Lib.hid (HMI.out.below (below_drewN W13 nq4))
  clear HMI
  have HMI := HMI'
  clear HMI'
  have HMK' := Lib.hid (HMK.out.below (below_drewN W13 nq4))
  clear HMK
  have HMK := HMK'
  clear HMK'
  have H21' := Lib.hid (bkbel H21.out (below_drewN W13 nq4))
  clear H21
  have H21 := H21'
  clear H21'
  generalize W13.drewN nq4 = W14 at *
  obtain ⟨⟨q0, q1, q2, q3, q4, q5, q6, q7, q8, q9⟩, _⟩ := cells10 H6.out
  go_wp2_with fail
  refine (refRight2 400 ⟨⟨AN2, nN2, cN2⟩, ⟨AI2, nI2, cI2⟩, S2, ⟨AO2, nO2, cO2⟩, ⟨AK2, nK2, cK2⟩, ⟨AC2, nC2, cC2⟩, ⟨AR2, nR2, cR2⟩⟩ R rt W14 HREF HRT).mono ?_
  rintro e WA ⟨rfl, hb⟩
  clear q0 q1 q2 q3 q4 q5 q6 q7 q8 q9
  have HW' := Lib.hid (bthen HW.out hb)
  clear HW
  have HW := HW'
  clear HW'
  have HI1' := Lib.hid (HI1.out.below hb)
  clear HI1
  have HI1 := HI1'
  clear HI1'
  have HI2' := Lib.hid (HI2.out.below hb)
  clear HI2
  have HI2 := HI2'
  clear HI2'
  have HI3' := Lib.hid (HI3.out.below hb)
  clear HI3
  have HI3 := HI3'
  clear HI3'
  have HI4' := Lib.hid (HI4.out.below hb)
  clear HI4
  have HI4 := HI4'
  clear HI4'
  have H5' := Lib.hid (bkbel H5.out hb)
  clear H5
  have H5 := H5'
  clear H5'
  have H6' := Lib.hid (bkbel H6.out hb)
  clear H6
  have H6 := H6'
  clear H6'
  have HRES' := Lib.hid (HRES.out.below hb)
  clear HRES
  have HRES := HRES'
  clear HRES'
  have HREF' := Lib.hid (HREF.out.below hb)
  clear HREF
  have HREF := HREF'
  clear HREF'
  have HC1' := Lib.hid (HC1.out.below hb)
  clear HC1
  have HC1 := HC1'
  clear HC1'
  have HC2' := Lib.hid (HC2.out.below hb)
  clear HC2
  have HC2 := HC2'
  clear HC2'
  have H16' := Lib.hid (bkbel H16.out hb)
  clear H16
  have H16 := H16'
  clear H16'
  have HC3' := Lib.hid (HC3.out.below hb)
  clear HC3
  have HC3 := HC3'
  clear HC3'
  have HC4' := Lib.hid (HC4.out.below hb)
  clear HC4
  have HC4 := HC4'
  clear HC4'
  have HA9' := Lib.hid (HA9.out.below hb)
  clear HA9
  have HA9 := HA9'
  clear HA9'
  have HMI' := Lib.hid (HMI.out.below hb)
  clear HMI
  have HMI := HMI'
  clear HMI'
  have HMK' := Lib.hid (HMK.out.below hb)
  clear HMK
  have HMK := HMK'
  clear HMK'
  have H21' := Lib.hid (bkbel H21.out hb)
  clear H21
  have H21 := H21'
  clear H21'
  clear hb
  cases rt with
  | false =>
    obtain ⟨rfl, rfl⟩ : al = [] ∧ ae = 420 := by
      have h1 := HASG.out
      rw [assignR, if_pos HRT.out] at h1
      injection h1 with e1 e2
      exact ⟨e1.symm, e2.symm⟩
    obtain rfl : me = 420 := by rw [← HME.out, modErr, if_neg (by rw [HRT.out]; decide)]
    have hs : (⟨[], 0, []⟩ : Sch) = ⟨mi, mp, mk⟩ := by rw [← HMS.out, modS, hl4.out, HME.out]; rfl
    injection hs with e1 e2 e3
    subst e1; subst e2; subst e3
    obtain rfl : n9 = 0 := HL9.out.symm
    obtain rfl : k1 = 0 := HN4.out.symm
    obtain rfl : k2 = 0 := HM4.out.symm
    obtain ⟨t0, t1, t2⟩ := cells3 H21.out
    have hz : ((420 : Int) == 420) = true := rfl
    have hz0 : ((0 : Int) == 0) = true := rfl
    go_wp2_with fail
    refine (sameC AM1 AM2 none none 0 0 cM1 cM2 0 0 [] 0 [] WA HMI HMK (Lib.hid Rd.nil) (Lib.hid Rd.nil) (Lib.hid rfl) (Lib.hid rfl) (by omega) (by omega) (Lib.hid (fun x hx => by cases hx))).mono ?_
    rintro e WB ⟨rfl, hbB⟩
    have HWB := Lib.hid (bthen HW.out hbB)
    clear hbB t0 t1 t2
    go_wp2
    go_ret
    exact ⟨rfl, HWB.out⟩
  | true =>
    go_wp2_with fail
    refine (ints_any A2 n2 c2 kp WA HI2 hl2 (by omega)).mono ?_
    rintro e W15 ⟨A12, c12, rfl, ho, hb⟩
    have HK2 := Lib.hid (Rd.of_own ho)
    have HW' := Lib.hid (bthen HW.out hb)
    clear HW
    have HW := HW'
    clear HW'
    have HI1' := Lib.hid (HI1.out.below hb)
    clear HI1
    have HI1 := HI1'
    clear HI1'
    have HI2' := Lib.hid (HI2.out.below hb)
    clear HI2
    have HI2 := HI2'
    clear HI2'
    have HI3' := Lib.hid (HI3.out.below hb)
    clear HI3
    have HI3 := HI3'
    clear HI3'
    have HI4' := Lib.hid (HI4.out.below hb)
    clear HI4
    have HI4 := HI4'
    clear HI4'
    have H5' := Lib.hid (bkbel H5.out hb)
    clear H5
    have H5 := H5'
    clear H5'
    have H6' := Lib.hid (bkbel H6.out hb)
    clear H6
    have H6 := H6'
    clear H6'
    have HRES' := Lib.hid (HRES.out.below hb)
    clear HRES
    have HRES := HRES'
    clear HRES'
    have HREF' := Lib.hid (HREF.out.below hb)
    clear HREF
    have HREF := HREF'
    clear HREF'
    have HC1' := Lib.hid (HC1.out.below hb)
    clear HC1
    have HC1 := HC1'
    clear HC1'
    have HC2' := Lib.hid (HC2.out.below hb)
    clear HC2
    have HC2 := HC2'
    clear HC2'
    have H16' := Lib.hid (bkbel H16.out hb)
    clear H16
    have H16 := H16'
    clear H16'
    have HC3' := Lib.hid (HC3.out.below hb)
    clear HC3
    have HC3 := HC3'
    clear HC3'
    have HC4' := Lib.hid (HC4.out.below hb)
    clear HC4
    have HC4 := HC4'
    clear HC4'
    have HA9' := Lib.hid (HA9.out.below hb)
    clear HA9
    have HA9 := HA9'
    clear HA9'
    have HMI' := Lib.hid (HMI.out.below hb)
    clear HMI
    have HMI := HMI'
    clear HMI'
    have HMK' := Lib.hid (HMK.out.below hb)
    clear HMK
    have HMK := HMK'
    clear HMK'
    have H21' := Lib.hid (bkbel H21.out hb)
    clear H21
    have H21 := H21'
    clear H21'
    clear ho hb
    go_wp2_with fail
    obtain ⟨p23, hp23⟩ : ∃ p, W15.heap.size = p := ⟨_, rfl⟩
    have H23 := Lib.hid (Bk.new W15 78 #[.slice none 0 0, .int .i64 pt, .slice A12 n2 c12])
    have HBb : Hid (Below W15.heap.size W15 (W15.alloc (.cells #[.slice none 0 0, .int .i64 pt, .slice A12 n2 c12] 78))) := balloc (Below.refl _ _) _
    have hsz15 : (W15.alloc (.cells #[.slice none 0 0, .int .i64 pt, .slice A12 n2 c12] 78)).heap.size = p23 + 1 := by simp [hp23]
    rw [hp23] at H23 ⊢
    go_loopw [110] (fun v110 wr => ∃ (k : Nat) (A' : Option Addr) (c' : Nat), k ≤ n1 ∧ v110 = .int .i64 k ∧ Hid (Bk wr p23 78 #[.slice A' k c', .int .i64 pt, .slice A12 n2 c12]) ∧ Hid (wr.ownsRow (p23 + 1) 3 1 (.slice A' k c') k ((sin.take k).map (Value.int .i64))) ∧ Hid (Below W15.heap.size W15 wr)) (fun v110 _ => n1 - (intOf v110).toNat)
    case atStart => exact ⟨0, none, 0, Nat.zero_le _, rfl, H23, World.ownsRow_nil _ _ _ _, HBb⟩
    case round =>
      obtain ⟨k, A', c', hk, rfl, HBk, Ho, Hb⟩ := hrel
      have hwrl : p23 < wr.heap.size := HBk.out.lt
      by_cases hlt : k < n1
      · obtain ⟨b1, o1, u, rfl, hu, hcu⟩ := (HI1.out.below Hb.out).getm hl1.out hlt
        obtain ⟨hu0, hu2⟩ := hu1.out u (List.mem_of_getElem? hu)
        have HU := Lib.hid hu
        have b0 := HBk.out.cell 0
        clear hu
        go_wp2_with (at_builtin; refine wpList_app el_int rfl (.tmp 115) (.tmp 118) rfl (p23 + 1) (.slice A' k c') k _ rfl (Ho.out.alloc _) (some ⟨wr.heap.size, 0, none⟩) 1 1 [.int .i64 u] rfl (Rd.new _ #[_] _) rfl (by simp [Value.oneCell']) (by omega) (by simp; omega) ?_; intro AA3 cc3 w3 ho1 hg1 hat1; have hB3 := (HBk.out.alloc _).grown hg1 (own_ne Ho.out HBk.out (by decide)); have d0 := hB3.cell 0; have f0 := hB3.frozen 0; have HB3 := Lib.hid hB3; have Ho1 := Lib.hid ho1; have HBe3 := Lib.hid ((Hb.out.alloc Hb.out.size _).grown hg1 (by have := Hb.out.size; simp; omega) (fun q hq => by have := (Ho.out.lt q hq).1; omega)); clear ho1 hg1 hat1 hB3 b0)
        go_roundw
        case rel =>
          refine ⟨k + 1, AA3, cc3, by omega, by go_num, ?_, ?_, ?_⟩
          · have h1 := HB3.out.put 0 (.slice AA3 (k + 1) cc3)
            simp only [List.setIfInBounds_toArray, List.set_cons_zero] at h1
            exact h1
          · have h1 := ownsRow_setCell_below Ho1.out (a := ⟨p23, 0, none⟩) (by show p23 < p23 + 1; omega) (.slice AA3 (k + 1) cc3)
            show World.ownsRow _ _ _ _ _ _ _
            rw [take_snoc HU.out, List.map_append]
            exact h1
          · exact HBe3.out.setCell (p := ⟨p23, 0, none⟩) (by show W15.heap.size ≤ p23; omega) _
        case measure => simp [intOf]; omega
      · obtain rfl : n1 = k := by omega
        have HRI := Ho.out
        rw [List.take_of_length_le (by rw [hl1.out]; omega)] at HRI
        have HR1 := Lib.hid (Rd.of_own HRI)
        clear Ho HRI hlt hwrl H23 HBb hsz15
        have H23 := HBk
        clear HBk
        have HW' := Lib.hid (bthen HW.out Hb.out)
        clear HW
        have HW := HW'
        clear HW'
        have HI1' := Lib.hid (HI1.out.below Hb.out)
        clear HI1
        have HI1 := HI1'
        clear HI1'
        have HI2' := Lib.hid (HI2.out.below Hb.out)
        clear HI2
        have HI2 := HI2'
        clear HI2'
        have HI3' := Lib.hid (HI3.out.below Hb.out)
        clear HI3
        have HI3 := HI3'
        clear HI3'
        have HI4' := Lib.hid (HI4.out.below Hb.out)
        clear HI4
        have HI4 := HI4'
        clear HI4'
        have H5' := Lib.hid (bkbel H5.out Hb.out)
        clear H5
        have H5 := H5'
        clear H5'
        have H6' := Lib.hid (bkbel H6.out Hb.out)
        clear H6
        have H6 := H6'
        clear H6'
        have HRES' := Lib.hid (HRES.out.below Hb.out)
        clear HRES
        have HRES := HRES'
        clear HRES'
        have HREF' := Lib.hid (HREF.out.below Hb.out)
        clear HREF
        have HREF := HREF'
        clear HREF'
        have HC1' := Lib.hid (HC1.out.below Hb.out)
        clear HC1
        have HC1 := HC1'
        clear HC1'
        have HC2' := Lib.hid (HC2.out.below Hb.out)
        clear HC2
        have HC2 := HC2'
        clear HC2'
        have H16' := Lib.hid (bkbel H16.out Hb.out)
        clear H16
        have H16 := H16'
        clear H16'
        have HC3' := Lib.hid (HC3.out.below Hb.out)
        clear HC3
        have HC3 := HC3'
        clear HC3'
        have HC4' := Lib.hid (HC4.out.below Hb.out)
        clear HC4
        have HC4 := HC4'
        clear HC4'
        have HA9' := Lib.hid (HA9.out.below Hb.out)
        clear HA9
        have HA9 := HA9'
        clear HA9'
        have HMI' := Lib.hid (HMI.out.below Hb.out)
        clear HMI
        have HMI := HMI'
        clear HMI'
        have HMK' := Lib.hid (HMK.out.below Hb.out)
        clear HMK
        have HMK := HMK'
        clear HMK'
        have H21' := Lib.hid (bkbel H21.out Hb.out)
        clear H21
        have H21 := H21'
        clear H21'
        have HK2' := Lib.hid (HK2.out.below Hb.out)
        clear HK2
        have HK2 := HK2'
        clear HK2'
        obtain ⟨⟨q0, q1, q2, q3, q4, q5, q6, q7, q8, q9⟩, _⟩ := cells10 H6.out
        clear Hb hp23
        obtain ⟨r0, r1, r2⟩ := cells3 H23.out
        go_wp2_with fail
        refine (rassign2 400 ⟨⟨AN2, nN2, cN2⟩, ⟨AI2, nI2, cI2⟩, S2, ⟨AO2, nO2, cO2⟩, ⟨AK2, nK2, cK2⟩, ⟨AC2, nC2, cC2⟩, ⟨AR2, nR2, cR2⟩⟩ R A' n1 c' sin pt A12 n2 c12 kp al ae wr HREF HRT HR1 hl1 hu1 HK2 hl2 (by omega) (by omega) HPT.out HASG).mono ?_
        rintro e WB ⟨A26, n26, c26, rfl, hr26, hl26, hn26, hb⟩
        have HA26 := Lib.hid hr26
        obtain rfl : n26 = n9 := hl26.symm.trans HL9.out
        clear hr26 hl26 q0 q1 q2 q3 q4 q5 q6 q7 q8 q9 r0 r1 r2
        have HW' := Lib.hid (bthen HW.out hb)
        clear HW
        have HW := HW'
        clear HW'
        have HI1' := Lib.hid (HI1.out.below hb)
        clear HI1
        have HI1 := HI1'
        clear HI1'
        have HI2' := Lib.hid (HI2.out.below hb)
        clear HI2
        have HI2 := HI2'
        clear HI2'
        have HI3' := Lib.hid (HI3.out.below hb)
        clear HI3
        have HI3 := HI3'
        clear HI3'
        have HI4' := Lib.hid (HI4.out.below hb)
        clear HI4
        have HI4 := HI4'
        clear HI4'
        have H5' := Lib.hid (bkbel H5.out hb)
        clear H5
        have H5 := H5'
        clear H5'
        have H6' := Lib.hid (bkbel H6.out hb)
        clear H6
        have H6 := H6'
        clear H6'
        have HRES' := Lib.hid (HRES.out.below hb)
        clear HRES
        have HRES := HRES'
        clear HRES'
        have HREF' := Lib.hid (HREF.out.below hb)
        clear HREF
        have HREF := HREF'
        clear HREF'
        have HC1' := Lib.hid (HC1.out.below hb)
        clear HC1
        have HC1 := HC1'
        clear HC1'
        have HC2' := Lib.hid (HC2.out.below hb)
        clear HC2
        have HC2 := HC2'
        clear HC2'
        have H16' := Lib.hid (bkbel H16.out hb)
        clear H16
        have H16 := H16'
        clear H16'
        have HC3' := Lib.hid (HC3.out.below hb)
        clear HC3
        have HC3 := HC3'
        clear HC3'
        have HC4' := Lib.hid (HC4.out.below hb)
        clear HC4
        have HC4 := HC4'
        clear HC4'
        have HA9' := Lib.hid (HA9.out.below hb)
        clear HA9
        have HA9 := HA9'
        clear HA9'
        have HMI' := Lib.hid (HMI.out.below hb)
        clear HMI
        have HMI := HMI'
        clear HMI'
        have HMK' := Lib.hid (HMK.out.below hb)
        clear HMK
        have HMK := HMK'
        clear HMK'
        have H21' := Lib.hid (bkbel H21.out hb)
        clear H21
        have H21 := H21'
        clear H21'
        have HK2' := Lib.hid (HK2.out.below hb)
        clear HK2
        have HK2 := HK2'
        clear HK2'
        have H23' := Lib.hid (bkbel H23.out hb)
        clear H23
        have H23 := H23'
        clear H23'
        have HR1' := Lib.hid (HR1.out.below hb)
        clear HR1
        have HR1 := HR1'
        clear HR1'
        clear hb
        have HRG := Lib.hid (mod_range HRT.out HMS.out)
        have HBe : Hid (Below WB.heap.size WB WB) := Below.refl _ _
        have HXX := H6
        obtain ⟨q0, q1, q2, q3, q4, q5, q6, q7, q8, q9⟩ := (cells10 H6.out).1
        have hp6l : p5 + 1 < WB.heap.size := H6.out.lt
        have hnt : (70 : TypeId) ≠ 78 := by decide
        have HNT := Lib.hid hnt
        clear hnt
        have hni : (3 : TypeId) ≠ 78 := by decide
        have HNI := Lib.hid hni
        clear hni
        go_wp2_with fail
        go_cut [28, 29] (fun s28 s29 wx => ∃ (p cc3 cc4 : Nat) (AA3 AA4 : Option Addr), s28 = .pointer (some ⟨p, 0, none⟩) ∧ s29 = .int .i64 me ∧ Hid (Bk wx p 78 #[.slice AA3 k1 cc3, .int .i64 mp, .slice AA4 k2 cc4]) ∧ Hid (RdT wx AA3 3 (mi.map (Value.int .i64))) ∧ Hid (RdT wx AA4 3 ((mk.map bitI).map (Value.int .i64))) ∧ Hid (Below WB.heap.size WB wx))
        case first =>
          go_region_held3 (fun w' => w'.cell? ⟨p5 + 1, 0, none⟩ = some (.int .i64 400) ∧ w'.cell? ⟨p5 + 1, 1, none⟩ = some (.slice AN2 nN2 cN2) ∧ w'.cell? ⟨p5 + 1, 2, none⟩ = some (.slice AI2 nI2 cI2) ∧ w'.cell? ⟨p5 + 1, 3, none⟩ = some (.int .i64 R.req) ∧ w'.cell? ⟨p5 + 1, 4, none⟩ = some (.slice AO2 nO2 cO2) ∧ w'.cell? ⟨p5 + 1, 5, none⟩ = some (.slice AK2 nK2 cK2) ∧ w'.cell? ⟨p5 + 1, 6, none⟩ = some (.slice AC2 nC2 cC2) ∧ w'.cell? ⟨p5 + 1, 7, none⟩ = some (.slice AR2 nR2 cR2) ∧ w'.cell? ⟨p5 + 1, 8, none⟩ = some (.int .i64 R.bey) ∧ w'.cell? ⟨p5 + 1, 9, none⟩ = some (.int .i64 R.hol))
            ((refine (cells10 (t := 70) (v0 := .int .i64 400) (v1 := .slice AN2 nN2 cN2) (v2 := .slice AI2 nI2 cI2) (v3 := .int .i64 R.req) (v4 := .slice AO2 nO2 cO2) (v5 := .slice AK2 nK2 cK2) (v6 := .slice AC2 nC2 cC2) (v7 := .slice AR2 nR2 cR2) (v8 := .int .i64 R.bey) (v9 := .int .i64 R.hol) ?_).1 <;> (repeat (first | with_reducible exact HXX.out | with_reducible refine Bk.drew ?_ | with_reducible refine Bk.alloc ?_ _ | with_reducible refine Bk.far ?_ HNA.out _))))
            (first
              | (
                go_at_call 25
                with_reducible refine (ints_any A4 n4 c4 model _ (Lib.hid (Rd.below HI4.out ?_)) hl4 (by omega)).mono ?_
                · (first | with_reducible exact HBe.out | with_reducible exact HBe.out.drew | with_reducible exact balloc HBe.out _ | with_reducible exact (balloc HBe.out _).drew)
                rintro e wI ⟨AA5, cc5, rfl, hoI, hbI⟩
                have HO5 := Lib.hid (Rd.of_own hoI)
                (first | with_reducible have HBn := Lib.hid (bthen HBe.out hbI) | with_reducible have HBn := Lib.hid (bthen HBe.out.drew hbI) | with_reducible have HBn := Lib.hid (bthen (balloc HBe.out _) hbI) | with_reducible have HBn := Lib.hid (bthen (balloc HBe.out _).drew hbI))
                (first | with_reducible have HXn := Lib.hid (bkbel HXX.out hbI) | with_reducible have HXn := Lib.hid (bkbel HXX.out.drew hbI) | with_reducible have HXn := Lib.hid (bkbel (HXX.out.alloc _) hbI) | with_reducible have HXn := Lib.hid (bkbel (HXX.out.alloc _).drew hbI))
                (first | with_reducible have HAI := Lib.hid (bkbel (Bk.new _ _ #[.slice none 0 0, .int .i64 0, .slice none 0 0]) hbI) | with_reducible have HAI := Lib.hid (bkbel (Bk.new _ _ #[.slice none 0 0, .int .i64 0, .slice none 0 0]).drew hbI) | skip)
                have hsI : WB.heap.size ≤ wI.heap.size := HBn.out.size
                clear HBe HXX hoI hbI
                have HBe := HBn
                have HXX := HXn
                clear HBn HXn)
              | (
                go_at_call 36
                with_reducible refine (rmodel2 400 ⟨⟨AN2, nN2, cN2⟩, ⟨AI2, nI2, cI2⟩, S2, ⟨AO2, nO2, cO2⟩, ⟨AK2, nK2, cK2⟩, ⟨AC2, nC2, cC2⟩, ⟨AR2, nR2, cR2⟩⟩ R A3 n3 c3 m AA5 n4 cc5 model mi mp mk me k1 k2 _ (Lib.hid (RefAt.below HREF.out ?_)) HRT (Lib.hid (Rd.below HI3.out ?_)) hl3 (by omega) (Lib.hid (Rd.below HO5.out ?_)) hl4 (by omega) HMS HME HN4 HM4).mono ?_
                · (first | with_reducible exact HBe.out | with_reducible exact balloc HBe.out _)
                · (first | with_reducible exact HBe.out | with_reducible exact balloc HBe.out _)
                · (first | with_reducible exact Below.refl _ _ | with_reducible exact balloc (Below.refl _ _) _)
                rintro e wQ ⟨AA3, cc3, AA4, cc4, rfl, hi3, hk3, hbQ⟩
                have HI3' := Lib.hid hi3; have HK3' := Lib.hid hk3
                (first | with_reducible have HBn := Lib.hid (bthen HBe.out hbQ) | with_reducible have HBn := Lib.hid (bthen (balloc HBe.out _) hbQ))
                (first | with_reducible have HXn := Lib.hid (bkbel HXX.out hbQ) | with_reducible have HXn := Lib.hid (bkbel (HXX.out.alloc _) hbQ))
                (first | with_reducible have HAQ := Lib.hid (bkbel HAI.out hbQ) | with_reducible have HAQ := Lib.hid (bkbel (Bk.new _ _ #[.slice none 0 0, .int .i64 0, .slice none 0 0]) hbQ) | skip)
                (first | (have hA3 := cells3 HAQ.out; have hF3 := frozen3 HAQ.out; have HNA := Lib.hid (Bk.ne HXn.out HAQ.out HNT.out); obtain ⟨a0, a1, a2⟩ := hA3; obtain ⟨z0, z1, z2⟩ := hF3) | skip)
                clear HBe HXX hi3 hk3 hbQ
                have HBe := HBn
                have HXX := HXn
                clear HBn HXn))
          all_goals
            go_wp2_with fail
            go_meet
            clear q0 q1 q2 q3 q4 q5 q6 q7 q8 q9
            first
              | (have hq := HAQ.out; refine ⟨_, cc3, cc4, AA3, AA4, rfl, rfl, ?_⟩; clear hq; exact ⟨Lib.hid (bk_put3 HAQ.out), Lib.hid (rdT_put3 HI3'.out HAQ.out HNI.out), Lib.hid (rdT_put3 HK3'.out HAQ.out HNI.out), Lib.hid (below_put3 HBe.out hsI)⟩)
              | (have hq := HAQ.out; refine ⟨_, cc3, cc4, AA3, AA4, rfl, rfl, ?_⟩; clear hq; exact ⟨Lib.hid (bk_put3 HAQ.out), Lib.hid (rdT_put3 HI3'.out HAQ.out HNI.out), Lib.hid (rdT_put3 HK3'.out HAQ.out HNI.out), Lib.hid (below_put3 HBe.out (Nat.le_refl _))⟩)
              | exact ⟨wQ.heap.size, cc3, cc4, AA3, AA4, rfl, rfl, Lib.hid (Bk.new _ _ _), Lib.hid (HI3'.out.alloc _), Lib.hid (HK3'.out.alloc _), Lib.hid (balloc HBe.out _)⟩
        case rest =>
          obtain ⟨p28, cc3, cc4, AA3, AA4, rfl, rfl, H28, HX3, HX4, HBx⟩ := hcut
          clear HBe HXX q0 q1 q2 q3 q4 q5 q6 q7 q8 q9 HNT HNI hp6l
          have HW' := Lib.hid (bthen HW.out HBx.out)
          clear HW
          have HW := HW'
          clear HW'
          have HI1' := Lib.hid (HI1.out.below HBx.out)
          clear HI1
          have HI1 := HI1'
          clear HI1'
          have HI2' := Lib.hid (HI2.out.below HBx.out)
          clear HI2
          have HI2 := HI2'
          clear HI2'
          have HI3' := Lib.hid (HI3.out.below HBx.out)
          clear HI3
          have HI3 := HI3'
          clear HI3'
          have HI4' := Lib.hid (HI4.out.below HBx.out)
          clear HI4
          have HI4 := HI4'
          clear HI4'
          have H5' := Lib.hid (bkbel H5.out HBx.out)
          clear H5
          have H5 := H5'
          clear H5'
          have H6' := Lib.hid (bkbel H6.out HBx.out)
          clear H6
          have H6 := H6'
          clear H6'
          have HRES' := Lib.hid (HRES.out.below HBx.out)
          clear HRES
          have HRES := HRES'
          clear HRES'
          have HREF' := Lib.hid (HREF.out.below HBx.out)
          clear HREF
          have HREF := HREF'
          clear HREF'
          have HC1' := Lib.hid (HC1.out.below HBx.out)
          clear HC1
          have HC1 := HC1'
          clear HC1'
          have HC2' := Lib.hid (HC2.out.below HBx.out)
          clear HC2
          have HC2 := HC2'
          clear HC2'
          have H16' := Lib.hid (bkbel H16.out HBx.out)
          clear H16
          have H16 := H16'
          clear H16'
          have HC3' := Lib.hid (HC3.out.below HBx.out)
          clear HC3
          have HC3 := HC3'
          clear HC3'
          have HC4' := Lib.hid (HC4.out.below HBx.out)
          clear HC4
          have HC4 := HC4'
          clear HC4'
          have HA9' := Lib.hid (HA9.out.below HBx.out)
          clear HA9
          have HA9 := HA9'
          clear HA9'
          have HMI' := Lib.hid (HMI.out.below HBx.out)
          clear HMI
          have HMI := HMI'
          clear HMI'
          have HMK' := Lib.hid (HMK.out.below HBx.out)
          clear HMK
          have HMK := HMK'
          clear HMK'
          have H21' := Lib.hid (bkbel H21.out HBx.out)
          clear H21
          have H21 := H21'
          clear H21'
          have HK2' := Lib.hid (HK2.out.below HBx.out)
          clear HK2
          have HK2 := HK2'
          clear HK2'
          have H23' := Lib.hid (bkbel H23.out HBx.out)
          clear H23
          have H23 := H23'
          clear H23'
          have HR1' := Lib.hid (HR1.out.below HBx.out)
          clear HR1
          have HR1 := HR1'
          clear HR1'
          have HA26' := Lib.hid (HA26.out.below HBx.out)
          clear HA26
          have HA26 := HA26'
          clear HA26'
          clear HBx
          have hz1 : (ae == ae) = true := by simp
          have hz2 : (me == me) = true := by simp
          go_wp2_with fail
          refine (ints_any A9 n26 c9 al wc HA9 HL9 (by omega)).mono ?_
          rintro e WD ⟨A30, c30, rfl, ho, hb⟩
          have HA30 := Lib.hid (Rd.of_own ho)
          have HW' := Lib.hid (bthen HW.out hb)
          clear HW
          have HW := HW'
          clear HW'
          have HI1' := Lib.hid (HI1.out.below hb)
          clear HI1
          have HI1 := HI1'
          clear HI1'
          have HI2' := Lib.hid (HI2.out.below hb)
          clear HI2
          have HI2 := HI2'
          clear HI2'
          have HI3' := Lib.hid (HI3.out.below hb)
          clear HI3
          have HI3 := HI3'
          clear HI3'
          have HI4' := Lib.hid (HI4.out.below hb)
          clear HI4
          have HI4 := HI4'
          clear HI4'
          have H5' := Lib.hid (bkbel H5.out hb)
          clear H5
          have H5 := H5'
          clear H5'
          have H6' := Lib.hid (bkbel H6.out hb)
          clear H6
          have H6 := H6'
          clear H6'
          have HRES' := Lib.hid (HRES.out.below hb)
          clear HRES
          have HRES := HRES'
          clear HRES'
          have HREF' := Lib.hid (HREF.out.below hb)
          clear HREF
          have HREF := HREF'
          clear HREF'
          have HC1' := Lib.hid (HC1.out.below hb)
          clear HC1
          have HC1 := HC1'
          clear HC1'
          have HC2' := Lib.hid (HC2.out.below hb)
          clear HC2
          have HC2 := HC2'
          clear HC2'
          have H16' := Lib.hid (bkbel H16.out hb)
          clear H16
          have H16 := H16'
          clear H16'
          have HC3' := Lib.hid (HC3.out.below hb)
          clear HC3
          have HC3 := HC3'
          clear HC3'
          have HC4' := Lib.hid (HC4.out.below hb)
          clear HC4
          have HC4 := HC4'
          clear HC4'
          have HA9' := Lib.hid (HA9.out.below hb)
          clear HA9
          have HA9 := HA9'
          clear HA9'
          have HMI' := Lib.hid (HMI.out.below hb)
          clear HMI
          have HMI := HMI'
          clear HMI'
          have HMK' := Lib.hid (HMK.out.below hb)
          clear HMK
          have HMK := HMK'
          clear HMK'
          have H21' := Lib.hid (bkbel H21.out hb)
          clear H21
          have H21 := H21'
          clear H21'
          have HK2' := Lib.hid (HK2.out.below hb)
          clear HK2
          have HK2 := HK2'
          clear HK2'
          have H23' := Lib.hid (bkbel H23.out hb)
          clear H23
          have H23 := H23'
          clear H23'
          have HR1' := Lib.hid (HR1.out.below hb)
          clear HR1
          have HR1 := HR1'
          clear HR1'
          have HA26' := Lib.hid (HA26.out.below hb)
          clear HA26
          have HA26 := HA26'
          clear HA26'
          have H28' := Lib.hid (bkbel H28.out hb)
          clear H28
          have H28 := H28'
          clear H28'
          have HX3' := Lib.hid (HX3.out.below hb)
          clear HX3
          have HX3 := HX3'
          clear HX3'
          have HX4' := Lib.hid (HX4.out.below hb)
          clear HX4
          have HX4 := HX4'
          clear HX4'
          clear ho hb
          have HEQ := Lib.hid (equal_int A30 A26 (al.map bitI) (al.map bitI) n26 n26 c30 c26 WD HA30 HA26 (by show _ = _; rw [List.length_map]; exact HL9.out) (by show _ = _; rw [List.length_map]; exact HL9.out) (by omega))
          rw [decide_eq_true (rfl : al.map bitI = al.map bitI)] at HEQ
          go_wp2_with fail
          refine HEQ.out.mono ?_
          rintro e WE ⟨rfl, nq5, rfl⟩
          clear HEQ
          have HW' := Lib.hid (bthen HW.out (below_drewN WD nq5))
          clear HW
          have HW := HW'
          clear HW'
          have HI1' := Lib.hid (HI1.out.below (below_drewN WD nq5))
          clear HI1
          have HI1 := HI1'
          clear HI1'
          have HI2' := Lib.hid (HI2.out.below (below_drewN WD nq5))
          clear HI2
          have HI2 := HI2'
          clear HI2'
          have HI3' := Lib.hid (HI3.out.below (below_drewN WD nq5))
          clear HI3
          have HI3 := HI3'
          clear HI3'
          have HI4' := Lib.hid (HI4.out.below (below_drewN WD nq5))
          clear HI4
          have HI4 := HI4'
          clear HI4'
          have H5' := Lib.hid (bkbel H5.out (below_drewN WD nq5))
          clear H5
          have H5 := H5'
          clear H5'
          have H6' := Lib.hid (bkbel H6.out (below_drewN WD nq5))
          clear H6
          have H6 := H6'
          clear H6'
          have HRES' := Lib.hid (HRES.out.below (below_drewN WD nq5))
          clear HRES
          have HRES := HRES'
          clear HRES'
          have HREF' := Lib.hid (HREF.out.below (below_drewN WD nq5))
          clear HREF
          have HREF := HREF'
          clear HREF'
          have HC1' := Lib.hid (HC1.out.below (below_drewN WD nq5))
          clear HC1
          have HC1 := HC1'
          clear HC1'
          have HC2' := Lib.hid (HC2.out.below (below_drewN WD nq5))
          clear HC2
          have HC2 := HC2'
          clear HC2'
          have H16' := Lib.hid (bkbel H16.out (below_drewN WD nq5))
          clear H16
          have H16 := H16'
          clear H16'
          have HC3' := Lib.hid (HC3.out.below (below_drewN WD nq5))
          clear HC3
          have HC3 := HC3'
          clear HC3'
          have HC4' := Lib.hid (HC4.out.below (below_drewN WD nq5))
          clear HC4
          have HC4 := HC4'
          clear HC4'
          have HA9' := Lib.hid (HA9.out.below (below_drewN WD nq5))
          clear HA9
          have HA9 := HA9'
          clear HA9'
          have HMI' := Lib.hid (HMI.out.below (below_drewN WD nq5))
          clear HMI
          have HMI := HMI'
          clear HMI'
          have HMK' := Lib.hid (HMK.out.below (below_drewN WD nq5))
          clear HMK
          have HMK := HMK'
          clear HMK'
          have H21' := Lib.hid (bkbel H21.out (below_drewN WD nq5))
          clear H21
          have H21 := H21'
          clear H21'
          have HK2' := Lib.hid (HK2.out.below (below_drewN WD nq5))
          clear HK2
          have HK2 := HK2'
          clear HK2'
          have H23' := Lib.hid (bkbel H23.out (below_drewN WD nq5))
          clear H23
          have H23 := H23'
          clear H23'
          have HR1' := Lib.hid (HR1.out.below (below_drewN WD nq5))
          clear HR1
          have HR1 := HR1'
          clear HR1'
          have HA26' := Lib.hid (HA26.out.below (below_drewN WD nq5))
          clear HA26
          have HA26 := HA26'
          clear HA26'
          have H28' := Lib.hid (bkbel H28.out (below_drewN WD nq5))
          clear H28
          have H28 := H28'
          clear H28'
          have HX3' := Lib.hid (HX3.out.below (below_drewN WD nq5))
          clear HX3
          have HX3 := HX3'
          clear HX3'
          have HX4' := Lib.hid (HX4.out.below (below_drewN WD nq5))
          clear HX4
          have HX4 := HX4'
          clear HX4'
          have HA30' := Lib.hid (HA30.out.below (below_drewN WD nq5))
          clear HA30
          have HA30 := HA30'
          clear HA30'
          generalize WD.drewN nq5 = WE at *
          obtain ⟨t0, t1, t2⟩ := cells3 H21.out
          obtain ⟨v0, v1, v2⟩ := cells3 H28.out
          go_wp2_with fail
          refine (sameC AM1 AM2 AA3 AA4 k1 k2 cM1 cM2 cc3 cc4 mi mp mk WE HMI HMK (Lib.hid HX3.out.rd) (Lib.hid HX4.out.rd) HN4 HM4 hle1 hle2 HRG).mono ?_
          rintro e WF ⟨rfl, hb⟩
          have HWF := Lib.hid (bthen HW.out hb)
          clear hb t0 t1 t2 v0 v1 v2
          go_wp2
          go_ret
          exact ⟨rfl, HWF.out⟩


set_option maxHeartbeats 2000000 in
set_option maxRecDepth 100000 in
theorem mainAssigns (v : RawV) (x : RawP) (A1 : Option Addr) (n1 c1 : Nat) (sin : List Int) (pt : Int) (A2 : Option Addr) (n2 c2 : Nat) (kp : List Bool) (A3 : Option Addr) (n3 c3 : Nat) (m : List Int) (A4 : Option Addr) (n4 c4 : Nat) (model : List Bool) (w : World) (hS : Hid (Rd w v.W.A (v.S.map SV.val))) (hSl : Hid (v.S.length = v.W.n))
    (hraw : Hid (fewB v.A.n v.W.n v.O.n v.K.n v.C.n v.R.n v.S = true → RawAt w v x)) (hr1 : Hid (Rd w A1 (sin.map (Value.int .u32)))) (hl1 : Hid (sin.length = n1)) (hu1 : Hid (∀ v ∈ sin, U32 v)) (hn1 : n1 ≤ 9223372036854775807) (hpt : I64 pt) (hr2 : Hid (Rd w A2 (kp.map Value.bool))) (hl2 : Hid (kp.length = n2)) (hn2 : n2 ≤ 9223372036854775807) (hr3 : Hid (Rd w A3 (m.map (Value.int .i64)))) (hl3 : Hid (m.length = n3)) (hn3 : n3 ≤ 9223372036854775807) (hr4 : Hid (Rd w A4 (model.map Value.bool))) (hl4 : Hid (model.length = n4)) (hn4 : n4 ≤ 9223372036854775807) :
    Calls Try.prog 4 #[.agg #[.int .u8 x.inp, .slice v.A.A v.A.n v.A.c, .slice v.W.A v.W.n v.W.c, .slice v.O.A v.O.n v.O.c, .slice v.K.A v.K.n v.K.c, .slice v.C.A v.C.n v.C.c, .slice v.R.A v.R.n v.R.c, .int .i64 x.req, .int .i64 x.bey, .int .i64 x.hol], .slice A1 n1 c1, .int .i64 pt, .slice A2 n2 c2, .slice A3 n3 c3, .slice A4 n4 c4] w fun e w' => e = .returned (.bool true) ∧ Below w.heap.size w w' := by
  obtain ⟨⟨AA, nA, cA⟩, ⟨AW, nW, cW⟩, S, ⟨AO, nO, cO⟩, ⟨AK, nK, cK⟩, ⟨AC, nC, cC⟩, ⟨AR, nR, cR⟩⟩ := v
  obtain ⟨inp0, ands, words, ops, keep, cached, rules, req, bey, hol⟩ := x
  dsimp only at hS hSl hraw ⊢
  have HPT := Lib.hid hpt
  clear hpt
  have HB0 : Hid (Below w.heap.size w (w.alloc (.cells #[.int .u8 inp0, .slice AA nA cA, .slice AW nW cW, .slice AO nO cO, .slice AK nK cK, .slice AC nC cC, .slice AR nR cR, .int .i64 req, .int .i64 bey, .int .i64 hol] 27))) := (Below.refl _ w).alloc (Nat.le_refl _) _
  have HX0 := Lib.hid (Bk.new w 27 #[.int .u8 inp0, .slice AA nA cA, .slice AW nW cW, .slice AO nO cO, .slice AK nK cK, .slice AC nC cC, .slice AR nR cR, .int .i64 req, .int .i64 bey, .int .i64 hol])
  go_enter Try.func4, Try.ntmps4
  go_wp2_with fail
  generalize (w.alloc (.cells #[.int .u8 inp0, .slice AA nA cA, .slice AW nW cW, .slice AO nO cO, .slice AK nK cK, .slice AC nC cC, .slice AR nR cR, .int .i64 req, .int .i64 bey, .int .i64 hol] 27)) = W0 at *
  have hF := few inp0 AA AW AO AK AC AR nA nW nO nK nC nR cA cW cO cK cC cR req bey hol S W0 (Lib.hid (hS.out.below HB0.out)) hSl
  cases hb : fewB nA nW nO nK nC nR S with
  | false =>
    rw [hb] at hF
    have HF := Lib.hid hF
    clear hF hb
    refine HF.out.mono ?_
    clear HF
    rintro e W1 ⟨rfl, hb1⟩
    have HB1 := Lib.hid (bthen HB0.out hb1)
    clear hb1
    go_wp2_with fail
    refine (awakeC W1).mono ?_
    rintro e W2 ⟨rfl, hb2⟩
    have HB2 := Lib.hid (bthen HB1.out hb2)
    clear hb2
    go_wp2
    go_ret
    exact ⟨rfl, HB2.out⟩
  | true =>
    rw [hb] at hF
    have HF := Lib.hid hF
    have HRAW := Lib.hid (hraw.out hb)
    clear hF hb
    refine HF.out.mono ?_
    clear HF
    rintro e W1 ⟨rfl, hb1⟩
    have HB1 := Lib.hid (bthen HB0.out hb1)
    have HX1 := Lib.hid (bkbel HX0.out hb1)
    clear hb1
    by_cases h1 : 30 < n1
    · have hd : decide ((30 : Int) < (n1 : Int)) = true := decide_eq_true (by omega)
      go_wp2_with fail
      refine (awakeC W1).mono ?_
      rintro e W2 ⟨rfl, hb2⟩
      have HB2 := Lib.hid (bthen HB1.out hb2)
      clear hb2
      go_wp2
      go_ret
      exact ⟨rfl, HB2.out⟩
    have hd1 : decide ((30 : Int) < (n1 : Int)) = false := decide_eq_false (by omega)
    by_cases h2 : 30 < n2
    · have hd : decide ((30 : Int) < (n2 : Int)) = true := decide_eq_true (by omega)
      go_wp2_with fail
      refine (awakeC W1).mono ?_
      rintro e W2 ⟨rfl, hb2⟩
      have HB2 := Lib.hid (bthen HB1.out hb2)
      clear hb2
      go_wp2
      go_ret
      exact ⟨rfl, HB2.out⟩
    have hd2 : decide ((30 : Int) < (n2 : Int)) = false := decide_eq_false (by omega)
    by_cases h3 : 60 < n3
    · have hd : decide ((60 : Int) < (n3 : Int)) = true := decide_eq_true (by omega)
      go_wp2_with fail
      refine (awakeC W1).mono ?_
      rintro e W2 ⟨rfl, hb2⟩
      have HB2 := Lib.hid (bthen HB1.out hb2)
      clear hb2
      go_wp2
      go_ret
      exact ⟨rfl, HB2.out⟩
    have hd3 : decide ((60 : Int) < (n3 : Int)) = false := decide_eq_false (by omega)
    by_cases h4 : 60 < n4
    · have hd : decide ((60 : Int) < (n4 : Int)) = true := decide_eq_true (by omega)
      go_wp2_with fail
      refine (awakeC W1).mono ?_
      rintro e W2 ⟨rfl, hb2⟩
      have HB2 := Lib.hid (bthen HB1.out hb2)
      clear hb2
      go_wp2
      go_ret
      exact ⟨rfl, HB2.out⟩
    have hd4 : decide ((60 : Int) < (n4 : Int)) = false := decide_eq_false (by omega)
    obtain ⟨x0, x1, x2, x3, x4, x5, x6, x7, x8, x9⟩ := (cells10 HX1.out).1
    have hR := assigns ⟨⟨AA, nA, cA⟩, ⟨AW, nW, cW⟩, S, ⟨AO, nO, cO⟩, ⟨AK, nK, cK⟩, ⟨AC, nC, cC⟩, ⟨AR, nR, cR⟩⟩ ⟨inp0, ands, words, ops, keep, cached, rules, req, bey, hol⟩ A1 n1 c1 sin pt A2 n2 c2 kp A3 n3 c3 m A4 n4 c4 model W1 (Lib.hid (HRAW.out.below HB1.out)) (Lib.hid (hr1.out.below HB1.out)) hl1 hu1 (by omega) HPT.out (Lib.hid (hr2.out.below HB1.out)) hl2 (by omega) (Lib.hid (hr3.out.below HB1.out)) hl3 (by omega) (Lib.hid (hr4.out.below HB1.out)) hl4 (by omega)
    dsimp only at hR
    have HR := Lib.hid hR
    clear hR
    go_wp2_with fail
    refine HR.out.mono ?_
    clear HR x0 x1 x2 x3 x4 x5 x6 x7 x8 x9
    rintro e W2 ⟨rfl, hb2⟩
    have HB2 := Lib.hid (bthen HB1.out hb2)
    clear hb2
    go_wp2_with fail
    refine (awakeC W2).mono ?_
    rintro e W3 ⟨rfl, hb3⟩
    have HB3 := Lib.hid (bthen HB2.out hb3)
    clear hb3
    go_wp2
    go_ret
    exact ⟨rfl, HB3.out⟩
end Go.Proofs.Ytamoniljgifggaa
