/-
  Contracts of decode.point, Valid and Tells.
-/
import Derived.Test.YtamoniljgifggaaVal
import Derived.WalkMore
import Derived.Laws.EntriesVeiled
import Derived.BigQuiet
set_option linter.unusedVariables false
set_option linter.unusedSimpArgs false
namespace Go.Proofs.Ytamoniljgifggaa
open Go.RowKit

/-- What a right result has. -/
structure Rts (R : Res) : Prop where
  sel : ∀ o ∈ R.ops, refOk R.G o.sel = true
  done : ∀ o ∈ R.ops, refOk R.G o.done = true
  keep : ∀ r ∈ R.keep, refOk R.G r = true
  cached : ∀ r ∈ R.cached, refOk R.G r = true
  rules : ∀ r ∈ R.rules, refOk R.G r = true
  req : refOk R.G R.req = true
  bey : refOk R.G R.bey = true
  hol : refOk R.G R.hol = true
  ins : ∀ l ∈ R.ins, (1 ≤ l.length ∧ l.length ≤ 16) ∧ ∀ r ∈ l, refOk R.G r = true
  keepn : R.keep.length = R.cached.length
theorem inOk_ref {G : List Nd} {r : Int} (h : inOk G r = true) : refOk G r = true := by
  simp only [inOk, Bool.and_eq_true] at h
  exact h.1.1
theorem Rts.of {R : Res} (h : rightR R = true) : Rts R := by
  simp only [rightR, Bool.and_eq_true, List.all_eq_true] at h
  obtain ⟨⟨⟨⟨ho, hw⟩, hown⟩, _⟩, hoth⟩ := h
  refine ⟨?_, ?_, ?_, ?_, ?_, ?_, ?_, ?_, ?_, ?_⟩
  · exact fun o ho => inOk_ref (hown _ (by simp only [ownL, List.mem_append, List.mem_map]; exact .inl (.inr ⟨o, ho, rfl⟩)))
  · exact fun o ho => hoth _ (by simp only [othL, List.mem_append, List.mem_map]; exact .inr ⟨o, ho, rfl⟩)
  · exact fun r hr => inOk_ref (hown _ (by simp only [ownL, List.mem_append]; exact .inl (.inl hr)))
  · exact fun r hr => hoth _ (by simp [othL, hr])
  · exact fun r hr => hoth _ (by simp [othL, hr])
  · exact hoth _ (by simp [othL])
  · exact hoth _ (by simp [othL])
  · exact hoth _ (by simp [othL])
  · intro l hl
    refine ⟨?_, fun r hr => inOk_ref (hown _ (by simp only [ownL, List.mem_append, List.mem_flatten]; exact .inr ⟨l, hl, hr⟩))⟩
    unfold wordsOk at hw
    exact of_decide_eq_true (List.all_eq_true.1 hw l hl)
  · unfold opsOk at ho
    split at ho
    · have := of_decide_eq_true ho
      omega
    · cases ho

/-- How many operations are done before the first one that is selected. -/
def pointN (v : Int → Bool) : List OpR → Nat
  | [] => 0
  | o :: L => if v o.sel then 0 else (if v o.done then 1 else 0) + pointN v L

theorem drop_get {α : Type} {l : List α} {k : Nat} {x : α} (h : l[k]? = some x) : l.drop k = x :: l.drop (k + 1) := by
  obtain ⟨hk, rfl⟩ := List.getElem?_eq_some_iff.1 h
  exact List.drop_eq_getElem_cons hk

set_option maxHeartbeats 1000000 in
set_option maxRecDepth 100000 in
theorem decPoint (B : Nat) (M : Int) (x : RV) (R : Res) (pb : Nat) (inp : List Bool) (w : World) (h : Hid (ResAt w B M x R)) (hR : Hid (Rts R)) (hi : Hid (IsAt w pb R.G inp)) :
    Calls Try.prog 39 #[.agg #[.pointer (some ⟨x.g, 0, none⟩), .slice x.I.A x.I.n x.I.c, .int .i64 R.req, .slice x.O.A x.O.n x.O.c, .slice x.K.A x.K.n x.K.c, .slice x.C.A x.C.n x.C.c, .slice x.R.A x.R.n x.R.c, .int .i64 R.bey, .int .i64 R.hol], .func (.func 76) #[] #[.pointer (some ⟨pb, 0, none⟩)]] w fun e w' => e = .returned (.int .i64 (pointN (valR (evalG R.G inp)) R.ops)) ∧ Below w.heap.size w w' := by
  have hsO := h.out.small.2.1
  have hlO : Hid (R.ops.length = x.O.n) := h.out.opsn
  have hop := Lib.hid (fun (w' : World) (hb : Below w.heap.size w w') (k : Nat) (hk : k < x.O.n) => h.out.opAt hb hk)
  have hent : ∀ (args : Array Value) (W : World), (callFunc 76 args).run Try.prog W = .ok (.enter 76 args) W := Ent.of Try.func76 (by kernel_rfl) (by kernel_rfl)
  clear h
  obtain ⟨g, ⟨AI, nI, cI⟩, S, ⟨AO, nO, cO⟩, ⟨AK, nK, cK⟩, ⟨AC, nC, cC⟩, ⟨AR, nR, cR⟩⟩ := x
  dsimp only at hsO
  generalize hv : evalG R.G inp = vals at *
  have HV := Lib.hid hv
  clear hv
  have hb0 : Below w.heap.size w (w.alloc (.cells #[.pointer (some ⟨g, 0, none⟩), .slice AI nI cI, .int .i64 R.req, .slice AO nO cO, .slice AK nK cK, .slice AC nC cC, .slice AR nR cR, .int .i64 R.bey, .int .i64 R.hol] 49)) := (Below.refl _ w).alloc (Nat.le_refl _) _
  have hx0 := Bk.new w 49 #[.pointer (some ⟨g, 0, none⟩), .slice AI nI cI, .int .i64 R.req, .slice AO nO cO, .slice AK nK cK, .slice AC nC cC, .slice AR nR cR, .int .i64 R.bey, .int .i64 R.hol]
  have HB0 := Lib.hid hb0; have HX0 := Lib.hid hx0
  clear hb0 hx0
  dsimp only
  go_enter Try.func39, Try.ntmps39
  go_wp2
  go_step3
  go_wp2
  go_step3
  go_wp2
  go_loopw [5, 11] (fun nv i wr => ∃ (k m : Nat), k ≤ nO ∧ m ≤ k ∧ i = .int .i64 k ∧ nv = .int .i64 m ∧ Hid (pointN (valR vals) R.ops = m + pointN (valR vals) (R.ops.drop k)) ∧ Hid (Below w.heap.size w wr)) (fun _ i _ => nO - (intOf i).toNat)
  case atStart => exact ⟨0, 0, Nat.zero_le _, Nat.le_refl _, rfl, rfl, by show _ = _; simp, HB0⟩
  case round =>
    obtain ⟨k, m, hk, hm, rfl, rfl, HP, HB⟩ := hrel
    by_cases hlt : k < nO
    · obtain ⟨b1, o1, y, rfl, hy, hbl, d0, d1, d2, d3⟩ := hop.out wr HB.out k hlt
      obtain ⟨kd, dn, sl, wt⟩ := y
      dsimp only at d0 d1 d2 d3
      have HY := Lib.hid hy
      have hsz : w.heap.size ≤ wr.heap.size := HB.out.size
      have HS : Hid (refOk R.G sl = true) := hR.out.sel _ (List.mem_of_getElem? hy)
      have HD : Hid (refOk R.G dn = true) := hR.out.done _ (List.mem_of_getElem? hy)
      have hp : pointN (valR vals) R.ops = m + if valR vals sl then 0 else (if valR vals dn then 1 else 0) + pointN (valR vals) (R.ops.drop (k + 1)) := by
        have := HP.out
        rw [drop_get hy] at this
        exact this
      have HPn := Lib.hid hp
      clear hy hp HP
      have HBX := Lib.hid (Bk.new wr 37 #[.int .u8 kd, .int .i64 dn, .int .i64 sl, .int .i64 wt])
      have HBV := Lib.hid (HB.out.alloc hsz (.cells #[.int .u8 kd, .int .i64 dn, .int .i64 sl, .int .i64 wt] 37))
      go_wp2_with fail
      generalize (wr.alloc (.cells #[.int .u8 kd, .int .i64 dn, .int .i64 sl, .int .i64 wt] 37)) = V at *
      have e1 : V.cell? ⟨wr.heap.size, 1, none⟩ = some (.int .i64 dn) := HBX.out.cell 1
      refine (isClo pb R.G inp sl V (hi.out.below HBV.out) HS.out).mono ?_
      rintro e w' ⟨rfl, rfl⟩
      rw [HV.out]
      cases hs : valR vals sl with
      | true =>
        have HS1 := Lib.hid hs
        clear hs
        go_wp2
        try rw [Exit.noGoto_ret]
        go_ret
        refine ⟨ret_int ?_, HBV.out⟩
        rw [HPn.out, HS1.out]
        simp
      | false =>
        have HS1 := Lib.hid hs
        clear hs
        go_wp2_with fail
        refine (isClo pb R.G inp dn V (hi.out.below HBV.out) HD.out).mono ?_
        rintro e w' ⟨rfl, rfl⟩
        rw [HV.out]
        cases hd : valR vals dn with
        | true =>
          have HS2 := Lib.hid hd
          clear hd
          go_wp2
          go_roundw
          case rel => exact ⟨k + 1, m + 1, by omega, by omega, by go_num, by go_num, by show _ = _; rw [HPn.out, HS1.out, HS2.out]; simp; omega, HBV⟩
          case measure => simp [intOf]; omega
        | false =>
          have HS2 := Lib.hid hd
          clear hd
          go_wp2
          go_roundw
          case rel => exact ⟨k + 1, m, by omega, by omega, by go_num, rfl, by show _ = _; rw [HPn.out, HS1.out, HS2.out]; simp, HBV⟩
          case measure => simp [intOf]; omega
    · obtain rfl : nO = k := by omega
      go_wp2
      try rw [Exit.noGoto_ret]
      go_ret
      refine ⟨ret_int ?_, HB.out⟩
      rw [HP.out, List.drop_eq_nil_of_le (by rw [hlO.out]; omega)]
      simp [pointN]

theorem validClo (pb qb : Nat) (G : List Nd) (inp : List Bool) (r : Int) (w : World) (h : Hid (IsAt w pb G inp)) (hr : Hid (refOk G r = true)) (cq : w.cell? ⟨qb, 0, none⟩ = some (.func (.func 76) #[] #[.pointer (some ⟨pb, 0, none⟩)])) :
    Calls Try.prog 47 #[.int .i64 r, .pointer (some ⟨qb, 0, none⟩)] w fun e w' => e = .returned (.bool (!valR (evalG G inp) r)) ∧ w = w' := by
  have hent : ∀ (args : Array Value) (W : World), (callFunc 76 args).run Try.prog W = .ok (.enter 76 args) W := Ent.of Try.func76 (by kernel_rfl) (by kernel_rfl)
  have HC := Lib.hid (isClo pb G inp r w h.out hr.out)
  generalize valR (evalG G inp) r = t at *
  go_enter Try.func47, Try.ntmps47
  go_wp2_with fail
  refine HC.out.mono ?_
  rintro e w' ⟨rfl, rfl⟩
  go_wp2
  go_ret
  exact ⟨rfl, rfl⟩

/-- What Valid says. -/
def validR (R : Res) (inp : List Bool) : Bool := valR (evalG R.G inp) R.req && R.rules.all (valR (evalG R.G inp))
/-- The error of a result that is not right, or of values that do not fit. -/
def errR (R : Res) (m : Nat) : Int := if rightR R then (if m = (inputsOf R.G).length then 0 else 421) else 420

set_option maxHeartbeats 1000000 in
set_option maxRecDepth 100000 in
theorem decValid (B : Nat) (M : Int) (x : RV) (R : Res) (A : Option Addr) (m c : Nat) (inp : List Bool) (w : World) (h : Hid (ResAt w B M x R)) (hr : Hid (Rd w A (inp.map Value.bool))) (hl : Hid (inp.length = m)) (hm : m ≤ 1000000) :
    Calls Try.prog 14 #[.agg #[.pointer (some ⟨x.g, 0, none⟩), .slice x.I.A x.I.n x.I.c, .int .i64 R.req, .slice x.O.A x.O.n x.O.c, .slice x.K.A x.K.n x.K.c, .slice x.C.A x.C.n x.C.c, .slice x.R.A x.R.n x.R.c, .int .i64 R.bey, .int .i64 R.hol], .slice A m c] w fun e w' => e = .returned (.tuple #[.bool (decide (errR R m = 0) && validR R inp), .int .i64 (errR R m)]) ∧ Below w.heap.size w w' := by
  have HR := Lib.hid (fun (w' : World) (hb : Below w.heap.size w w') => decRight B M x R w' (h.out.below hb))
  have HV := Lib.hid (fun (w' : World) (hb : Below w.heap.size w w') => decValues B M x R A m c inp w' (h.out.below hb) (hr.out.below hb) hl hm)
  have hent : ∀ (args : Array Value) (W : World), (callFunc 76 args).run Try.prog W = .ok (.enter 76 args) W := Ent.of Try.func76 (by kernel_rfl) (by kernel_rfl)
  have HRU : Hid (IntsAt w x.R R.rules) := h.out.rules
  have hsR := h.out.small.2.2.2.2
  clear h hr
  obtain ⟨g, ⟨AI, nI, cI⟩, S, ⟨AO, nO, cO⟩, ⟨AK, nK, cK⟩, ⟨AC, nC, cC⟩, ⟨AR, nR, cR⟩⟩ := x
  dsimp only at hsR
  have hb0 : Below w.heap.size w (w.alloc (.cells #[.pointer (some ⟨g, 0, none⟩), .slice AI nI cI, .int .i64 R.req, .slice AO nO cO, .slice AK nK cK, .slice AC nC cC, .slice AR nR cR, .int .i64 R.bey, .int .i64 R.hol] 49)) := (Below.refl _ w).alloc (Nat.le_refl _) _
  have hx0 := Bk.new w 49 #[.pointer (some ⟨g, 0, none⟩), .slice AI nI cI, .int .i64 R.req, .slice AO nO cO, .slice AK nK cK, .slice AC nC cC, .slice AR nR cR, .int .i64 R.bey, .int .i64 R.hol]
  have HB0 := Lib.hid hb0; have HX0 := Lib.hid hx0
  clear hb0 hx0
  dsimp only
  go_enter Try.func14, Try.ntmps14
  go_wp2_with fail
  have hs0 : w.heap.size < (w.alloc (.cells #[.pointer (some ⟨g, 0, none⟩), .slice AI nI cI, .int .i64 R.req, .slice AO nO cO, .slice AK nK cK, .slice AC nC cC, .slice AR nR cR, .int .i64 R.bey, .int .i64 R.hol] 49)).heap.size := by simp
  generalize (w.alloc (.cells #[.pointer (some ⟨g, 0, none⟩), .slice AI nI cI, .int .i64 R.req, .slice AO nO cO, .slice AK nK cK, .slice AC nC cC, .slice AR nR cR, .int .i64 R.bey, .int .i64 R.hol] 49)) = W0 at *
  refine (HR.out W0 HB0.out).mono ?_
  rintro e w1 ⟨rfl, hb1⟩
  have HB1 : Hid (Below w.heap.size w w1) := bthen HB0.out hb1
  have HX1 := Lib.hid (HX0.out.below hb1 HX0.out.lt)
  clear hb1 HR
  cases hrt : rightR R with
  | false =>
    have HRT := Lib.hid hrt
    clear hrt
    go_wp2
    go_ret2
    refine ⟨?_, HB1.out⟩
    have : errR R m = 420 := by simp [errR, HRT.out]
    rw [this]
    rfl
  | true =>
    have HRT := Lib.hid hrt
    have HRS := Lib.hid (Rts.of hrt)
    clear hrt
    have x0 : w1.cell? ⟨w.heap.size, 0, none⟩ = some (.pointer (some ⟨g, 0, none⟩)) := HX1.out.cell 0
    have x1 : w1.cell? ⟨w.heap.size, 1, none⟩ = some (.slice AI nI cI) := HX1.out.cell 1
    have x2 : w1.cell? ⟨w.heap.size, 2, none⟩ = some (.int .i64 R.req) := HX1.out.cell 2
    have x3 : w1.cell? ⟨w.heap.size, 3, none⟩ = some (.slice AO nO cO) := HX1.out.cell 3
    have x4 : w1.cell? ⟨w.heap.size, 4, none⟩ = some (.slice AK nK cK) := HX1.out.cell 4
    have x5 : w1.cell? ⟨w.heap.size, 5, none⟩ = some (.slice AC nC cC) := HX1.out.cell 5
    have x6 : w1.cell? ⟨w.heap.size, 6, none⟩ = some (.slice AR nR cR) := HX1.out.cell 6
    have x7 : w1.cell? ⟨w.heap.size, 7, none⟩ = some (.int .i64 R.bey) := HX1.out.cell 7
    have x8 : w1.cell? ⟨w.heap.size, 8, none⟩ = some (.int .i64 R.hol) := HX1.out.cell 8
    go_wp2_with fail
    clear x0 x1 x2 x3 x4 x5 x6 x7 x8
    refine (HV.out w1 HB1.out).mono ?_
    rintro e w2 ⟨pb, rfl, hi, hb2⟩
    have HI := Lib.hid hi
    have HB2 : Hid (Below w.heap.size w w2) := bthen HB1.out hb2
    have HX2 := Lib.hid (HX1.out.below hb2 HX1.out.lt)
    have hs2 : w.heap.size < w2.heap.size := HX2.out.lt
    clear hb2 hi HV
    by_cases hin : m = (inputsOf R.G).length
    · have hd : decide (m = (inputsOf R.G).length) = true := decide_eq_true hin
      have HI2 := Lib.hid (HI.out hin)
      have HE : Hid (errR R m = 0) := by show _ = _; rw [errR, HRT.out, if_pos rfl, if_pos hin]
      rw [hd]
      clear hd hin HI
      have x2 : w2.cell? ⟨w.heap.size, 2, none⟩ = some (.int .i64 R.req) := HX2.out.cell 2
      have x6 : w2.cell? ⟨w.heap.size, 6, none⟩ = some (.slice AR nR cR) := HX2.out.cell 6
      go_wp2_with fail
      have cq : (w2.alloc (.cells #[.func (.func 76) #[] #[.pointer (some ⟨pb, 0, none⟩)]] 100)).cell? ⟨w2.heap.size, 0, none⟩ = some (.func (.func 76) #[] #[.pointer (some ⟨pb, 0, none⟩)]) := (Bk.new w2 _ _).cell 0
      have hbv : Below w2.heap.size w2 (w2.alloc (.cells #[.func (.func 76) #[] #[.pointer (some ⟨pb, 0, none⟩)]] 100)) := (Below.refl _ w2).alloc (Nat.le_refl _) _
      have hsv : w2.heap.size < (w2.alloc (.cells #[.func (.func 76) #[] #[.pointer (some ⟨pb, 0, none⟩)]] 100)).heap.size := by simp
      clear x2 x6
      generalize (w2.alloc (.cells #[.func (.func 76) #[] #[.pointer (some ⟨pb, 0, none⟩)]] 100)) = V at *
      have HBV := Lib.hid hbv
      have HBw : Hid (Below w.heap.size w V) := bthen HB2.out hbv
      have HXV := Lib.hid (HX2.out.below hbv HX2.out.lt)
      have HIV := Lib.hid (HI2.out.below hbv)
      clear hbv
      refine (isClo pb R.G inp R.req V HIV.out HRS.out.req).mono ?_
      rintro e w' ⟨rfl, rfl⟩
      have hva : validR R inp = (valR (evalG R.G inp) R.req && R.rules.all (valR (evalG R.G inp))) := rfl
      generalize valR (evalG R.G inp) R.req = t at *
      have HVA := Lib.hid hva
      clear hva
      have x6 : V.cell? ⟨w.heap.size, 6, none⟩ = some (.slice AR nR cR) := HXV.out.cell 6
      cases t with
      | false =>
        go_wp2
        go_ret2
        refine ⟨?_, HBw.out⟩
        rw [HE.out, HVA.out]
        rfl
      | true =>
        have hpred : PredOn Try.prog 47 #[.pointer (some ⟨w2.heap.size, 0, none⟩)] (Value.int .i64) (fun r => !valR (evalG R.G inp) r) V R.rules := by
          intro r hr W hW
          refine (validClo pb w2.heap.size R.G inp r W (HIV.out.below hW) (HRS.out.rules r hr) ((World.cell?_of_block (hW.block w2.heap.size hsv)).trans cq)).mono ?_
          rintro e w' ⟨rfl, rfl⟩
          exact ⟨rfl, Below.refl _ _⟩
        have hct := containsf_ref AR nR cR R.rules 47 #[.pointer (some ⟨w2.heap.size, 0, none⟩)] (fun r => !valR (evalG R.G inp) r) V (HRU.out.1.below HBw.out) HRU.out.2.1 (by omega) (Ent.of Try.func47 (by kernel_rfl) (by kernel_rfl)) hpred
        have HCT := Lib.hid hct
        clear hct hpred
        go_wp2_with fail
        refine HCT.out.mono ?_
        rintro e w' ⟨rfl, hb'⟩
        have HBn : Hid (Below w.heap.size w w') := bthen HBw.out hb'
        clear hb' HCT
        generalize hg : (R.rules.any fun r => !valR (evalG R.G inp) r) = t2 at *
        have HG2 := Lib.hid hg
        clear hg
        go_wp2
        go_ret2
        refine ⟨?_, HBn.out⟩
        have : R.rules.all (valR (evalG R.G inp)) = !t2 := by rw [← HG2.out]; simp [List.all_eq_not_any_not]
        rw [HE.out, HVA.out, this]
        cases t2 <;> rfl
    · have hd : decide (m = (inputsOf R.G).length) = false := decide_eq_false hin
      have HE : Hid (errR R m = 421) := by show _ = _; rw [errR, HRT.out, if_pos rfl, if_neg hin]
      rw [hd]
      clear hd hin HI
      go_wp2
      go_ret2
      refine ⟨?_, HB2.out.alloc (Nat.le_of_lt hs2) _⟩
      rw [HE.out]
      rfl

theorem isCloQ (pb : Nat) (G : List Nd) (inp : List Bool) (r : Int) (w : World) (h : IsAt w pb G inp) (hr : refOk G r = true) (n : Nat) :
    Calls Try.prog 76 #[.int .i64 r, .pointer (some ⟨pb, 0, none⟩)] (w.drewN n) fun e w' => e = .returned (.bool (valR (evalG G inp) r)) ∧ w' = w.drewN n := by
  refine (isClo pb G inp r (w.drewN n) (h.below (bdrewN (Below.refl _ w) n)) hr).mono ?_
  rintro e w' ⟨rfl, rfl⟩
  exact ⟨rfl, rfl⟩

set_option maxHeartbeats 1000000 in
set_option maxRecDepth 100000 in
theorem decTells (B : Nat) (M : Int) (x : RV) (R : Res) (A : Option Addr) (m c : Nat) (inp : List Bool) (w : World) (h : Hid (ResAt w B M x R)) (hr : Hid (Rd w A (inp.map Value.bool))) (hl : Hid (inp.length = m)) (hm : m ≤ 1000000) :
    Calls Try.prog 15 #[.agg #[.pointer (some ⟨x.g, 0, none⟩), .slice x.I.A x.I.n x.I.c, .int .i64 R.req, .slice x.O.A x.O.n x.O.c, .slice x.K.A x.K.n x.K.c, .slice x.C.A x.C.n x.C.c, .slice x.R.A x.R.n x.R.c, .int .i64 R.bey, .int .i64 R.hol], .slice A m c] w fun e w' => e = .returned (.tuple #[.bool (decide (errR R m = 0) && valR (evalG R.G inp) R.bey), .bool (decide (errR R m = 0) && valR (evalG R.G inp) R.hol), .int .i64 (errR R m)]) ∧ Below w.heap.size w w' := by
  have HR := Lib.hid (fun (w' : World) (hb : Below w.heap.size w w') => decRight B M x R w' (h.out.below hb))
  have HV := Lib.hid (fun (w' : World) (hb : Below w.heap.size w w') => decValues B M x R A m c inp w' (h.out.below hb) (hr.out.below hb) hl hm)
  have hent : ∀ (args : Array Value) (W : World), (callFunc 76 args).run Try.prog W = .ok (.enter 76 args) W := Ent.of Try.func76 (by kernel_rfl) (by kernel_rfl)
  clear h hr
  obtain ⟨g, ⟨AI, nI, cI⟩, S, ⟨AO, nO, cO⟩, ⟨AK, nK, cK⟩, ⟨AC, nC, cC⟩, ⟨AR, nR, cR⟩⟩ := x
  have hb0 : Below w.heap.size w (w.alloc (.cells #[.pointer (some ⟨g, 0, none⟩), .slice AI nI cI, .int .i64 R.req, .slice AO nO cO, .slice AK nK cK, .slice AC nC cC, .slice AR nR cR, .int .i64 R.bey, .int .i64 R.hol] 49)) := (Below.refl _ w).alloc (Nat.le_refl _) _
  have hx0 := Bk.new w 49 #[.pointer (some ⟨g, 0, none⟩), .slice AI nI cI, .int .i64 R.req, .slice AO nO cO, .slice AK nK cK, .slice AC nC cC, .slice AR nR cR, .int .i64 R.bey, .int .i64 R.hol]
  have HB0 := Lib.hid hb0; have HX0 := Lib.hid hx0
  clear hb0 hx0
  dsimp only
  go_enter Try.func15, Try.ntmps15
  go_wp2_with fail
  have hs0 : w.heap.size < (w.alloc (.cells #[.pointer (some ⟨g, 0, none⟩), .slice AI nI cI, .int .i64 R.req, .slice AO nO cO, .slice AK nK cK, .slice AC nC cC, .slice AR nR cR, .int .i64 R.bey, .int .i64 R.hol] 49)).heap.size := by simp
  generalize (w.alloc (.cells #[.pointer (some ⟨g, 0, none⟩), .slice AI nI cI, .int .i64 R.req, .slice AO nO cO, .slice AK nK cK, .slice AC nC cC, .slice AR nR cR, .int .i64 R.bey, .int .i64 R.hol] 49)) = W0 at *
  refine (HR.out W0 HB0.out).mono ?_
  rintro e w1 ⟨rfl, hb1⟩
  have HB1 : Hid (Below w.heap.size w w1) := bthen HB0.out hb1
  have HX1 := Lib.hid (HX0.out.below hb1 HX0.out.lt)
  clear hb1 HR
  cases hrt : rightR R with
  | false =>
    have HRT := Lib.hid hrt
    clear hrt
    go_wp2
    go_ret3
    refine ⟨?_, HB1.out⟩
    have : errR R m = 420 := by simp [errR, HRT.out]
    rw [this]
    rfl
  | true =>
    have HRT := Lib.hid hrt
    have HRS := Lib.hid (Rts.of hrt)
    clear hrt
    have x0 : w1.cell? ⟨w.heap.size, 0, none⟩ = some (.pointer (some ⟨g, 0, none⟩)) := HX1.out.cell 0
    have x1 : w1.cell? ⟨w.heap.size, 1, none⟩ = some (.slice AI nI cI) := HX1.out.cell 1
    have x2 : w1.cell? ⟨w.heap.size, 2, none⟩ = some (.int .i64 R.req) := HX1.out.cell 2
    have x3 : w1.cell? ⟨w.heap.size, 3, none⟩ = some (.slice AO nO cO) := HX1.out.cell 3
    have x4 : w1.cell? ⟨w.heap.size, 4, none⟩ = some (.slice AK nK cK) := HX1.out.cell 4
    have x5 : w1.cell? ⟨w.heap.size, 5, none⟩ = some (.slice AC nC cC) := HX1.out.cell 5
    have x6 : w1.cell? ⟨w.heap.size, 6, none⟩ = some (.slice AR nR cR) := HX1.out.cell 6
    have x7 : w1.cell? ⟨w.heap.size, 7, none⟩ = some (.int .i64 R.bey) := HX1.out.cell 7
    have x8 : w1.cell? ⟨w.heap.size, 8, none⟩ = some (.int .i64 R.hol) := HX1.out.cell 8
    go_wp2_with fail
    clear x0 x1 x2 x3 x4 x5 x6 x7 x8
    refine (HV.out w1 HB1.out).mono ?_
    rintro e w2 ⟨pb, rfl, hi, hb2⟩
    have HI := Lib.hid hi
    have HB2 : Hid (Below w.heap.size w w2) := bthen HB1.out hb2
    have HX2 := Lib.hid (HX1.out.below hb2 HX1.out.lt)
    have hs2 : w.heap.size < w2.heap.size := HX2.out.lt
    clear hb2 hi HV
    by_cases hin : m = (inputsOf R.G).length
    · have hd : decide (m = (inputsOf R.G).length) = true := decide_eq_true hin
      have HI2 := Lib.hid (HI.out hin)
      have HE : Hid (errR R m = 0) := by show _ = _; rw [errR, HRT.out, if_pos rfl, if_pos hin]
      rw [hd]
      clear hd hin HI
      have x7 : w2.cell? ⟨w.heap.size, 7, none⟩ = some (.int .i64 R.bey) := HX2.out.cell 7
      have x8 : w2.cell? ⟨w.heap.size, 8, none⟩ = some (.int .i64 R.hol) := HX2.out.cell 8
      have hc1 := isCloQ pb R.G inp R.bey w2 HI2.out HRS.out.bey
      have hc2 := isCloQ pb R.G inp R.hol w2 HI2.out HRS.out.hol
      obtain ⟨t1, ht1⟩ : ∃ t, valR (evalG R.G inp) R.bey = t := ⟨_, rfl⟩
      obtain ⟨t2, ht2⟩ : ∃ t, valR (evalG R.G inp) R.hol = t := ⟨_, rfl⟩
      rw [ht1] at hc1
      rw [ht2] at hc2
      have HC1 := Lib.hid hc1; have HC2 := Lib.hid hc2; have HT1 := Lib.hid ht1; have HT2 := Lib.hid ht2
      clear hc1 hc2 ht1 ht2
      go_wp2
      go_quiet ((go_at_call 76; first | with_reducible exact Calls.quiet_of_same (HC1.out _) | with_reducible exact Calls.quiet_of_same (HC2.out _)))
      go_wp2
      go_ret3
      refine ⟨?_, bdrewN HB2.out _⟩
      rw [HE.out, HT1.out, HT2.out]
      simp
    · have hd : decide (m = (inputsOf R.G).length) = false := decide_eq_false hin
      have HE : Hid (errR R m = 421) := by show _ = _; rw [errR, HRT.out, if_pos rfl, if_neg hin]
      rw [hd]
      clear hd hin HI
      go_wp2
      go_ret3
      refine ⟨?_, HB2.out⟩
      rw [HE.out]
      rfl
end Go.Proofs.Ytamoniljgifggaa

