/-
  Contracts of package decode (written by gen/decode.py).
-/
import Derived.Test.YtamoniljgifggaaRes
import Derived.Test.YtamoniljgifggaaConcat
import Derived.Test.YtamoniljgifggaaMapI
import Derived.Test.YtamoniljgifggaaTwo
set_option linter.unusedVariables false
set_option linter.unusedSimpArgs false
namespace Go.Proofs.Ytamoniljgifggaa
open Go.RowKit


/-- The operation at k, where there is one. -/
theorem ResAt.opAt {w : World} {B : Nat} {M : Int} {x : RV} {R : Res} (h : ResAt w B M x R) {w' : World} (hb : Below w.heap.size w w') {k : Nat} (hk : k < x.O.n) :
    ∃ b off y, x.O.A = some ⟨b, off, none⟩ ∧ R.ops[k]? = some y ∧ b < w'.heap.size ∧ w'.cell? ⟨b, off + k * 4, none⟩ = some (.int .u8 y.kind) ∧ w'.cell? ⟨b, off + k * 4 + 1, none⟩ = some (.int .i64 y.done) ∧ w'.cell? ⟨b, off + k * 4 + 2, none⟩ = some (.int .i64 y.sel) ∧ w'.cell? ⟨b, off + k * 4 + 3, none⟩ = some (.int .i64 y.write) := (h.ops.below hb).op h.opsn hk

theorem opsCount_one (m : Nat) (o : OpR) : opsCount m [o] = if o.kind = 3 then (if o.write = m then some (m + 1) else none) else if (o.kind = 4 ∨ o.kind = 5) ∧ o.write = -1 then some m else none := rfl
theorem opsOk_no {R : Res} {k : Nat} {y : OpR} {m : Nat} (hm : opsCount 0 (R.ops.take k) = some m) (hy : R.ops[k]? = some y) (h : opsCount m [y] = none) : opsOk R = false := by
  have h1 : opsCount 0 (R.ops.take (k + 1)) = none := by rw [take_snoc hy, opsCount_snoc, hm]; exact h
  have h2 := opsCount_none _ (R.ops.drop (k + 1)) 0 h1
  rw [List.take_append_drop] at h2
  simp [opsOk, h2]
theorem opsNext {R : Res} {k : Nat} {y : OpR} {m m' : Nat} (hm : opsCount 0 (R.ops.take k) = some m) (hy : R.ops[k]? = some y) (h : opsCount m [y] = some m') : opsCount 0 (R.ops.take (k + 1)) = some m' := by
  rw [take_snoc hy, opsCount_snoc, hm]; exact h

set_option maxHeartbeats 1000000 in
set_option maxRecDepth 100000 in
theorem decOps (B : Nat) (M : Int) (x : RV) (R : Res) (w : World) (h : Hid (ResAt w B M x R)) :
    Calls Try.prog 49 #[.agg #[.pointer (some ⟨x.g, 0, none⟩), .slice x.I.A x.I.n x.I.c, .int .i64 R.req, .slice x.O.A x.O.n x.O.c, .slice x.K.A x.K.n x.K.c, .slice x.C.A x.C.n x.C.c, .slice x.R.A x.R.n x.R.c, .int .i64 R.bey, .int .i64 R.hol]] w fun e w' => e = .returned (.bool (opsOk R)) ∧ Below w.heap.size w w' := by
  have hn : x.O.n ≤ 100000 := h.out.small.2.1
  have hlK : Hid (R.keep.length = x.K.n) := h.out.keep.2.1
  have hlC : Hid (R.cached.length = x.C.n) := h.out.cached.2.1
  have hlO : Hid (R.ops.length = x.O.n) := h.out.opsn
  have hop := Lib.hid (fun (w' : World) (hb : Below w.heap.size w w') (k : Nat) (hk : k < x.O.n) => h.out.opAt hb hk)
  clear h
  obtain ⟨g, ⟨AI, nI, cI⟩, S, ⟨AO, nO, cO⟩, ⟨AK, nK, cK⟩, ⟨AC, nC, cC⟩, ⟨AR, nR, cR⟩⟩ := x
  dsimp only at *
  have hb0 : Below w.heap.size w (w.alloc (.cells #[.pointer (some ⟨g, 0, none⟩), .slice AI nI cI, .int .i64 R.req, .slice AO nO cO, .slice AK nK cK, .slice AC nC cC, .slice AR nR cR, .int .i64 R.bey, .int .i64 R.hol] 49)) := (Below.refl _ w).alloc (Nat.le_refl _) _
  have hx0 := Bk.new w 49 #[.pointer (some ⟨g, 0, none⟩), .slice AI nI cI, .int .i64 R.req, .slice AO nO cO, .slice AK nK cK, .slice AC nC cC, .slice AR nR cR, .int .i64 R.bey, .int .i64 R.hol]
  have HB0 := Lib.hid hb0; have HX0 := Lib.hid hx0
  clear hb0 hx0
  go_enter Try.func49, Try.ntmps49
  go_wp2
  go_loopw [3, 10] (fun nv i wr => ∃ (k m : Nat), k ≤ nO ∧ m ≤ k ∧ i = .int .i64 k ∧ nv = .int .i64 m ∧ Hid (opsCount 0 (R.ops.take k) = some m) ∧ Hid (Below w.heap.size w wr) ∧ Hid (Bk wr w.heap.size 49 #[.pointer (some ⟨g, 0, none⟩), .slice AI nI cI, .int .i64 R.req, .slice AO nO cO, .slice AK nK cK, .slice AC nC cC, .slice AR nR cR, .int .i64 R.bey, .int .i64 R.hol])) (fun _ i _ => nO - (intOf i).toNat)
  case atStart => exact ⟨0, 0, Nat.zero_le _, Nat.le_refl _, rfl, rfl, rfl, HB0, HX0⟩
  case round =>
    obtain ⟨k, m, hk, hmk, rfl, rfl, Hm, Hb, HX⟩ := hrel
    clear HB0 HX0
    by_cases hlt : k < nO
    · obtain ⟨b1, o1, y, rfl, hy, hbl, d0, d1, d2, d3⟩ := hop.out wr Hb.out k hlt
      obtain ⟨kd, dn, sl, wt⟩ := y
      dsimp only at d0 d1 d2 d3
      have HY := Lib.hid hy
      clear hy hop
      have hnxt := Lib.hid (fun (W : World) (hW : Below wr.heap.size wr W) => And.intro (bthen Hb.out hW) (HX.out.below hW HX.out.lt))
      by_cases h3 : kd = 3
      · have hb3 : (kd == 3) = true := by simpa using h3
        by_cases hw : wt = m
        · have hbw : (wt != (m : Int)) = false := by simpa using hw
          have Hn : Hid (opsCount m [⟨kd, dn, sl, wt⟩] = some (m + 1)) := by show opsCount m [_] = _; rw [opsCount_one]; simp [h3, hw]
          clear h3 hw
          go_wp2
          go_roundw
          case rel => exact ⟨k + 1, m + 1, by omega, by omega, by go_num, by go_num, opsNext Hm.out HY.out Hn.out, (hnxt.out _ ((Below.refl _ wr).alloc (Nat.le_refl _) _)).1, (hnxt.out _ ((Below.refl _ wr).alloc (Nat.le_refl _) _)).2⟩
          case measure => simp [intOf]; omega
        · have hbw : (wt != (m : Int)) = true := by simpa using hw
          have Hn : Hid (opsCount m [⟨kd, dn, sl, wt⟩] = none) := by show opsCount m [_] = _; rw [opsCount_one]; simp [h3, hw]
          clear h3 hw
          go_wp2
          go_ret
          exact ⟨ret_bool (opsOk_no Hm.out HY.out Hn.out).symm, (hnxt.out _ ((Below.refl _ wr).alloc (Nat.le_refl _) _)).1⟩
      · have hb3 : (kd == 3) = false := by simpa using h3
        by_cases h45 : kd = 4 ∨ kd = 5
        · by_cases hw : wt = -1
          · have hbw : (wt != (-1 : Int)) = false := by simpa using hw
            have Hn : Hid (opsCount m [⟨kd, dn, sl, wt⟩] = some m) := by show opsCount m [_] = _; rw [opsCount_one]; simp [h3, hw, h45]
            rcases h45 with h4 | h4
            · have hb4 : (kd == 4) = true := by simpa using h4
              clear h3 hw h4
              go_wp2
              go_roundw
              case rel => exact ⟨k + 1, m, by omega, by omega, by go_num, rfl, opsNext Hm.out HY.out Hn.out, (hnxt.out _ ((Below.refl _ wr).alloc (Nat.le_refl _) _)).1, (hnxt.out _ ((Below.refl _ wr).alloc (Nat.le_refl _) _)).2⟩
              case measure => simp [intOf]; omega
            · have hb4 : (kd == 4) = false := by simp; omega
              have hb5 : (kd == 5) = true := by simpa using h4
              clear h3 hw h4
              go_wp2
              go_roundw
              case rel => exact ⟨k + 1, m, by omega, by omega, by go_num, rfl, opsNext Hm.out HY.out Hn.out, (hnxt.out _ ((Below.refl _ wr).alloc (Nat.le_refl _) _)).1, (hnxt.out _ ((Below.refl _ wr).alloc (Nat.le_refl _) _)).2⟩
              case measure => simp [intOf]; omega
          · have hbw : (wt != (-1 : Int)) = true := by simpa using hw
            have Hn : Hid (opsCount m [⟨kd, dn, sl, wt⟩] = none) := by show opsCount m [_] = _; rw [opsCount_one]; simp [h3, hw]
            rcases h45 with h4 | h4
            · have hb4 : (kd == 4) = true := by simpa using h4
              clear h3 hw h4
              go_wp2
              go_ret
              exact ⟨ret_bool (opsOk_no Hm.out HY.out Hn.out).symm, (hnxt.out _ ((Below.refl _ wr).alloc (Nat.le_refl _) _)).1⟩
            · have hb4 : (kd == 4) = false := by simp; omega
              have hb5 : (kd == 5) = true := by simpa using h4
              clear h3 hw h4
              go_wp2
              go_ret
              exact ⟨ret_bool (opsOk_no Hm.out HY.out Hn.out).symm, (hnxt.out _ ((Below.refl _ wr).alloc (Nat.le_refl _) _)).1⟩
        · have hb4 : (kd == 4) = false := by simp; omega
          have hb5 : (kd == 5) = false := by simp; omega
          have Hn : Hid (opsCount m [⟨kd, dn, sl, wt⟩] = none) := by show opsCount m [_] = _; rw [opsCount_one]; simp [h3, h45]
          clear h3 h45
          go_wp2
          go_ret
          exact ⟨ret_bool (opsOk_no Hm.out HY.out Hn.out).symm, (hnxt.out _ ((Below.refl _ wr).alloc (Nat.le_refl _) _)).1⟩
    · obtain rfl : k = nO := by omega
      have c4 : wr.cell? ⟨w.heap.size, 4, none⟩ = some (.slice AK nK cK) := HX.out.cell 4
      have c5 : wr.cell? ⟨w.heap.size, 5, none⟩ = some (.slice AC nC cC) := HX.out.cell 5
      have hfin : opsOk R = decide (nK = m ∧ nC = m) := by
        have h1 := Hm.out
        rw [List.take_of_length_le (by rw [hlO.out]; omega)] at h1
        simp [opsOk, h1, hlK.out, hlC.out]
      have HF := Lib.hid hfin
      clear hfin hop
      by_cases hKm : nK = m
      · have hbK : ((nK : Int) == (m : Int)) = true := by simp; omega
        go_wp2
        go_ret
        refine ⟨ret_bool ?_, Hb.out⟩
        rw [HF.out, Bool.eq_iff_iff]
        simp
        omega
      · have hbK : ((nK : Int) == (m : Int)) = false := by simp; omega
        go_wp2
        go_ret
        refine ⟨ret_bool ?_, Hb.out⟩
        rw [HF.out, eq_comm, decide_eq_false_iff_not]
        omega

/-- A reference of a graph. -/
def refOk (G : List Nd) (x : Int) : Bool := decide (0 ≤ x ∧ x < 2 * (G.length : Int))
/-- An input of a graph, not negated. -/
def inOk (G : List Nd) (x : Int) : Bool := refOk G x && decide (x % 2 = 0) && decide ((G[(x / 2).toNat]?).map (·.k) = some 2)
def ownL (R : Res) : List Int := R.keep ++ R.ops.map (·.sel) ++ R.ins.flatten
def othL (R : Res) : List Int := [R.cached, R.rules, [R.req, R.bey, R.hol]].flatten ++ R.ops.map (·.done)
def wordsOk (R : Res) : Bool := R.ins.all fun l => decide (1 ≤ l.length ∧ l.length ≤ 16)
/-- No number stands twice. -/
def once : List Int → Bool
  | [] => true
  | x :: l => !l.contains x && once l
def rightR (R : Res) : Bool := opsOk R && wordsOk R && (ownL R).all (inOk R.G) && once (ownL R) && (othL R).all (refOk R.G)

theorem rightClo (B : Nat) (M : Int) (x : RV) (R : Res) (pb : Nat) (r : Int) (w : World) (h : Hid (GAt w B x.g M R.G)) (cb : w.cell? ⟨pb, 0, none⟩ = some (.pointer (some ⟨x.g, 0, none⟩))) (hr : I64 r) :
    Calls Try.prog 53 #[.int .i64 r, .pointer (some ⟨pb, 0, none⟩)] w fun e w' => e = .returned (.bool (!refOk R.G r)) ∧ w = w' := by
  have hc := gright B x.g M R.G r w h.out hr.1 hr.2
  unfold refOk
  generalize decide (0 ≤ r ∧ r < 2 * (R.G.length : Int)) = t at *
  have Hc := Lib.hid hc
  clear hc hr
  go_enter Try.func53, Try.ntmps53
  go_wp2_with fail
  refine Hc.out.mono ?_
  rintro e w' ⟨rfl, rfl⟩
  go_wp2
  go_ret
  exact ⟨rfl, rfl⟩
end Go.Proofs.Ytamoniljgifggaa

