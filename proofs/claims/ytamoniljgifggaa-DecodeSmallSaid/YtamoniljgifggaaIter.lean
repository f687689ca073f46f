/-
  The iterator decode.done: what it yields.
-/
import Derived.Test.YtamoniljgifggaaCut
import Derived.RangeFuncNested
import Derived.RangeFuncBound
import Derived.RangeFuncCalls
import Derived.RangeFuncLeaves
import Derived.Shelf.Abstract
import Derived.Shelf.RegionOpen
import Derived.OwnWalkIn
import Derived.TacticsInMore
import Derived.LoopNIn
import Derived.LoopIn
import Derived.ControlIn
set_option linter.unusedVariables false
set_option linter.unusedSimpArgs false
namespace Go.Proofs.Ytamoniljgifggaa
open Go.RowKit Go.Shelf
attribute [local go_sem] Oper.semAt_some

/-- Below n blocks other than a and b are as they were. -/
def KpA (n a b : Nat) (W W' : World) : Prop := W.heap.size ≤ W'.heap.size ∧ ∀ k, k < n → k ≠ a → k ≠ b → W'.heap[k]? = W.heap[k]?
theorem KpA.refl (n a b : Nat) (W : World) : KpA n a b W W := ⟨Nat.le_refl _, fun _ _ _ _ => rfl⟩
theorem KpA.trans {n a b : Nat} {A B C : World} (h : KpA n a b A B) (k : KpA n a b B C) : KpA n a b A C :=
  ⟨Nat.le_trans h.1 k.1, fun i hi ha hb => (k.2 i hi ha hb).trans (h.2 i hi ha hb)⟩
theorem KpA.of_below {n a b : Nat} {W W' : World} (h : Below n W W') : KpA n a b W W' := ⟨h.size, fun k hk _ _ => h.block k hk⟩
theorem KpA.alloc {n a b : Nat} {W W' : World} (h : KpA n a b W W') (hn : n ≤ W'.heap.size) (o : Obj) : KpA n a b W (W'.alloc o) :=
  ⟨Nat.le_trans h.1 (by simp), fun k hk ha hb => (Below.heap_alloc W' o k (by omega)).trans (h.2 k hk ha hb)⟩
theorem KpA.putObj {n a b : Nat} (W : World) (l : Nat) (o' : Obj) (hl : n ≤ l) : KpA n a b W (W.putObj l o') := by
  refine ⟨?_, fun k hk _ _ => ?_⟩
  · simp [World.putObj]
  · simp [World.putObj, Array.getElem?_setIfInBounds]
    omega

def doneL (v : Int → Bool) (ops : List OpR) : List OpR := ops.filter fun o => v o.done
/-- What is yielded: an operation that is done, with how many were before. -/
abbrev Yld (v : Int → Bool) (ops : List OpR) := { p : Nat × OpR // (doneL v ops)[p.1]? = some p.2 }
def yEnc {v : Int → Bool} {ops : List OpR} (p : Yld v ops) : Array Value := #[.int .i64 p.1.1, .agg #[.int .u8 p.1.2.kind, .int .i64 p.1.2.done, .int .i64 p.1.2.sel, .int .i64 p.1.2.write]]
def YAll {v : Int → Bool} {ops : List OpR} (xs : List (Yld v ops)) : Prop := xs.length = (doneL v ops).length ∧ ∀ (i : Nat) (p : Yld v ops), xs[i]? = some p → p.1.1 = i
theorem doneL_snoc (v : Int → Bool) (L : List OpR) (o : OpR) : doneL v (L ++ [o]) = if v o.done then doneL v L ++ [o] else doneL v L := by
  unfold doneL
  rw [List.filter_append]
  by_cases h : v o.done = true
  · simp [h]
  · simp [h]
theorem doneL_get {v : Int → Bool} {L : List OpR} {k : Nat} {o : OpR} (h : L[k]? = some o) (hv : v o.done = true) : (doneL v L)[(doneL v (L.take k)).length]? = some o := by
  have h1 : L = L.take (k + 1) ++ L.drop (k + 1) := (List.take_append_drop _ _).symm
  have h2 : doneL v L = doneL v (L.take (k + 1)) ++ doneL v (L.drop (k + 1)) := by
    conv => lhs; rw [h1]
    unfold doneL
    rw [List.filter_append]
  rw [h2, take_snoc h, doneL_snoc, if_pos hv, List.append_assoc, List.getElem?_append_right (Nat.le_refl _)]
  simp
/-- What the iterator reads. -/
structure ItAt (W : World) (rb ib pb : Nat) (rest : Array Value) (AO : Option Addr) (nO cO : Nat) (R : Res) (inp : List Bool) : Prop where
  rbox : W.cell? ⟨rb, 3, none⟩ = some (.slice AO nO cO)
  rlt : rb < W.heap.size
  ibox : W.cell? ⟨ib, 0, none⟩ = some (.func (.func 76) #[] #[.pointer (some ⟨pb, 0, none⟩)])
  ilt : ib < W.heap.size
  ops : Rd W AO (ocells R.ops)
  is : IsAt W pb R.G inp

set_option maxHeartbeats 2000000 in
set_option maxRecDepth 100000 in
theorem done1 (n l n0 a b rb ib pb : Nat) (AO : Option Addr) (nO cO : Nat) (R : Res) (inp : List Bool) (W0 : World) (hn0 : n0 ≤ W0.heap.size) (hn : 1 ≤ n)
    (hIt : Hid (∀ W, KpA n0 a b W0 W → ItAt W rb ib pb #[] AO nO cO R inp)) (hl : Hid (R.ops.length = nO)) (hnO : nO ≤ 100000) (hR : Hid (Rts R))
    (J Jx : List (Yld (valR (evalG R.G inp)) R.ops) → World → Prop) (hJ : Hid (∀ pre W o, J pre W → J pre (W.alloc o)))
    (hY : Hid (∀ pre x W, J pre W → pre.length < nO → YieldAt Fence.wide (n - 1) Try.prog l (yEnc x) W fun e W' =>
      (e = .returned (.bool true) ∧ J (pre ++ [x]) W' ∧ KpA n0 a b W W') ∨ (e = .returned (.bool false) ∧ Jx (pre ++ [x]) W')))
    (h0 : Hid (J [] W0)) :
    CallsIn Fence.wide n Try.prog 79 #[.func (.yield l) #[] #[], .pointer (some ⟨rb, 0, none⟩), .pointer (some ⟨ib, 0, none⟩)] W0 fun e W' => (∃ v, e = .returned v) ∧
      ((∃ ys, YAll ys ∧ J ys W') ∨ (∃ pre, True ∧ Jx pre W')) := by
  refine callsIn_of_wp Try.func79 rfl trivial ?_ rfl
  simp only [Try.ntmps79, List.size_toArray, List.length_cons, List.length_nil, Nat.reduceAdd, Nat.reduceSub, Array.replicate_succ, Array.replicate_zero, List.push_toArray, List.append_toArray, List.nil_append, List.cons_append]
  have x3 := (hIt.out W0 (KpA.refl _ _ _ _)).rbox
  gi_wp2
  clear x3
  gi_loopw [4, 10] (fun nn ii wr => ∃ (k d : Nat) (pre : List (Yld (valR (evalG R.G inp)) R.ops)), k ≤ nO ∧ d ≤ k ∧ ii = .int .i64 k ∧ nn = .int .i64 d ∧ Hid (pre.length = d ∧ ∀ (i : Nat) (p : Yld (valR (evalG R.G inp)) R.ops), pre[i]? = some p → p.1.1 = i) ∧ Hid (d = (doneL (valR (evalG R.G inp)) (R.ops.take k)).length) ∧ Hid (J pre wr) ∧ Hid (KpA n0 a b W0 wr)) (fun _ ii _ => nO - (intOf ii).toNat)
  case atStart => exact ⟨0, 0, [], Nat.zero_le _, Nat.le_refl _, rfl, rfl, ⟨rfl, fun i p h => by simp at h⟩, rfl, h0, KpA.refl _ _ _ _⟩
  case round =>
    obtain ⟨k, d, pre, hk, hd, rfl, rfl, HP, HD, HJ, HK⟩ := hrel
    by_cases hlt : k < nO
    · have hit := hIt.out wr HK.out
      obtain ⟨b1, o1, y, rfl, hy, hbl, d0, d1, d2, d3⟩ := hit.ops.op hl.out hlt
      have i0 := hit.ibox
      have il := hit.ilt
      obtain ⟨kd, dn, sl, wt⟩ := y
      dsimp only at d0 d1 d2 d3
      have hki : (k : Int) < (nO : Int) := by omega
      have HY := Lib.hid hy
      have hHI := Lib.hid (hit.is.below ((Below.refl _ wr).alloc (Nat.le_refl _) (.cells #[.int .u8 kd, .int .i64 dn, .int .i64 sl, .int .i64 wt] 37)))
      have HRO := Lib.hid (hR.out.done ⟨kd, dn, sl, wt⟩ (List.mem_of_getElem? hy))
      clear hit hy
      have HJ1 := Lib.hid (hJ.out pre wr (.cells #[.int .u8 kd, .int .i64 dn, .int .i64 sl, .int .i64 wt] 37) HJ.out)
      have HK1 := Lib.hid (HK.out.alloc (Nat.le_trans hn0 HK.out.1) (.cells #[.int .u8 kd, .int .i64 dn, .int .i64 sl, .int .i64 wt] 37))
      cases hv : valR (evalG R.G inp) dn with
      | false =>
        have HV := Lib.hid hv
        clear hv
        have HNX : Hid (d = (doneL (valR (evalG R.G inp)) (R.ops.take (k + 1))).length) := by
          show _ = _
          rw [take_snoc HY.out, doneL_snoc, if_neg (by rw [HV.out]; simp)]
          exact HD.out
        gi_wp2_with (refine ⟨trivial, ?_⟩; gi_at_call 76; refine (callsIn_wide.2 (isClo pb R.G inp dn _ hHI.out HRO.out)).mono ?_; rintro e w' ⟨rfl, rfl⟩; rw [HV.out])
        go_roundw
        case rel => exact ⟨k + 1, d, pre, by omega, by omega, by go_num, rfl, HP, HNX, HJ1, HK1⟩
        case measure => simp [intOf]; omega
      | true =>
        have HV := Lib.hid hv
        have hget := doneL_get HY.out hv
        rw [← HD.out] at hget
        have HGT := Lib.hid hget
        clear hv hget
        have HNX : Hid (d + 1 = (doneL (valR (evalG R.G inp)) (R.ops.take (k + 1))).length) := by
          show _ = _
          rw [take_snoc HY.out, doneL_snoc, if_pos HV.out, List.length_append, ← HD.out]
          rfl
        obtain ⟨fn, tmps, assign, body, hy, hRn⟩ := hY.out pre ⟨(d, ⟨kd, dn, sl, wt⟩), HGT.out⟩ _ HJ1.out (by rw [HP.out.1]; omega)
        dsimp only [yEnc] at hy
        have HRn := Lib.hid hRn
        clear hRn
        gi_wp2_with (refine ⟨trivial, ?_⟩; gi_at_call 76; refine (callsIn_wide.2 (isClo pb R.G inp dn _ hHI.out HRO.out)).mono ?_; rintro e w' ⟨rfl, rfl⟩; rw [HV.out])
        refine HRn.out.mono ?_
        clear hy
        rintro e W3 (⟨rfl, hJ3, hk3⟩ | ⟨rfl, hJx3⟩)
        · have HJ3 := Lib.hid hJ3
          have HK3 := Lib.hid (HK1.out.trans hk3)
          clear hJ3 hk3
          have HP3 : Hid ((pre ++ [(⟨(d, ⟨kd, dn, sl, wt⟩), HGT.out⟩ : Yld (valR (evalG R.G inp)) R.ops)]).length = d + 1 ∧ ∀ (i : Nat) (p : Yld (valR (evalG R.G inp)) R.ops), (pre ++ [(⟨(d, ⟨kd, dn, sl, wt⟩), HGT.out⟩ : Yld (valR (evalG R.G inp)) R.ops)])[i]? = some p → p.1.1 = i) := by
            refine ⟨by simp [HP.out.1], fun i p hp => ?_⟩
            rcases Nat.lt_trichotomy i pre.length with hi | hi | hi
            · rw [List.getElem?_append_left hi] at hp
              exact HP.out.2 i p hp
            · subst hi
              rw [List.getElem?_append_right (Nat.le_refl _)] at hp
              simp at hp
              subst hp
              exact HP.out.1.symm
            · rw [List.getElem?_eq_none (by simp; omega)] at hp
              cases hp
          gi_wp2
          go_roundw
          case rel => exact ⟨k + 1, d + 1, _, by omega, by omega, by go_num, by go_num, HP3, HNX, HJ3, HK3⟩
          case measure => simp [intOf]; omega
        · gi_wp2
          refine bodyPost_ret (results_none rfl _ _ _) rfl ?_
          exact ⟨⟨_, rfl⟩, .inr ⟨_, trivial, hJx3⟩⟩
    · obtain rfl : nO = k := by omega
      have HALL : Hid (YAll pre) := by
        refine ⟨?_, HP.out.2⟩
        rw [HP.out.1, HD.out, List.take_of_length_le (by rw [hl.out]; exact Nat.le_refl _)]
      gi_wp2
      go_end0
      exact ⟨⟨_, rfl⟩, .inl ⟨pre, HALL.out, HJ.out⟩⟩
end Go.Proofs.Ytamoniljgifggaa
