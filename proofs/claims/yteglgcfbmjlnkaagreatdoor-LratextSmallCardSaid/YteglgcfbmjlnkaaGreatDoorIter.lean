/-
  The iterator lratext.numbers: what it yields.
-/
import Derived.Test.YteglgcfbmjlnkaaGreatDoorWrite
import Derived.RangeFuncNested
import Derived.RangeFuncBound
import Derived.RangeFuncCalls
import Derived.RangeFuncLeaves
import Derived.Shelf.Abstract
import Derived.Shelf.RegionOpen
import Derived.OwnWalkIn
import Derived.TacticsInMore
import Derived.LoopNIn
import Derived.LoopIn
import Derived.ControlIn
set_option linter.unusedVariables false
set_option linter.unusedSimpArgs false
namespace Go.Proofs.YteglgcfbmjlnkaaGreatDoor
open Go.RowKit Go.Shelf
attribute [local go_sem] Oper.semAt_some

/-- The blocks of S are as they were. -/
def KpS (S : Nat → Prop) (W W' : World) : Prop := W.heap.size ≤ W'.heap.size ∧ ∀ k, S k → W'.heap[k]? = W.heap[k]?
theorem KpS.refl (S : Nat → Prop) (W : World) : KpS S W W := ⟨Nat.le_refl _, fun _ _ => rfl⟩
theorem KpS.trans {S : Nat → Prop} {A B C : World} (h : KpS S A B) (k : KpS S B C) : KpS S A C := ⟨Nat.le_trans h.1 k.1, fun i hi => (k.2 i hi).trans (h.2 i hi)⟩
theorem KpS.of_below {S : Nat → Prop} {n : Nat} {W W' : World} (h : Below n W W') (hS : ∀ k, S k → k < n) : KpS S W W' := ⟨h.size, fun k hk => h.block k (hS k hk)⟩
theorem KpS.putObj {S : Nat → Prop} (W : World) (l : Nat) (o' : Obj) (hl : ∀ k, S k → k < l) : KpS S W (W.putObj l o') := by
  refine ⟨?_, fun k hk => ?_⟩
  · simp [World.putObj]
  · have := hl k hk
    simp [World.putObj, Array.getElem?_setIfInBounds]
    omega
theorem KpS.set {S : Nat → Prop} (W : World) {p : Addr} (hp : ¬ S p.block) (u : Value) : KpS S W (W.setCell p u) :=
  ⟨by simp [World.setCell], fun k hk => Below.heap_setCell W p u k (by rintro rfl; exact hp hk)⟩
theorem KpS.grown {S : Nat → Prop} {W W' : World} {row : Option Nat} (h : W.grownBy W' row) (hS : ∀ k, S k → k < W.heap.size) (hr : ∀ k, row = some k → ¬ S k) : KpS S W W' :=
  ⟨h.size, fun k hk => h.block k (hS k hk) (fun e => hr k e.symm hk)⟩
theorem KpS.cell {S : Nat → Prop} {W W' : World} (h : KpS S W W') {p : Addr} (hp : S p.block) : W'.cell? p = W.cell? p := World.cell?_of_block (h.2 p.block hp)
theorem Bk.kps {S : Nat → Prop} {g : Nat} {U W : World} {t : TypeId} {cs : Array Value} (h : Bk U g t cs) (hk : KpS S U W) (hg : S g) : Bk W g t cs := (hk.2 g hg).trans h

/-- What is yielded: the number of a word, with its place. -/
abbrev Yw (Ws : List ByteArray) := { p : Nat × Int // ∃ s, Ws[p.1]? = some s ∧ numW s.data.toList = some p.2 }
def yEnc {Ws : List ByteArray} (p : Yw Ws) : Array Value := #[.int .i64 p.1.2]
/-- All have come: up to the end, or to a word that is no numeral. -/
def YAll {Ws : List ByteArray} (xs : List (Yw Ws)) : Prop := (∀ (i : Nat) (p : Yw Ws), xs[i]? = some p → p.1.1 = i) ∧ (xs.length = Ws.length ∨ ∃ s, Ws[xs.length]? = some s ∧ numW s.data.toList = none)
/-- Each has the place at which it came. -/
def YIdx {Ws : List ByteArray} (xs : List (Yw Ws)) : Prop := ∀ (i : Nat) (p : Yw Ws), xs[i]? = some p → p.1.1 = i
/-- What the iterator reads. -/
structure ItAt (W : World) (ib wb : Nat) (Ws : List ByteArray) (c : Nat) : Prop where
  box : W.cell? ⟨ib, 0, none⟩ = some (.slice (some ⟨wb, 0, none⟩) Ws.length c)
  lt : ib < W.heap.size
  words : ∀ (i : Nat) (s : ByteArray), Ws[i]? = some s → W.cell? ⟨wb, i, none⟩ = some (.string s)
  vars : Vars W
theorem neq_str {a b : List UInt8} : ((str a).toList != (str b).toList) = !(a == b) := by
  rw [toList_data, toList_data, str_data, str_data]; rfl

set_option maxHeartbeats 2000000 in
set_option maxRecDepth 100000 in
theorem numIter (n l ib wb : Nat) (Ws : List ByteArray) (c : Nat) (S : Nat → Prop) (W0 : World) (hS : Hid (∀ k, S k → k < W0.heap.size)) (hn : 1 ≤ n)
    (hIt : Hid (∀ W, KpS S W0 W → ItAt W ib wb Ws c)) (hl : Ws.length ≤ 100000000) (hws : Hid (∀ s ∈ Ws, s.size ≤ 100000000))
    (J Jx : List (Yw Ws) → World → Prop) (hJ : Hid (∀ pre W W', J pre W → Below W.heap.size W W' → J pre W'))
    (hY : Hid (∀ pre x W, J pre W → pre.length < Ws.length → YieldAt Fence.wide (n - 1) Tryz.prog l (yEnc x) W fun e W' =>
      (e = .returned (.bool true) ∧ J (pre ++ [x]) W' ∧ KpS S W W') ∨ (e = .returned (.bool false) ∧ Jx (pre ++ [x]) W')))
    (h0 : Hid (J [] W0)) :
    CallsIn Fence.wide n Tryz.prog 71 #[.func (.yield l) #[] #[], .pointer (some ⟨ib, 0, none⟩)] W0 fun e W' => (∃ v, e = .returned v) ∧
      ((∃ ys, YAll ys ∧ J ys W') ∨ (∃ pre, YIdx pre ∧ Jx pre W')) := by
  refine callsIn_of_wp Tryz.func71 rfl trivial ?_ rfl
  simp only [Tryz.ntmps71, List.size_toArray, List.length_cons, List.length_nil, Nat.reduceAdd, Nat.reduceSub, Array.replicate_succ, Array.replicate_zero, List.push_toArray, List.append_toArray, List.nil_append, List.cons_append]
  have x3 := (hIt.out W0 (KpS.refl _ _)).box
  gi_wp2
  clear x3
  gi_loopw [9] (fun ii wr => ∃ (k : Nat) (pre : List (Yw Ws)), k ≤ Ws.length ∧ ii = .int .i64 k ∧ Hid (pre.length = k ∧ ∀ (i : Nat) (p : Yw Ws), pre[i]? = some p → p.1.1 = i) ∧ Hid (J pre wr) ∧ Hid (KpS S W0 wr)) (fun ii _ => Ws.length - (intOf ii).toNat)
  case atStart => exact ⟨0, [], Nat.zero_le _, rfl, ⟨rfl, fun i p h => by simp at h⟩, h0, KpS.refl _ _⟩
  case round =>
    obtain ⟨k, pre, hk, rfl, HP, HJ, HK⟩ := hrel
    by_cases hlt : k < Ws.length
    · have hit := hIt.out wr HK.out
      have hx : Ws[k]? = some (Ws[k]'hlt) := List.getElem?_eq_getElem _
      generalize Ws[k]'hlt = s at hx
      have hcs := hit.words k s hx
      have HV := Lib.hid hit.vars
      have hsz := hws.out s (List.mem_of_getElem? hx)
      have HX := Lib.hid hx
      clear hit hx
      have hki : (k : Int) < (Ws.length : Int) := by omega
      have hSr : Hid (∀ k, S k → k < wr.heap.size) := fun i hi => Nat.lt_of_lt_of_le (hS.out i hi) HK.out.1
      by_cases hno : ∀ n, Lib.atoiAll s.data.toList ≠ .ok n
      · have HNO := Lib.hid hno
        have hnw : numW s.data.toList = none := by
          unfold numW
          cases ha : Lib.atoiAll s.data.toList with
          | ok n => exact absurd ha (hno n)
          | _ => rfl
        have HALL : Hid (YAll pre) := ⟨HP.out.2, .inr ⟨s, by rw [HP.out.1]; exact HX.out, hnw⟩⟩
        clear hno hnw
        gi_wp2_with (refine ⟨trivial, ?_⟩; gi_at_call 72; refine (callsIn_wide.2 (atoi_no s _ HNO (by omega) HV)).mono ?_; rintro e w1 ⟨xv, N, rfl, hb1⟩)
        have HJ1 := Lib.hid (hJ.out pre _ _ HJ.out hb1)
        clear hb1
        gi_wp2
        refine ⟨trivial, ?_⟩
        gi_wp2
        refine ⟨fun _ h => (by cases h), ?_⟩
        gi_wp2
        refine bodyPost_ret (results_none rfl _ _ _) rfl ?_
        exact ⟨⟨_, rfl⟩, .inl ⟨pre, HALL.out, HJ1.out⟩⟩
      · obtain ⟨m, hm⟩ : ∃ m, Lib.atoiAll s.data.toList = .ok m := by
          apply Classical.byContradiction
          intro hc
          exact hno fun n hn => hc ⟨n, hn⟩
        have HM := Lib.hid hm
        have hb64 := Lib.atoiAll_bounds hm
        have HI : Hid (I64 m) := hb64
        clear hno hm hb64
        by_cases heq : Lib.itoa m = s.data.toList
        · have hnw : numW s.data.toList = some m := by
            unfold numW
            rw [HM.out]
            simp [heq]
          have e1 : ((str (Lib.itoa m)).toList != s.toList) = false := by rw [toList_data, toList_data, str_data, heq]; simp
          have e2 : ((str (Lib.itoa m)).toList == s.toList) = true := by rw [toList_data, toList_data, str_data, heq]; simp
          have HNW := Lib.hid hnw
          clear hnw heq
          gi_wp2_with (first
            | (refine ⟨trivial, ?_⟩; gi_at_call 72; refine (callsIn_wide.2 (atoi_ok s m _ HM (by omega))).mono ?_; rintro e w1 ⟨rfl, hb1⟩; have HB1 := Lib.hid hb1; clear hb1)
            | (refine ⟨trivial, ?_⟩; gi_at_call 63; refine (callsIn_wide.2 (itoaC m _ HI (Lib.hid (HV.out.below HB1.out)))).mono ?_; rintro e w2 ⟨rfl, hb2⟩; have HJ2 := hJ.out pre _ _ (hJ.out pre _ _ HJ.out HB1.out) hb2; have HK2 := Lib.hid (HK.out.trans ((KpS.of_below HB1.out hSr.out).trans (KpS.of_below hb2 (fun i hi => Nat.lt_of_lt_of_le (hSr.out i hi) HB1.out.size)))); clear hb2; obtain ⟨fn, tmps, assign, body, hy, hRn⟩ := hY.out pre ⟨(k, m), ⟨s, HX.out, HNW.out⟩⟩ _ HJ2 (by rw [HP.out.1]; exact hlt); dsimp only [yEnc] at hy; have HRn := Lib.hid hRn; clear hRn HJ2))
          refine HRn.out.mono ?_
          clear hy
          have HP3 : Hid ((pre ++ [(⟨(k, m), ⟨s, HX.out, HNW.out⟩⟩ : Yw Ws)]).length = k + 1 ∧ ∀ (i : Nat) (p : Yw Ws), (pre ++ [(⟨(k, m), ⟨s, HX.out, HNW.out⟩⟩ : Yw Ws)])[i]? = some p → p.1.1 = i) := by
            refine ⟨by simp [HP.out.1], fun i p hp => ?_⟩
            rcases Nat.lt_trichotomy i pre.length with hi | hi | hi
            · rw [List.getElem?_append_left hi] at hp
              exact HP.out.2 i p hp
            · subst hi
              rw [List.getElem?_append_right (Nat.le_refl _)] at hp
              simp at hp
              subst hp
              exact HP.out.1.symm
            · rw [List.getElem?_eq_none (by simp; omega)] at hp
              cases hp
          rintro e W3 (⟨rfl, hJ3, hk3⟩ | ⟨rfl, hJx3⟩)
          · have HJ3 := Lib.hid hJ3
            have HK3 := Lib.hid (HK2.out.trans hk3)
            clear hJ3 hk3
            gi_wp2
            go_roundw
            case rel => exact ⟨k + 1, _, by omega, by go_num, HP3, HJ3, HK3⟩
            case measure => simp [intOf]; omega
          · gi_wp2
            refine bodyPost_ret (results_none rfl _ _ _) rfl ?_
            exact ⟨⟨_, rfl⟩, .inr ⟨_, HP3.out.2, hJx3⟩⟩
        · have hnw : numW s.data.toList = none := by
            unfold numW
            rw [HM.out]
            simp [heq]
          have e1 : ((str (Lib.itoa m)).toList != s.toList) = true := by rw [toList_data, toList_data, str_data]; simpa using heq
          have e2 : ((str (Lib.itoa m)).toList == s.toList) = false := by rw [toList_data, toList_data, str_data]; simpa using heq
          have HALL : Hid (YAll pre) := ⟨HP.out.2, .inr ⟨s, by rw [HP.out.1]; exact HX.out, hnw⟩⟩
          clear hnw heq
          gi_wp2_with (first
            | (refine ⟨trivial, ?_⟩; gi_at_call 72; refine (callsIn_wide.2 (atoi_ok s m _ HM (by omega))).mono ?_; rintro e w1 ⟨rfl, hb1⟩; have HB1 := Lib.hid hb1; clear hb1)
            | (refine ⟨trivial, ?_⟩; gi_at_call 63; refine (callsIn_wide.2 (itoaC m _ HI (Lib.hid (HV.out.below HB1.out)))).mono ?_; rintro e w2 ⟨rfl, hb2⟩; have HB2 := Lib.hid hb2; clear hb2))
          refine ⟨fun _ h => (by cases h), ?_⟩
          gi_wp2
          refine bodyPost_ret (results_none rfl _ _ _) rfl ?_
          exact ⟨⟨_, rfl⟩, .inl ⟨pre, HALL.out, hJ.out pre _ _ (hJ.out pre _ _ HJ.out HB1.out) HB2.out⟩⟩
    · obtain rfl : k = Ws.length := by omega
      have HALL : Hid (YAll pre) := ⟨HP.out.2, .inl HP.out.1⟩
      gi_wp2
      go_end0
      exact ⟨⟨_, rfl⟩, .inl ⟨pre, HALL.out, HJ.out⟩⟩

set_option maxRecDepth 100000 in
theorem numbersC (A : Option Addr) (n c : Nat) (w : World) : Calls Tryz.prog 55 #[.slice A n c] w fun e w' => e = .returned (.func (.func 71) #[] #[.pointer (some ⟨w.heap.size, 0, none⟩)]) ∧ w.alloc (.cells #[.slice A n c] 25) = w' := by
  go_enter Tryz.func55, Tryz.ntmps55
  go_wp2
  go_ret
  exact ⟨rfl, rfl⟩
theorem num_seq (n ib wb : Nat) (Ws : List ByteArray) (c : Nat) (S : Nat → Prop) (w : World) (hS : ∀ k, S k → k < w.heap.size) (hn : 1 ≤ n)
    (hIt : ∀ W, KpS S w W → ItAt W ib wb Ws c) (hl : Ws.length ≤ 100000000) (hws : ∀ s ∈ Ws, s.size ≤ 100000000) :
    SeqStopsK Fence.wide n Tryz.prog 71 #[.pointer (some ⟨ib, 0, none⟩)] (yEnc (Ws := Ws)) (KpS S) YAll YIdx Ws.length w := by
  intro l J Jx W hW hJ _ hY h0
  exact numIter n l ib wb Ws c S W (Lib.hid fun k hk => Nat.lt_of_lt_of_le (hS k hk) hW.size) hn (Lib.hid fun W' hk => hIt W' ((KpS.of_below hW hS).trans hk)) hl (Lib.hid hws) J Jx
    (Lib.hid fun pre W1 W2 hj hb => hJ pre W1 W2 none hj ⟨hb.os, hb.tape, hb.output, hb.size, fun k hk _ => hb.block k hk⟩ (fun r e => by cases e)) (Lib.hid hY) (Lib.hid h0)
end Go.Proofs.YteglgcfbmjlnkaaGreatDoor
