/-
  The iterator of tokens.all: what it yields.
-/
import Derived.Test.YtehcpcpmcngnjaaDoorTokN
import Derived.RangeFuncOwn
import Derived.RangeFuncNested
import Derived.RangeFuncBound
import Derived.RangeFuncCalls
import Derived.RangeFuncLeaves
import Derived.Shelf.Abstract
import Derived.Shelf.RegionOpen
import Derived.OwnWalkIn
import Derived.TacticsInMore
import Derived.LoopNIn
import Derived.LoopIn
import Derived.ControlIn
set_option linter.unusedVariables false
set_option linter.unusedSimpArgs false
namespace Go.Proofs.YtehcpcpmcngnjaaDoor
open Go.RowKit Go.Shelf
attribute [local go_sem] Oper.semAt_some

/-- The row to which the slice in the box b points. -/
def rowOf (b : Nat) (W : World) : Option Nat := match W.cell? ⟨b, 0, none⟩ with
  | some v => v.ownBlock
  | none => none
/-- What a round keeps: all cells but those of the boxes b, b + 1 and of the row of b. -/
structure KpT (b : Nat) (A B : World) : Prop where
  size : A.heap.size ≤ B.heap.size
  keep : ∀ (k : Nat) cs t fr, A.heap[k]? = some (.cells cs t fr) → k ≠ b → k ≠ b + 1 → rowOf b A ≠ some k → B.heap[k]? = A.heap[k]?
  row : ∀ k, rowOf b B = some k → rowOf b A = some k ∨ A.heap.size ≤ k
  valid : (∀ k, rowOf b A = some k → k < A.heap.size) → ∀ k, rowOf b B = some k → k < B.heap.size
theorem KpT.refl (b : Nat) (W : World) : KpT b W W := ⟨Nat.le_refl _, fun _ _ _ _ _ _ _ _ => rfl, fun k h => .inl h, fun h => h⟩
theorem KpT.trans {b : Nat} {A B C : World} (h : KpT b A B) (k : KpT b B C) : KpT b A C :=
  ⟨Nat.le_trans h.size k.size, fun j cs t fr hj h1 h2 h3 => by
    have hB := h.keep j cs t fr hj h1 h2 h3
    refine (k.keep j cs t fr (hB.trans hj) h1 h2 (fun e => ?_)).trans hB
    rcases h.row j e with h4 | h4
    · exact h3 h4
    · have := lt_of_heap hj; omega, fun j e => by
    rcases k.row j e with h4 | h4
    · exact h.row j h4
    · exact .inr (Nat.le_trans h.size h4), fun hv => k.valid (h.valid hv)⟩
theorem rowOf_same {b : Nat} {A B : World} (h : B.cell? ⟨b, 0, none⟩ = A.cell? ⟨b, 0, none⟩) : rowOf b B = rowOf b A := by unfold rowOf; rw [h]
theorem KpT.below {b : Nat} {A B : World} (h : Below A.heap.size A B) (hb : b < A.heap.size) : KpT b A B := by
  have hr : rowOf b B = rowOf b A := rowOf_same (h.cell (p := ⟨b, 0, none⟩) hb)
  exact ⟨h.size, fun k cs t fr hk _ _ _ => h.block k (lt_of_heap hk), fun k e => .inl (hr ▸ e), fun hv k e => Nat.lt_of_lt_of_le (hv k (hr ▸ e)) h.size⟩
theorem KpT.putObj {b : Nat} {cs : Array Value} {t : TypeId} (W : World) (l : Nat) (o o' : Obj) (hb : Bk W b t cs ∨ b < l) (ho : W.heap[l]? = some o) (hc : o.isCells = false) : KpT b W (W.putObj l o') := by
  have hne : ∀ k cs t fr, W.heap[k]? = some (.cells cs t fr) → l ≠ k := by
    rintro k cs t fr hk rfl
    rw [hk] at ho
    injection ho with ho
    subst ho
    cases hc
  have hbl : l ≠ b := by
    rcases hb with hb | hb
    · exact hne b _ _ _ hb
    · omega
  have hr : rowOf b (W.putObj l o') = rowOf b W := rowOf_same (World.cell?_of_block (a := ⟨b, 0, none⟩) (by
    show (W.putObj l o').heap[b]? = _
    simp [World.putObj, Array.getElem?_setIfInBounds, hbl]))
  exact ⟨by simp [World.putObj], fun k cs t fr hk _ _ _ => by
    have := hne k _ _ _ hk
    simp [World.putObj, Array.getElem?_setIfInBounds, this], fun k e => .inl (hr ▸ e), fun hv k e => by
    have := hv k (hr ▸ e)
    simpa [World.putObj] using this⟩
def yEncT (x : Yt) : Array Value := #[tokV x.1 x.2.1 x.2.2.1, .int .i64 (errB x.2.2.2 : Int)]
def YPreT (L pre : List Yt) : Prop := ∃ r, pre ++ r = L
theorem ylT_succ (t : List UInt8) (f a : Nat) : ylT t (f + 1) a = nextT t a :: (if (nextT t a).1 = 0 then [] else ylT t f (nextT t a).2.2.1) := rfl
set_option maxHeartbeats 4000000 in
set_option maxRecDepth 100000 in
theorem allIter (n l tb b : Nat) (s : ByteArray) (U W0 : World) (L : List Yt) (hL : Hid (allT s.data.toList = L)) (hs : s.size ≤ 65536) (hn : 1 ≤ n) (hbU : b + 1 < U.heap.size) (hrow : Hid (∀ k, rowOf b U = some k → k < U.heap.size))
    (hIt : Hid (∀ W, KpT b U W → W.cell? ⟨tb, 0, none⟩ = some (.string s))) (h00 : Hid (KpT b U W0))
    (J Jx : List Yt → World → Prop) (hJ : Hid (∀ pre W W', J pre W → Below W.heap.size W W' → J pre W'))
    (hY : Hid (∀ pre x W, J pre W → pre.length < L.length → YieldAt Fence.wide (n - 1) Tryd.prog l (yEncT x) W fun e W' =>
      (e = .returned (.bool true) ∧ J (pre ++ [x]) W' ∧ KpT b W W') ∨ (e = .returned (.bool false) ∧ Jx (pre ++ [x]) W')))
    (h0 : Hid (J [] W0)) :
    CallsIn Fence.wide n Tryd.prog 50 #[.func (.yield l) #[] #[], .pointer (some ⟨tb, 0, none⟩)] W0 fun e W' => (∃ v, e = .returned v) ∧
      ((∃ ys, ys = L ∧ J ys W') ∨ (∃ pre, YPreT L pre ∧ Jx pre W')) := by
  refine callsIn_of_wp Tryd.func50 rfl trivial ?_ rfl
  simp only [Tryd.ntmps50, List.size_toArray, List.length_cons, List.length_nil, Nat.reduceAdd, Nat.reduceSub, Array.replicate_succ, Array.replicate_zero, List.push_toArray, List.append_toArray, List.nil_append, List.cons_append]
  gi_wp2
  gi_loopw [3] (fun v3 wr => ∃ (f a : Nat) (pre : List Yt), v3 = .int .i64 a ∧ a ≤ s.size ∧ s.size + 1 ≤ f + a ∧ Hid (pre ++ ylT s.data.toList f a = L) ∧ Hid (J pre wr) ∧ Hid (KpT b U wr)) (fun v3 _ => s.size + 1 - (intOf v3).toNat)
  case atStart =>
    refine ⟨s.data.toList.length + 2, 0, [], rfl, Nat.zero_le _, by rw [data_len]; omega, ?_, h0, h00⟩
    exact hL
  case round =>
    obtain ⟨f, a, pre, rfl, ha, hf, HP, HJ, HK⟩ := hrel
    obtain ⟨f, rfl⟩ : ∃ g, f = g + 1 := ⟨f - 1, by omega⟩
    have y0 := hIt.out wr HK.out
    have HNX := Lib.hid (nextTC s a wr ha (by omega))
    have hok := nextT_ok s.data.toList a (by rw [data_len]; exact ha)
    have hP2 := HP.out
    rw [ylT_succ] at hP2
    obtain ⟨⟨k, p, e, bd⟩, hq⟩ : ∃ q, nextT s.data.toList a = q := ⟨_, rfl⟩
    rw [hq] at HNX hok hP2
    dsimp only at hok hP2
    rw [data_len] at hok
    obtain ⟨o1, o2, o3, o4, o5⟩ := hok
    have hlen : pre.length < L.length := by
      have := congrArg List.length hP2
      simp only [List.length_append, List.length_cons] at this
      omega
    have HPP := Lib.hid hP2
    have hbw : b + 1 < wr.heap.size := Nat.lt_of_lt_of_le hbU HK.out.size
    have hval := HK.out.valid hrow.out
    have hYY : ∀ w1, Below wr.heap.size wr w1 → (w1.alloc (.cells #[.int .u8 (k : Int), .int .i64 (p : Int), .int .i64 (e : Int)] 74)).heap.size = w1.heap.size + 1 ∧ KpT b U (w1.alloc (.cells #[.int .u8 (k : Int), .int .i64 (p : Int), .int .i64 (e : Int)] 74)) ∧ (∀ W3, KpT b (w1.alloc (.cells #[.int .u8 (k : Int), .int .i64 (p : Int), .int .i64 (e : Int)] 74)) W3 → Bk W3 w1.heap.size 74 #[.int .u8 (k : Int), .int .i64 (p : Int), .int .i64 (e : Int)]) ∧
        YieldAt Fence.wide (n - 1) Tryd.prog l #[.agg #[.int .u8 (k : Int), .int .i64 (p : Int), .int .i64 (e : Int)], .int .i64 (errB bd : Int)] (w1.alloc (.cells #[.int .u8 (k : Int), .int .i64 (p : Int), .int .i64 (e : Int)] 74)) fun e' W' =>
      (e' = .returned (.bool true) ∧ J (pre ++ [(k, p, e, bd)]) W' ∧ KpT b (w1.alloc (.cells #[.int .u8 (k : Int), .int .i64 (p : Int), .int .i64 (e : Int)] 74)) W') ∨ (e' = .returned (.bool false) ∧ Jx (pre ++ [(k, p, e, bd)]) W') := fun w1 h1 => by
      have h2 : Below wr.heap.size wr (w1.alloc (.cells #[.int .u8 (k : Int), .int .i64 (p : Int), .int .i64 (e : Int)] 74)) := balloc h1 _
      have h3 : Below w1.heap.size w1 (w1.alloc (.cells #[.int .u8 (k : Int), .int .i64 (p : Int), .int .i64 (e : Int)] 74)) := balloc (Below.refl _ _) _
      have hb1 : b + 1 < w1.heap.size := Nat.lt_of_lt_of_le hbw h1.size
      have hr1 : rowOf b (w1.alloc (.cells #[.int .u8 (k : Int), .int .i64 (p : Int), .int .i64 (e : Int)] 74)) = rowOf b wr := rowOf_same (h2.cell (p := ⟨b, 0, none⟩) (show b < wr.heap.size by omega))
      refine ⟨by simp, HK.out.trans (KpT.below h2 (by omega)), fun W3 hW3 => ?_, ?_⟩
      · have hnew : Bk (w1.alloc (.cells #[.int .u8 (k : Int), .int .i64 (p : Int), .int .i64 (e : Int)] 74)) w1.heap.size 74 #[.int .u8 (k : Int), .int .i64 (p : Int), .int .i64 (e : Int)] := Bk.new _ _ _
        refine (hW3.keep w1.heap.size _ _ _ hnew (by omega) (by omega) (fun hr => ?_)).trans hnew
        rw [hr1] at hr
        have := hval _ hr
        have := h1.size
        omega
      · exact hY.out pre (k, p, e, bd) _ (hJ.out pre _ _ HJ.out h2) hlen
    have HYY := Lib.hid hYY
    clear hYY hval hP2 hq HP HJ
    dsimp only [nextV, tokV] at HNX
    gi_wp2_with (refine ⟨trivial, ?_⟩; gi_at_call 51; refine (callsIn_wide.2 HNX.out).mono ?_; rintro e' w1 ⟨rfl, hb1⟩; obtain ⟨q1, q2, q3, fn, tmps, assign, body, hy, hRn⟩ := HYY.out w1 hb1; have HQ2 := Lib.hid q2; have HQ3 := Lib.hid q3; have HRn := Lib.hid hRn; clear hb1 q2 q3 hRn y0)
    gi_wp2
    refine HRn.out.mono ?_
    clear hy
    rintro e3 W3 (⟨rfl, hJ3, hk3⟩ | ⟨rfl, hJx3⟩)
    · have hbx := HQ3.out W3 hk3
      have HK3 := Lib.hid (HQ2.out.trans hk3)
      have HJ3 := Lib.hid hJ3
      obtain ⟨x0, x1, x2⟩ := bcells3 hbx
      clear hJ3 hk3 hbx HRn HQ3 HYY HQ2 HK HNX
      by_cases hk0 : k = 0
      · subst hk0
        have HALL : Hid (pre ++ [(0, p, e, bd)] = L) := by
          have h1 := HPP.out
          rw [if_pos rfl] at h1
          exact h1
        clear HPP
        gi_wp2
        refine bodyPost_ret (results_none rfl _ _ _) rfl ?_
        exact ⟨⟨_, rfl⟩, .inl ⟨_, HALL.out, HJ3.out⟩⟩
      · have ek : ((k : Int) == 0) = false := by simp; omega
        have HPQ : Hid ((pre ++ [(k, p, e, bd)]) ++ ylT s.data.toList f e = L) := by
          have h1 := HPP.out
          rw [if_neg hk0] at h1
          rw [List.append_assoc]
          exact h1
        have he := o4 hk0
        clear HPP
        gi_wp2
        go_roundw
        case rel => exact ⟨f, e, _, rfl, by omega, by omega, HPQ, HJ3, HK3⟩
        case measure => simp [intOf]; omega
    · have HP3 : Hid (YPreT L (pre ++ [(k, p, e, bd)])) := ⟨_, (List.append_assoc _ _ _).trans HPP.out⟩
      have HJX := Lib.hid hJx3
      clear hJx3 HRn HQ3 HYY HQ2 HK HNX HPP
      gi_wp2
      refine bodyPost_ret (results_none rfl _ _ _) rfl ?_
      exact ⟨⟨_, rfl⟩, .inr ⟨_, HP3.out, HJX.out⟩⟩
theorem allMk (s : ByteArray) (w : World) : Calls Tryd.prog 43 #[.string s] w fun e w' => e = .returned (.func (.func 50) #[] #[.pointer (some ⟨w.heap.size, 0, none⟩)]) ∧ w.alloc (.cells #[.string s] 9) = w' := by
  go_enter Tryd.func43, Tryd.ntmps43
  go_wp2
  go_ret
  exact ⟨rfl, rfl⟩
theorem all_seq (n tb b : Nat) (s : ByteArray) (U : World) (L : List Yt) (hL : allT s.data.toList = L) (hs : s.size ≤ 65536) (hn : 1 ≤ n) (hbU : b + 1 < U.heap.size) (hrow : ∀ k, rowOf b U = some k → k < U.heap.size)
    (hIt : ∀ W, KpT b U W → W.cell? ⟨tb, 0, none⟩ = some (.string s)) :
    SeqStopsK Fence.wide n Tryd.prog 50 #[.pointer (some ⟨tb, 0, none⟩)] yEncT (KpT b) (fun ys => ys = L) (YPreT L) L.length U := by
  intro l J Jx W hW hJ _ hY h0
  exact allIter n l tb b s U W L (Lib.hid hL) hs hn hbU (Lib.hid hrow) (Lib.hid hIt) (Lib.hid (KpT.below hW (by omega))) J Jx
    (Lib.hid fun pre W1 W2 hj hb => hJ pre W1 W2 none hj ⟨hb.os, hb.tape, hb.output, hb.size, fun k hk _ => hb.block k hk⟩ (fun r e => by cases e)) (Lib.hid hY) (Lib.hid h0)
end Go.Proofs.YtehcpcpmcngnjaaDoor
