/-
  The range over words in dimacs.Read: what it comes to, and the law for it.
-/
import Derived.Test.YtkpcpclaadgnbaaGreatDoorIter6
import Derived.Maps.OwnIn
set_option linter.unusedVariables false
set_option linter.unusedSimpArgs false
namespace Go.Proofs.YtkpcpclaadgnbaaGreatDoor
open Go.RowKit Go.Shelf

theorem runW_append (v : Int) (n : Nat) : ∀ (a b : List (Nat × List UInt8)) (st : Rs), runW v n st (a ++ b) = if (runW v n st a).2.1 = 0 then runW v n (runW v n st a).2.2 b else runW v n st a
  | [], b, st => by
    show runW v n st b = if (0 : Int) = 0 then runW v n st b else _
    rw [if_pos rfl]
  | p :: a, b, st => by
    rw [List.cons_append]
    by_cases h : (stepW v n st p.2).1 = 0
    · have e1 : runW v n st (p :: (a ++ b)) = runW v n (stepW v n st p.2).2 (a ++ b) := by rw [runW, if_pos h]
      have e2 : runW v n st (p :: a) = runW v n (stepW v n st p.2).2 a := by rw [runW, if_pos h]
      rw [e1, e2]
      exact runW_append v n a b _
    · have e1 : runW v n st (p :: (a ++ b)) = ((p.1 : Int), (stepW v n st p.2).1, st) := by rw [runW, if_neg h]
      have e2 : runW v n st (p :: a) = ((p.1 : Int), (stepW v n st p.2).1, st) := by rw [runW, if_neg h]
      rw [e1, e2, if_neg h]
section
variable {L : List (Nat × ByteArray)}
def wd (pre : List (Yw L)) : List (Nat × List UInt8) := pre.map fun p => (p.1.1, p.1.2.data.toList)
def stR (v : Int) (n : Nat) (pre : List (Yw L)) : Rs := (runW v n zRs (wd pre)).2.2
def onR (v : Int) (n : Nat) (pre : List (Yw L)) : Prop := (runW v n zRs (wd pre)).2.1 = 0
theorem wd_snoc (pre : List (Yw L)) (x : Yw L) : wd (pre ++ [x]) = wd pre ++ [(x.1.1, x.1.2.data.toList)] := by unfold wd; simp
theorem onR_nil (v : Int) (n : Nat) : onR v n ([] : List (Yw L)) := rfl
theorem run_snoc {v : Int} {n : Nat} {pre : List (Yw L)} (h : onR v n pre) (x : Yw L) : runW v n zRs (wd (pre ++ [x])) = if (stepW v n (stR v n pre) x.1.2.data.toList).1 = 0 then (0, 0, (stepW v n (stR v n pre) x.1.2.data.toList).2) else ((x.1.1 : Int), (stepW v n (stR v n pre) x.1.2.data.toList).1, stR v n pre) := by
  rw [wd_snoc, runW_append, if_pos (show (runW v n zRs (wd pre)).2.1 = 0 from h)]
  rfl
theorem onR_snoc {v : Int} {n : Nat} {pre : List (Yw L)} {x : Yw L} (h : onR v n pre) (h0 : (stepW v n (stR v n pre) x.1.2.data.toList).1 = 0) : onR v n (pre ++ [x]) ∧ stR v n (pre ++ [x]) = (stepW v n (stR v n pre) x.1.2.data.toList).2 := by
  unfold onR
  have h1 := run_snoc h x
  rw [if_pos h0] at h1
  refine ⟨by rw [h1], ?_⟩
  conv => lhs; unfold stR
  rw [h1]
theorem onR_ok {v : Int} {n : Nat} {pre : List (Yw L)} (h : onR v n pre) : RsOk v n (wd pre).length (stR v n pre) := by
  have h1 := rs_run (rs_zero v n) h
  rw [Nat.zero_add] at h1
  exact h1
theorem run_stop {v : Int} {n : Nat} {pre : List (Yw L)} {x : Yw L} (hp : YPre (pre ++ [x])) (h : onR v n pre) (h0 : (stepW v n (stR v n pre) x.1.2.data.toList).1 ≠ 0) : runW v n zRs (L.map fun p => (p.1, p.2.data.toList)) = ((x.1.1 : Int), (stepW v n (stR v n pre) x.1.2.data.toList).1, stR v n pre) := by
  obtain ⟨r, hr⟩ := hp
  have e : (L.map fun p => (p.1, p.2.data.toList)) = wd (pre ++ [x]) ++ r.map (fun p => (p.1, p.2.data.toList)) := by
    have h2 := congrArg (fun l : List (Nat × ByteArray) => l.map (fun p => (p.1, p.2.data.toList))) hr
    rw [List.map_append, List.map_map] at h2
    exact h2.symm
  rw [e, runW_append, run_snoc h x, if_neg h0, if_neg h0]
theorem run_done {v : Int} {n : Nat} {xs : List (Yw L)} (ha : YAll xs) : runW v n zRs (L.map fun p => (p.1, p.2.data.toList)) = runW v n zRs (wd xs) := by
  have h1 : xs.map (·.1) = L := ha
  have h2 := congrArg (fun l : List (Nat × ByteArray) => l.map (fun p => (p.1, p.2.data.toList))) h1
  rw [List.map_map] at h2
  rw [← h2]
  rfl
end
/-- Which blocks the iterator and the rounds read. -/
def SR (b k : Nat) : Prop := k ≤ b + 1 ∨ k = b + 6 ∨ k = b + 8 ∨ k = b + 9
/-- Between two rounds: what memory holds. -/
structure PM6 (w U : World) (b : Nat) (v : Int) (n : Nat) (e a : Int) (st : Rs) (W : World) : Prop where
  ws : WSt b U.heap.size v n st W
  eb : Bk W (b + 2) 31 #[.int .i64 e]
  ab : Bk W (b + 7) 3 #[.int .i64 a]
  kp : KpQ (SR b) U W
  bel : Below w.heap.size w W
theorem PM6.own {w U : World} {b : Nat} {v : Int} {n : Nat} {e a : Int} {st : Rs} (hU : w.heap.size ≤ U.heap.size) (hb : b + 10 ≤ U.heap.size) {W W' : World} {row : Option Nat} (h : PM6 w U b v n e a st W) (hg : W.grownBy W' row) (hr : ∀ r, row = some r → U.heap.size ≤ r ∧ ∃ o : Obj, W.heap[r]? = some o ∧ o.isCells = false) : PM6 w U b v n e a st W' := by
  obtain ⟨h1, h2, h3, h4, h5⟩ := h
  have nc : ∀ {k : Nat} {t : TypeId} {cs : Array Value} {fr : Nat × Nat}, W.heap[k]? = some (.cells cs t fr) → ¬ row = some k := fun hk e => by
    obtain ⟨_, o, ho, hc⟩ := hr _ e
    rw [hk] at ho
    injection ho with ho
    subst ho
    cases hc
  have hf : Fr (fun k => row = some k) W W' := (Fr.refl _ W).grown hg (fun k hk => .inl hk)
  exact ⟨h1.fr hf (fun k hk e => by have := (hr k e).1; omega) (fun k cs hk => nc hk) (fun k cs fr hk => nc hk) (fun k cs hk => nc hk), h2.fr hf (nc h2), h3.fr hf (nc h3),
    ⟨⟨Nat.le_trans h4.1.1 hg.size, fun k hk => (hg.block k (by have := h4.1.1; unfold SR at hk; omega) (fun e => by have := (hr k e.symm).1; unfold SR at hk; omega)).trans (h4.1.2 k hk)⟩, h4.2.trans (fun k cs hk => hk.fr hf (nc hk))⟩, h5.grown hg (Nat.le_trans hU h4.1.1) (fun k hk => by have := (hr k hk).1; omega)⟩

section
variable {L : List (Nat × ByteArray)}
def PI6 (w U : World) (b : Nat) (v : Int) (n : Nat) (pre : List (Yw L)) (W : World) : Prop := PM6 w U b v n 0 0 (stR v n pre) W ∧ onR v n pre
def PX6 (id : Nat) (w U : World) (b : Nat) (v : Int) (n : Nat) (c : Code) (pre : List (Yw L)) (W : World) : Prop := c = .exit id ∧ ∃ pre' x, pre = pre' ++ [x] ∧ onR v n pre' ∧ (stepW v n (stR v n pre') x.1.2.data.toList).1 ≠ 0 ∧ ∃ st, PM6 w U b v n (stepW v n (stR v n pre') x.1.2.data.toList).1 (x.1.1 : Int) st W
/-- The frame of a round. -/
def rFr6 (tm : Array Value) (i : Int) (s : ByteArray) : Array Value := (((tm.setIfInBounds 66 (.int .i64 i)).setIfInBounds 67 (.string s)).setIfInBounds 15 (.int .i64 i)).setIfInBounds 16 (.string s)
theorem range_words {tm : Array Value} {assign body : Code} {g : Operand} {Q : Exit → Act → World → Prop} (id m hb lb wb beh b : Nat) (Ws : List ByteArray) (c : Nat) (v : Int) (n : Nat) (w U : World) (hL : wordsB (Ws.drop beh) beh = L)
    (hg : (Act.mk tm []).eval g = .func (.func 91) #[] #[.pointer (some ⟨hb, 0, none⟩), .pointer (some ⟨lb, 0, none⟩)]) (hm : 3 ≤ m) (hbU : b + 10 ≤ U.heap.size)
    (hIt : ∀ W, KpQ (SR b) U W → ItAt6 W hb lb wb Ws c beh) (hl : Ws.length ≤ 100000000) (hws : ∀ s ∈ Ws, s.size ≤ 20000000) (hbeh : beh ≤ Ws.length)
    (hwU : w.heap.size ≤ U.heap.size) (h0 : PM6 w U b v n 0 0 zRs U)
    (hassign : ∀ (l : Nat) (i : Int) (s : ByteArray) (W : World) (K : Act → World → Prop), K ⟨rFr6 tm i s, []⟩ W → assign.wpIn (Fence.wide.inRound l) (m - 1 - 1) Tryz.prog (Exit.then K (fun _ _ _ => False)) { tmps := (tm.setIfInBounds 66 (.int .i64 i)).setIfInBounds 67 (.string s), defers := [] } W)
    (hbody : ∀ (l : Nat) (pre : List (Yw L)) (x : Yw L) (W : World), PI6 w U b v n pre W → pre.length < L.length →
      body.wpIn (Fence.wide.inRound l) (m - 1 - 1) Tryz.prog (ownPostG U.heap.size (KpQ (SR b)) (PI6 w U b v n) (PX6 id w U b v n) (pre ++ [x]) W) ⟨rFr6 tm (x.1.1 : Int) x.1.2, []⟩ W)
    (hdone : ∀ (D : Nat) (xs : List (Yw L)) (W : World), U.heap.size ≤ D → YAll xs → PI6 w U b v n xs W → W.heap[D]? = some (.deferred (some [])) → Q .normal { tmps := tm, defers := [{ target := .collected D, args := #[] }] } W)
    (hstop : ∀ (D : Nat) (pre : List (Yw L)) (W : World), U.heap.size ≤ D → YPre pre → PX6 id w U b v n (.exit id) pre W → W.heap[D]? = some (.deferred (some [])) → (Code.exit id).wpIn Fence.wide m Tryz.prog Q { tmps := tm, defers := [{ target := .collected D, args := #[] }] } W) :
    (Code.rangeFunc g #[66, 67] assign body).wpIn Fence.wide m Tryz.prog Q ⟨tm, []⟩ U := by
  have hS : ∀ k, SR b k → k < U.heap.size := fun k hk => by unfold SR at hk; omega
  refine wpIn_rangeFunc_ownH (α := Yw L) rfl (by omega) hg trivial (enters_of Tryz.func91 (by kernel_rfl) rfl)
    (words_seq (m - 1) hb lb wb beh Ws c (SR b) U L hL hS (by omega) hIt hl hws hbeh) (fun h k => h.trans k) (fun W l o o' hl ho hc _ => KpQ.putObj W l o o' (fun k hk => Nat.lt_of_lt_of_le (hS k hk) hl) ho hc) (Below.refl _ _) (fun _ => rfl)
    (PI6 w U b v n) (PX6 id w U b v n) (fun s W W' row h hg hr => ⟨h.1.own hwU hbU hg hr, h.2⟩) (fun c' s W W' row h hg hr => by
      obtain ⟨h1, pre', x, h2, h3, h4, st, h5⟩ := h
      exact ⟨h1, pre', x, h2, h3, h4, st, h5.own hwU hbU hg hr⟩) ⟨h0, onR_nil v n⟩
    (fun x a' W => a' = ⟨rFr6 tm (x.1.1 : Int) x.1.2, []⟩)
    (fun x a' _ W W' row h hg hr => h) ?_ ?_ ?_ ?_
  · intro l pre x W K hi hK
    have h9 := hassign l (x.1.1 : Int) x.1.2 W K (hK _ _ ((KeepsOthers.refl _).from _) (KpQ.refl _ _) hi rfl)
    have e : ((#[66, 67] : Array Tmp).zip (yEnc x)).foldl (fun t (q : Tmp × Value) => t.setIfInBounds q.1 q.2) tm = (tm.setIfInBounds 66 (.int .i64 (x.1.1 : Int))).setIfInBounds 67 (.string x.1.2) := by simp [yEnc]
    rw [← e] at h9
    exact h9
  · rintro l pre x a' W _ _ hi rfl hlt
    exact hbody l pre x W hi hlt
  · intro D xs W hD hS hi hK
    exact hdone D xs W hD hS hi hK
  · intro D c' pre W hD hY h hK
    obtain ⟨rfl, h2⟩ := h
    exact hstop D pre W hD hY ⟨rfl, h2⟩ hK
end
end Go.Proofs.YtkpcpclaadgnbaaGreatDoor
