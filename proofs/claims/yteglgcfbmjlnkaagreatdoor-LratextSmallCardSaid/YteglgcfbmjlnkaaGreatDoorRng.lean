/-
  The range over numbers in Parse: the law for it.
-/
import Derived.Test.YteglgcfbmjlnkaaGreatDoorDel
import Derived.Maps.OwnIn
set_option linter.unusedVariables false
set_option linter.unusedSimpArgs false
namespace Go.Proofs.YteglgcfbmjlnkaaGreatDoor
open Go.RowKit Go.Shelf

theorem Bk.ownG {W W' : World} {g : Nat} {t : TypeId} {cs : Array Value} {B : Nat} {row : Option Nat} (h : Bk W g t cs) (hg : W.grownBy W' row) (hr : ∀ r, row = some r → B ≤ r ∧ ∃ o : Obj, W.heap[r]? = some o ∧ o.isCells = false) : Bk W' g t cs := by
  refine h.grown hg ?_
  intro e
  obtain ⟨_, o, ho, hc⟩ := hr g e.symm
  unfold Bk at h
  rw [h] at ho
  injection ho with ho
  subst ho
  simp [Obj.isCells] at hc
theorem own_ownG {W W' : World} {base : Nat} {e : TypeId} {size n : Nat} {v : Value} {xs : List Value} {B : Nat} {row : Option Nat} (h : W.ownsRow base e size v n xs) (hg : W.grownBy W' row) (hr : ∀ r, row = some r → B ≤ r ∧ ∃ o : Obj, W.heap[r]? = some o ∧ o.isCells = false) : W'.ownsRow base e size v n xs := by
  refine ⟨h.1, ?_⟩
  rcases h.2 with h0 | ⟨g', cap, cur, rfl, hbs, hh, rest⟩
  · exact .inl h0
  · exact .inr ⟨g', cap, cur, rfl, hbs, Bk.ownG (t := e) hh hg hr, rest⟩
theorem KpS.ownG {S : Nat → Prop} {U W W' : World} {B : Nat} {row : Option Nat} (h : KpS S U W) (hS : ∀ k, S k → k < B) (hB : B ≤ W.heap.size) (hg : W.grownBy W' row) (hr : ∀ r, row = some r → B ≤ r ∧ ∃ o : Obj, W.heap[r]? = some o ∧ o.isCells = false) : KpS S U W' := by
  refine h.trans ⟨hg.size, fun k hk => hg.block k (Nat.lt_of_lt_of_le (hS k hk) hB) ?_⟩
  intro e
  have := (hr k e.symm).1
  have := hS k hk
  omega
/-- Between two rounds: what memory holds. -/
structure PM (w U : World) (sb pb cb : Nat) (S : Nat → Prop) (st : PS) (W : World) : Prop where
  sl : ∃ A1 c1 A2 c2, Bk W sb 33 #[.bool st.s.del, .int .i64 st.s.id, .slice A1 st.s.lits.length c1, .slice A2 st.s.hints.length c2] ∧ W.ownsRow U.heap.size 34 1 (.slice A1 st.s.lits.length c1) st.s.lits.length (st.s.lits.map (Value.int .i64)) ∧ W.ownsRow U.heap.size 3 1 (.slice A2 st.s.hints.length c2) st.s.hints.length (st.s.hints.map (Value.int .i64))
  part : Bk W pb 3 #[.int .i64 st.part]
  count : Bk W cb 3 #[.int .i64 st.count]
  kp : KpS S U W
  bel : Below w.heap.size w W
theorem PM.own {w U : World} {sb pb cb : Nat} {S : Nat → Prop} {st : PS} (hS : ∀ k, S k → k < U.heap.size) (hU : w.heap.size ≤ U.heap.size) {W W' : World} {row : Option Nat} (h : PM w U sb pb cb S st W) (hg : W.grownBy W' row) (hr : ∀ r, row = some r → U.heap.size ≤ r ∧ ∃ o : Obj, W.heap[r]? = some o ∧ o.isCells = false) : PM w U sb pb cb S st W' := by
  obtain ⟨⟨A1, c1, A2, c2, h1, h2, h3⟩, h4, h5, h6, h7⟩ := h
  exact ⟨⟨A1, c1, A2, c2, h1.ownG hg hr, own_ownG h2 hg hr, own_ownG h3 hg hr⟩, h4.ownG hg hr, h5.ownG hg hr, h6.ownG hS h6.1 hg hr, h7.grown hg (Nat.le_trans hU h6.1) (fun k hk => by have := (hr k hk).1; omega)⟩

section
variable {Ws : List ByteArray}
def PI (w U : World) (sb pb cb : Nat) (S : Nat → Prop) (del : Bool) (pre : List (Yw Ws)) (W : World) : Prop := PM w U sb pb cb S (stOf del pre) W ∧ onW del pre
def PX (id : Nat) (w U : World) (sb pb cb : Nat) (S : Nat → Prop) (del : Bool) (c : Code) (pre : List (Yw Ws)) (W : World) : Prop := c = .exit id ∧ PM w U sb pb cb S (stOf del pre) W ∧ ∃ pre' x, pre = pre' ++ [x] ∧ onW del pre' ∧ (putN (stOf del pre') x.1.2).2 = true
/-- The frame of a round. -/
def rFr (tm : Array Value) (i : Int) : Array Value := (tm.setIfInBounds 27 (.int .i64 i)).setIfInBounds 8 (.int .i64 i)
theorem range_num {tm : Array Value} {assign body : Code} {g : Operand} {Q : Exit → Act → World → Prop} (id n ib wb sb pb cb : Nat) (Ws : List ByteArray) (c : Nat) (del : Bool) (S : Nat → Prop) (w U : World)
    (hg : (Act.mk tm []).eval g = .func (.func 71) #[] #[.pointer (some ⟨ib, 0, none⟩)]) (hn : 3 ≤ n)
    (hS : ∀ k, S k → k < U.heap.size) (hIt : ∀ W, KpS S U W → ItAt W ib wb Ws c) (hl : Ws.length ≤ 100000000) (hws : ∀ s ∈ Ws, s.size ≤ 100000000)
    (hwU : w.heap.size ≤ U.heap.size) (h0 : PM w U sb pb cb S (startP del) U)
    (hassign : ∀ (l : Nat) (i : Int) (W : World) (K : Act → World → Prop), K ⟨rFr tm i, []⟩ W → assign.wpIn (Fence.wide.inRound l) (n - 1 - 1) Tryz.prog (Exit.then K (fun _ _ _ => False)) { tmps := tm.setIfInBounds 27 (.int .i64 i), defers := [] } W)
    (hbody : ∀ (l : Nat) (pre : List (Yw Ws)) (x : Yw Ws) (W : World), PI w U sb pb cb S del pre W → pre.length < Ws.length →
      body.wpIn (Fence.wide.inRound l) (n - 1 - 1) Tryz.prog (ownPostG U.heap.size (KpS S) (PI w U sb pb cb S del) (PX id w U sb pb cb S del) (pre ++ [x]) W) ⟨rFr tm x.1.2, []⟩ W)
    (hdone : ∀ (D : Nat) (xs : List (Yw Ws)) (W : World), U.heap.size ≤ D → YAll xs → PI w U sb pb cb S del xs W → W.heap[D]? = some (.deferred (some [])) → Q .normal { tmps := tm, defers := [{ target := .collected D, args := #[] }] } W)
    (hstop : ∀ (D : Nat) (pre : List (Yw Ws)) (W : World), U.heap.size ≤ D → YIdx pre → PX id w U sb pb cb S del (.exit id) pre W → W.heap[D]? = some (.deferred (some [])) → (Code.exit id).wpIn Fence.wide n Tryz.prog Q { tmps := tm, defers := [{ target := .collected D, args := #[] }] } W) :
    (Code.rangeFunc g #[27] assign body).wpIn Fence.wide n Tryz.prog Q ⟨tm, []⟩ U := by
  refine wpIn_rangeFunc_ownH (α := Yw Ws) rfl (by omega) hg trivial (enters_of Tryz.func71 (by kernel_rfl) rfl)
    (num_seq (n - 1) ib wb Ws c S U hS (by omega) hIt hl hws) (fun h k => h.trans k) (fun W l o o' hl _ _ _ => KpS.putObj W l o' (fun k hk => Nat.lt_of_lt_of_le (hS k hk) hl)) (Below.refl _ _) (fun _ => rfl)
    (PI w U sb pb cb S del) (PX id w U sb pb cb S del) (fun s W W' row h hg hr => ⟨h.1.own hS hwU hg hr, h.2⟩) (fun c' s W W' row h hg hr => ⟨h.1, h.2.1.own hS hwU hg hr, h.2.2⟩) ⟨h0, onW_nil del⟩
    (fun x a' W => a' = ⟨rFr tm x.1.2, []⟩)
    (fun x a' _ W W' row h hg hr => h) ?_ ?_ ?_ ?_
  · intro l pre x W K hi hK
    have h9 := hassign l x.1.2 W K (hK _ _ ((KeepsOthers.refl _).from _) (KpS.refl _ _) hi rfl)
    have e : ((#[27] : Array Tmp).zip (yEnc x)).foldl (fun t (q : Tmp × Value) => t.setIfInBounds q.1 q.2) tm = tm.setIfInBounds 27 (.int .i64 x.1.2) := by simp [yEnc]
    rw [← e] at h9
    exact h9
  · rintro l pre x a' W _ _ hi rfl hlt
    exact hbody l pre x W hi hlt
  · intro D xs W hD hS hi hK
    exact hdone D xs W hD hS hi hK
  · intro D c' pre W hD hY h hK
    obtain ⟨rfl, h2⟩ := h
    exact hstop D pre W hD hY ⟨rfl, h2⟩ hK
end
end Go.Proofs.YteglgcfbmjlnkaaGreatDoor
