/-
  The range over decode.done in decode.Assign.
-/
import Derived.Test.YtamoniljgifggaaDone
set_option linter.unusedVariables false
set_option linter.unusedSimpArgs false
namespace Go.Proofs.Ytamoniljgifggaa
open Go.RowKit Go.Shelf

theorem Bk.ownG {W W' : World} {g : Nat} {t : TypeId} {cs : Array Value} {B : Nat} {row : Option Nat} (h : Bk W g t cs) (hg : W.grownBy W' row) (hr : ∀ r, row = some r → B ≤ r ∧ ∃ o : Obj, W.heap[r]? = some o ∧ o.isCells = false) : Bk W' g t cs := by
  refine h.grown hg ?_
  intro e
  obtain ⟨_, o, ho, hc⟩ := hr g e.symm
  unfold Bk at h
  rw [h] at ho
  injection ho with ho
  subst ho
  simp [Obj.isCells] at hc
theorem KpA.ownG {n a b : Nat} {U W W' : World} {row : Option Nat} (h : KpA n a b U W) (hU : n ≤ W.heap.size) (hg : W.grownBy W' row) (hr : ∀ r, row = some r → n ≤ r ∧ ∃ o : Obj, W.heap[r]? = some o ∧ o.isCells = false) : KpA n a b U W' := by
  refine ⟨Nat.le_trans h.1 hg.size, fun k hk ha hb => ?_⟩
  refine (hg.block k (by omega) ?_).trans (h.2 k hk ha hb)
  intro e
  have := (hr k e.symm).1
  omega

theorem KpA.set {n a b : Nat} {U W : World} (h : KpA n a b U W) {p : Addr} (hp : p.block = a ∨ p.block = b) (u : Value) : KpA n a b U (W.setCell p u) := by
  refine ⟨Nat.le_trans h.1 (by simp [World.setCell]), fun k hk ha hb => ?_⟩
  refine (Below.heap_setCell W p u k ?_).trans (h.2 k hk ha hb)
  rintro rfl
  rcases hp with hp | hp
  · exact ha hp
  · exact hb hp
theorem Bk.kp {n a b g : Nat} {U W : World} {t : TypeId} {cs : Array Value} (h : Bk U g t cs) (hk : KpA n a b U W) (hn : g < n) (ha : g ≠ a) (hb : g ≠ b) : Bk W g t cs := (hk.2 g hn ha hb).trans h
theorem MapI.kp {n a b mb : Nat} {U W : World} {L : List (Int × Int)} (h : MapI U mb L) (hk : KpA n a b U W) (hn : mb < n) (ha : mb ≠ a) (hb : mb ≠ b) : MapI W mb L := by
  obtain ⟨es, c, h1, h2⟩ := h
  exact ⟨es, c, (hk.2 mb hn ha hb).trans h1, h2⟩
theorem Rd.kp {n a b : Nat} {w U W : World} {A : Option Addr} {xs : List Value} (h : Rd w A xs) (hw : Below w.heap.size w U) (hk : KpA n a b U W) (hn : w.heap.size ≤ n) (ha : w.heap.size ≤ a) (hb : w.heap.size ≤ b) : Rd W A xs := fun hx => by
  obtain ⟨q, off, cs, t, fr, rfl, hq, hc⟩ := h hx
  have hl := lt_of_heap hq
  exact ⟨q, off, cs, t, fr, rfl, ((hk.2 q (by omega) (by omega) (by omega)).trans (hw.block q hl)).trans hq, hc⟩
theorem IsAt.kp {a b pb : Nat} {U W : World} {G : List Nd} {inp l : List Bool} {z : Int} (h : IsAt U pb G inp) (hk : KpA U.heap.size a b U W) (ha : Bk U a 4 (bcells l)) (hb : Bk U b 3 #[.int .i64 z]) : IsAt W pb G inp := by
  obtain ⟨hl, ob, n, ws, hc, h1, h2, h3, h4, h5, h6⟩ := h
  have na : pb ≠ a := by
    rintro rfl
    rw [ha.cell 0] at hc
    simp [bcells] at hc
  have nb : pb ≠ b := by
    rintro rfl
    rw [hb.cell 0] at hc
    simp at hc
  exact ⟨Nat.lt_of_lt_of_le hl hk.1, ob, n, ws, (World.cell?_of_block (hk.2 pb hl na nb)).trans hc, h1, h2, h3, h4, h5, h6.kp hk h6.lt (Bk.ne h6 ha (by decide)) (Bk.ne h6 hb (by decide))⟩

section
variable {v : Int → Bool} {ops : List OpR}
def nOf (pre : List (Yld v ops)) : Nat := match pre.getLast? with
  | some p => p.1.1 + 1
  | none => 0
def lOf (all : List Int) (pt : Int) (l : List Bool) (pre : List (Yld v ops)) : List Bool := pre.foldl (fun l p => if (p.1.1 : Int) = pt then setIn all l p.1.2.sel true else l) l
theorem nOf_snoc (pre : List (Yld v ops)) (x : Yld v ops) : nOf (pre ++ [x]) = x.1.1 + 1 := by simp [nOf]
theorem lOf_snoc (all : List Int) (pt : Int) (l : List Bool) (pre : List (Yld v ops)) (x : Yld v ops) : lOf all pt l (pre ++ [x]) = if (x.1.1 : Int) = pt then setIn all (lOf all pt l pre) x.1.2.sel true else lOf all pt l pre := by simp [lOf]
theorem lOf_len (all : List Int) (pt : Int) (l : List Bool) (pre : List (Yld v ops)) : (lOf all pt l pre).length = l.length := by
  refine snoc_ind (P := fun pre => (lOf all pt l pre).length = l.length) rfl ?_ pre
  intro pre x ih
  rw [lOf_snoc]
  split
  · rw [setIn_len, ih]
  · exact ih
theorem nOf_all {xs : List (Yld v ops)} (h : YAll xs) : nOf xs = (doneL v ops).length := by
  rw [← h.1]
  unfold nOf
  cases hl : xs.getLast? with
  | none => simp [List.getLast?_eq_none_iff.1 hl]
  | some p =>
    rw [List.getLast?_eq_getElem?] at hl
    have := h.2 _ _ hl
    have h2 := (List.getElem?_eq_some_iff.1 hl).1
    dsimp only
    omega
theorem lOf_all {all : List Int} {pt : Int} {l : List Bool} {xs : List (Yld v ops)} (h : YAll xs) : lOf all pt l xs = if 0 ≤ pt then (match (doneL v ops)[pt.toNat]? with
  | some o => setIn all l o.sel true
  | none => l) else l := by
  have key : ∀ k, k ≤ xs.length → lOf all pt l (xs.take k) = if 0 ≤ pt ∧ pt < k then (match (doneL v ops)[pt.toNat]? with
      | some o => setIn all l o.sel true
      | none => l) else l := by
    intro k
    induction k with
    | zero =>
      intro _
      rw [if_neg (by omega)]
      rfl
    | succ k ih =>
      intro hk
      have hx : xs[k]? = some (xs[k]'(by omega)) := List.getElem?_eq_getElem _
      have h1 := h.2 k _ hx
      have h3 := (xs[k]'(by omega)).2
      rw [take_snoc hx, lOf_snoc, ih (by omega)]
      by_cases he : ((xs[k]'(by omega)).1.1 : Int) = pt
      · rw [if_pos he, if_neg (by omega), if_pos (by omega)]
        rw [h1] at h3
        have e : pt.toNat = k := by omega
        rw [e, h3]
      · rw [if_neg he]
        by_cases h5 : 0 ≤ pt ∧ pt < k
        · rw [if_pos h5, if_pos (by omega)]
        · rw [if_neg h5, if_neg (by omega)]
  have h1 := key xs.length (Nat.le_refl _)
  rw [List.take_of_length_le (Nat.le_refl _)] at h1
  rw [h1]
  by_cases h0 : 0 ≤ pt
  · rw [if_pos h0]
    by_cases h2 : pt < xs.length
    · rw [if_pos ⟨h0, h2⟩]
    · rw [if_neg (by omega)]
      rw [List.getElem?_eq_none (by rw [← h.1]; omega)]
  · rw [if_neg h0, if_neg (by omega)]
end

/-- Between two rounds. -/
structure RngI (w U : World) (ib nb : Nat) (R : Res) (inp : List Bool) (pt : Int) (pre : List (Yld (valR (evalG R.G inp)) R.ops)) (W : World) : Prop where
  num : Bk W nb 3 #[.int .i64 (nOf pre)]
  arr : Bk W ib 4 (bcells (lOf (inputsOf R.G) pt inp pre))
  kp : KpA U.heap.size ib nb U W
  bel : Below w.heap.size w W
theorem RngI.own {w U : World} {ib nb : Nat} {R : Res} {inp : List Bool} {pt : Int} (hU : w.heap.size ≤ U.heap.size) : OwnFrom U.heap.size (RngI w U ib nb R inp pt) := by
  intro s W W' row h hg hr
  refine ⟨h.num.ownG hg hr, h.arr.ownG hg hr, h.kp.ownG h.kp.1 hg hr, ?_⟩
  exact h.bel.grown hg (Nat.le_trans hU h.kp.1) (fun k hk => by have := (hr k hk).1; omega)

def opC (o : OpR) : Array Value := #[.int .u8 o.kind, .int .i64 o.done, .int .i64 o.sel, .int .i64 o.write]
/-- The frame of a round. -/
def rFrame (tm : Array Value) (i : Int) (o : OpR) (bx : Nat) : Array Value := (((tm.setIfInBounds 109 (.int .i64 i)).setIfInBounds 110 (.agg (opC o))).setIfInBounds 20 (.int .i64 i)).setIfInBounds 21 (.pointer (some ⟨bx, 0, none⟩))

theorem range_done {tm : Array Value} {assign body : Code} {g : Operand} {Q : Exit → Act → World → Prop} (n rbx ibx pb ib nb : Nat) (AO : Option Addr) (nO cO : Nat) (R : Res) (inp : List Bool) (pt : Int) (w U : World)
    (hg : (Act.mk tm []).eval g = .func (.func 79) #[] #[.pointer (some ⟨rbx, 0, none⟩), .pointer (some ⟨ibx, 0, none⟩)]) (hn : 3 ≤ n)
    (hIt : ∀ W, KpA U.heap.size ib nb U W → ItAt W rbx ibx pb #[] AO nO cO R inp) (hl : R.ops.length = nO) (hnO : nO ≤ 100000) (hR : Rts R)
    (hwU : w.heap.size ≤ U.heap.size) (hn0 : Bk U nb 3 #[.int .i64 0]) (ha0 : Bk U ib 4 (bcells inp)) (hb0 : Below w.heap.size w U)
    (hassign : ∀ (l : Nat) (i : Int) (o : OpR) (W : World) (K : Act → World → Prop), K ⟨rFrame tm i o W.heap.size, []⟩ (W.alloc (.cells (opC o) 37)) →
      assign.wpIn (Fence.wide.inRound l) (n - 1 - 1) Try.prog (Exit.then K (fun _ _ _ => False)) { tmps := (tm.setIfInBounds 109 (.int .i64 i)).setIfInBounds 110 (.agg (opC o)), defers := [] } W)
    (hbody : ∀ (l : Nat) (pre : List (Yld (valR (evalG R.G inp)) R.ops)) (x : Yld (valR (evalG R.G inp)) R.ops) (bx : Nat) (W : World), RngI w U ib nb R inp pt pre W → U.heap.size ≤ bx → Bk W bx 37 (opC x.1.2) → pre.length < nO →
      body.wpIn (Fence.wide.inRound l) (n - 1 - 1) Try.prog (ownPostG U.heap.size (KpA U.heap.size ib nb) (RngI w U ib nb R inp pt) (fun _ _ _ => False) (pre ++ [x]) W) ⟨rFrame tm x.1.1 x.1.2 bx, []⟩ W)
    (hdone : ∀ (D : Nat) (xs : List (Yld (valR (evalG R.G inp)) R.ops)) (W : World), U.heap.size ≤ D → YAll xs → RngI w U ib nb R inp pt xs W → W.heap[D]? = some (.deferred (some [])) → Q .normal { tmps := tm, defers := [{ target := .collected D, args := #[] }] } W) :
    (Code.rangeFunc g #[109, 110] assign body).wpIn Fence.wide n Try.prog Q ⟨tm, []⟩ U := by
  refine wpIn_rangeFunc_ownH (α := Yld (valR (evalG R.G inp)) R.ops) rfl (by omega) hg trivial (enters_of Try.func79 (by kernel_rfl) rfl)
    (done_seq (n - 1) U.heap.size ib nb rbx ibx pb AO nO cO R inp U rfl (by omega) hIt hl hnO hR) (fun h k => h.trans k) (fun W l o o' hl _ _ _ => KpA.putObj W l o' hl) (Below.refl _ _) (fun _ => rfl)
    (RngI w U ib nb R inp pt) (fun _ _ _ => False) (RngI.own hwU) (fun _ _ _ _ _ h _ _ => h) ⟨hn0, ha0, KpA.refl _ _ _ _, hb0⟩
    (fun x a' W => ∃ bx, U.heap.size ≤ bx ∧ Bk W bx 37 (opC x.1.2) ∧ a' = ⟨rFrame tm x.1.1 x.1.2 bx, []⟩)
    (fun x a' _ W W' row h hg hr => by obtain ⟨bx, h1, h2, h3⟩ := h; exact ⟨bx, h1, h2.ownG hg hr, h3⟩) ?_ ?_ ?_ ?_
  · intro l pre x W K hi hK
    have hsz : U.heap.size ≤ W.heap.size := hi.kp.1
    have h9 := hassign l x.1.1 x.1.2 W K (hK _ _ ((KeepsOthers.alloc _ _).from _) ((KpA.refl _ _ _ W).alloc hsz _) ⟨hi.num.alloc _, hi.arr.alloc _, hi.kp.alloc hsz _, hi.bel.alloc (Nat.le_trans hwU hsz) _⟩ ⟨W.heap.size, hsz, Bk.new _ _ _, rfl⟩)
    have e : ((#[109, 110] : Array Tmp).zip (yEnc x)).foldl (fun t (q : Tmp × Value) => t.setIfInBounds q.1 q.2) tm = (tm.setIfInBounds 109 (.int .i64 x.1.1)).setIfInBounds 110 (.agg (opC x.1.2)) := by simp [yEnc, opC]
    rw [← e] at h9
    exact h9
  · rintro l pre x a' W _ _ hi ⟨bx, h1, h2, rfl⟩ hlt
    exact hbody l pre x bx W hi h1 h2 hlt
  · intro D xs W hD hS hi hK
    exact hdone D xs W hD hS hi hK
  · intro D c pre W _ _ h _
    exact h.elim
end Go.Proofs.Ytamoniljgifggaa
