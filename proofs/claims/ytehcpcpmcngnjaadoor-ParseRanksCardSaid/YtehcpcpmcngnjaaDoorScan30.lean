/-
  tokens.Scan: the range over all tokens, and what it comes to.
-/
import Derived.Test.YtehcpcpmcngnjaaDoorIter30
import Derived.Test.YtehcpcpmcngnjaaDoorPs30
import Derived.Maps.OwnIn
import Derived.Deep.QuietTactic
import Derived.BigQuiet
set_option linter.unusedVariables false
set_option linter.unusedSimpArgs false
namespace Go.Proofs.YtehcpcpmcngnjaaDoor
open Go.RowKit Go.Shelf
attribute [local go_sem] Oper.semAt_some

theorem wpListIn_app {P : Program} {F : Fence} {nF : Nat} {t e : TypeId} {size : Nat} {w : World} {ops : Array Oper} {rest : List Oper} {o : Oper} {a : Act} {Q : Exit → Act → World → Prop} (E : El P t e size) (hgd : o.guard = none) (s x : Operand) (ho : o.op = .call { callee := .builtin .append, args := #[s, x], argTypes := #[t, t] })
    (base : Nat) (v : Value) (n : Nat) (xs : List Value) (hs : a.eval s = v) (hown : w.ownsRow base e size v n xs)
    (A : Option Addr) (m c : Nat) (news : List Value) (hx : a.eval x = .slice A m c) (hr : Rd w A news) (hl : news.length = m * size) (h1 : ∀ u ∈ news, u.oneCell' = true) (hnm : n + m ≤ 1000000000) (hbase : base ≤ w.heap.size)
    (h : ∀ A' c' w', w'.ownsRow base e size (.slice A' (n + m) c') (n + m) (xs ++ news) → w.grownBy w' v.ownBlock → ((Value.slice A' (n + m) c').ownBlock = v.ownBlock ∨ (Value.slice A' (n + m) c').ownBlock = some w.heap.size) → wpListIn F nF P ops Q rest (a.put o.dst (.slice A' (n + m) c')) w') : wpListIn F nF P ops Q (o :: rest) a w := by
  refine wpListIn_plain hgd fun K hK => ?_
  obtain ⟨A', c', w', hrun, h2, h3, h4⟩ := run_app (P := P) E o.type base v n xs hown A m c news hr hl h1 hnm hbase
  unfold Oper.wpIn
  refine ⟨by simp [Oper.about, ho, resolve, Target.leads, Sem.run_pure], ?_⟩
  rw [Oper.semAt_plain F _ _ (by rw [ho]; intro c hc'; cases hc')]
  simp [execOp, ho, resolve, invoke, builtin, hs, hx, hrun, Result.andThen]
  exact hK _ _ (h A' c' w' h2 h3 h4)
theorem fr_putObj (W : World) (D : Nat) (o : Obj) : Fr (fun q => q = D) W (W.putObj D o) := by
  refine ⟨rfl, rfl, rfl, by simp [World.putObj], fun k _ hk => ?_⟩
  simp [World.putObj, Array.getElem?_setIfInBounds]
  omega
theorem el_tok : El Tryd.prog 60 74 3 := El.mk' (z := .agg #[.int .u8 0, .int .i64 0, .int .i64 0]) (bytes := 24) Tryd.underlying60 (by kernel_rfl) rfl (by omega) (by omega)
theorem own_typedS {W : World} {B : Nat} {e : TypeId} {size n : Nat} {v : Value} {xs : List Value} (h : W.ownsRow B e size v n xs) : ∀ k, v.ownBlock = some k → B ≤ k ∧ ∃ cs, Bk W k e cs := by
  intro k hk
  rcases h.2 with ⟨rfl, _⟩ | ⟨g, cap, cur, rfl, hB, hh, _⟩
  · simp [Value.ownBlock] at hk
  · obtain rfl : g = k := by simpa [Value.ownBlock] using hk
    exact ⟨hB, cur, hh⟩
theorem toksY_snoc (t : List UInt8) (pre : List Yt) (x : Yt) : toksY t (pre ++ [x]) = toksY t pre ++ (if x.1 = 0 then [] else [tkY t x]) := by
  unfold toksY
  rw [List.filter_append, List.map_append]
  congr 1
  by_cases h : x.1 = 0
  · simp [h]
  · simp [h]
/-- Between two rounds. -/
structure PScan (w U : World) (b : Nat) (t : List UInt8) (pre : List Yt) (W : World) : Prop where
  out : ∃ A c, Bk W b 60 #[.slice A (toksY t pre).length c] ∧ W.ownsRow (b + 3) 74 3 (.slice A (toksY t pre).length c) (toksY t pre).length ((toksY t pre).flatMap cellK)
  wrong : Bk W (b + 1) 3 #[.int .i64 (-1)]
  kp : KpT b U W
  bel : Below w.heap.size w W
  good : ∀ x ∈ pre, x.2.2.2 = false
theorem KpT.grownNC {b : Nat} {W W' : World} {row : Option Nat} {cs : Array Value} {t : TypeId} (hb : Bk W b t cs) (hg : W.grownBy W' row) (hr : ∀ r, row = some r → ∃ o : Obj, W.heap[r]? = some o ∧ o.isCells = false) : KpT b W W' := by
  have nc : ∀ {k : Nat} {t : TypeId} {cs : Array Value} {fr : Nat × Nat}, W.heap[k]? = some (.cells cs t fr) → ¬ some k = row := fun hk e => by
    obtain ⟨o, ho, hc⟩ := hr _ e.symm
    rw [hk] at ho
    injection ho with ho
    subst ho
    cases hc
  have hrr : rowOf b W' = rowOf b W := rowOf_same (World.cell?_of_block (a := ⟨b, 0, none⟩) (hg.block b hb.lt (nc hb)))
  exact ⟨hg.size, fun k cs t fr hk _ _ _ => hg.block k (lt_of_heap hk) (nc hk), fun k e => .inl (hrr ▸ e), fun hv k e => Nat.lt_of_lt_of_le (hv k (hrr ▸ e)) hg.size⟩
section
variable {w U W W' : World} {b : Nat} {t : List UInt8} {pre : List Yt}
theorem PScan.lt (h : PScan w U b t pre W) : b + 1 < W.heap.size := h.wrong.lt
theorem PScan.below (h : PScan w U b t pre W) (hb : Below W.heap.size W W') : PScan w U b t pre W' := by
  have hlt := h.lt
  obtain ⟨⟨A, c, h1, h1'⟩, h2, h3, h4, h5⟩ := h
  exact ⟨⟨A, c, bkbel h1 hb, own_fr (F := fun _ => False) h1' (Fr.of_below hb) (fun _ _ h => h)⟩, bkbel h2 hb, h3.trans (KpT.below hb (by omega)), bthen h4 hb, h5⟩
theorem PScan.own {row : Option Nat} (h : PScan w U b t pre W) (hwU : w.heap.size ≤ U.heap.size) (hg : W.grownBy W' row) (hr : ∀ r, row = some r → U.heap.size ≤ r ∧ ∃ o : Obj, W.heap[r]? = some o ∧ o.isCells = false) : PScan w U b t pre W' := by
  have hlt := h.lt
  obtain ⟨⟨A, c, h1, h1'⟩, h2, h3, h4, h5⟩ := h
  have nc : ∀ {k : Nat} {t : TypeId} {cs : Array Value} {fr : Nat × Nat}, W.heap[k]? = some (.cells cs t fr) → ¬ row = some k := fun hk e => by
    obtain ⟨_, o, ho, hc⟩ := hr _ e
    rw [hk] at ho
    injection ho with ho
    subst ho
    cases hc
  have hf : Fr (fun k => row = some k) W W' := (Fr.refl _ W).grown hg (fun k hk => .inl hk)
  refine ⟨⟨A, c, h1.fr hf (nc h1), own_fr h1' hf (fun k hk => ?_)⟩, h2.fr hf (nc h2), h3.trans (KpT.grownNC h1 hg (fun r e => (hr r e).2)), h4.grown hg (Nat.le_trans hwU h3.size) (fun k hk => by have := (hr k hk).1; omega), h5⟩
  obtain ⟨_, cs, hk2⟩ := own_typedS h1' k hk
  exact nc hk2
/-- A token is appended. -/
theorem PScan.push {x : Yt} {A : Option Addr} {c : Nat} {A' : Option Addr} {c' : Nat} {W5 : World} (h : PScan w U b t pre W) (hwb : w.heap.size ≤ b) (hx : x.2.2.2 = false) (hk : x.1 ≠ 0)
    (h1 : Bk W b 60 #[.slice A (toksY t pre).length c]) (h1' : W.ownsRow (b + 3) 74 3 (.slice A (toksY t pre).length c) (toksY t pre).length ((toksY t pre).flatMap cellK))
    (hg : (W.alloc (.cells #[.int .u8 (x.1 : Int), .int .i64 (x.2.1 : Int), .int .i64 (x.2.2.1 : Int)] 74)).grownBy W5 (Value.slice A (toksY t pre).length c).ownBlock)
    (hw : W5.ownsRow (b + 3) 74 3 (.slice A' ((toksY t pre).length + 1) c') ((toksY t pre).length + 1) ((toksY t pre).flatMap cellK ++ [.int .u8 (x.1 : Int), .int .i64 (x.2.1 : Int), .int .i64 (x.2.2.1 : Int)]))
    (hat : (Value.slice A' ((toksY t pre).length + 1) c').ownBlock = (Value.slice A (toksY t pre).length c).ownBlock ∨ (Value.slice A' ((toksY t pre).length + 1) c').ownBlock = some (W.alloc (.cells #[.int .u8 (x.1 : Int), .int .i64 (x.2.1 : Int), .int .i64 (x.2.2.1 : Int)] 74)).heap.size) :
    PScan w U b t (pre ++ [x]) (W5.setCell ⟨b, 0, none⟩ (.slice A' ((toksY t pre).length + 1) c')) ∧ KpT b W (W5.setCell ⟨b, 0, none⟩ (.slice A' ((toksY t pre).length + 1) c')) ∧ KeepsOthers W (W5.setCell ⟨b, 0, none⟩ (.slice A' ((toksY t pre).length + 1) c')) := by
  have hlt := h.lt
  have hba : Below W.heap.size W (W.alloc (.cells #[.int .u8 (x.1 : Int), .int .i64 (x.2.1 : Int), .int .i64 (x.2.2.1 : Int)] 74)) := balloc (Below.refl _ _) _
  have h1a := bkbel h1 hba
  have h2a := bkbel h.wrong hba
  have hwa : (W.alloc (.cells #[.int .u8 (x.1 : Int), .int .i64 (x.2.1 : Int), .int .i64 (x.2.2.1 : Int)] 74)).ownsRow (b + 3) 74 3 (.slice A (toksY t pre).length c) (toksY t pre).length ((toksY t pre).flatMap cellK) := own_fr (F := fun _ => False) h1' (Fr.of_below hba) (fun _ _ h => h)
  have h15 : Bk W5 b 60 #[.slice A (toksY t pre).length c] := h1a.grown hg (own_ne hwa h1a (by decide))
  have h25 : Bk W5 (b + 1) 3 #[.int .i64 (-1)] := h2a.grown hg (own_ne hwa h2a (by decide))
  have h16 := h15.put 0 (.slice A' ((toksY t pre).length + 1) c')
  have hr0 : rowOf b W = (Value.slice A (toksY t pre).length c).ownBlock := by unfold rowOf; rw [show W.cell? ⟨b, 0, none⟩ = some (.slice A (toksY t pre).length c) from h1.cell 0]
  have hr6 : rowOf b (W5.setCell ⟨b, 0, none⟩ (.slice A' ((toksY t pre).length + 1) c')) = (Value.slice A' ((toksY t pre).length + 1) c').ownBlock := by
    unfold rowOf
    rw [show (W5.setCell ⟨b, 0, none⟩ (.slice A' ((toksY t pre).length + 1) c')).cell? ⟨b, 0, none⟩ = some (.slice A' ((toksY t pre).length + 1) c') from h16.cell 0]
  have hlen : (toksY t (pre ++ [x])).length = (toksY t pre).length + 1 := by rw [toksY_snoc, if_neg hk, List.length_append]; rfl
  have hK : KpT b W (W5.setCell ⟨b, 0, none⟩ (.slice A' ((toksY t pre).length + 1) c')) := by
    refine ⟨?_, fun k cs ty fr hk h0 h0' hrow => ?_, fun k e => ?_, fun hv k e => ?_⟩
    · have := hg.size
      simp [World.setCell] at this ⊢
      omega
    · refine (Below.heap_setCell W5 ⟨b, 0, none⟩ _ k (fun e => h0 e)).trans ((hg.block k (Nat.lt_of_lt_of_le (lt_of_heap hk) hba.size) (fun e => ?_)).trans (hba.block k (lt_of_heap hk)))
      exact hrow (hr0.trans e.symm)
    · rw [hr6] at e
      rcases hat with h' | h'
      · exact .inl (hr0.trans (h'.symm.trans e))
      · rw [h'] at e
        injection e with e
        exact .inr (by rw [← e]; simp)
    · rw [hr6] at e
      obtain ⟨_, cs, h3⟩ := own_typedS hw k e
      have := h3.lt
      simpa [World.setCell] using this
  refine ⟨⟨⟨A', c', ?_, ?_⟩, ?_, h.kp.trans hK, ?_, fun y hy => ?_⟩, hK, ?_⟩
  · rw [hlen]
    exact h16
  · rw [hlen, toksY_snoc, if_neg hk, List.flatMap_append]
    exact own_fr hw ((Fr.refl (fun k => k = b) W5).setCell (p := ⟨b, 0, none⟩) (.inl rfl) _) (fun k hk e => by have := (own_typedS hw k hk).1; omega)
  · exact h25.far (p := ⟨b, 0, none⟩) (by show b + 1 ≠ b; omega) _
  · refine Below.setCell (p := ⟨b, 0, none⟩) ((bthen h.bel hba).grown hg ?_ (fun k hk => ?_)) hwb _
    · have := (bthen h.bel hba).size; exact this
    · have := (own_typedS hwa k hk).1; omega
  · rcases List.mem_append.1 hy with hy | hy
    · exact h.good y hy
    · rw [List.mem_singleton.1 hy]; exact hx
  · refine ((KeepsOthers.alloc _ _).trans (KeepsOthers.of_grownBy hg (fun j o hj hh => ?_))).trans (KeepsOthers.setCell _ _ _)
    obtain ⟨_, cs, h3⟩ := own_typedS hwa j hj
    have h4 : (W.alloc (.cells #[.int .u8 (x.1 : Int), .int .i64 (x.2.1 : Int), .int .i64 (x.2.2.1 : Int)] 74)).heap[j]? = _ := h3
    rw [h4] at hh
    injection hh with hh
    subst hh
    rfl
/-- A round at the end: nothing is done. -/
theorem PScan.skip {x : Yt} (h : PScan w U b t pre W) (hx : x.2.2.2 = false) (hk : x.1 = 0) : PScan w U b t (pre ++ [x]) W := by
  have e : toksY t (pre ++ [x]) = toksY t pre := by rw [toksY_snoc, if_pos hk, List.append_nil]
  obtain ⟨h1, h2, h3, h4, h5⟩ := h
  refine ⟨by rw [e]; exact h1, h2, h3, h4, fun y hy => ?_⟩
  rcases List.mem_append.1 hy with hy | hy
  · exact h5 y hy
  · rw [List.mem_singleton.1 hy]; exact hx
end
def PXs (id : Nat) (w U : World) (b : Nat) (t : List UInt8) (c : Code) (pre : List Yt) (W : World) : Prop := c = .exit id ∧ ∃ pre' x, pre = pre' ++ [x] ∧ (∀ y ∈ pre', y.2.2.2 = false) ∧ x.2.2.2 = true ∧ Bk W (b + 1) 3 #[.int .i64 (x.2.1 : Int)] ∧ Below w.heap.size w W
/-- The frame of a round. -/
def rFrT (tm : Array Value) (p : Nat) (x : Yt) : Array Value := (((tm.setIfInBounds 14 (tokV x.1 x.2.1 x.2.2.1)).setIfInBounds 15 (.int .i64 (errB x.2.2.2 : Int))).setIfInBounds 7 (.pointer (some ⟨p, 0, none⟩))).setIfInBounds 8 (.int .i64 (errB x.2.2.2 : Int))
def AxT (tm : Array Value) (x : Yt) (a' : Act) (W : World) : Prop := ∃ p, a' = ⟨rFrT tm p x, []⟩ ∧ Bk W p 74 #[.int .u8 (x.1 : Int), .int .i64 (x.2.1 : Int), .int .i64 (x.2.2.1 : Int)]
theorem range_all {tm : Array Value} {assign body : Code} {g : Operand} {Q : Exit → Act → World → Prop} (id m b : Nat) (s : ByteArray) (w U : World) (L : List Yt) (hL : allT s.data.toList = L) (hs : s.size ≤ 65536)
    (hg : (Act.mk tm []).eval g = .func (.func 50) #[] #[.pointer (some ⟨b + 2, 0, none⟩)]) (hm : 3 ≤ m) (hbU : b + 2 < U.heap.size) (hwU : w.heap.size ≤ U.heap.size)
    (htx : Bk U (b + 2) 9 #[.string s]) (hU0 : Bk U b 60 #[.slice none 0 0]) (h0 : PScan w U b s.data.toList [] U)
    (hassign : ∀ (l : Nat) (x : Yt) (W : World) (K : Act → World → Prop), K ⟨rFrT tm W.heap.size x, []⟩ (W.alloc (.cells #[.int .u8 (x.1 : Int), .int .i64 (x.2.1 : Int), .int .i64 (x.2.2.1 : Int)] 74)) → assign.wpIn (Fence.wide.inRound l) (m - 1 - 1) Tryd.prog (Exit.then K (fun _ _ _ => False)) { tmps := (tm.setIfInBounds 14 (tokV x.1 x.2.1 x.2.2.1)).setIfInBounds 15 (.int .i64 (errB x.2.2.2 : Int)), defers := [] } W)
    (hbody : ∀ (l : Nat) (pre : List Yt) (x : Yt) (p : Nat) (W : World), PScan w U b s.data.toList pre W → Bk W p 74 #[.int .u8 (x.1 : Int), .int .i64 (x.2.1 : Int), .int .i64 (x.2.2.1 : Int)] → pre.length < L.length →
      body.wpIn (Fence.wide.inRound l) (m - 1 - 1) Tryd.prog (ownPostG U.heap.size (KpT b) (PScan w U b s.data.toList) (PXs id w U b s.data.toList) (pre ++ [x]) W) ⟨rFrT tm p x, []⟩ W)
    (hdone : ∀ (D : Nat) (W : World), U.heap.size ≤ D → PScan w U b s.data.toList L W → W.heap[D]? = some (.deferred (some [])) → Q .normal { tmps := tm, defers := [{ target := .collected D, args := #[] }] } W)
    (hstop : ∀ (D : Nat) (pre : List Yt) (W : World), U.heap.size ≤ D → YPreT L pre → PXs id w U b s.data.toList (.exit id) pre W → W.heap[D]? = some (.deferred (some [])) → (Code.exit id).wpIn Fence.wide m Tryd.prog Q { tmps := tm, defers := [{ target := .collected D, args := #[] }] } W) :
    (Code.rangeFunc g #[14, 15] assign body).wpIn Fence.wide m Tryd.prog Q ⟨tm, []⟩ U := by
  have hrow : rowOf b U = none := by unfold rowOf; rw [show U.cell? ⟨b, 0, none⟩ = some (.slice none 0 0) from hU0.cell 0]; rfl
  refine wpIn_rangeFunc_ownH (α := Yt) rfl (by omega) hg trivial (enters_of Tryd.func50 (by kernel_rfl) rfl)
    (all_seq (m - 1) (b + 2) b s U L hL hs (by omega) (by omega) (fun k e => by rw [hrow] at e; cases e) (fun W hk => by
      refine (World.cell?_of_block (a := ⟨b + 2, 0, none⟩) (hk.keep (b + 2) _ _ _ htx (by omega) (by omega) (by rw [hrow]; exact fun e => by cases e))).trans (htx.cell 0))) (fun h k => h.trans k)
    (fun W l o o' hl ho hc _ => KpT.putObj (cs := #[]) (t := 0) W l o o' (.inr (by omega)) ho hc) (Below.refl _ _) (fun _ => rfl)
    (PScan w U b s.data.toList) (PXs id w U b s.data.toList) (fun s W W' row h hg hr => h.own hwU hg hr) (fun c' s W W' row h hg hr => by
      obtain ⟨h1, pre', x, h2, h3, h4, h5, h6⟩ := h
      have nc : ¬ row = some (b + 1) := fun e => by
        obtain ⟨_, o, ho, hc⟩ := hr _ e
        have h7 : W.heap[b + 1]? = _ := h5
        rw [h7] at ho
        injection ho with ho
        subst ho
        cases hc
      exact ⟨h1, pre', x, h2, h3, h4, h5.fr ((Fr.refl (fun k => row = some k) W).grown hg (fun k hk => .inl hk)) nc, h6.grown hg h6.size (fun k hk => by have := (hr k hk).1; omega)⟩) h0
    (AxT tm)
    (fun x a' u W W' row h hg hr => by
      obtain ⟨p, h1, h2⟩ := h
      have nc : ¬ row = some p := fun e => by
        obtain ⟨_, o, ho, hc⟩ := hr _ e
        have h7 : W.heap[p]? = _ := h2
        rw [h7] at ho
        injection ho with ho
        subst ho
        cases hc
      exact ⟨p, h1, h2.fr ((Fr.refl (fun k => row = some k) W).grown hg (fun k hk => .inl hk)) nc⟩) ?_ ?_ ?_ ?_
  · intro l pre x W K hi hK
    have hb : Below W.heap.size W (W.alloc (.cells #[.int .u8 (x.1 : Int), .int .i64 (x.2.1 : Int), .int .i64 (x.2.2.1 : Int)] 74)) := balloc (Below.refl _ _) _
    have h9 := hassign l x W K (hK _ _ ((KeepsOthers.alloc _ _).from _) (KpT.below hb (by have := hi.lt; omega)) (hi.below hb) ⟨_, rfl, Bk.new _ _ _⟩)
    have e : ((#[14, 15] : Array Tmp).zip (yEncT x)).foldl (fun t (q : Tmp × Value) => t.setIfInBounds q.1 q.2) tm = (tm.setIfInBounds 14 (tokV x.1 x.2.1 x.2.2.1)).setIfInBounds 15 (.int .i64 (errB x.2.2.2 : Int)) := by simp [yEncT]
    rw [← e] at h9
    exact h9
  · rintro l pre x a' W _ _ hi ⟨p, rfl, hp⟩ hlt
    exact hbody l pre x p W hi hp hlt
  · intro D xs W hD hS hi hK
    subst hS
    exact hdone D W hD hi hK
  · intro D c' pre W hD hY h hK
    obtain ⟨rfl, h2⟩ := h
    exact hstop D pre W hD hY ⟨rfl, h2⟩ hK
/-- What Scan comes to. -/
def ScanP (w : World) (t : List UInt8) (e : Ending) (w' : World) : Prop :=
  Below w.heap.size w w' ∧ ((∃ a, badY (allT t) = some a ∧ e = .returned (.tuple #[.slice none 0 0, .int .i64 (a : Int), .int .i64 280])) ∨
    (badY (allT t) = none ∧ ∃ A c, e = .returned (.tuple #[.slice A (toksY t (allT t)).length c, .int .i64 (t.length : Int), .int .i64 0]) ∧ RdT w' A 74 ((toksY t (allT t)).flatMap cellK)))
set_option maxRecDepth 100000 in
set_option maxHeartbeats 4000000 in
theorem scanC (s : ByteArray) (w : World) (hs : s.size ≤ 65536) : Calls Tryd.prog 39 #[.string s] w (ScanP w s.data.toList) := by
  have e1 : decide ((65536 : Int) < (s.size : Int)) = false := by simp; omega
  have hi65 : (s.size : Int) ≤ 65536 := by omega
  have HB0 : Hid (Below w.heap.size w (((w.alloc (.cells #[.slice none 0 0] 60)).alloc (.cells #[.int .i64 (-1)] 3)).alloc (.cells #[.string s] 9))) := balloc (balloc (balloc (Below.refl _ _) _) _) _
  have HK0 := Lib.hid (((Bk.new w 60 #[.slice none 0 0]).alloc (.cells #[.int .i64 (-1)] 3)).alloc (.cells #[.string s] 9))
  have HK1 := Lib.hid ((Bk.new (w.alloc (.cells #[.slice none 0 0] 60)) 3 #[.int .i64 (-1)]).alloc (.cells #[.string s] 9))
  have HK2 := Lib.hid (Bk.new ((w.alloc (.cells #[.slice none 0 0] 60)).alloc (.cells #[.int .i64 (-1)] 3)) 9 #[.string s])
  have HU3 : Hid ((((w.alloc (.cells #[.slice none 0 0] 60)).alloc (.cells #[.int .i64 (-1)] 3)).alloc (.cells #[.string s] 9)).heap.size = w.heap.size + 3) := by show _ = _; simp
  refine (callsIn_wide (n := 6)).1 ?_
  refine callsIn_of_wp_marks Tryd.func39 rfl trivial ?_ rfl
  simp only [Tryd.ntmps39, List.size_toArray, List.length_cons, List.length_nil, Nat.reduceAdd, Nat.reduceSub, Array.replicate_succ, Array.replicate_zero, List.push_toArray, List.append_toArray, List.nil_append, List.cons_append]
  refine wpIn_wide.2 ?_
  go_wp2_with fail
  go_step3
  go_wp2_with fail
  go_step3
  go_wp2_with fail
  refine (allMk s _).mono ?_
  rintro e w' ⟨rfl, rfl⟩
  have hsz : ((w.alloc (.cells #[.slice none 0 0] 60)).alloc (.cells #[.int .i64 (-1)] 3)).heap.size = w.heap.size + 2 := by simp
  have hsz1 : (w.alloc (.cells #[.slice none 0 0] 60)).heap.size = w.heap.size + 1 := by simp
  rw [hsz] at HK2 ⊢
  rw [hsz1] at HK1
  clear hsz hsz1
  generalize (((w.alloc (.cells #[.slice none 0 0] 60)).alloc (.cells #[.int .i64 (-1)] 3)).alloc (.cells #[.string s] 9)) = U at *
  obtain ⟨b, hb⟩ : ∃ b, w.heap.size = b := ⟨_, rfl⟩
  have HBW := Lib.hid hb
  rw [hb] at HK0 HK1 HK2 HU3 ⊢
  clear hb
  have hbU : b + 2 < U.heap.size := by have := HU3.out; omega
  have hbe : b + 3 = U.heap.size := HU3.out.symm
  obtain ⟨L, hL⟩ : ∃ L, allT s.data.toList = L := ⟨_, rfl⟩
  have HL := Lib.hid hL
  have hLl : L.length ≤ s.size + 2 := by
    have : ∀ (t : List UInt8) (f a : Nat), (ylT t f a).length ≤ f := by
      intro t f
      induction f with
      | zero => intro a; exact Nat.le_refl _
      | succ f ih =>
        intro a
        rw [ylT_succ, List.length_cons]
        split
        · simp
        · have := ih (nextT t a).2.2.1; omega
    rw [← hL]
    have h1 := this s.data.toList (s.data.toList.length + 2) 0
    rw [data_len] at h1
    exact h1
  clear hL
  go_wp2_with fail
  refine (wpIn_wide (n := 6)).1 ?_
  refine range_all 0 6 b s w U L HL.out hs rfl (by omega) hbU (by have := HBW.out; omega) HK2.out HK0.out ?hI0 ?hassign ?hbody ?hdone ?hstop
  case hI0 => exact ⟨⟨none, 0, HK0.out, World.ownsRow_nil _ _ _ _⟩, HK1.out, KpT.refl _ _, HBW.out ▸ HB0.out, fun _ h => by cases h⟩
  case hassign =>
    intro l x W K hK
    unfold rFrT at hK
    simp only [List.setIfInBounds_toArray, List.set_cons_succ, List.set_cons_zero] at hK
    go_frame
    unfold tokV at hK ⊢
    gi_wp2
    exact hK
  case hbody =>
    intro l pre x p W hi hp hlt
    obtain ⟨k, pl, en, bd⟩ := x
    obtain ⟨x0, x1, x2⟩ := bcells3 hp
    have HI := Lib.hid hi
    have hbW := hi.lt
    obtain ⟨A, c, hA, hown⟩ := hi.out
    have y0 : W.cell? ⟨b, 0, none⟩ = some (.slice A (toksY s.data.toList pre).length c) := hA.cell 0
    have yf := hA.frozen 0
    have z1 := hi.wrong.cell 0
    have zf := hi.wrong.frozen 0
    have HA := Lib.hid hA
    have HOWN := Lib.hid hown
    clear hi hA hown hp
    unfold rFrT
    simp only [List.setIfInBounds_toArray, List.set_cons_succ, List.set_cons_zero]
    dsimp only at x0 x1 x2 ⊢
    dsimp only [tokV]
    cases bd with
    | true =>
      have hw9 : Bk (W.setCell ⟨b + 1, 0, none⟩ (.int .i64 (pl : Int))) (b + 1) 3 #[.int .i64 (pl : Int)] := HI.out.wrong.put 0 _
      have hb9 : Below w.heap.size w (W.setCell ⟨b + 1, 0, none⟩ (.int .i64 (pl : Int))) := HI.out.bel.setCell (p := ⟨b + 1, 0, none⟩) (by have := HBW.out; show w.heap.size ≤ b + 1; omega) _
      have HW9 := Lib.hid hw9
      have HB9 := Lib.hid hb9
      clear hw9 hb9
      have ee : ((errB true : Nat) : Int) = 280 := rfl
      rw [ee]
      gi_wp2
      refine ⟨(KeepsOthers.setCell _ _ _).from _, rfl, pre, _, rfl, HI.out.good, rfl, HW9.out, HB9.out⟩
    | false =>
      have ee : ((errB false : Nat) : Int) = 0 := rfl
      rw [ee]
      by_cases hk : k = 0
      · subst hk
        gi_wp2
        exact ⟨(KeepsOthers.refl _).from _, KpT.refl _ _, HI.out.skip rfl rfl⟩
      · have ek : ((k : Int) != 0) = true := by simp; omega
        have hn9 : (toksY s.data.toList pre).length ≤ 100000 := by
          have h1 : (toksY s.data.toList pre).length ≤ pre.length := by
            unfold toksY
            rw [List.length_map]
            exact List.length_filter_le _ _
          omega
        have hbW2 : b + 3 ≤ W.heap.size := by have := HI.out.kp.size; omega
        have hwb9 : w.heap.size ≤ b := by have := HBW.out; omega
        have HRD := Lib.hid (Rd.new W #[.int .u8 (k : Int), .int .i64 (pl : Int), .int .i64 (en : Int)] 74)
        have HOA := Lib.hid (HOWN.out.alloc (.cells #[.int .u8 (k : Int), .int .i64 (pl : Int), .int .i64 (en : Int)] 74))
        have HON := Lib.hid (own_ne HOA.out (HA.out.alloc (.cells #[.int .u8 (k : Int), .int .i64 (pl : Int), .int .i64 (en : Int)] 74)) (by decide))
        have HAA := Lib.hid (HA.out.alloc (.cells #[.int .u8 (k : Int), .int .i64 (pl : Int), .int .i64 (en : Int)] 74))
        have hbb : b + 3 ≤ (W.alloc (.cells #[.int .u8 (k : Int), .int .i64 (pl : Int), .int .i64 (en : Int)] 74)).heap.size := by simp; omega
        have HBB := Lib.hid hbb
        have HN9 := Lib.hid (show (toksY s.data.toList pre).length + 1 ≤ 1000000000 by omega)
        clear hbb
        gi_wp2_with (gi_at_builtin; refine wpListIn_app el_tok rfl (.tmp 23) (.tmp 25) rfl (b + 3) (.slice A (toksY s.data.toList pre).length c) (toksY s.data.toList pre).length ((toksY s.data.toList pre).flatMap cellK) rfl HOA.out (some ⟨W.heap.size, 0, none⟩) 1 1 [.int .u8 (k : Int), .int .i64 (pl : Int), .int .i64 (en : Int)] rfl HRD.out rfl (fun u hu => by simp at hu; rcases hu with rfl | rfl | rfl <;> rfl) HN9.out HBB.out ?_; intro A2 c2 w5 hown1 hgr1 hat1; have Ho1 := Lib.hid hown1; have Hg1 := Lib.hid hgr1; have Ha1 := Lib.hid hat1; have hq1 := HAA.out.grown hgr1 HON.out; have q0 := hq1.cell 0; have qf := hq1.frozen 0; clear hown1 hgr1 hat1 hq1)
        obtain ⟨p1, p2, p3⟩ := HI.out.push (x := (k, pl, en, false)) hwb9 rfl hk HA.out HOWN.out Hg1.out Ho1.out Ha1.out
        exact ⟨p3.from _, p2, p1⟩
  case hdone =>
    intro D W hD hi hK
    obtain ⟨A, c, hA, hown⟩ := hi.out
    have z1 := hi.wrong.cell 0
    have y0 := hA.cell 0
    have hgood := hi.good
    have HLL := HL.out
    have E : Hid (badY (allT s.data.toList) = none) := by
      show _ = _
      unfold badY
      rw [HLL]
      cases hf : L.find? (fun y => y.2.2.2) with
      | none => rfl
      | some y =>
        have h1 := List.find?_some hf
        rw [hgood y (List.mem_of_find?_eq_some hf)] at h1
        cases h1
    have HOWN := Lib.hid hown
    have HB := Lib.hid hi.bel
    have hDd := hK
    have hr := RdT.of_own hown
    have hf := fr_putObj W D (.deferred none)
    have hk2 : Keeps 74 W (W.putObj D (.deferred none)) := Keeps.fr hf (fun k cs fr hk e => by
      subst e
      rw [hk] at hDd
      cases hDd)
    have HR := Lib.hid (hr.keeps hk2)
    have HBF : Hid (Below w.heap.size w (W.putObj D (.deferred none))) := HB.out.trans (hf.below w.heap.size HB.out.size (fun k hk e => by have := HB0.out.size; omega))
    have HDD := Lib.hid hDd
    rw [← HLL] at y0 HR
    clear hi hA hown hgood hr hf hk2 hDd
    go_wp2_with fail
    rw [Exit.noGoto_ret]
    have hsl := data_len s
    refine ⟨by simp, .inl ⟨D, _, rfl, run_takeDeferred HDD.out, ⟨.tuple #[.slice A (toksY s.data.toList (allT s.data.toList)).length c, .int .i64 (s.size : Int), .int .i64 0], by simp [results, Tryd.results39, go_sem, HLL], HBF.out, .inr ⟨E.out, A, c, ?_, HR.out⟩⟩⟩⟩
    rw [hsl]
  case hstop =>
    intro D pre W hD hY hx hK
    obtain ⟨_, pre', x, h2, h3, h4, h5, h6⟩ := hx
    obtain ⟨r, hr⟩ := hY
    have E : Hid (badY (allT s.data.toList) = some x.2.1) := by
      show _ = _
      unfold badY
      rw [HL.out, ← hr, h2, List.append_assoc, List.find?_append]
      have h0 : pre'.find? (fun y => y.2.2.2) = none := List.find?_eq_none.2 (fun y hy => by rw [h3 y hy]; simp)
      rw [h0, List.cons_append, List.find?_cons_of_pos (by exact h4)]
      rfl
    have z1 := h5.cell 0
    have HB := Lib.hid h6
    have HBF : Hid (∀ n, Below w.heap.size w ((W.drewN n).putObj D (.deferred none))) := fun n => (bdrewN HB.out n).trans ((fr_putObj (W.drewN n) D (.deferred none)).below w.heap.size HB.out.size (fun k hk e => by have := HB0.out.size; omega))
    have hDd : ∀ n, (W.drewN n).heap[D]? = some (.deferred (some [])) := fun _ => hK
    have HDD := Lib.hid hDd
    have e3 : decide ((0 : Int) ≤ (x.2.1 : Int)) = true := by simp
    clear h2 h3 h4 h5 h6 hDd hr
    gi_wp2
    go_upto_region 13 with fail
    go_quiet (fail)
    go_wp2_with fail
    rw [Exit.noGoto_ret]
    refine ⟨by simp, .inl ⟨D, _, rfl, run_takeDeferred (w := W.drewN _) (HDD.out _), ⟨.tuple #[.slice none 0 0, .int .i64 (x.2.1 : Int), .int .i64 280], by simp [results, Tryd.results39, go_sem], HBF.out _, .inl ⟨_, E.out, rfl⟩⟩⟩⟩
end Go.Proofs.YtehcpcpmcngnjaaDoor
