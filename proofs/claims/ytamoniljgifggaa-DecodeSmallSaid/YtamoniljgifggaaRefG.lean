/-
  Contracts of the reference's Put and And (layer 20).
-/
import Derived.Test.YtamoniljgifggaaTwo
import Derived.Test.YtamoniljgifggaaRef20
import Derived.Deep.RegionHeld3
set_option linter.unusedVariables false
set_option linter.unusedSimpArgs false
namespace Go.Proofs.Ytamoniljgifggaa
open Go.RowKit

/-- A row of the call's own in a world that has come of wr by writing to blocks from B on alone. -/
structure One (B e size : Nat) (wr : World) (v : Value) (n : Nat) (l : List Value) (W : World) : Prop where
  bel : Below B wr W
  base : B ≤ W.heap.size
  own : W.ownsRow B e size v n l
section
variable {B e size : Nat} {wr W W1 : World} {v v' : Value} {n : Nat} {l x : List Value}
theorem One.alloc (h : One B e size wr v n l W) (o : Obj) : One B e size wr v n l (W.alloc o) := ⟨h.bel.alloc h.base o, by have := h.base; simp; omega, h.own.alloc o⟩
theorem One.drew (h : One B e size wr v n l W) : One B e size wr v n l W.drew := ⟨h.bel.drew, h.base, h.own⟩
theorem One.app (h : One B e size wr v n l W) {m : Nat} (ho : W1.ownsRow B e size v' m (l ++ x)) (hg : W.grownBy W1 v.ownBlock) : One B e size wr v' m (l ++ x) W1 :=
  ⟨h.bel.grown hg h.base (fun k hk => (h.own.lt k hk).1), Nat.le_trans h.base hg.size, ho⟩
end

theorem rd_grow_ne {W W1 : World} {v : Value} {src : Nat} {xs : List Value} (h : Rd W (some ⟨src, 0, none⟩) xs) (hg : W.grownBy W1 v.ownBlock) (hne : v.ownBlock ≠ some src) : Rd W1 (some ⟨src, 0, none⟩) xs := by
  refine h.fr (F := fun k => v.ownBlock = some k) ((Fr.refl _ W).grown hg (fun k hk => .inl hk)) ?_
  rintro b hb ⟨off, he⟩ hq
  injection he with he
  injection he with he
  exact hne (he ▸ hq)

/-- A slice reads as cells, in a block of type t. -/
structure RdT (w : World) (A : Option Addr) (t : TypeId) (xs : List Value) : Prop where
  rd : Rd w A xs
  ty : ∀ b off, A = some ⟨b, off, none⟩ → ∃ cs fr, w.heap[b]? = some (.cells cs t fr)
theorem RdT.fr {F : Nat → Prop} {w w' : World} {A : Option Addr} {t : TypeId} {xs : List Value} (h : RdT w A t xs) (hf : Fr F w w') (hF : ∀ b, b < w.heap.size → (∃ off, A = some ⟨b, off, none⟩) → ¬ F b) : RdT w' A t xs :=
  ⟨h.rd.fr hf hF, fun b off he => by
    obtain ⟨cs, fr, hb⟩ := h.ty b off he
    exact ⟨cs, fr, (hf.block b (lt_of_heap hb) (hF b (lt_of_heap hb) ⟨off, he⟩)).trans hb⟩⟩
theorem RdT.below {w w' : World} {A : Option Addr} {t : TypeId} {xs : List Value} (h : RdT w A t xs) (hb : Below w.heap.size w w') : RdT w' A t xs := h.fr (Fr.of_below (F := fun _ => False) hb) (fun _ _ _ h => h)
theorem RdT.drew {w : World} {A : Option Addr} {t : TypeId} {xs : List Value} (h : RdT w A t xs) : RdT w.drew A t xs := ⟨h.rd, h.ty⟩
theorem RdT.of_own {w : World} {A : Option Addr} {xs : List Value} {base : Nat} {e : TypeId} {size n c : Nat} (h : w.ownsRow base e size (.slice A n c) n xs) : RdT w A e xs :=
  ⟨Rd.of_own h, fun b off he => by
    rcases h.2 with ⟨h0, _⟩ | ⟨g', cap, cur, h0, _, hh, _⟩
    · injection h0 with h0
      rw [h0] at he
      cases he
    · injection h0 with h0
      rw [h0] at he
      injection he with he
      injection he with he
      subst he
      exact ⟨_, _, hh⟩⟩
def graphV (M : Int) (A : Option Addr) (n c : Nat) : Value := .agg #[.int .i64 M, .slice A n c]
/-- What Put and And leave: the graph G with reference r. -/
def RGPost (M : Int) (G : List Nd) (r : Int) (w : World) (e : Ending) (w' : World) : Prop :=
  ∃ A n c, e = .returned (.tuple #[.agg #[.int .i64 M, .slice A n c], .int .i64 r, .int .i64 0]) ∧ RdT w' A 127 (rcells G) ∧ G.length = n ∧ Below w.heap.size w w'

/-- What Put leaves: besides, its row is new. -/
def PutPost (M : Int) (G : List Nd) (r : Int) (w : World) (e : Ending) (w' : World) : Prop :=
  ∃ A n c, e = .returned (.tuple #[.agg #[.int .i64 M, .slice A n c], .int .i64 r, .int .i64 0]) ∧ RdT w' A 127 (rcells G) ∧ G.length = n ∧ Below w.heap.size w w' ∧ ∀ b off, A = some ⟨b, off, none⟩ → w.heap.size ≤ b

theorem rcells_snoc (G : List Nd) (x : Nd) : rcells (G ++ [x]) = rcells G ++ [.int .i64 x.k, .int .i64 x.l, .int .i64 x.r] := by simp [rcells, rcell]

set_option maxHeartbeats 2000000 in
set_option maxRecDepth 100000 in
theorem rput (M : Int) (A : Option Addr) (n c : Nat) (G : List Nd) (k l r : Int) (w : World) (hr : Hid (Rd w A (rcells G))) (hl : Hid (G.length = n)) (hM : M ≤ 65536) (hn : (n : Int) < M) :
    Calls Try.prog 57 #[.agg #[.int .i64 M, .slice A n c], .agg #[.int .i64 k, .int .i64 l, .int .i64 r]] w (PutPost M (G ++ [⟨k, l, r⟩]) (2 * n) w) := by
  have hge : decide (M ≤ (n : Int)) = false := by simp; omega
  have hb0 : Below w.heap.size w (((w.alloc (.cells #[.int .i64 M, .slice A n c] 67)).alloc (.cells #[.int .i64 k, .int .i64 l, .int .i64 r] 127)).alloc (.cells #[.int .i64 0, .slice none 0 0] 67)) := (((Below.refl _ w).alloc (Nat.le_refl _) _).alloc (by simp) _).alloc (by simp; omega) _
  have hx := ((Bk.new w 67 #[.int .i64 M, .slice A n c]).alloc (.cells #[.int .i64 k, .int .i64 l, .int .i64 r] 127)).alloc (.cells #[.int .i64 0, .slice none 0 0] 67)
  have hy := (Bk.new (w.alloc (.cells #[.int .i64 M, .slice A n c] 67)) 127 #[.int .i64 k, .int .i64 l, .int .i64 r]).alloc (.cells #[.int .i64 0, .slice none 0 0] 67)
  have hz := Bk.new ((w.alloc (.cells #[.int .i64 M, .slice A n c] 67)).alloc (.cells #[.int .i64 k, .int .i64 l, .int .i64 r] 127)) 67 #[.int .i64 0, .slice none 0 0]
  rw [World.size_alloc] at hy
  rw [World.size_alloc, World.size_alloc] at hz
  have HB0 := Lib.hid hb0; have HX := Lib.hid hx; have HY := Lib.hid hy; have HZ := Lib.hid hz
  clear hb0 hx hy hz
  have HG : Hid (((rcells G).length = n * 3) ∧ ∀ u ∈ rcells G, u.oneCell' = true) := ⟨by rw [rcells_length, hl.out], rcells_one G⟩
  go_enter Try.func57, Try.ntmps57
  go_wp2_with fail
  generalize (((w.alloc (.cells #[.int .i64 M, .slice A n c] 67)).alloc (.cells #[.int .i64 k, .int .i64 l, .int .i64 r] 127)).alloc (.cells #[.int .i64 0, .slice none 0 0] 67)) = W at *
  have hs : w.heap.size + 1 + 1 < W.heap.size := HZ.out.lt
  have hs1 : w.heap.size + 1 < W.heap.size := by omega
  have hs0 : w.heap.size < W.heap.size := by omega
  have HL1 : Hid (One W.heap.size 127 3 W (.slice (some ⟨W.heap.size, 0, none⟩) 0 0) 0 [] (W.alloc (.cells #[] 127))) := ⟨(Below.refl _ W).alloc (Nat.le_refl _) _, by simp, World.ownsRow_lit (base := W.heap.size) (e := 127) (size := 3) W #[] 0 (by simp) (by simp [maxLen]) rfl⟩
  have HL2 : Hid (∀ o, One W.heap.size 127 3 W (.slice (some ⟨W.heap.size + 1, 0, none⟩) 0 0) 0 [] ((W.alloc o).alloc (.cells #[] 127))) := fun o => ⟨((Below.refl _ W).alloc (Nat.le_refl _) _).alloc (by simp) _, by simp; omega, by
    have h := World.ownsRow_lit (base := W.heap.size) (e := 127) (size := 3) (W.alloc o) #[] 0 (by simp) (by simp [maxLen]) rfl
    rw [World.size_alloc] at h
    exact h⟩
  have HRW := Lib.hid (fun (V : World) (hb : Below W.heap.size W V) => (hr.out.below HB0.out).below hb)
  have x1 : W.cell? ⟨w.heap.size, 1, none⟩ = some (.slice A n c) := HX.out.cell 1
  have y0 : W.cell? ⟨w.heap.size + 1, 0, none⟩ = some (.int .i64 k) := HY.out.cell 0
  have y1 : W.cell? ⟨w.heap.size + 1, 1, none⟩ = some (.int .i64 l) := HY.out.cell 1
  have y2 : W.cell? ⟨w.heap.size + 1, 2, none⟩ = some (.int .i64 r) := HY.out.cell 2
  rename_i K hK
  have hrest : ∀ (v14 v17 v19 : Value) (A2 : Option Addr) (c2 : Nat) (V : World), Hid (Bk V w.heap.size 67 #[.int .i64 M, .slice A2 (n + 1) c2]) → Hid (Below w.heap.size w V) → Hid (Bk V (w.heap.size + 1 + 1) 67 #[.int .i64 0, .slice none 0 0]) → Hid (RdT ((V.setCell ⟨w.heap.size + 1 + 1, 0, none⟩ (.int .i64 M)).setCell ⟨w.heap.size + 1 + 1, 1, none⟩ (.slice A2 (n + 1) c2)) A2 127 (rcells (G ++ [⟨k, l, r⟩]))) → Hid (∀ b off, A2 = some ⟨b, off, none⟩ → w.heap.size ≤ b) →
      K ⟨#[.agg #[.int .i64 M, .slice A n c], .agg #[.int .i64 k, .int .i64 l, .int .i64 r], .pointer (some ⟨w.heap.size, 0, none⟩), .pointer (some ⟨w.heap.size + 1, 0, none⟩), .pointer (some ⟨w.heap.size + 1 + 1, 0, none⟩), .int .i64 0, .int .i64 0, .pointer (some ⟨w.heap.size, 1, none⟩), .slice A n c, .int .i64 n, .pointer (some ⟨w.heap.size, 0, none⟩), .int .i64 M, .bool false, undef, v14, .pointer (some ⟨w.heap.size, 1, none⟩), .slice A n c, v17, .agg #[.int .i64 k, .int .i64 l, .int .i64 r], v19, .slice A2 (n + 1) c2, .pointer (some ⟨w.heap.size, 1, none⟩), undef, undef, undef, undef, undef, undef], []⟩ V := by
    intro v14 v17 v19 A2 c2 V HV HVB HVZ HVR3 HFR
    refine hK _ _ ?_
    clear x1 y0 y1 y2 HL1 HL2 HRW HX HY HZ hr hs hs1 hs0 HB0 hK K
    have c0 : V.cell? ⟨w.heap.size, 0, none⟩ = some (.int .i64 M) := HV.out.cell 0
    have c1 : V.cell? ⟨w.heap.size, 1, none⟩ = some (.slice A2 (n + 1) c2) := HV.out.cell 1
    have z0 : V.cell? ⟨w.heap.size + 1 + 1, 0, none⟩ = some (.int .i64 0) := HVZ.out.cell 0
    have z1 : V.cell? ⟨w.heap.size + 1 + 1, 1, none⟩ = some (.slice none 0 0) := HVZ.out.cell 1
    have f0 := HVZ.out.frozen 0
    have f1 := HVZ.out.frozen 1
    go_wp2
    go_region
    all_goals
      go_wp2
      have HF := Lib.hid ((HVZ.out.put 0 (.int .i64 M)).put 1 (.slice A2 (n + 1) c2))
      have HFB := Lib.hid ((HVB.out.setCell (p := ⟨w.heap.size + 1 + 1, 0, none⟩) (by show w.heap.size ≤ w.heap.size + 1 + 1; omega) (.int .i64 M)).setCell (p := ⟨w.heap.size + 1 + 1, 1, none⟩) (by show w.heap.size ≤ w.heap.size + 1 + 1; omega) (.slice A2 (n + 1) c2))
      clear z0 z1 f0 f1 c0 c1
      have HVR2 : Hid (RdT ((V.setCell ⟨w.heap.size + 1 + 1, 0, none⟩ (.int .i64 M)).setCell ⟨w.heap.size + 1 + 1, 1, none⟩ (.slice A2 (n + 1) c2)) A2 127 (rcells (G ++ [⟨k, l, r⟩]))) := HVR3.out
      generalize ((V.setCell ⟨w.heap.size + 1 + 1, 0, none⟩ (.int .i64 M)).setCell ⟨w.heap.size + 1 + 1, 1, none⟩ (.slice A2 (n + 1) c2)) = WF at *
      have r0 : WF.cell? ⟨w.heap.size + 1 + 1, 0, none⟩ = some (.int .i64 M) := HF.out.cell 0
      have r1 : WF.cell? ⟨w.heap.size + 1 + 1, 1, none⟩ = some (.slice A2 (n + 1) c2) := HF.out.cell 1
      refine bodyPost_ret (v := .tuple #[.agg #[.int .i64 M, .slice A2 (n + 1) c2], .int .i64 (2 * n), .int .i64 0]) (by simp [results, Try.results57, go_sem, r0, r1]) rfl ?_
      exact ⟨A2, n + 1, c2, rfl, HVR2.out.drew, by simp; exact hl.out, HFB.out.drew, HFR.out⟩
  go_region_law
    (first
      | (refine step_app el_rnode rfl (.tmp 14) (.tmp 16) rfl W.heap.size (.slice (some ⟨_, 0, none⟩) 0 0) 0 [] rfl ?_ A n c (rcells G) rfl ?_ HG.out.1 HG.out.2 (by omega) ?_ ?_
         · (first | exact HL1.out.drew.own | exact (HL1.out.alloc _).drew.own | exact (HL2.out _).drew.own)
         · (first | exact HRW.out _ HL1.out.drew.bel | exact HRW.out _ (HL1.out.alloc _).drew.bel | exact HRW.out _ (HL2.out _).drew.bel)
         · (first | exact HL1.out.drew.base | exact (HL1.out.alloc _).drew.base | exact (HL2.out _).drew.base)
         intro A1 c1 U1 ho1 hg1 hat1
         simp only [Nat.zero_add] at ho1 hat1 ⊢
         (first | have HO1 := Lib.hid (One.app HL1.out.drew ho1 hg1) | have HO1 := Lib.hid (One.app (HL1.out.alloc _).drew ho1 hg1) | have HO1 := Lib.hid (One.app (HL2.out _).drew ho1 hg1))
         have HC := Lib.hid (fun (src : Nat) (xs : List Value) (hr : Rd _ (some ⟨src, 0, none⟩) xs) (hne : _ ≠ some src) => rd_grow_ne hr hg1 hne)
         have u1 : U1.cell? ⟨w.heap.size, 1, none⟩ = some (.slice A n c) := (HX.out.below HO1.out.bel HX.out.lt).cell 1
         have v0 : U1.cell? ⟨w.heap.size + 1, 0, none⟩ = some (.int .i64 k) := (HY.out.below HO1.out.bel HY.out.lt).cell 0
         have v1 : U1.cell? ⟨w.heap.size + 1, 1, none⟩ = some (.int .i64 l) := (HY.out.below HO1.out.bel HY.out.lt).cell 1
         have v2 : U1.cell? ⟨w.heap.size + 1, 2, none⟩ = some (.int .i64 r) := (HY.out.below HO1.out.bel HY.out.lt).cell 2
         clear ho1 hg1 hat1)
      | (refine step_app el_rnode rfl (.tmp 17) (.tmp 19) rfl W.heap.size (.slice A1 n c1) n ([] ++ rcells G) rfl ?_ (some ⟨_, 0, none⟩) 1 1 [.int .i64 k, .int .i64 l, .int .i64 r] rfl ?_ rfl (by simp [Value.oneCell']) (by omega) ?_ ?_
         · (first | exact (HO1.out.alloc _).own | exact HO1.out.own)
         · (first | exact Rd.newAt _ #[_, _, _] _ _ rfl | exact HC.out _ _ (Rd.drew (Rd.newAt _ #[_, _, _] _ _ (World.size_alloc _ _))) (by simp [Value.ownBlock]) | exact HC.out _ _ (Rd.drew ((Rd.newAt _ #[_, _, _] _ _ rfl).alloc _)) (by simp [Value.ownBlock]))
         · (first | exact (HO1.out.alloc _).base | exact HO1.out.base)
         intro A2 c2 U2 ho2 hg2 hat2
         (first | have HO2 := Lib.hid (One.app (HO1.out.alloc _) ho2 hg2) | have HO2 := Lib.hid (One.app HO1.out ho2 hg2))
         have HX2 := Lib.hid (HX.out.below HO2.out.bel HX.out.lt)
         have x21 : U2.cell? ⟨w.heap.size, 1, none⟩ = some (.slice A n c) := HX2.out.cell 1
         have f21 : U2.frozen? ⟨w.heap.size, 1, none⟩ = false := HX2.out.frozen 1
         clear ho2 hg2 hat2))
  all_goals
    refine hrest _ _ _ A2 c2 _ (HX2.out.put 1 (.slice A2 (n + 1) c2)) ?_ ?_ ?_ ?_
    · exact HB0.out.trans ((HO2.out.bel.mono (Nat.le_of_lt hs0)).setCell (p := ⟨w.heap.size, 1, none⟩) (Nat.le_refl _) _)
    · exact (HZ.out.below HO2.out.bel HZ.out.lt).far (p := ⟨w.heap.size, 1, none⟩) (by show w.heap.size + 1 + 1 ≠ w.heap.size; omega) _
    · have h := RdT.of_own (ownsRow_setCell_below (ownsRow_setCell_below (ownsRow_setCell_below HO2.out.own (a := ⟨w.heap.size, 1, none⟩) hs0 (.slice A2 (n + 1) c2)) (a := ⟨w.heap.size + 1 + 1, 0, none⟩) hs (.int .i64 M)) (a := ⟨w.heap.size + 1 + 1, 1, none⟩) hs (.slice A2 (n + 1) c2))
      show RdT _ _ _ _
      rw [rcells_snoc]
      simpa using h
    · intro b off he
      have := (HO2.out.own.lt b (by rw [he]; rfl)).1
      omega
end Go.Proofs.Ytamoniljgifggaa
