/-
  The closure of dimacs.Read that takes a word.
-/
import Derived.Test.YtkpcpclaadgnbaaGreatDoorFmT
import Derived.Deep.DeepCutAuto
import Derived.RangeFuncOwn
set_option linter.unusedVariables false
set_option linter.unusedSimpArgs false
namespace Go.Proofs.YtkpcpclaadgnbaaGreatDoor
open Go.RowKit Go.PlainAid

def slV (p : SV × List Int) : Value := .slice p.1.A p.1.n p.1.c
theorem Rd.of_bk6 {w : World} {g : Nat} {t : TypeId} {cs : Array Value} (h : Bk w g t cs) : Rd w (some ⟨g, 0, none⟩) cs.toList := fun _ =>
  ⟨g, 0, cs, t, (0, 0), rfl, h, fun j u hu => by simpa using hu⟩
theorem el_cls : El Tryz.prog 22 55 1 := El.mk' (z := .slice none 0 0) (bytes := 24) Tryz.underlying22 (by kernel_rfl) rfl (by omega) (by omega)
/-- A finished clause: its numbers lie below B, in a block of literals. -/
structure RowT (W : World) (B : Nat) (p : SV × List Int) : Prop where
  at' : IntsAt W p.1 p.2
  ty : ∀ b off, p.1.A = some ⟨b, off, none⟩ → b < B ∧ ∃ cs fr, W.heap[b]? = some (.cells cs 53 fr)
theorem RowT.fr {F : Nat → Prop} {W W' : World} {B : Nat} {p : SV × List Int} (h : RowT W B p) (hf : Fr F W W') (hF : ∀ b cs fr, b < B → W.heap[b]? = some (.cells cs 53 fr) → ¬ F b) : RowT W' B p := by
  refine ⟨⟨h.at'.1.fr hf (fun b hb he => ?_), h.at'.2⟩, fun b off he => ?_⟩
  · obtain ⟨off, he⟩ := he
    obtain ⟨h1, cs, fr, h2⟩ := h.ty b off he
    exact hF b cs fr h1 h2
  · obtain ⟨h1, cs, fr, h2⟩ := h.ty b off he
    exact ⟨h1, cs, fr, (hf.block b (lt_of_heap h2) (hF b cs fr h1 h2)).trans h2⟩
theorem RowT.up {W : World} {B B' : Nat} {p : SV × List Int} (h : RowT W B p) (hb : B ≤ B') : RowT W B' p := ⟨h.at', fun b off he => by
  obtain ⟨h1, h2⟩ := h.ty b off he
  exact ⟨by omega, h2⟩⟩
/-- What the closure holds: boxes at b .. b + 5, rows from B on. -/
structure WSt (b B : Nat) (v : Int) (n : Nat) (st : Rs) (W : World) : Prop where
  vars : Bk W b 3 #[.int .i64 v]
  cnt : Bk W (b + 1) 3 #[.int .i64 n]
  beg : Bk W (b + 5) 4 #[.bool st.begun]
  mem : ∃ (A : Option Addr) (c : Nat) (Q : List (SV × List Int)) (B2 : Nat) (A2 : Option Addr) (c2 : Nat), Bk W (b + 3) 24 #[.int .i64 v, .slice A st.cls.length c] ∧ W.ownsRow B 55 1 (.slice A st.cls.length c) st.cls.length (Q.map slV) ∧ clsOf Q = st.cls ∧ B ≤ B2 ∧ B2 ≤ W.heap.size ∧ (∀ p ∈ Q, RowT W B2 p) ∧ Bk W (b + 4) 55 #[.slice A2 st.c.length c2] ∧ W.ownsRow B2 53 1 (.slice A2 st.c.length c2) st.c.length (st.c.map (Value.int .i64))
/-- What may change. -/
def WCh (b B k : Nat) : Prop := k = b + 3 ∨ k = b + 4 ∨ k = b + 5 ∨ B ≤ k
/-- Rows of strings stay. -/
def Strs (W W' : World) : Prop := ∀ k cs, Bk W k 9 cs → Bk W' k 9 cs
theorem Strs.trans {A B C : World} (h : Strs A B) (k : Strs B C) : Strs A C := fun i cs hi => k i cs (h i cs hi)
theorem Strs.below {W W' : World} (h : Below W.heap.size W W') : Strs W W' := fun k cs hk => bkbel hk h
theorem Strs.set {W : World} {g : Nat} {t : TypeId} {cs : Array Value} (h : Bk W g t cs) (ht : t ≠ 9) (o : Nat) (u : Value) : Strs W (W.setCell ⟨g, o, none⟩ u) := fun k ks hk => hk.far (p := ⟨g, o, none⟩) (fun e => (hk.ne h (Ne.symm ht)) e) u
theorem Strs.grown {W W' : World} {base n : Nat} {e : TypeId} {v : Value} {xs : List Value} (ho : W.ownsRow base e 1 v n xs) (he : e ≠ 9) (hg : W.grownBy W' v.ownBlock) : Strs W W' := fun k cs hk => hk.grown hg (own_ne ho hk he)
theorem KeepsOthers.below {W W' : World} (h : Below W.heap.size W W') : KeepsOthers W W' := ⟨h.size, fun k o hk _ => (h.block k (lt_of_heap hk)).trans hk⟩
theorem KeepsOthers.grown1 {W W' : World} {base n : Nat} {e : TypeId} {v : Value} {xs : List Value} (ho : W.ownsRow base e 1 v n xs) (hg : W.grownBy W' v.ownBlock) : KeepsOthers W W' :=
  KeepsOthers.of_grownBy hg (fun j o hj hh => by
    rcases ho.2 with ⟨rfl, _⟩ | ⟨g, cap, cur, rfl, _, hk, _⟩
    · simp [Value.ownBlock] at hj
    · obtain rfl : g = j := by simpa [Value.ownBlock] using hj
      rw [hk] at hh
      injection hh with hh
      subst hh
      rfl)
theorem own_up {W : World} {B B' : Nat} {e : TypeId} {size n : Nat} {v : Value} {xs : List Value} (h : W.ownsRow B e size v n xs) (hb : B' ≤ B) : W.ownsRow B' e size v n xs := by
  refine ⟨h.1, ?_⟩
  rcases h.2 with h0 | ⟨g', cap, cur, h1, h2, h3⟩
  · exact .inl h0
  · exact .inr ⟨g', cap, cur, h1, Nat.le_trans hb h2, h3⟩
theorem WSt.fr {F : Nat → Prop} {b B : Nat} {v : Int} {n : Nat} {st : Rs} {W W' : World} (h : WSt b B v n st W) (hf : Fr F W W') (h0 : ∀ k, k ≤ b + 5 → ¬ F k) (h1 : ∀ k cs, W.heap[k]? = some (.cells cs 53 (0, 0)) → ¬ F k) (h1' : ∀ k cs fr, W.heap[k]? = some (.cells cs 53 fr) → ¬ F k) (h2 : ∀ k cs, W.heap[k]? = some (.cells cs 55 (0, 0)) → ¬ F k) : WSt b B v n st W' := by
  obtain ⟨a1, a2, a3, A, c, Q, B2, A2, c2, a4, a5, a6, a7, a8, a9, a10, a11⟩ := h
  have own : ∀ {base : Nat} {e : TypeId} {m : Nat} {u : Value} {xs : List Value}, W.ownsRow base e 1 u m xs → (∀ k cs, W.heap[k]? = some (.cells cs e (0, 0)) → ¬ F k) → W'.ownsRow base e 1 u m xs := fun ho hq => by
    refine own_fr ho hf (fun k hk => ?_)
    rcases ho.2 with ⟨rfl, _⟩ | ⟨g, cap, cur, rfl, _, hh, _⟩
    · simp [Value.ownBlock] at hk
    · obtain rfl : g = k := by simpa [Value.ownBlock] using hk
      exact hq g cur hh
  exact ⟨a1.fr hf (h0 _ (by omega)), a2.fr hf (h0 _ (by omega)), a3.fr hf (h0 _ (by omega)), A, c, Q, B2, A2, c2, a4.fr hf (h0 _ (by omega)), own a5 h2, a6, a7, Nat.le_trans a8 hf.size, fun p hp => (a9 p hp).fr hf (fun k cs fr _ hk => h1' k cs fr hk), a10.fr hf (h0 _ (by omega)), own a11 h1⟩
theorem WSt.below {b B : Nat} {v : Int} {n : Nat} {st : Rs} {W W' : World} (h : WSt b B v n st W) (hb : Below W.heap.size W W') : WSt b B v n st W' :=
  h.fr (Fr.of_below (F := fun _ => False) hb) (fun _ _ h => h) (fun _ _ _ h => h) (fun _ _ _ _ h => h) (fun _ _ _ h => h)
/-- What a call of the closure comes to. -/
structure WPost (b B : Nat) (v : Int) (n : Nat) (st : Rs) (W W' : World) : Prop where
  st : WSt b B v n st W'
  fr : Fr (WCh b B) W W'
  strs : Strs W W'
  oth : KeepsOthers W W'
theorem WPost.below {b B : Nat} {v : Int} {n : Nat} {st : Rs} {W W' : World} (h : WSt b B v n st W) (hb : Below W.heap.size W W') : WPost b B v n st W W' := ⟨h.below hb, Fr.of_below hb, Strs.below hb, KeepsOthers.below hb⟩
theorem WPost.after {b B : Nat} {v : Int} {n : Nat} {st : Rs} {W W1 W' : World} (hb : Below W.heap.size W W1) (h : WPost b B v n st W1 W') : WPost b B v n st W W' :=
  ⟨h.st, (Fr.of_below hb).trans h.fr, (Strs.below hb).trans h.strs, (KeepsOthers.below hb).trans h.oth⟩
theorem rd_own {W : World} {B : Nat} {e : TypeId} {n c : Nat} {A : Option Addr} {xs : List Value} (h : W.ownsRow B e 1 (.slice A n c) n xs) : ∀ b off, A = some ⟨b, off, none⟩ → B ≤ b ∧ ∃ cs fr, W.heap[b]? = some (.cells cs e fr) := by
  intro b off he
  rcases h.2 with ⟨h0, _⟩ | ⟨g', cap, cur, h0, hB, hh, _⟩
  · injection h0 with h0
    rw [h0] at he
    cases he
  · injection h0 with h0
    rw [h0] at he
    injection he with he
    injection he with he
    subst he
    exact ⟨hB, cur, _, hh⟩
theorem own_typed {W : World} {B : Nat} {e : TypeId} {n : Nat} {v : Value} {xs : List Value} (h : W.ownsRow B e 1 v n xs) : ∀ k, v.ownBlock = some k → B ≤ k ∧ ∃ cs, Bk W k e cs := by
  intro k hk
  rcases h.2 with ⟨rfl, _⟩ | ⟨g, cap, cur, rfl, hB, hh, _⟩
  · simp [Value.ownBlock] at hk
  · obtain rfl : g = k := by simpa [Value.ownBlock] using hk
    exact ⟨hB, cur, hh⟩
/-- The mark is set. -/
theorem WSt.mark {b B : Nat} {v : Int} {n : Nat} {st : Rs} {W : World} (h : WSt b B v n st W) (hB : b + 10 ≤ B) (x : Bool) : WPost b B v n ⟨st.cls, st.c, x⟩ W (W.setCell ⟨b + 5, 0, none⟩ (.bool x)) := by
  have hf : Fr (fun k => k = b + 5) W (W.setCell ⟨b + 5, 0, none⟩ (.bool x)) := (Fr.refl (fun k => k = b + 5) W).setCell (p := ⟨b + 5, 0, none⟩) (.inl rfl) _
  obtain ⟨a1, a2, a3, A, c, Q, B2, A2, c2, a4, a5, a6, a7, a8, a9, a10, a11⟩ := h
  refine ⟨⟨a1.fr hf (by omega), a2.fr hf (by omega), a3.put 0 (.bool x), A, c, Q, B2, A2, c2, a4.fr hf (by omega), own_fr a5 hf (fun k hk e => by have := (own_typed a5 k hk).1; omega), a6, a7, Nat.le_trans a8 hf.size, fun p hp => (a9 p hp).fr hf (fun k cs fr _ hk e => ?_), a10.fr hf (by omega), own_fr a11 hf (fun k hk e => by have := (own_typed a11 k hk).1; omega)⟩, hf.mono (fun k _ e => .inr (.inr (.inl e))), Strs.set a3 (by decide) _ _, KeepsOthers.setCell _ _ _⟩
  subst e
  have h1 : W.heap[b + 5]? = _ := a3
  rw [h1] at hk
  injection hk with hk
  injection hk with _ ht
  exact absurd ht (by decide)
/-- A literal is appended. -/
theorem WSt.push {b B : Nat} {v : Int} {n : Nat} {st : Rs} {W W5 : World} {l : Int} {A : Option Addr} {c : Nat} {Q : List (SV × List Int)} {B2 : Nat} {A2 : Option Addr} {c2 : Nat} {A' : Option Addr} {c' : Nat} (h : WSt b B v n st W) (hB : b + 10 ≤ B)
    (a4 : Bk W (b + 3) 24 #[.int .i64 v, .slice A st.cls.length c]) (a5 : W.ownsRow B 55 1 (.slice A st.cls.length c) st.cls.length (Q.map slV)) (a6 : clsOf Q = st.cls) (a7 : B ≤ B2) (a8 : B2 ≤ W.heap.size) (a9 : ∀ p ∈ Q, RowT W B2 p) (a10 : Bk W (b + 4) 55 #[.slice A2 st.c.length c2]) (a11 : W.ownsRow B2 53 1 (.slice A2 st.c.length c2) st.c.length (st.c.map (Value.int .i64)))
    (hg : (W.alloc (.cells #[.int .i64 l] 53)).grownBy W5 (Value.slice A2 st.c.length c2).ownBlock) (ho : W5.ownsRow B2 53 1 (.slice A' (st.c.length + 1) c') (st.c.length + 1) (st.c.map (Value.int .i64) ++ [.int .i64 l])) :
    WPost b B v n ⟨st.cls, st.c ++ [l], st.begun⟩ W (W5.setCell ⟨b + 4, 0, none⟩ (.slice A' (st.c.length + 1) c')) := by
  have hba : Below W.heap.size W (W.alloc (.cells #[.int .i64 l] 53)) := balloc (Below.refl _ _) _
  have a11' : (W.alloc (.cells #[.int .i64 l] 53)).ownsRow B2 53 1 (.slice A2 st.c.length c2) st.c.length (st.c.map (Value.int .i64)) := a11.alloc _
  have hf : Fr (fun k => k = b + 4 ∨ (Value.slice A2 st.c.length c2).ownBlock = some k) W (W5.setCell ⟨b + 4, 0, none⟩ (.slice A' (st.c.length + 1) c')) :=
    (((Fr.refl _ W).alloc _).grown hg (fun k hk => .inl (.inr hk))).setCell (p := ⟨b + 4, 0, none⟩) (.inl (.inl rfl)) _
  have hx10 : Bk W5 (b + 4) 55 #[.slice A2 st.c.length c2] := (bkbel a10 hba).grown hg (own_ne a11' (bkbel a10 hba) (by decide))
  have nb : ∀ {k : Nat} {t : TypeId} {cs : Array Value}, Bk W k t cs → 53 ≠ t → k ≠ b + 4 → ¬ (k = b + 4 ∨ (Value.slice A2 st.c.length c2).ownBlock = some k) := fun hk ht hne hq => by
    rcases hq with hq | hq
    · exact hne hq
    · exact own_ne a11 hk ht hq.symm
  refine ⟨⟨h.vars.fr hf (nb h.vars (by decide) (by omega)), h.cnt.fr hf (nb h.cnt (by decide) (by omega)), h.beg.fr hf (nb h.beg (by decide) (by omega)), A, c, Q, B2, A', c', a4.fr hf (nb a4 (by decide) (by omega)), own_fr a5 hf (fun k hk => ?_), a6, a7, Nat.le_trans a8 hf.size, fun p hp => (a9 p hp).fr hf (fun k cs fr hkB hk hq => ?_), ?_, ?_⟩, hf.mono (fun k _ hq => ?_), ?_, ?_⟩
  · obtain ⟨hk1, cs, hk2⟩ := own_typed a5 k hk
    exact nb hk2 (by decide) (by omega)
  · rcases hq with rfl | hq
    · have h1 : W.heap[b + 4]? = _ := a10
      rw [h1] at hk
      injection hk with hk
      injection hk with _ ht
      exact absurd ht (by decide)
    · have := (own_typed a11 k hq).1
      omega
  · rw [List.length_append]
    exact hx10.put 0 _
  · rw [List.length_append, List.map_append]
    exact own_fr ho ((Fr.refl (fun k => k = b + 4) W5).setCell (p := ⟨b + 4, 0, none⟩) (.inl rfl) _) (fun k hk e => by have := (own_typed ho k hk).1; omega)
  · rcases hq with rfl | hq
    · exact .inr (.inl rfl)
    · have := (own_typed a11 k hq).1
      exact .inr (.inr (.inr (by omega)))
  · exact ((Strs.below hba).trans (Strs.grown a11' (by decide) hg)).trans (Strs.set hx10 (by decide) _ _)
  · exact ((KeepsOthers.alloc _ _).trans (KeepsOthers.grown1 a11' hg)).trans (KeepsOthers.setCell _ _ _)
/-- A clause is done. -/
theorem WSt.flush {b B : Nat} {v : Int} {n : Nat} {st : Rs} {W W5 : World} {A : Option Addr} {c : Nat} {Q : List (SV × List Int)} {B2 : Nat} {A2 : Option Addr} {c2 : Nat} {A' : Option Addr} {c' : Nat} (h : WSt b B v n st W) (hB : b + 10 ≤ B)
    (a4 : Bk W (b + 3) 24 #[.int .i64 v, .slice A st.cls.length c]) (a5 : W.ownsRow B 55 1 (.slice A st.cls.length c) st.cls.length (Q.map slV)) (a6 : clsOf Q = st.cls) (a7 : B ≤ B2) (a8 : B2 ≤ W.heap.size) (a9 : ∀ p ∈ Q, RowT W B2 p) (a10 : Bk W (b + 4) 55 #[.slice A2 st.c.length c2]) (a11 : W.ownsRow B2 53 1 (.slice A2 st.c.length c2) st.c.length (st.c.map (Value.int .i64)))
    (hi : ∀ u ∈ st.c, I64 u) (hl : st.c.length ≤ 4096)
    (hg : (W.alloc (.cells #[.slice A2 st.c.length c2] 55)).grownBy W5 (Value.slice A st.cls.length c).ownBlock) (ho : W5.ownsRow B 55 1 (.slice A' (st.cls.length + 1) c') (st.cls.length + 1) (Q.map slV ++ [.slice A2 st.c.length c2])) :
    WPost b B v n ⟨st.cls ++ [st.c], [], st.begun⟩ W ((W5.setCell ⟨b + 3, 1, none⟩ (.slice A' (st.cls.length + 1) c')).setCell ⟨b + 4, 0, none⟩ (.slice none 0 0)) := by
  have hba : Below W.heap.size W (W.alloc (.cells #[.slice A2 st.c.length c2] 55)) := balloc (Below.refl _ _) _
  have a5' : (W.alloc (.cells #[.slice A2 st.c.length c2] 55)).ownsRow B 55 1 (.slice A st.cls.length c) st.cls.length (Q.map slV) := a5.alloc _
  have hf : Fr (fun k => k = b + 3 ∨ k = b + 4 ∨ (Value.slice A st.cls.length c).ownBlock = some k) W ((W5.setCell ⟨b + 3, 1, none⟩ (.slice A' (st.cls.length + 1) c')).setCell ⟨b + 4, 0, none⟩ (.slice none 0 0)) :=
    ((((Fr.refl _ W).alloc _).grown hg (fun k hk => .inl (.inr (.inr hk)))).setCell (p := ⟨b + 3, 1, none⟩) (.inl (.inl rfl)) _).setCell (p := ⟨b + 4, 0, none⟩) (.inl (.inr (.inl rfl))) _
  have hs : ∀ {k : Nat}, (Value.slice A st.cls.length c).ownBlock = some k → B ≤ k := fun hk => (own_typed a5 _ hk).1
  have hx4 : Bk W5 (b + 3) 24 #[.int .i64 v, .slice A st.cls.length c] := (bkbel a4 hba).grown hg (fun e => by have := hs e.symm; omega)
  have hx10 : Bk W5 (b + 4) 55 #[.slice A2 st.c.length c2] := (bkbel a10 hba).grown hg (fun e => by have := hs e.symm; omega)
  have nb : ∀ {k : Nat}, k < B → k ≠ b + 3 → k ≠ b + 4 → ¬ (k = b + 3 ∨ k = b + 4 ∨ (Value.slice A st.cls.length c).ownBlock = some k) := fun hk h3 h4 hq => by
    rcases hq with hq | hq | hq
    · exact h3 hq
    · exact h4 hq
    · have := hs hq; omega
  have nl : ∀ {k : Nat} {cs : Array Value} {fr : Nat × Nat}, W.heap[k]? = some (.cells cs 53 fr) → ¬ (k = b + 3 ∨ k = b + 4 ∨ (Value.slice A st.cls.length c).ownBlock = some k) := fun hk hq => by
    rcases hq with rfl | rfl | hq
    · have h1 : W.heap[b + 3]? = _ := a4
      rw [h1] at hk
      injection hk with hk
      injection hk with _ ht
      exact absurd ht (by decide)
    · have h1 : W.heap[b + 4]? = _ := a10
      rw [h1] at hk
      injection hk with hk
      injection hk with _ ht
      exact absurd ht (by decide)
    · obtain ⟨_, cs', h2⟩ := own_typed a5 _ hq
      have h1 : W.heap[_]? = _ := h2
      rw [h1] at hk
      injection hk with hk
      injection hk with _ ht
      exact absurd ht (by decide)
  have hf2 : Fr (fun k => k = b + 3 ∨ k = b + 4) W5 ((W5.setCell ⟨b + 3, 1, none⟩ (.slice A' (st.cls.length + 1) c')).setCell ⟨b + 4, 0, none⟩ (.slice none 0 0)) :=
    ((Fr.refl _ W5).setCell (p := ⟨b + 3, 1, none⟩) (.inl (.inl rfl)) _).setCell (p := ⟨b + 4, 0, none⟩) (.inl (.inr rfl)) _
  refine ⟨⟨h.vars.fr hf (nb (by omega) (by omega) (by omega)), h.cnt.fr hf (nb (by omega) (by omega) (by omega)), h.beg.fr hf (nb (by omega) (by omega) (by omega)), A', c', Q ++ [(⟨A2, st.c.length, c2⟩, st.c)], ((W5.setCell ⟨b + 3, 1, none⟩ (.slice A' (st.cls.length + 1) c')).setCell ⟨b + 4, 0, none⟩ (.slice none 0 0)).heap.size, none, 0, ?_, ?_, ?_, Nat.le_trans a7 (Nat.le_trans a8 hf.size), Nat.le_refl _, fun p hp => ?_, ?_, World.ownsRow_nil _ _ _ _⟩, hf.mono (fun k _ hq => ?_), ?_, ?_⟩
  · rw [List.length_append]
    have h1 := (hx4.put 1 (.slice A' (st.cls.length + 1) c')).far (p := ⟨b + 4, 0, none⟩) (by show b + 3 ≠ b + 4; omega) (.slice none 0 0)
    exact h1
  · rw [List.length_append, List.map_append]
    exact own_fr ho hf2 (fun k hk e => by have := (own_typed ho k hk).1; omega)
  · unfold clsOf at a6 ⊢
    rw [List.map_append, a6]
    rfl
  · rcases List.mem_append.1 hp with hp | hp
    · exact ((a9 p hp).fr hf (fun k cs fr _ hk => nl hk)).up (Nat.le_trans a8 hf.size)
    · obtain rfl := List.mem_singleton.1 hp
      have hr : RowT W W.heap.size (⟨A2, st.c.length, c2⟩, st.c) := ⟨⟨Rd.of_own a11, rfl, hi, by show st.c.length ≤ _; omega⟩, fun b' off he => by
        obtain ⟨_, cs, fr, h2⟩ := rd_own a11 b' off he
        exact ⟨lt_of_heap h2, cs, fr, h2⟩⟩
      exact (hr.fr hf (fun k cs fr _ hk => nl hk)).up hf.size
  · exact (hx10.far (p := ⟨b + 3, 1, none⟩) (by show b + 4 ≠ b + 3; omega) (.slice A' (st.cls.length + 1) c')).put 0 (.slice none 0 0)
  · rcases hq with rfl | rfl | hq
    · exact .inl rfl
    · exact .inr (.inl rfl)
    · exact .inr (.inr (.inr (hs hq)))
  · exact (((Strs.below hba).trans (Strs.grown a5' (by decide) hg)).trans (Strs.set hx4 (by decide) _ _)).trans (Strs.set (hx10.far (p := ⟨b + 3, 1, none⟩) (by show b + 4 ≠ b + 3; omega) _) (by decide) _ _)
  · exact (((KeepsOthers.alloc _ _).trans (KeepsOthers.grown1 a5' hg)).trans (KeepsOthers.setCell _ _ _)).trans (KeepsOthers.setCell _ _ _)
theorem WPost.then {b B : Nat} {v : Int} {n : Nat} {st st' : Rs} {W W1 W' : World} (h : WPost b B v n st W W1) (k : WPost b B v n st' W1 W') : WPost b B v n st' W W' := ⟨k.st, h.fr.trans k.fr, h.strs.trans k.strs, h.oth.trans k.oth⟩
theorem stepW_no {v : Int} {n : Nat} {st : Rs} {w : List UInt8} (h0 : w ≠ [48]) (h : litW w = none) : stepW v n st w = (61, st) := by
  unfold stepW
  rw [if_neg h0, h]
theorem stepW_some {v : Int} {n : Nat} {st : Rs} {w : List UInt8} {l : Int} (h : (if w = [48] then some 0 else litW w) = some l) : stepW v n st w = if v < (l.natAbs : Int) then (62, st) else if st.cls.length = n then (63, st) else if w ≠ [48] ∧ st.c.length = 4096 then (5, st) else if w = [48] then (0, ⟨st.cls ++ [st.c], [], false⟩) else (0, ⟨st.cls, st.c ++ [l], true⟩) := by
  unfold stepW
  rw [h]
set_option maxRecDepth 100000 in
set_option maxHeartbeats 2000000 in
theorem wordC (b B : Nat) (v : Int) (n k : Nat) (st : Rs) (s : ByteArray) (W : World) (hs : s.size ≤ 100000000) (hv : Hid (Vars W)) (h : Hid (WSt b B v n st W)) (hB : b + 10 ≤ B) (hBW : B ≤ W.heap.size) (hok : Hid (RsOk v n k st)) (hn : n ≤ 262144) :
    Calls Tryz.prog 51 #[.string s, .pointer (some ⟨b, 0, none⟩), .pointer (some ⟨b + 3, 0, none⟩), .pointer (some ⟨b + 1, 0, none⟩), .pointer (some ⟨b + 4, 0, none⟩), .pointer (some ⟨b + 5, 0, none⟩)] W fun e W' => e = .returned (.int .i64 (stepW v n st s.data.toList).1) ∧ WPost b B v n (stepW v n st s.data.toList).2 W W' := by
  obtain ⟨z, hz⟩ : ∃ z, decide (s.data.toList = [48]) = z := ⟨_, rfl⟩
  have ez : (s.toList != [48]) = !z := by rw [toList_data, ← hz, Bool.eq_iff_iff]; simp
  have ez' : (s.toList == [48]) = z := by rw [toList_data, ← hz, Bool.eq_iff_iff]; simp
  have HZ := Lib.hid hz
  clear hz
  obtain ⟨⟨l, er⟩, hlr⟩ : ∃ q, litR s.data.toList = q := ⟨_, rfl⟩
  have HLR := Lib.hid hlr
  clear hlr
  have hl0 : Hid (z = true → l = 0 ∧ er = 10) := fun hz => by
    have h1 := HZ.out
    rw [hz, decide_eq_true_eq] at h1
    have h2 := HLR.out
    unfold litR at h2
    rw [h1, litW_zero] at h2
    exact ⟨(Prod.mk.inj h2).1.symm, (Prod.mk.inj h2).2.symm⟩
  by_cases hbad : z = false ∧ er ≠ 0
  · obtain ⟨rfl, her⟩ := hbad
    have e1 : (er != 0) = true := by simpa using her
    have hlw : litW s.data.toList = none := by
      have h2 := HLR.out
      unfold litR at h2
      cases hq : litW s.data.toList with
      | none => rfl
      | some x => rw [hq] at h2; exact absurd (Prod.mk.inj h2).2.symm her
    have E := Lib.hid (stepW_no (v := v) (n := n) (st := st) (of_decide_eq_false HZ.out) hlw)
    clear her hlw
    go_enter Tryz.func51, Tryz.ntmps51
    go_wp2_with fail
    refine (litRead s W hs hv).mono ?_
    rintro e w1 ⟨rfl, hb⟩
    rw [HLR.out]
    have HB1 := Lib.hid hb
    clear hb
    dsimp only
    go_wp2_with fail
    go_ret
    rw [E.out]
    exact ⟨rfl, WPost.below h.out HB1.out⟩
  · have hsome : (if s.data.toList = [48] then some (0 : Int) else litW s.data.toList) = some l := by
      cases z with
      | true =>
        rw [if_pos (of_decide_eq_true HZ.out), (hl0.out rfl).1]
      | false =>
        rw [if_neg (of_decide_eq_false HZ.out)]
        have her : er = 0 := Classical.byContradiction fun h => hbad ⟨rfl, h⟩
        have h2 := HLR.out
        unfold litR at h2
        cases hq : litW s.data.toList with
        | none => rw [hq] at h2; have := (Prod.mk.inj h2).2; rw [her] at this; exact absurd this (by decide)
        | some x => rw [hq] at h2; rw [(Prod.mk.inj h2).1]
    have hvl : varL l = (l.natAbs : Int) := by
      cases z with
      | true => rw [(hl0.out rfl).1]; rfl
      | false =>
        rw [if_neg (of_decide_eq_false HZ.out)] at hsome
        unfold varL
        rw [((litW_iff _ _).1 hsome).1, if_pos rfl]
    have hli : I64 l := by
      cases z with
      | true => rw [(hl0.out rfl).1]; exact ⟨by omega, by omega⟩
      | false =>
        rw [if_neg (of_decide_eq_false HZ.out)] at hsome
        exact lit_i64 ((litW_iff _ _).1 hsome).1
    have HLI : Hid (I64 l) := hli
    have E := Lib.hid (stepW_some (v := v) (n := n) (st := st) hsome)
    have HV := fun W => (litVar l W).mono fun e w' (h : _ ∧ _) => And.intro h.1 h.2.symm
    rw [hvl] at HV
    have HVV := Lib.hid HV
    clear hsome hvl hli HV hl0
    have eg : (!z && (er != 0)) = false := by
      cases z with
      | true => rfl
      | false =>
        have : er = 0 := Classical.byContradiction fun h => hbad ⟨rfl, h⟩
        rw [this]
        rfl
    clear hbad
    go_enter Tryz.func51, Tryz.ntmps51
    go_wp2_with fail
    refine (litRead s W hs hv).mono ?_
    rintro e w1 ⟨rfl, hb⟩
    rw [HLR.out]
    have HB1 := Lib.hid hb
    have HS1 := Lib.hid (h.out.below hb)
    have hBW1 : B ≤ w1.heap.size := Nat.le_trans hBW hb.size
    clear hb HLR h
    dsimp only
    go_upto_region 2 with fail
    go_cut [15] (fun v15 wx => v15 = .bool false ∧ w1 = wx)
    case first =>
      cases z with
      | true =>
        go_wp2_with fail
        go_meet
        exact ⟨rfl, rfl⟩
      | false =>
        have e2 : (er != 0) = false := eg
        clear eg
        go_wp2_with fail
        go_meet
        exact ⟨rfl, rfl⟩
    case rest =>
    obtain ⟨rfl, rfl⟩ := hcut
    clear eg
    go_upto_region 4 with fail
    go_cut [22] (fun v22 wx => v22 = .bool (decide (v < (l.natAbs : Int))) ∧ Hid (Below w1.heap.size w1 wx))
    case first =>
      have x0 := HS1.out.vars.cell 0
      have HV := HVV.out
      go_quiet ((go_at_call 53; with_reducible exact Calls.quiet_of_same (HV _)))
      go_wp2
      go_meet
      exact ⟨rfl, bdrewN (Below.refl _ _) _⟩
    case rest =>
    obtain ⟨rfl, HBw⟩ := hcut
    generalize wc = w2 at *
    have HB2 := Lib.hid (bthen HB1.out HBw.out)
    have HS2 := Lib.hid (HS1.out.below HBw.out)
    have hBW2 : B ≤ w2.heap.size := Nat.le_trans hBW1 HBw.out.size
    clear HB1 HS1 HBw HVV hBW1
    by_cases hvv : v < (l.natAbs : Int)
    · rw [decide_eq_true hvv]
      have E2 : Hid (stepW v n st s.data.toList = (62, st)) := by show _ = _; rw [E.out, if_pos hvv]
      clear E hvv
      go_wp2_with fail
      go_ret
      rw [E2.out]
      exact ⟨rfl, WPost.after HB2.out (WPost.below HS2.out (Below.refl _ _))⟩
    · rw [decide_eq_false hvv]
      have E2 := E.out
      rw [if_neg hvv] at E2
      have E3 := Lib.hid E2
      clear E E2 hvv
      obtain ⟨A, c, Q, B2, A2, c2, m1, m2, m3, m4, m5, m6, m7, m8⟩ := HS2.out.mem
      have HM1 := Lib.hid m1
      have HM2 := Lib.hid m2
      have HM3 := Lib.hid m3
      have HM6 := Lib.hid m6
      have HM7 := Lib.hid m7
      have HM8 := Lib.hid m8
      clear m1 m2 m3 m6 m7 m8
      obtain ⟨y0, y1⟩ := cells2 HM1.out
      have x1 := HS2.out.cnt.cell 0
      have hcn : Hid (st.c.length ≤ 4096) := hok.out.cur.1
      have hcl : Hid (st.cls.length ≤ n) := hok.out.few
      by_cases hfull : st.cls.length = n
      · have e3 : ((st.cls.length : Int) == (n : Int)) = true := by simp; omega
        have E4 : Hid (stepW v n st s.data.toList = (63, st)) := by show _ = _; rw [E3.out, if_pos hfull]
        clear E3 hfull
        go_wp2_with fail
        go_ret
        rw [E4.out]
        exact ⟨rfl, WPost.after HB2.out (WPost.below HS2.out (Below.refl _ _))⟩
      · have e3 : ((st.cls.length : Int) == (n : Int)) = false := by simp; omega
        have E4 := E3.out
        rw [if_neg hfull] at E4
        have E5 := Lib.hid E4
        clear E3 E4 hfull
        have x4 := HM7.out.cell 0
        have x5 := HS2.out.beg.cell 0
        have f5 := HS2.out.beg.frozen 0
        cases z with
        | false =>
          have hne : s.data.toList ≠ [48] := of_decide_eq_false HZ.out
          by_cases hm : st.c.length = 4096
          · have e4 : ((st.c.length : Int) == 4096) = true := by simp; omega
            have E6 : Hid (stepW v n st s.data.toList = (5, st)) := by show _ = _; rw [E5.out, if_pos ⟨hne, hm⟩]
            clear E5 hm hne
            go_wp2_with fail
            go_ret
            rw [E6.out]
            exact ⟨rfl, WPost.after HB2.out (WPost.below HS2.out (Below.refl _ _))⟩
          · have e4 : ((st.c.length : Int) == 4096) = false := by simp; omega
            have E6 : Hid (stepW v n st s.data.toList = (0, ⟨st.cls, st.c ++ [l], true⟩)) := by show _ = _; rw [E5.out, if_neg (fun h => hm h.2), if_neg hne]
            clear E5 hm hne
            have HP3 := Lib.hid (HS2.out.mark hB true)
            clear HM1 HM2 HM3 HM6 HM7 HM8 m4 m5
            go_upto_region 11 with fail
            generalize (w2.setCell ⟨b + 5, 0, none⟩ (.bool true)) = W3 at *
            clear x1 x4 x5 f5 y0 y1
            obtain ⟨A, c, Q, B2, A2, c2, m1, m2, m3, m4, m5, m6, m7, m8⟩ := HP3.out.st.mem
            dsimp only at m1 m2 m7 m8
            have HM1 := Lib.hid m1
            have HM2 := Lib.hid m2
            have HM3 := Lib.hid m3
            have HM6 := Lib.hid m6
            have HM7 := Lib.hid m7
            have HM8 := Lib.hid m8
            clear m1 m2 m3 m6 m7 m8
            have x4 := HM7.out.cell 0
            have x5 := HP3.out.st.beg.cell 0
            dsimp only at x5
            have HRN := Lib.hid (Rd.of_bk6 (Bk.new W3 53 #[.int .i64 l]))
            have HO8 := Lib.hid (HM8.out.alloc (.cells #[.int .i64 l] 53))
            have hc96 : st.c.length ≤ 4096 := hcn.out
            go_upto_region 12 with fail
            go_wp2_with (at_builtin; refine wpList_app el_lit rfl (.tmp 44) (.tmp 46) rfl B2 (.slice A2 st.c.length c2) st.c.length (st.c.map (Value.int .i64)) rfl HO8.out (some ⟨W3.heap.size, 0, none⟩) 1 1 [.int .i64 l] rfl HRN.out rfl (fun u hu => (by obtain rfl := List.mem_singleton.1 hu; rfl)) (by omega) (by simp; omega) ?_; intro A' c' w5 hown hgr hat; have HO := Lib.hid hown; have HG := Lib.hid hgr; clear hown hgr hat; have z4 : w5.cell? ⟨b + 4, 0, none⟩ = some (.slice A2 st.c.length c2) := (((HM7.out.alloc (.cells #[.int .i64 l] 53)).grown HG.out (own_ne HO8.out (HM7.out.alloc _) (by decide))).cell 0); have zf : w5.frozen? ⟨b + 4, 0, none⟩ = false := (((HM7.out.alloc (.cells #[.int .i64 l] 53)).grown HG.out (own_ne HO8.out (HM7.out.alloc _) (by decide))).frozen 0))
            go_ret
            rw [E6.out]
            exact ⟨rfl, WPost.after HB2.out (HP3.out.then (HP3.out.st.push hB HM1.out HM2.out HM3.out m4 m5 HM6.out HM7.out HM8.out HG.out HO.out))⟩
        | true =>
          have hze : s.data.toList = [48] := of_decide_eq_true HZ.out
          have E6 : Hid (stepW v n st s.data.toList = (0, ⟨st.cls ++ [st.c], [], false⟩)) := by show _ = _; rw [E5.out, if_neg (fun h => h.1 hze), if_pos hze]
          clear E5 hze
          have HP3 := Lib.hid (HS2.out.mark hB false)
          clear HM1 HM2 HM3 HM6 HM7 HM8 m4 m5
          go_upto_region 11 with fail
          generalize (w2.setCell ⟨b + 5, 0, none⟩ (.bool false)) = W3 at *
          clear x1 x4 x5 f5 y0 y1
          obtain ⟨A, c, Q, B2, A2, c2, m1, m2, m3, m4, m5, m6, m7, m8⟩ := HP3.out.st.mem
          dsimp only at m1 m2 m7 m8
          have HM1 := Lib.hid m1
          have HM2 := Lib.hid m2
          have HM3 := Lib.hid m3
          have HM6 := Lib.hid m6
          have HM7 := Lib.hid m7
          have HM8 := Lib.hid m8
          clear m1 m2 m3 m6 m7 m8
          have x4 := HM7.out.cell 0
          have x5 := HP3.out.st.beg.cell 0
          dsimp only at x5
          obtain ⟨y0, y1⟩ := cells2 HM1.out
          have HRN := Lib.hid (Rd.of_bk6 (Bk.new W3 55 #[.slice A2 st.c.length c2]))
          have HO2 := Lib.hid (HM2.out.alloc (.cells #[.slice A2 st.c.length c2] 55))
          have hc96 : st.c.length ≤ 4096 := hcn.out
          have hcl9 : st.cls.length ≤ 262144 := Nat.le_trans hcl.out hn
          have HI : Hid (∀ u ∈ st.c, I64 u) := fun u hu => lit_i64 (lit_in (hok.out.cur.2 u hu)).1
          go_upto_region 13 with fail
          go_wp2_with (at_builtin; refine wpList_app el_cls rfl (.tmp 49) (.tmp 51) rfl B (.slice A st.cls.length c) st.cls.length (Q.map slV) rfl HO2.out (some ⟨W3.heap.size, 0, none⟩) 1 1 [.slice A2 st.c.length c2] rfl HRN.out rfl (fun u hu => (by obtain rfl := List.mem_singleton.1 hu; rfl)) (by omega) (by simp; omega) ?_; intro A' c' w5 hown hgr hat; have HO := Lib.hid hown; have HG := Lib.hid hgr; clear hown hgr hat; have hw3 := (HM1.out.alloc (.cells #[.slice A2 st.c.length c2] 55)).grown HG.out (fun e => by have := (own_typed HO2.out _ e.symm).1; omega); have hw4 := (HM7.out.alloc (.cells #[.slice A2 st.c.length c2] 55)).grown HG.out (fun e => by have := (own_typed HO2.out _ e.symm).1; omega); have z4 := hw3.cell 1; have zf := hw3.frozen 1; have z5 : (w5.setCell ⟨b + 3, 1, none⟩ (.slice A' (st.cls.length + 1) c')).cell? ⟨b + 4, 0, none⟩ = some (.slice A2 st.c.length c2) := (hw4.far (p := ⟨b + 3, 1, none⟩) (by show b + 4 ≠ b + 3; omega) _).cell 0; have zg : (w5.setCell ⟨b + 3, 1, none⟩ (.slice A' (st.cls.length + 1) c')).frozen? ⟨b + 4, 0, none⟩ = false := (hw4.far (p := ⟨b + 3, 1, none⟩) (by show b + 4 ≠ b + 3; omega) _).frozen 0; clear hw3 hw4)
          go_ret
          rw [E6.out]
          exact ⟨rfl, WPost.after HB2.out (HP3.out.then (HP3.out.st.flush hB HM1.out HM2.out HM3.out m4 m5 HM6.out HM7.out HM8.out HI.out hc96 HG.out HO.out))⟩
end Go.Proofs.YtkpcpclaadgnbaaGreatDoor
