/-
  salvorref06.Read.
-/
import Derived.Test.YtkpcpclaadgnbaaGreatDoorRefS6
import Derived.Test.YtkpcpclaadgnbaaGreatDoorRefW6
import Derived.Test.YtkpcpclaadgnbaaGreatDoorRead6
set_option linter.unusedVariables false
set_option linter.unusedSimpArgs false
namespace Go.Proofs.YtkpcpclaadgnbaaGreatDoor
open Go.RowKit Go.PlainAid

theorem el_int6 : El Tryz.prog 61 3 1 := El.mk' (z := .int .i64 0) (bytes := 8) Tryz.underlying61 (by kernel_rfl) rfl (by omega) (by omega)
theorem el_ints6 : El Tryz.prog 63 61 1 := El.mk' (z := .slice none 0 0) (bytes := 24) Tryz.underlying63 (by kernel_rfl) rfl (by omega) (by omega)
/-- Strings from the beginning of a row of strings. -/
def WdR (W : World) (A : Option Addr) (L : List (List UInt8)) : Prop := L ≠ [] → ∃ q cs, A = some ⟨q, 0, none⟩ ∧ Bk W q 9 cs ∧ ∀ (j : Nat) (x : List UInt8), L[j]? = some x → cs[j]? = some (.string (str x))
theorem WdR.strs {W W' : World} {A : Option Addr} {L : List (List UInt8)} (h : WdR W A L) (hs : Strs W W') : WdR W' A L := fun hne => by
  obtain ⟨q, cs, h1, h2, h3⟩ := h hne
  exact ⟨q, cs, h1, hs q cs h2, h3⟩
theorem WdR.below {W W' : World} {A : Option Addr} {L : List (List UInt8)} (h : WdR W A L) (hb : Below W.heap.size W W') : WdR W' A L := h.strs (Strs.below hb)
theorem WdR.of_own {W : World} {B n c : Nat} {A : Option Addr} {L : List (List UInt8)} (h : W.ownsRow B 9 1 (.slice A n c) n (valS L)) : WdR W A L := fun hne => by
  have hl := h.1
  rcases h.2 with ⟨h0, h1⟩ | ⟨g', cap, cur, h0, _, hh, h3, h4, h5, h6⟩
  · subst h1
    unfold valS at hl
    rw [List.length_map] at hl
    exact absurd (List.eq_nil_of_length_eq_zero (by omega)) hne
  · injection h0 with h0
    refine ⟨g', cur, h0, hh, fun j x hj => ?_⟩
    have hu : (valS L)[j]? = some (.string (str x)) := by
      unfold valS
      rw [List.getElem?_map, hj]
      rfl
    rw [← h6, List.getElem?_take] at hu
    split at hu
    · simpa using hu
    · cases hu
theorem WdR.at {W : World} {A : Option Addr} {L : List (List UInt8)} {k : Nat} {x : List UInt8} (h : WdR W A L) (hx : L[k]? = some x) : ∃ q, A = some ⟨q, 0, none⟩ ∧ W.cell? ⟨q, k, none⟩ = some (.string (str x)) := by
  obtain ⟨q, cs, h1, h2, h3⟩ := h (by rintro rfl; simp at hx)
  exact ⟨q, h1, by rw [h2.cell, h3 k x hx]⟩
/-- A finished clause of the reference: its numbers lie below B, in a block of numbers. -/
structure RowQ (W : World) (B : Nat) (p : SV × List Int) : Prop where
  at' : IntsAt W p.1 p.2
  ty : ∀ b off, p.1.A = some ⟨b, off, none⟩ → b < B ∧ ∃ cs fr, W.heap[b]? = some (.cells cs 3 fr)
theorem RowQ.fr {F : Nat → Prop} {W W' : World} {B : Nat} {p : SV × List Int} (h : RowQ W B p) (hf : Fr F W W') (hF : ∀ b cs fr, b < B → W.heap[b]? = some (.cells cs 3 fr) → ¬ F b) : RowQ W' B p := by
  refine ⟨⟨h.at'.1.fr hf (fun b hb he => ?_), h.at'.2⟩, fun b off he => ?_⟩
  · obtain ⟨off, he⟩ := he
    obtain ⟨h1, cs, fr, h2⟩ := h.ty b off he
    exact hF b cs fr h1 h2
  · obtain ⟨h1, cs, fr, h2⟩ := h.ty b off he
    exact ⟨h1, cs, fr, (hf.block b (lt_of_heap h2) (hF b cs fr h1 h2)).trans h2⟩
theorem RowQ.up {W : World} {B B' : Nat} {p : SV × List Int} (h : RowQ W B p) (hb : B ≤ B') : RowQ W B' p := ⟨h.at', fun b off he => by
  obtain ⟨h1, h2⟩ := h.ty b off he
  exact ⟨by omega, h2⟩⟩
/-- What the loops have made: the formula in the box o, its clauses and the clause under way behind it. -/
structure RSt (w1 : World) (o : Nat) (v : Int) (st : Rs) (A2 : Option Addr) (c2 : Nat) (W : World) : Prop where
  bel : Below o w1 W
  lt : o < W.heap.size
  mem : ∃ (A : Option Addr) (c : Nat) (Q : List (SV × List Int)) (B2 : Nat), Bk W o 69 #[.int .i64 v, .slice A st.cls.length c] ∧ W.ownsRow (o + 1) 61 1 (.slice A st.cls.length c) st.cls.length (Q.map slV) ∧ clsOf Q = st.cls ∧ o + 1 ≤ B2 ∧ B2 ≤ W.heap.size ∧ (∀ p ∈ Q, RowQ W B2 p) ∧ W.ownsRow B2 3 1 (.slice A2 st.c.length c2) st.c.length (st.c.map (Value.int .i64))
theorem RSt.below {w1 : World} {o : Nat} {v : Int} {st : Rs} {A2 : Option Addr} {c2 : Nat} {W W' : World} (h : RSt w1 o v st A2 c2 W) (hb : Below W.heap.size W W') : RSt w1 o v st A2 c2 W' := by
  obtain ⟨A, c, Q, B2, a4, a5, a6, a7, a8, a9, a11⟩ := h.mem
  have hf : Fr (fun _ => False) W W' := Fr.of_below hb
  exact ⟨h.bel.trans (hb.mono (Nat.le_of_lt h.lt)), Nat.lt_of_lt_of_le h.lt hb.size, A, c, Q, B2, bkbel a4 hb, own_fr a5 hf (fun _ _ h => h), a6, a7, Nat.le_trans a8 hb.size, fun p hp => (a9 p hp).fr hf (fun _ _ _ _ _ h => h), own_fr a11 hf (fun _ _ h => h)⟩
theorem RSt.hdr {w1 : World} {o : Nat} {v : Int} {A2 : Option Addr} {c2 : Nat} {W : World} (h : RSt w1 o v zRs A2 c2 W) (v' : Int) : RSt w1 o v' zRs A2 c2 (W.setCell ⟨o, 0, none⟩ (.int .i64 v')) ∧ Strs W (W.setCell ⟨o, 0, none⟩ (.int .i64 v')) := by
  obtain ⟨A, c, Q, B2, a4, a5, a6, a7, a8, a9, a11⟩ := h.mem
  have hf : Fr (fun k => k = o) W (W.setCell ⟨o, 0, none⟩ (.int .i64 v')) := (Fr.refl (fun k => k = o) W).setCell (p := ⟨o, 0, none⟩) (.inl rfl) _
  refine ⟨⟨h.bel.trans (hf.below o (Nat.le_of_lt h.lt) (fun k hk e => by omega)), by have := hf.size; have := h.lt; omega, A, c, Q, B2, ?_, own_fr a5 hf (fun k hk e => by have := (own_typed a5 k hk).1; omega), a6, a7, Nat.le_trans a8 hf.size, fun p hp => (a9 p hp).fr hf (fun k cs fr _ hk e => ?_), own_fr a11 hf (fun k hk e => by have := (own_typed a11 k hk).1; omega)⟩, Strs.set a4 (by decide) _ _⟩
  · have h1 := a4.put 0 (.int .i64 v')
    simp only [List.setIfInBounds_toArray, List.set_cons_zero] at h1
    exact h1
  · subst e
    have h1 : W.heap[k]? = _ := a4
    rw [h1] at hk
    injection hk with hk
    injection hk with _ ht
    exact absurd ht (by decide)
/-- A literal is appended. -/
theorem RSt.push {w1 : World} {o : Nat} {v : Int} {st : Rs} {A2 : Option Addr} {c2 : Nat} {W W5 : World} {l : Int} {A : Option Addr} {c : Nat} {Q : List (SV × List Int)} {B2 : Nat} {A' : Option Addr} {c' : Nat} (h : RSt w1 o v st A2 c2 W)
    (a4 : Bk W o 69 #[.int .i64 v, .slice A st.cls.length c]) (a5 : W.ownsRow (o + 1) 61 1 (.slice A st.cls.length c) st.cls.length (Q.map slV)) (a6 : clsOf Q = st.cls) (a7 : o + 1 ≤ B2) (a8 : B2 ≤ W.heap.size) (a9 : ∀ p ∈ Q, RowQ W B2 p) (a11 : W.ownsRow B2 3 1 (.slice A2 st.c.length c2) st.c.length (st.c.map (Value.int .i64)))
    (hg : (W.alloc (.cells #[.int .i64 l] 3)).grownBy W5 (Value.slice A2 st.c.length c2).ownBlock) (ho : W5.ownsRow B2 3 1 (.slice A' (st.c.length + 1) c') (st.c.length + 1) (st.c.map (Value.int .i64) ++ [.int .i64 l])) :
    RSt w1 o v ⟨st.cls, st.c ++ [l], true⟩ A' c' W5 ∧ Strs W W5 ∧ Below o W W5 := by
  have hba : Below W.heap.size W (W.alloc (.cells #[.int .i64 l] 3)) := balloc (Below.refl _ _) _
  have a11' : (W.alloc (.cells #[.int .i64 l] 3)).ownsRow B2 3 1 (.slice A2 st.c.length c2) st.c.length (st.c.map (Value.int .i64)) := a11.alloc _
  have hf : Fr (fun k => (Value.slice A2 st.c.length c2).ownBlock = some k) W W5 := ((Fr.refl _ W).alloc _).grown hg (fun k hk => .inl hk)
  have hgo : ∀ k, (Value.slice A2 st.c.length c2).ownBlock = some k → B2 ≤ k := fun k hk => (own_typed a11 k hk).1
  have hbo : Below o W W5 := hf.below o (Nat.le_of_lt h.lt) (fun k hk e => by have := hgo k e; omega)
  refine ⟨⟨h.bel.trans hbo, Nat.lt_of_lt_of_le h.lt hf.size, A, c, Q, B2, a4.fr hf (fun e => by have := hgo _ e; omega), own_fr a5 hf (fun k hk e => ?_), a6, a7, Nat.le_trans a8 hf.size, fun p hp => (a9 p hp).fr hf (fun k cs fr hkB hk e => by have := hgo k e; omega), ?_⟩, (Strs.below hba).trans (Strs.grown a11' (by decide) hg), hbo⟩
  · obtain ⟨_, cs, hk2⟩ := own_typed a5 k hk
    exact own_ne a11 hk2 (by decide) e.symm
  · rw [List.length_append, List.map_append]
    exact ho
/-- A clause is done. -/
theorem RSt.flush {w1 : World} {o : Nat} {v : Int} {st : Rs} {A2 : Option Addr} {c2 : Nat} {W W5 : World} {A : Option Addr} {c : Nat} {Q : List (SV × List Int)} {B2 : Nat} {A' : Option Addr} {c' : Nat} (h : RSt w1 o v st A2 c2 W)
    (a4 : Bk W o 69 #[.int .i64 v, .slice A st.cls.length c]) (a5 : W.ownsRow (o + 1) 61 1 (.slice A st.cls.length c) st.cls.length (Q.map slV)) (a6 : clsOf Q = st.cls) (a7 : o + 1 ≤ B2) (a8 : B2 ≤ W.heap.size) (a9 : ∀ p ∈ Q, RowQ W B2 p) (a11 : W.ownsRow B2 3 1 (.slice A2 st.c.length c2) st.c.length (st.c.map (Value.int .i64)))
    (hi : ∀ u ∈ st.c, I64 u) (hl : st.c.length ≤ 4096)
    (hg : (W.alloc (.cells #[.slice A2 st.c.length c2] 61)).grownBy W5 (Value.slice A st.cls.length c).ownBlock) (ho : W5.ownsRow (o + 1) 61 1 (.slice A' (st.cls.length + 1) c') (st.cls.length + 1) (Q.map slV ++ [.slice A2 st.c.length c2])) :
    Bk W5 o 69 #[.int .i64 v, .slice A st.cls.length c] ∧ RSt w1 o v ⟨st.cls ++ [st.c], [], false⟩ none 0 (W5.setCell ⟨o, 1, none⟩ (.slice A' (st.cls.length + 1) c')) ∧ Strs W (W5.setCell ⟨o, 1, none⟩ (.slice A' (st.cls.length + 1) c')) ∧ Below o W (W5.setCell ⟨o, 1, none⟩ (.slice A' (st.cls.length + 1) c')) := by
  have hba : Below W.heap.size W (W.alloc (.cells #[.slice A2 st.c.length c2] 61)) := balloc (Below.refl _ _) _
  have a5' : (W.alloc (.cells #[.slice A2 st.c.length c2] 61)).ownsRow (o + 1) 61 1 (.slice A st.cls.length c) st.cls.length (Q.map slV) := a5.alloc _
  have hgo : ∀ k, (Value.slice A st.cls.length c).ownBlock = some k → o + 1 ≤ k := fun k hk => (own_typed a5 k hk).1
  have hf : Fr (fun k => k = o ∨ (Value.slice A st.cls.length c).ownBlock = some k) W (W5.setCell ⟨o, 1, none⟩ (.slice A' (st.cls.length + 1) c')) :=
    (((Fr.refl _ W).alloc _).grown hg (fun k hk => .inl (.inr hk))).setCell (p := ⟨o, 1, none⟩) (.inl (.inl rfl)) _
  have hx : Bk W5 o 69 #[.int .i64 v, .slice A st.cls.length c] := (bkbel a4 hba).grown hg (fun e => by have := hgo _ e.symm; omega)
  have hbo : Below o W (W5.setCell ⟨o, 1, none⟩ (.slice A' (st.cls.length + 1) c')) := hf.below o (Nat.le_of_lt h.lt) (fun k hk e => by
    rcases e with e | e
    · omega
    · have := hgo k e; omega)
  have nl : ∀ {k : Nat} {cs : Array Value} {fr : Nat × Nat}, W.heap[k]? = some (.cells cs 3 fr) → ¬ (k = o ∨ (Value.slice A st.cls.length c).ownBlock = some k) := fun hk hq => by
    rcases hq with rfl | hq
    · have h1 : W.heap[_]? = _ := a4
      rw [h1] at hk
      injection hk with hk
      injection hk with _ ht
      exact absurd ht (by decide)
    · obtain ⟨_, cs', h2⟩ := own_typed a5 _ hq
      have h1 : W.heap[_]? = _ := h2
      rw [h1] at hk
      injection hk with hk
      injection hk with _ ht
      exact absurd ht (by decide)
  have hsz : W.heap.size ≤ (W5.setCell ⟨o, 1, none⟩ (.slice A' (st.cls.length + 1) c')).heap.size := hf.size
  refine ⟨hx, ⟨h.bel.trans hbo, Nat.lt_of_lt_of_le h.lt hsz, A', c', Q ++ [(⟨A2, st.c.length, c2⟩, st.c)], (W5.setCell ⟨o, 1, none⟩ (.slice A' (st.cls.length + 1) c')).heap.size, ?_, ?_, ?_, by have := h.lt; omega, Nat.le_refl _, fun p hp => ?_, World.ownsRow_nil _ _ _ _⟩, ((Strs.below hba).trans (Strs.grown a5' (by decide) hg)).trans (Strs.set hx (by decide) _ _), hbo⟩
  · rw [List.length_append]
    have h1 := hx.put 1 (.slice A' (st.cls.length + 1) c')
    simp only [List.setIfInBounds_toArray, List.set_cons_succ, List.set_cons_zero] at h1
    exact h1
  · rw [List.length_append, List.map_append]
    exact own_fr ho ((Fr.refl (fun k => k = o) W5).setCell (p := ⟨o, 1, none⟩) (.inl rfl) _) (fun k hk e => by have := (own_typed ho k hk).1; omega)
  · unfold clsOf at a6 ⊢
    rw [List.map_append, a6]
    rfl
  · rcases List.mem_append.1 hp with hp | hp
    · exact ((a9 p hp).fr hf (fun k cs fr _ hk => nl hk)).up (by omega)
    · rw [List.mem_singleton.1 hp]
      have hr : RowQ W W.heap.size (⟨A2, st.c.length, c2⟩, st.c) := ⟨⟨Rd.of_own a11, rfl, hi, by show st.c.length ≤ _; omega⟩, fun b off he => by
        have he' : A2 = some ⟨b, off, none⟩ := he
        obtain ⟨_, cs, fr, hk⟩ := rd_own a11 b off he'
        exact ⟨lt_of_heap hk, cs, fr, hk⟩⟩
      exact (hr.fr hf (fun k cs fr _ hk => nl hk)).up (by omega)
theorem RSt.out {w1 : World} {o : Nat} {v : Int} {st : Rs} {A2 : Option Addr} {c2 : Nat} {W : World} (h : RSt w1 o v st A2 c2 W) (hl : st.cls.length ≤ 262144) {F : Nat → Prop} {W' : World} (hf : Fr F W W') (hF : ∀ k, F k → ∃ cs fr, W.heap[k]? = some (.cells cs 69 fr)) :
    ∃ A c Q, Bk W o 69 #[.int .i64 v, .slice A st.cls.length c] ∧ ClsAt W' A st.cls.length Q ∧ clsOf Q = st.cls := by
  obtain ⟨A, c, Q, B2, a4, a5, a6, a7, a8, a9, a11⟩ := h.mem
  have hQ : Q.length = st.cls.length := by rw [← clsOf_len, a6]
  have ne : ∀ {k : Nat} {cs : Array Value} {t : TypeId} {fr : Nat × Nat}, W.heap[k]? = some (.cells cs t fr) → t ≠ 69 → ¬ F k := fun hk ht hq => by
    obtain ⟨cs', fr', h1⟩ := hF _ hq
    rw [h1] at hk
    injection hk with hk
    injection hk with _ h2
    exact ht h2.symm
  refine ⟨A, c, Q, a4, ⟨Rd.of_own (own_fr a5 hf (fun k hk => ?_)), hQ, fun i p hp => ((a9 p (List.mem_of_getElem? hp)).fr hf (fun k cs fr _ hk => ne hk (by decide))).at', by omega⟩, a6⟩
  obtain ⟨_, cs, hk2⟩ := own_typed a5 k hk
  exact ne hk2 (by decide)

/-! ### the plain side of the loops -/
def StI (v : Int) (n : Int) (st : Rs) : Prop := (∃ k, RsOk v n.toNat k st) ∧ st.begun = decide (st.c ≠ [])
theorem StI.zero (v n : Int) : StI v n zRs := ⟨⟨0, rs_zero v n.toNat⟩, rfl⟩
theorem readQ_zero : readQ [48] = 0 := by decide +kernel
/-- A word's step, in the walk's own questions. -/
theorem stepQ_cases {v n : Int} {st : Rs} {wd : List UInt8} (hv : 0 ≤ v) (hn : 0 ≤ n) (h : StI v n st) :
    (readQ wd = 0 ∧ wd ≠ [48] ∧ stepW v n.toNat st wd = (61, st)) ∨
    ((readQ wd ≠ 0 ∨ wd = [48]) ∧ v < varL (readQ wd) ∧ stepW v n.toNat st wd = (62, st)) ∨
    ((readQ wd ≠ 0 ∨ wd = [48]) ∧ ¬ v < varL (readQ wd) ∧ n = (st.cls.length : Int) ∧ stepW v n.toNat st wd = (63, st)) ∨
    (wd = [48] ∧ ¬ v < varL (readQ wd) ∧ (st.cls.length : Int) < n ∧ stepW v n.toNat st wd = (0, ⟨st.cls ++ [st.c], [], false⟩)) ∨
    (readQ wd ≠ 0 ∧ wd ≠ [48] ∧ ¬ v < varL (readQ wd) ∧ (st.cls.length : Int) < n ∧ litB (readQ wd) = true ∧ st.c.length = 4096 ∧ stepW v n.toNat st wd = (5, st)) ∨
    (readQ wd ≠ 0 ∧ wd ≠ [48] ∧ ¬ v < varL (readQ wd) ∧ (st.cls.length : Int) < n ∧ litB (readQ wd) = true ∧ st.c.length < 4096 ∧ stepW v n.toNat st wd = (0, ⟨st.cls, st.c ++ [readQ wd], true⟩)) := by
  obtain ⟨⟨k, hk⟩, _⟩ := h
  have hfew := hk.few
  have hcur := hk.cur.1
  by_cases hw : wd = [48]
  · subst hw
    rw [readQ_zero]
    have hvar : varL 0 = 0 := rfl
    rw [hvar]
    have hst : stepW v n.toNat st [48] = if st.cls.length = n.toNat then (63, st) else (0, ⟨st.cls ++ [st.c], [], false⟩) := by
      unfold stepW
      rw [if_pos rfl]
      dsimp only
      rw [if_neg (by show ¬ v < ((0 : Int).natAbs : Int); simp; omega)]
      split
      · rfl
      · rw [if_neg (fun h => h.1 rfl), if_pos rfl]
    rw [hst]
    by_cases hc : st.cls.length = n.toNat
    · exact .inr (.inr (.inl ⟨.inr rfl, by omega, by omega, by rw [if_pos hc]⟩))
    · exact .inr (.inr (.inr (.inl ⟨rfl, by omega, by omega, by rw [if_neg hc]⟩)))
  · cases hl : litW wd with
    | none =>
      refine .inl ⟨by rw [readQ_lit, hl], hw, ?_⟩
      unfold stepW
      rw [if_neg hw, hl]
    | some l =>
      obtain ⟨hlb, _⟩ := (litW_iff _ _).1 hl
      have hx : readQ wd = l := by rw [readQ_lit, hl]
      have hl0 := (lit_parts hlb).1
      rw [hx]
      have hvar : varL l = (l.natAbs : Int) := by unfold varL; rw [hlb, if_pos rfl]
      rw [hvar]
      have hst : stepW v n.toNat st wd = if v < (l.natAbs : Int) then (62, st) else if st.cls.length = n.toNat then (63, st) else if st.c.length = 4096 then (5, st) else (0, ⟨st.cls, st.c ++ [l], true⟩) := by
        unfold stepW
        rw [if_neg hw, hl]
        dsimp only
        split
        · rfl
        · split
          · rfl
          · by_cases h4 : st.c.length = 4096
            · rw [if_pos ⟨hw, h4⟩, if_pos h4]
            · rw [if_neg (fun h => h4 h.2), if_neg h4]
      rw [hst]
      by_cases h1 : v < (l.natAbs : Int)
      · exact .inr (.inl ⟨.inl hl0, h1, by rw [if_pos h1]⟩)
      · rw [if_neg h1]
        by_cases h2 : st.cls.length = n.toNat
        · exact .inr (.inr (.inl ⟨.inl hl0, h1, by omega, by rw [if_pos h2]⟩))
        · rw [if_neg h2]
          by_cases h3 : st.c.length = 4096
          · exact .inr (.inr (.inr (.inr (.inl ⟨hl0, hw, h1, by omega, hlb, h3, by rw [if_pos h3]⟩))))
          · exact .inr (.inr (.inr (.inr (.inr ⟨hl0, hw, h1, by omega, hlb, by omega, by rw [if_neg h3]⟩))))
theorem StI.step {v n : Int} {st st' : Rs} {wd : List UInt8} (h : StI v n st) (hs : stepW v n.toNat st wd = (0, st')) (hb : st'.begun = decide (st'.c ≠ [])) : StI v n st' := by
  obtain ⟨⟨k, hk⟩, _⟩ := h
  have h1 := rs_step hk (w := wd) (by rw [hs])
  rw [hs] at h1
  exact ⟨⟨k + 1, h1⟩, hb⟩
theorem clauseB_snoc {v n : Int} {st : Rs} {x : Int} (h : StI v n st) (hx : litB x = true) : clauseB (st.c ++ [x]) = decide (st.c.length < 4096) := by
  obtain ⟨⟨k, hk⟩, _⟩ := h
  have hl := hk.cur.1
  by_cases h4 : st.c.length < 4096
  · rw [decide_eq_true h4]
    refine clause_mk (by simp; omega) (fun l hl => ?_)
    rcases List.mem_append.1 hl with hl | hl
    · exact (lit_in (hk.cur.2 l hl)).1
    · rw [List.mem_singleton.1 hl]; exact hx
  · rw [decide_eq_false h4]
    unfold clauseB
    rw [decide_eq_false (by simp; omega)]
    rfl
theorem StI.i64 {v n : Int} {st : Rs} (h : StI v n st) : ∀ u ∈ st.c, I64 u := fun u hu => by
  obtain ⟨⟨k, hk⟩, _⟩ := h
  exact lit_i64 (lit_in (hk.cur.2 u hu)).1
/-- Where the lines have come to. -/
def LnI (R : Fm × Int × Int) (LL : List (List UInt8)) (i : Nat) (v n : Int) (st : Rs) : Prop :=
  (v = -1 ∧ n = 0 ∧ st = zRs ∧ headD 0 LL = headD i (LL.drop i)) ∨
  ((0 ≤ v ∧ v ≤ 1048576) ∧ (0 ≤ n ∧ n ≤ 262144) ∧ StI v n st ∧ endD v n.toNat LL.length (runW v n.toNat st (wordsD (LL.drop i) i)) = R)
def InI (R : Fm × Int × Int) (LL : List (List UInt8)) (ws : List (List UInt8)) (i k : Nat) (v n : Int) (st : Rs) : Prop :=
  StI v n st ∧ endD v n.toNat LL.length (runW v n.toNat st (((ws.drop k).map fun w => (i + 1, w)) ++ wordsD (LL.drop (i + 1)) (i + 1))) = R
section
variable {R : Fm × Int × Int} {LL : List (List UInt8)} {i : Nat} {v n : Int} {st : Rs} {l : List UInt8}
theorem drop_cons6 {L : List (List UInt8)} {i : Nat} {l : List UInt8} (h : L[i]? = some l) : L.drop i = l :: L.drop (i + 1) := by
  obtain ⟨hk', he⟩ := List.getElem?_eq_some_iff.1 h
  rw [← he, List.drop_eq_getElem_cons hk']
theorem LnI.over (h : LnI R LL i v n st) (hl : LL[i]? = some l) (ho : overD l = true) : LnI R LL (i + 1) v n st := by
  rcases h with ⟨h1, h2, h3, h4⟩ | ⟨h1, h2, h3, h4⟩
  · refine .inl ⟨h1, h2, h3, ?_⟩
    rw [h4, headD_step hl, if_pos ho]
  · refine .inr ⟨h1, h2, h3, ?_⟩
    rw [drop_cons6 hl] at h4
    unfold wordsD at h4
    rw [if_pos ho, List.nil_append] at h4
    exact h4
theorem LnI.pre (h : headD 0 LL = headD i (LL.drop i)) (hl : LL[i]? = some l) (ho : overD l = false) (hR : readL LL = R) :
    (match parseH l with | none => (F0, (i : Int) + 1, 60) | some (v, n) => endD v n.toNat LL.length (runW v n.toNat zRs (wordsD (LL.drop (i + 1)) (i + 1)))) = R := by
  rw [← hR]
  unfold readL
  rw [h, headD_step hl, if_neg (by rw [ho]; simp)]
  rfl
theorem LnI.words (h4 : endD v n.toNat LL.length (runW v n.toNat st (wordsD (LL.drop i) i)) = R) (hs : StI v n st) (hl : LL[i]? = some l) (ho : overD l = false) : InI R LL (wordsL l) i 0 v n st := by
  refine ⟨hs, ?_⟩
  rw [drop_cons6 hl] at h4
  unfold wordsD at h4
  rw [if_neg (by rw [ho]; simp)] at h4
  exact h4
theorem InI.err {ws : List (List UInt8)} {k : Nat} {wd : List UInt8} {e : Int} (h : InI R LL ws i k v n st) (hw : ws[k]? = some wd) (hs : stepW v n.toNat st wd = (e, st)) (he : e ≠ 0) : (F0, (i : Int) + 1, e) = R := by
  obtain ⟨_, h2⟩ := h
  rw [drop_cons6 hw, List.map_cons, List.cons_append, runW] at h2
  dsimp only at h2
  rw [hs] at h2
  dsimp only at h2
  rw [if_neg he] at h2
  unfold endD at h2
  dsimp only at h2
  rw [if_pos he] at h2
  rw [← h2, Prod.mk.injEq, Prod.mk.injEq]
  exact ⟨rfl, by omega, rfl⟩
theorem InI.next {ws : List (List UInt8)} {k : Nat} {wd : List UInt8} {st' : Rs} (h : InI R LL ws i k v n st) (hw : ws[k]? = some wd) (hs : stepW v n.toNat st wd = (0, st')) (hb : st'.begun = decide (st'.c ≠ [])) : InI R LL ws i (k + 1) v n st' := by
  obtain ⟨h1, h2⟩ := h
  refine ⟨h1.step hs hb, ?_⟩
  rw [drop_cons6 hw, List.map_cons, List.cons_append, runW] at h2
  dsimp only at h2
  rw [hs] at h2
  dsimp only at h2
  rw [if_pos rfl] at h2
  exact h2
theorem InI.last {ws : List (List UInt8)} {k : Nat} (h : InI R LL ws i k v n st) (hk : ws.length ≤ k) (hv : 0 ≤ v ∧ v ≤ 1048576) (hn : 0 ≤ n ∧ n ≤ 262144) : LnI R LL (i + 1) v n st := by
  obtain ⟨h1, h2⟩ := h
  rw [List.drop_eq_nil_of_le hk, List.map_nil, List.nil_append] at h2
  exact .inr ⟨hv, hn, h1, h2⟩
end
theorem readQ_err {w w' : World} {R : Fm × Int × Int} {i e : Int} (h : (F0, i, e) = R) (hb : Below w.heap.size w w') : ReadP w R (.returned (.tuple #[.agg #[.int .i64 0, .slice none 0 0], .int .i64 i, .int .i64 e])) w' := by
  subst h
  exact ⟨none, 0, 0, [], rfl, cls_nil _, rfl, hb⟩
theorem readQ_ok {w W' : World} {R : Fm × Int × Int} {v : Int} {A : Option Addr} {n c : Nat} {Q : List (SV × List Int)} {C : List (List Int)} (h : (⟨v, C⟩, 0, 0) = R) (hc : ClsAt W' A n Q) (hq : clsOf Q = C) (hb : Below w.heap.size w W') : ReadP w R (.returned (.tuple #[.agg #[.int .i64 v, .slice A n c], .int .i64 0, .int .i64 0])) W' := by
  subst h
  exact ⟨A, n, c, Q, rfl, hc, hq, hb⟩
theorem word_len {l wd : List UInt8} (h : wd ∈ wordsL l) : wd.length ≤ l.length := by
  unfold wordsL at h
  have h1 := (List.mem_filter.1 h).1
  have h2 := split_sum 32 l
  have h3 := le_sum6 (List.mem_map_of_mem (f := List.length) h1)
  have h4 : (Lib.split l [32]).length ≠ 0 := fun e => (split_spec 32 l).1 (List.eq_nil_of_length_eq_zero e)
  omega
theorem line_lenQ {t l : List UInt8} (h : l ∈ Lib.split t [10]) : l.length ≤ t.length := by
  have h2 := split_sum 10 t
  have h3 := le_sum6 (List.mem_map_of_mem (f := List.length) h)
  have h4 : (Lib.split t [10]).length ≠ 0 := fun e => (split_spec 10 t).1 (List.eq_nil_of_length_eq_zero e)
  omega
theorem str_eq (a b : List UInt8) : ((str a).toList == b) = decide (a = b) := by
  rw [toList_data, str_data]
  by_cases h : a = b
  · rw [decide_eq_true h]; simpa using h
  · rw [decide_eq_false h]; simpa using h

set_option maxRecDepth 100000 in
set_option maxHeartbeats 4000000 in
theorem readRC (s : ByteArray) (w : World) (hs : s.size ≤ 20000000) (R : Fm × Int × Int) (hR : Hid (readD s.data.toList = R)) :
    Calls Tryz.prog 43 #[.string s] w (ReadP w R) := by
  have HB0 : Hid (Below w.heap.size w ((w.alloc (.cells #[.int .i64 0, .slice none 0 0] 69)).alloc (.cells #[.int .i64 0, .slice none 0 0] 69))) := balloc (balloc (Below.refl _ _) _) _
  have HZ0 := Lib.hid ((Bk.new w 69 #[.int .i64 0, .slice none 0 0]).alloc (.cells #[.int .i64 0, .slice none 0 0] 69))
  have hn0 := Bk.new (w.alloc (.cells #[.int .i64 0, .slice none 0 0] 69)) 69 #[.int .i64 0, .slice none 0 0]
  rw [World.size_alloc] at hn0
  have HN0 := Lib.hid hn0
  have hsz0 : ((w.alloc (.cells #[.int .i64 0, .slice none 0 0] 69)).alloc (.cells #[.int .i64 0, .slice none 0 0] 69)).heap.size = w.heap.size + 2 := by simp
  clear hn0
  go_enter Tryz.func43, Tryz.ntmps43
  go_upto_region 2 with fail
  generalize ((w.alloc (.cells #[.int .i64 0, .slice none 0 0] 69)).alloc (.cells #[.int .i64 0, .slice none 0 0] 69)) = W0 at *
  obtain ⟨b, hb⟩ : ∃ b, w.heap.size = b := ⟨_, rfl⟩
  have hwb : w.heap.size ≤ b := by omega
  have hwb2 : b ≤ w.heap.size := by omega
  rw [hb] at HZ0 HN0 hsz0 ⊢
  clear hb
  by_cases hbig : 4194304 < s.size
  · have e1 : decide ((4194304 : Int) < (s.size : Int)) = true := by simp; omega
    have E : Hid ((F0, 0, 3) = R) := by
      show _ = _
      rw [← hR.out]
      unfold readD
      rw [data_len, if_pos hbig]
    clear hbig
    obtain ⟨y0, y1⟩ := cells2 HZ0.out
    obtain ⟨n0, n1⟩ := cells2 HN0.out
    have g0 := HZ0.out.frozen 0
    have g1 := HZ0.out.frozen 1
    have HF := Lib.hid (bk_put2 (v0 := .int .i64 0) (v1 := .slice none 0 0) HZ0.out)
    have HFB := Lib.hid (HB0.out.trans ((fr_put2 (w := W0) (a := b) (v0 := .int .i64 0) (v1 := .slice none 0 0)).below w.heap.size HB0.out.size (fun k hk e => by omega)))
    go_wp2_with fail
    generalize ((W0.setCell ⟨b, 0, none⟩ (.int .i64 0)).setCell ⟨b, 1, none⟩ (.slice none 0 0)) = WF at HF HFB ⊢
    obtain ⟨q0, q1⟩ := cells2 HF.out
    refine bodyPost_ret (v := .tuple #[.agg #[.int .i64 0, .slice none 0 0], .int .i64 0, .int .i64 3]) (by simp [results, Tryz.results43, go_sem, q0, q1]) rfl (readQ_err E.out HFB.out)
  · have e1 : decide ((4194304 : Int) < (s.size : Int)) = false := by simp; omega
    have E0 : Hid (readL (Lib.split s.data.toList [10]) = R) := by
      show _ = _
      rw [← hR.out]
      unfold readD
      rw [data_len, if_neg hbig]
    clear hbig
    go_wp2_with fail
    refine (splitQC s W0 hs).mono ?_
    rintro e w1 ⟨A6, nL, c6, rfl, ho, hl, hb1⟩
    have HWL := Lib.hid (WdR.of_own ho)
    obtain ⟨LL, hLL⟩ : ∃ LL, Lib.split s.data.toList [10] = LL := ⟨_, rfl⟩
    have HLS : Hid (∀ l ∈ LL, l.length ≤ 20000000) := by
      show ∀ l ∈ LL, _
      intro l hl
      rw [← hLL] at hl
      have := line_lenQ hl
      rw [data_len] at this
      omega
    rw [hLL] at HWL E0 hl
    have HLN := Lib.hid hl
    have HB1 := Lib.hid (bthen HB0.out hb1)
    have HZ1 := Lib.hid (bkbel HZ0.out hb1)
    have HN1 := Lib.hid (bkbel HN0.out hb1)
    have hnL : nL ≤ 20000001 := by
      have h1 := split_sum 10 s.data.toList
      rw [hLL, data_len] at h1
      omega
    have hb1s := hb1.size
    clear hLL ho hl hb1 HB0 HZ0 HN0
    have HO0 := Lib.hid (Bk.new w1 69 #[.int .i64 (-1), .slice none 0 0])
    have HBx : Hid (Below w1.heap.size w1 (w1.alloc (.cells #[.int .i64 (-1), .slice none 0 0] 69))) := balloc (Below.refl _ _) _
    obtain ⟨o, ho⟩ : ∃ o, w1.heap.size = o := ⟨_, rfl⟩
    have hob : b + 2 ≤ o := by omega
    have how : o ≤ w1.heap.size := by omega
    have how2 : w1.heap.size ≤ o := by omega
    have HS0 : Hid (RSt w1 o (-1) zRs none 0 (w1.alloc (.cells #[.int .i64 (-1), .slice none 0 0] 69))) := by
      have h1 := HO0.out
      rw [ho] at h1
      exact ⟨HBx.out.mono how, by rw [World.size_alloc]; omega, none, 0, [], o + 1, h1, World.ownsRow_nil _ _ _ _, rfl, Nat.le_refl _, by rw [World.size_alloc]; omega, fun p hp => (by cases hp), World.ownsRow_nil _ _ _ _⟩
    clear hsz0 hb1s HO0
    go_upto_region 9 with fail
    first | rw [ho] | skip
    clear ho
    generalize (w1.alloc (.cells #[.int .i64 (-1), .slice none 0 0] 69)) = W1 at *
    go_loopw [8, 9, 10] (fun v8 v9 v10 wr => ∃ (i : Nat) (v n : Int) (st : Rs) (A2 : Option Addr) (c2 : Nat), i ≤ nL ∧ v10 = .int .i64 i ∧ v8 = .int .i64 n ∧ v9 = .slice A2 st.c.length c2 ∧ Hid (LnI R LL i v n st) ∧ Hid (RSt w1 o v st A2 c2 wr)) (fun _ _ v10 _ => nL - (intOf v10).toNat)
    case atStart => exact ⟨0, -1, 0, zRs, none, 0, Nat.zero_le _, rfl, rfl, rfl, .inl ⟨rfl, rfl, rfl, rfl⟩, HS0⟩
    case round =>
      obtain ⟨i, v, n, st, A2, c2, hi, rfl, rfl, rfl, HL, HS⟩ := hrel
      have HBr : Hid (Below w.heap.size w wr) := HB1.out.trans (HS.out.bel.mono (by omega))
      have HZr := Lib.hid (HZ1.out.below HS.out.bel (by omega))
      have HNr := Lib.hid (HN1.out.below HS.out.bel (by omega))
      have hol := HS.out.lt
      have hwi : IntKind.i64.wrap ((i : Int) + 1) = (i : Int) + 1 := by rw [IntKind.wrap_i64]; omega
      by_cases hlt : i < nL
      · have e2 : decide ((i : Int) < (nL : Int)) = true := by simp; omega
        have hii : (i : Int) < (nL : Int) := by omega
        obtain ⟨l, hl⟩ : ∃ l, LL[i]? = some l := ⟨_, List.getElem?_eq_getElem (by rw [HLN.out]; exact hlt)⟩
        obtain ⟨q, rfl, hcl⟩ := (HWL.out.below (HS.out.bel.mono how2)).at hl
        have hls : (str l).size ≤ 20000000 := by rw [str_size]; exact HLS.out l (List.mem_of_getElem? hl)
        have HLK := Lib.hid hl
        obtain ⟨A, c, Q, B2, a4, _⟩ := HS.out.mem
        obtain ⟨x0, x1⟩ := cells2 a4
        clear hl a4
        have HOV := Lib.hid (overQC (str l) wr hls)
        rw [str_data] at HOV
        cases hov : overD l with
        | true =>
          have HL2 := Lib.hid (HL.out.over HLK.out hov)
          rw [hov] at HOV
          clear hov
          go_wp2_with fail
          refine HOV.out.mono ?_
          rintro e w' ⟨rfl, rfl⟩
          go_wp2_with fail
          go_roundw
          case rel => exact ⟨i + 1, v, n, st, A2, c2, by omega, by go_num, rfl, rfl, HL2, HS⟩
          case measure => simp [intOf]; omega
        | false =>
          rw [hov] at HOV
          rcases HL.out with ⟨p1, p2, p3, p4⟩ | ⟨p1, p2, p3, p4⟩
          · have hpre := LnI.pre p4 HLK.out hov E0.out
            subst p1 p2 p3
            clear p4 hov HL
            have hv0 : decide ((-1 : Int) < 0) = true := by decide
            have HH := Lib.hid (headQC (str l) wr hls)
            rw [str_data] at HH
            cases hp : parseH l with
            | none =>
              rw [hp] at hpre
              have E := Lib.hid hpre
              rw [headT_none hp] at HH
              clear hp hpre
              go_wp2_with fail
              refine HOV.out.mono ?_
              rintro e w' ⟨rfl, rfl⟩
              go_wp2_with fail
              refine HH.out.mono ?_
              rintro e w' ⟨rfl, m, rfl⟩
              have HZe := Lib.hid (HZr.out.drewN m)
              have HNe := Lib.hid (HNr.out.drewN m)
              have HBe := Lib.hid (bthen HBr.out (below_drewN (w := wr) m))
              clear x0 x1
              generalize wr.drewN m = wr at *
              obtain ⟨y0, y1⟩ := cells2 HZe.out
              obtain ⟨n0, n1⟩ := cells2 HNe.out
              have g0 := HZe.out.frozen 0
              have g1 := HZe.out.frozen 1
              have HF := Lib.hid (bk_put2 (v0 := .int .i64 0) (v1 := .slice none 0 0) HZe.out)
              have HFB := Lib.hid (HBe.out.trans ((fr_put2 (w := wr) (a := b) (v0 := .int .i64 0) (v1 := .slice none 0 0)).below w.heap.size HBe.out.size (fun k hk e => by omega)))
              go_wp2_with fail
              generalize ((wr.setCell ⟨b, 0, none⟩ (.int .i64 0)).setCell ⟨b, 1, none⟩ (.slice none 0 0)) = WF at HF HFB ⊢
              obtain ⟨q0, q1⟩ := cells2 HF.out
              refine bodyPost_ret (v := .tuple #[.agg #[.int .i64 0, .slice none 0 0], .int .i64 ((i : Int) + 1), .int .i64 60]) (by simp [results, Tryz.results43, go_sem, q0, q1]) rfl (readQ_err E.out HFB.out)
            | some p =>
              obtain ⟨v', n'⟩ := p
              rw [hp] at hpre
              dsimp only at hpre
              obtain ⟨hok, _⟩ := (parseH_iff _ _ _).1 hp
              obtain ⟨k1, k2, k3, k4⟩ := hdOk_parts hok
              have HL2 : Hid (LnI R LL (i + 1) v' n' zRs) := .inr ⟨⟨k1, k2⟩, ⟨k3, k4⟩, StI.zero _ _, hpre⟩
              rw [headT_some hp] at HH
              clear hp hpre hok
              go_wp2_with fail
              refine HOV.out.mono ?_
              rintro e w' ⟨rfl, rfl⟩
              go_wp2_with fail
              refine HH.out.mono ?_
              rintro e w' ⟨rfl, m, rfl⟩
              have HS2 := Lib.hid (HS.out.below (below_drewN (w := wr) m))
              clear x0 x1 HS
              generalize wr.drewN m = wr at *
              obtain ⟨A, c, Q, B2, a4, _⟩ := HS2.out.mem
              obtain ⟨x0, x1⟩ := cells2 a4
              have f0 := a4.frozen 0
              have HS3 := Lib.hid (HS2.out.hdr v').1
              clear a4
              go_wp2_with fail
              go_roundw
              case rel => exact ⟨i + 1, v', n', zRs, A2, c2, by omega, by go_num, rfl, rfl, HL2, HS3⟩
              case measure => simp [intOf]; omega
          · obtain ⟨v0, v1⟩ := p1
            obtain ⟨m0, m1⟩ := p2
            have HIN := Lib.hid (LnI.words p4 p3 HLK.out hov)
            clear p4 p3 hov HL
            have hv0 : decide (v < 0) = false := by simp; omega
            have hv0i : ¬ (v < 0) := by omega
            go_wp2_with fail
            refine HOV.out.mono ?_
            rintro e w' ⟨rfl, rfl⟩
            go_wp2_with fail
            refine (wordsQC (str l) wr hls).mono ?_
            rintro e w2 ⟨A14, nW, c14, rfl, hoW, hlW, hbW⟩
            rw [str_data] at hoW hlW
            have HS2 := Lib.hid (HS.out.below hbW)
            have HWW := Lib.hid (WdR.of_own hoW)
            have hnW : nW ≤ 20000001 := by have := wordsL_len l; rw [str_size] at hls; omega
            have HWS : Hid (∀ x ∈ wordsL l, x.length ≤ 20000000) := by
              show ∀ x ∈ wordsL l, _
              intro x hx
              have := word_len hx
              rw [str_size] at hls
              omega
            have HWN := Lib.hid hlW
            clear hoW hlW hbW x0 x1 HS hcl hol HZr HNr HBr HOV
            generalize wordsL l = WS at *
            go_upto_region 19 with fail
            go_loopw [9, 15] (fun v9 v15 wr2 => ∃ (k : Nat) (st2 : Rs) (A3 : Option Addr) (c3 : Nat), k ≤ nW ∧ v15 = .int .i64 k ∧ v9 = .slice A3 st2.c.length c3 ∧ Hid (InI R LL WS i k v n st2) ∧ Hid (RSt w1 o v st2 A3 c3 wr2) ∧ Hid (WdR wr2 A14 WS)) (fun _ v15 _ => nW - (intOf v15).toNat)
            case atStart => exact ⟨0, st, A2, c2, Nat.zero_le _, rfl, rfl, HIN, HS2, HWW⟩
            case round =>
              obtain ⟨k, st2, A3, c3, hk, rfl, rfl, HI, HT, HWD⟩ := hrel
              by_cases hkt : k < nW
              · have e3 : decide ((k : Int) < (nW : Int)) = true := by simp; omega
                have hki : (k : Int) < (nW : Int) := by omega
                obtain ⟨wd, hwd⟩ : ∃ x, WS[k]? = some x := ⟨_, List.getElem?_eq_getElem (by rw [HWN.out]; exact hkt)⟩
                obtain ⟨q2, rfl, hcw⟩ := HWD.out.at hwd
                have hws : (str wd).size ≤ 20000000 := by rw [str_size]; exact HWS.out wd (List.mem_of_getElem? hwd)
                have HWK := Lib.hid hwd
                clear hwd
                have HRQ := Lib.hid (readQC (str wd) wr hws)
                rw [str_data] at HRQ
                have HCS := Lib.hid (stepQ_cases (wd := wd) v0 m0 HI.out.1)
                have hst4 : st2.c.length ≤ 4096 ∧ st2.cls.length ≤ 262144 := by
                  obtain ⟨⟨kk, hkk⟩, _⟩ := HI.out.1
                  have h1 := hkk.cur.1
                  have h2 := hkk.few
                  omega
                obtain ⟨x, hx⟩ : ∃ x, readQ wd = x := ⟨_, rfl⟩
                rw [hx] at HRQ HCS
                have HX := Lib.hid hx
                clear hx
                go_wp2_with fail
                refine HRQ.out.mono ?_
                rintro e w' ⟨rfl, m, rfl⟩
                have HT2 := Lib.hid (HT.out.below (below_drewN (w := wr) m))
                have HWD2 := Lib.hid (HWD.out.below (below_drewN (w := wr) m))
                clear HT HWD hcw HRQ
                generalize wr.drewN m = wr3 at *
                obtain ⟨q3, hq3, hcw⟩ := HWD2.out.at HWK.out
                obtain rfl : q2 = q3 := by injection hq3 with h; injection h
                clear hq3
                have HB3 : Hid (Below w.heap.size w wr3) := HB1.out.trans (HT2.out.bel.mono (by omega))
                have HZ3 := Lib.hid (HZ1.out.below HT2.out.bel (by omega))
                have HN3 := Lib.hid (HN1.out.below HT2.out.bel (by omega))
                have hw48 : ((str wd).toList == [48]) = decide (wd = [48]) := str_eq _ _
                have hw48n : ((str wd).toList != [48]) = !decide (wd = [48]) := by rw [bne, hw48]
                rcases HCS.out with ⟨d1, d2, d3⟩ | ⟨d1, d3⟩ | ⟨d1, d3⟩ | ⟨d1, d3⟩ | ⟨d1, d3⟩ | ⟨d1, d3⟩
                · have E := Lib.hid (HI.out.err HWK.out d3 (by decide))
                  have hx0 : (x == 0) = true := by simpa using d1
                  rw [decide_eq_false d2] at hw48 hw48n
                  clear d1 d2 d3 HCS
                  obtain ⟨y0, y1⟩ := cells2 HZ3.out
                  obtain ⟨n0, n1⟩ := cells2 HN3.out
                  have g0 := HZ3.out.frozen 0
                  have g1 := HZ3.out.frozen 1
                  have HF := Lib.hid (bk_put2 (v0 := .int .i64 0) (v1 := .slice none 0 0) HZ3.out)
                  have HFB := Lib.hid (HB3.out.trans ((fr_put2 (w := wr3) (a := b) (v0 := .int .i64 0) (v1 := .slice none 0 0)).below w.heap.size HB3.out.size (fun k hk e => by omega)))
                  go_wp2_with fail
                  generalize ((wr3.setCell ⟨b, 0, none⟩ (.int .i64 0)).setCell ⟨b, 1, none⟩ (.slice none 0 0)) = WF at HF HFB ⊢
                  obtain ⟨q0, q1⟩ := cells2 HF.out
                  refine bodyPost_ret (v := .tuple #[.agg #[.int .i64 0, .slice none 0 0], .int .i64 ((i : Int) + 1), .int .i64 61]) (by simp [results, Tryz.results43, go_sem, q0, q1]) rfl (readQ_err E.out HFB.out)
                all_goals
                  obtain ⟨A, c, Q, B2, a4, a5, a6, a7, a8, a9, a11⟩ := HT2.out.mem
                  obtain ⟨x0, x1⟩ := cells2 a4
                  have hpl := a4.lt
                  have HA4 := Lib.hid a4
                  have HA5 := Lib.hid a5
                  have HA6 := Lib.hid a6
                  have HA9 := Lib.hid a9
                  have HA11 := Lib.hid a11
                  have HVQ : Hid (∀ W : World, Calls Tryz.prog 79 #[.int .i64 x] W fun e w' => e = .returned (.int .i64 (varL x)) ∧ w' = W) := fun W => (varQ x W).mono fun e w' h => ⟨h.1, h.2.symm⟩
                  clear a4 a5 a6 a9 a11 HCS
                · obtain ⟨d2, d3⟩ := d3
                  have E := Lib.hid (HI.out.err HWK.out d3 (by decide))
                  have hd : decide (v < varL x) = true := by simpa using d2
                  clear d2 d3
                  obtain ⟨d0, hd0⟩ : ∃ d0 : Bool, decide (v < varL x) = d0 := ⟨_, rfl⟩
                  have HD0 := Lib.hid hd0
                  have hd0v : d0 = decide (v < varL x) := hd0.symm
                  rw [hd] at hd0v
                  clear hd0 hd
                  go_upto_region 22 with fail
                  go_cut [80] (fun v80 wx => v80 = .bool false ∧ wr3 = wx)
                  case first =>
                    by_cases hxz2 : x = 0
                    · have hxa : (x == 0) = true := by simpa using hxz2
                      have hw48t : wd = [48] := by
                        rcases d1 with d1 | d1
                        · exact absurd hxz2 d1
                        · exact d1
                      rw [decide_eq_true hw48t] at hw48 hw48n
                      clear hxz2 hw48t d1
                      go_wp2_with fail
                      go_meet
                      exact ⟨rfl, rfl⟩
                    · have hxa : (x == 0) = false := by simpa using hxz2
                      clear hxz2 d1
                      go_wp2_with fail
                      go_meet
                      exact ⟨rfl, rfl⟩
                  case rest =>
                  obtain ⟨rfl, rfl⟩ := hcut
                  go_upto_region 24 with fail
                  go_cut [88] (fun v88 wx => v88 = .bool d0 ∧ Hid (Below wr3.heap.size wr3 wx))
                  case first =>
                    go_quiet ((go_at_call 79; with_reducible exact Calls.quiet_of_same (HVQ.out _)))
                    go_wp2_with fail
                    go_meet
                    exact ⟨by rw [HD0.out], below_drewN _ _⟩
                  case rest =>
                  obtain ⟨rfl, hbx⟩ := hcut
                  have HT3 := Lib.hid (HT2.out.below hbx.out)
                  have HWD3 := Lib.hid (HWD2.out.below hbx.out)
                  have HZ4 := Lib.hid (bkbel HZ3.out hbx.out)
                  have HN4 := Lib.hid (bkbel HN3.out hbx.out)
                  have HB4 := Lib.hid (bthen HB3.out hbx.out)
                  clear HT2 HWD2 HZ3 HN3 HB3 x0 x1 hpl HA4 HA5 HA6 HA9 HA11 a7 a8 hcw hbx HD0 hw48 hw48n
                  have HT2 := HT3
                  have HZ3 := HZ4
                  have HN3 := HN4
                  have HB3 := HB4
                  clear HT3 HZ4 HN4 HB4
                  generalize wc = wr at *
                  subst hd0v
                  obtain ⟨A, c, Q, B2, a4, a5, a6, a7, a8, a9, a11⟩ := HT2.out.mem
                  obtain ⟨x0, x1⟩ := cells2 a4
                  have hpl := a4.lt
                  have HA4 := Lib.hid a4
                  have HA5 := Lib.hid a5
                  have HA6 := Lib.hid a6
                  have HA9 := Lib.hid a9
                  have HA11 := Lib.hid a11
                  clear a4 a5 a6 a9 a11
                  obtain ⟨y0, y1⟩ := cells2 HZ3.out
                  obtain ⟨n0, n1⟩ := cells2 HN3.out
                  have g0 := HZ3.out.frozen 0
                  have g1 := HZ3.out.frozen 1
                  have HF := Lib.hid (bk_put2 (v0 := .int .i64 0) (v1 := .slice none 0 0) HZ3.out)
                  have HFB := Lib.hid (HB3.out.trans ((fr_put2 (w := wr) (a := b) (v0 := .int .i64 0) (v1 := .slice none 0 0)).below w.heap.size HB3.out.size (fun k hk e => by omega)))
                  go_wp2_with fail
                  generalize ((wr.setCell ⟨b, 0, none⟩ (.int .i64 0)).setCell ⟨b, 1, none⟩ (.slice none 0 0)) = WF at HF HFB ⊢
                  obtain ⟨q0, q1⟩ := cells2 HF.out
                  refine bodyPost_ret (v := .tuple #[.agg #[.int .i64 0, .slice none 0 0], .int .i64 ((i : Int) + 1), .int .i64 62]) (by simp [results, Tryz.results43, go_sem, q0, q1]) rfl (readQ_err E.out HFB.out)
                · obtain ⟨d2, d3, d4⟩ := d3
                  have E := Lib.hid (HI.out.err HWK.out d4 (by decide))
                  have hd : decide (v < varL x) = false := by simpa using d2
                  have hge : decide (n ≤ (st2.cls.length : Int)) = true := by simp; omega
                  have hgi : n ≤ (st2.cls.length : Int) := by omega
                  clear d2 d3 d4
                  obtain ⟨d0, hd0⟩ : ∃ d0 : Bool, decide (v < varL x) = d0 := ⟨_, rfl⟩
                  have HD0 := Lib.hid hd0
                  have hd0v : d0 = decide (v < varL x) := hd0.symm
                  rw [hd] at hd0v
                  clear hd0 hd
                  go_upto_region 22 with fail
                  go_cut [80] (fun v80 wx => v80 = .bool false ∧ wr3 = wx)
                  case first =>
                    by_cases hxz2 : x = 0
                    · have hxa : (x == 0) = true := by simpa using hxz2
                      have hw48t : wd = [48] := by
                        rcases d1 with d1 | d1
                        · exact absurd hxz2 d1
                        · exact d1
                      rw [decide_eq_true hw48t] at hw48 hw48n
                      clear hxz2 hw48t d1
                      go_wp2_with fail
                      go_meet
                      exact ⟨rfl, rfl⟩
                    · have hxa : (x == 0) = false := by simpa using hxz2
                      clear hxz2 d1
                      go_wp2_with fail
                      go_meet
                      exact ⟨rfl, rfl⟩
                  case rest =>
                  obtain ⟨rfl, rfl⟩ := hcut
                  go_upto_region 24 with fail
                  go_cut [88] (fun v88 wx => v88 = .bool d0 ∧ Hid (Below wr3.heap.size wr3 wx))
                  case first =>
                    go_quiet ((go_at_call 79; with_reducible exact Calls.quiet_of_same (HVQ.out _)))
                    go_wp2_with fail
                    go_meet
                    exact ⟨by rw [HD0.out], below_drewN _ _⟩
                  case rest =>
                  obtain ⟨rfl, hbx⟩ := hcut
                  have HT3 := Lib.hid (HT2.out.below hbx.out)
                  have HWD3 := Lib.hid (HWD2.out.below hbx.out)
                  have HZ4 := Lib.hid (bkbel HZ3.out hbx.out)
                  have HN4 := Lib.hid (bkbel HN3.out hbx.out)
                  have HB4 := Lib.hid (bthen HB3.out hbx.out)
                  clear HT2 HWD2 HZ3 HN3 HB3 x0 x1 hpl HA4 HA5 HA6 HA9 HA11 a7 a8 hcw hbx HD0 hw48 hw48n
                  have HT2 := HT3
                  have HZ3 := HZ4
                  have HN3 := HN4
                  have HB3 := HB4
                  clear HT3 HZ4 HN4 HB4
                  generalize wc = wr at *
                  subst hd0v
                  obtain ⟨A, c, Q, B2, a4, a5, a6, a7, a8, a9, a11⟩ := HT2.out.mem
                  obtain ⟨x0, x1⟩ := cells2 a4
                  have hpl := a4.lt
                  have HA4 := Lib.hid a4
                  have HA5 := Lib.hid a5
                  have HA6 := Lib.hid a6
                  have HA9 := Lib.hid a9
                  have HA11 := Lib.hid a11
                  clear a4 a5 a6 a9 a11
                  obtain ⟨y0, y1⟩ := cells2 HZ3.out
                  obtain ⟨n0, n1⟩ := cells2 HN3.out
                  have g0 := HZ3.out.frozen 0
                  have g1 := HZ3.out.frozen 1
                  have HF := Lib.hid (bk_put2 (v0 := .int .i64 0) (v1 := .slice none 0 0) HZ3.out)
                  have HFB := Lib.hid (HB3.out.trans ((fr_put2 (w := wr) (a := b) (v0 := .int .i64 0) (v1 := .slice none 0 0)).below w.heap.size HB3.out.size (fun k hk e => by omega)))
                  go_wp2_with fail
                  generalize ((wr.setCell ⟨b, 0, none⟩ (.int .i64 0)).setCell ⟨b, 1, none⟩ (.slice none 0 0)) = WF at HF HFB ⊢
                  obtain ⟨q0, q1⟩ := cells2 HF.out
                  refine bodyPost_ret (v := .tuple #[.agg #[.int .i64 0, .slice none 0 0], .int .i64 ((i : Int) + 1), .int .i64 63]) (by simp [results, Tryz.results43, go_sem, q0, q1]) rfl (readQ_err E.out HFB.out)
                · obtain ⟨d2, d3, d4⟩ := d3
                  have HI2 := Lib.hid (HI.out.next HWK.out d4 rfl)
                  have hd : decide (v < varL x) = false := by simpa using d2
                  have hge : decide (n ≤ (st2.cls.length : Int)) = false := by simp; omega
                  have hgi : ¬ (n ≤ (st2.cls.length : Int)) := by omega
                  have HXZ : Hid (x = 0) := by show _ = _; rw [← HX.out, d1]; exact readQ_zero
                  have hi64 := Lib.hid HI.out.1.i64
                  have d1' : x ≠ 0 ∨ wd = [48] := .inr d1
                  clear d1 d2 d3 d4
                  have d1 := d1'
                  clear d1'
                  obtain ⟨d0, hd0⟩ : ∃ d0 : Bool, decide (v < varL x) = d0 := ⟨_, rfl⟩
                  have HD0 := Lib.hid hd0
                  have hd0v : d0 = decide (v < varL x) := hd0.symm
                  rw [hd] at hd0v
                  clear hd0 hd
                  go_upto_region 22 with fail
                  go_cut [80] (fun v80 wx => v80 = .bool false ∧ wr3 = wx)
                  case first =>
                    by_cases hxz2 : x = 0
                    · have hxa : (x == 0) = true := by simpa using hxz2
                      have hw48t : wd = [48] := by
                        rcases d1 with d1 | d1
                        · exact absurd hxz2 d1
                        · exact d1
                      rw [decide_eq_true hw48t] at hw48 hw48n
                      clear hxz2 hw48t d1
                      go_wp2_with fail
                      go_meet
                      exact ⟨rfl, rfl⟩
                    · have hxa : (x == 0) = false := by simpa using hxz2
                      clear hxz2 d1
                      go_wp2_with fail
                      go_meet
                      exact ⟨rfl, rfl⟩
                  case rest =>
                  obtain ⟨rfl, rfl⟩ := hcut
                  go_upto_region 24 with fail
                  go_cut [88] (fun v88 wx => v88 = .bool d0 ∧ Hid (Below wr3.heap.size wr3 wx))
                  case first =>
                    go_quiet ((go_at_call 79; with_reducible exact Calls.quiet_of_same (HVQ.out _)))
                    go_wp2_with fail
                    go_meet
                    exact ⟨by rw [HD0.out], below_drewN _ _⟩
                  case rest =>
                  obtain ⟨rfl, hbx⟩ := hcut
                  have HT3 := Lib.hid (HT2.out.below hbx.out)
                  have HWD3 := Lib.hid (HWD2.out.below hbx.out)
                  have HZ4 := Lib.hid (bkbel HZ3.out hbx.out)
                  have HN4 := Lib.hid (bkbel HN3.out hbx.out)
                  have HB4 := Lib.hid (bthen HB3.out hbx.out)
                  clear HT2 HWD2 HZ3 HN3 HB3 x0 x1 hpl HA4 HA5 HA6 HA9 HA11 a7 a8 hcw hbx HD0 hw48 hw48n
                  have HT2 := HT3
                  have HZ3 := HZ4
                  have HN3 := HN4
                  have HB3 := HB4
                  clear HT3 HZ4 HN4 HB4
                  generalize wc = wr at *
                  subst hd0v
                  obtain ⟨A, c, Q, B2, a4, a5, a6, a7, a8, a9, a11⟩ := HT2.out.mem
                  obtain ⟨x0, x1⟩ := cells2 a4
                  have hpl := a4.lt
                  have HA4 := Lib.hid a4
                  have HA5 := Lib.hid a5
                  have HA6 := Lib.hid a6
                  have HA9 := Lib.hid a9
                  have HA11 := Lib.hid a11
                  clear a4 a5 a6 a9 a11
                  have hxq : (x == 0) = true := by simpa using HXZ.out
                  go_wp2_with (at_builtin; refine wpList_app el_ints6 rfl (.tmp 103) (.tmp 105) rfl (o + 1) (.slice A st2.cls.length c) st2.cls.length (Q.map slV) rfl (HA5.out.alloc _) (some ⟨wr.heap.size, 0, none⟩) 1 1 [.slice A3 st2.c.length c3] rfl (Rd.new _ #[_] _) rfl (by simp [Value.oneCell']) (by omega) (by simp; omega) ?_; intro A7 c7 w5 ho5 hg5 hat5; have hfl := HT2.out.flush HA4.out HA5.out HA6.out a7 a8 HA9.out HA11.out hi64.out hst4.1 hg5 ho5; have q1 := hfl.1.cell 1; have f1 := hfl.1.frozen 1; have HFL := Lib.hid hfl.2; clear hfl ho5 hg5 hat5)
                  go_roundw
                  case rel => exact ⟨k + 1, ⟨st2.cls ++ [st2.c], [], false⟩, none, 0, by omega, by go_num, rfl, HI2, HFL.out.1, HWD3.out.strs HFL.out.2.1⟩
                  case measure => simp [intOf]; omega
                · obtain ⟨d2, d3, d4, d5, d6, d7⟩ := d3
                  have E := Lib.hid (HI.out.err HWK.out d7 (by decide))
                  have hd : decide (v < varL x) = false := by simpa using d3
                  have hge : decide (n ≤ (st2.cls.length : Int)) = false := by simp; omega
                  have hgi : ¬ (n ≤ (st2.cls.length : Int)) := by omega
                  have hxz := d1
                  have hcb : Hid (clauseB (st2.c ++ [x]) = false) := by show _ = _; rw [clauseB_snoc HI.out.1 d5, decide_eq_false (by omega)]
                  have d1 : x ≠ 0 ∨ wd = [48] := .inl d1
                  clear d2 d3 d4 d5 d6 d7
                  obtain ⟨d0, hd0⟩ : ∃ d0 : Bool, decide (v < varL x) = d0 := ⟨_, rfl⟩
                  have HD0 := Lib.hid hd0
                  have hd0v : d0 = decide (v < varL x) := hd0.symm
                  rw [hd] at hd0v
                  clear hd0 hd
                  go_upto_region 22 with fail
                  go_cut [80] (fun v80 wx => v80 = .bool false ∧ wr3 = wx)
                  case first =>
                    by_cases hxz2 : x = 0
                    · have hxa : (x == 0) = true := by simpa using hxz2
                      have hw48t : wd = [48] := by
                        rcases d1 with d1 | d1
                        · exact absurd hxz2 d1
                        · exact d1
                      rw [decide_eq_true hw48t] at hw48 hw48n
                      clear hxz2 hw48t d1
                      go_wp2_with fail
                      go_meet
                      exact ⟨rfl, rfl⟩
                    · have hxa : (x == 0) = false := by simpa using hxz2
                      clear hxz2 d1
                      go_wp2_with fail
                      go_meet
                      exact ⟨rfl, rfl⟩
                  case rest =>
                  obtain ⟨rfl, rfl⟩ := hcut
                  go_upto_region 24 with fail
                  go_cut [88] (fun v88 wx => v88 = .bool d0 ∧ Hid (Below wr3.heap.size wr3 wx))
                  case first =>
                    go_quiet ((go_at_call 79; with_reducible exact Calls.quiet_of_same (HVQ.out _)))
                    go_wp2_with fail
                    go_meet
                    exact ⟨by rw [HD0.out], below_drewN _ _⟩
                  case rest =>
                  obtain ⟨rfl, hbx⟩ := hcut
                  have HT3 := Lib.hid (HT2.out.below hbx.out)
                  have HWD3 := Lib.hid (HWD2.out.below hbx.out)
                  have HZ4 := Lib.hid (bkbel HZ3.out hbx.out)
                  have HN4 := Lib.hid (bkbel HN3.out hbx.out)
                  have HB4 := Lib.hid (bthen HB3.out hbx.out)
                  clear HT2 HWD2 HZ3 HN3 HB3 x0 x1 hpl HA4 HA5 HA6 HA9 HA11 a7 a8 hcw hbx HD0 hw48 hw48n
                  have HT2 := HT3
                  have HZ3 := HZ4
                  have HN3 := HN4
                  have HB3 := HB4
                  clear HT3 HZ4 HN4 HB4
                  generalize wc = wr at *
                  subst hd0v
                  obtain ⟨A, c, Q, B2, a4, a5, a6, a7, a8, a9, a11⟩ := HT2.out.mem
                  obtain ⟨x0, x1⟩ := cells2 a4
                  have hpl := a4.lt
                  have HA4 := Lib.hid a4
                  have HA5 := Lib.hid a5
                  have HA6 := Lib.hid a6
                  have HA9 := Lib.hid a9
                  have HA11 := Lib.hid a11
                  clear a4 a5 a6 a9 a11
                  have hxq : (x == 0) = false := by simpa using hxz
                  clear hxz
                  go_upto_region 31 with fail
                  go_wp2_with (at_builtin; refine wpList_app el_int6 rfl (.tmp 108) (.tmp 110) rfl B2 (.slice A3 st2.c.length c3) st2.c.length _ rfl (HA11.out.alloc _) (some ⟨wr.heap.size, 0, none⟩) 1 1 [.int .i64 x] rfl (Rd.new _ #[_] _) rfl (by simp [Value.oneCell']) (by omega) (by simp; omega) ?_; intro A7 c7 w5 ho5 hg5 hat5; have HP5 := Lib.hid (HT2.out.push HA4.out HA5.out HA6.out a7 a8 HA9.out HA11.out hg5 ho5); have HR5 : Hid (Rd w5 A7 ((st2.c ++ [x]).map (Value.int .i64))) := (by have h9 := Rd.of_own ho5; rw [List.map_append]; exact h9); clear ho5 hg5 hat5; skip)
                  have HZ5 := Lib.hid (HZ3.out.below HP5.out.2.2 (by omega))
                  have HN5 := Lib.hid (HN3.out.below HP5.out.2.2 (by omega))
                  have HB5 : Hid (Below w.heap.size w w5) := HB3.out.trans (HP5.out.2.2.mono (by omega))
                  go_wp2_with fail
                  refine (clauseRightQ A7 (st2.c.length + 1) c7 (st2.c ++ [x]) w5 HR5 (Lib.hid (by simp)) (by omega)).mono ?_
                  rintro e w' ⟨rfl, rfl⟩
                  rw [hcb.out]
                  obtain ⟨y0, y1⟩ := cells2 HZ5.out
                  obtain ⟨n0, n1⟩ := cells2 HN5.out
                  have g0 := HZ5.out.frozen 0
                  have g1 := HZ5.out.frozen 1
                  have HF := Lib.hid (bk_put2 (v0 := .int .i64 0) (v1 := .slice none 0 0) HZ5.out)
                  have HFB := Lib.hid (HB5.out.trans ((fr_put2 (w := w5) (a := b) (v0 := .int .i64 0) (v1 := .slice none 0 0)).below w.heap.size HB5.out.size (fun k hk e => by omega)))
                  go_wp2_with fail
                  generalize ((w5.setCell ⟨b, 0, none⟩ (.int .i64 0)).setCell ⟨b, 1, none⟩ (.slice none 0 0)) = WF at HF HFB ⊢
                  obtain ⟨q0, q1⟩ := cells2 HF.out
                  refine bodyPost_ret (v := .tuple #[.agg #[.int .i64 0, .slice none 0 0], .int .i64 ((i : Int) + 1), .int .i64 5]) (by simp [results, Tryz.results43, go_sem, q0, q1]) rfl (readQ_err E.out HFB.out)
                · obtain ⟨d2, d3, d4, d5, d6, d7⟩ := d3
                  have HI2 := Lib.hid (HI.out.next HWK.out d7 (by simp))
                  have hd : decide (v < varL x) = false := by simpa using d3
                  have hge : decide (n ≤ (st2.cls.length : Int)) = false := by simp; omega
                  have hgi : ¬ (n ≤ (st2.cls.length : Int)) := by omega
                  have hxz := d1
                  have hcb : Hid (clauseB (st2.c ++ [x]) = true) := by show _ = _; rw [clauseB_snoc HI.out.1 d5, decide_eq_true d6]
                  have d1 : x ≠ 0 ∨ wd = [48] := .inl d1
                  clear d2 d3 d4 d5 d7
                  obtain ⟨d0, hd0⟩ : ∃ d0 : Bool, decide (v < varL x) = d0 := ⟨_, rfl⟩
                  have HD0 := Lib.hid hd0
                  have hd0v : d0 = decide (v < varL x) := hd0.symm
                  rw [hd] at hd0v
                  clear hd0 hd
                  go_upto_region 22 with fail
                  go_cut [80] (fun v80 wx => v80 = .bool false ∧ wr3 = wx)
                  case first =>
                    by_cases hxz2 : x = 0
                    · have hxa : (x == 0) = true := by simpa using hxz2
                      have hw48t : wd = [48] := by
                        rcases d1 with d1 | d1
                        · exact absurd hxz2 d1
                        · exact d1
                      rw [decide_eq_true hw48t] at hw48 hw48n
                      clear hxz2 hw48t d1
                      go_wp2_with fail
                      go_meet
                      exact ⟨rfl, rfl⟩
                    · have hxa : (x == 0) = false := by simpa using hxz2
                      clear hxz2 d1
                      go_wp2_with fail
                      go_meet
                      exact ⟨rfl, rfl⟩
                  case rest =>
                  obtain ⟨rfl, rfl⟩ := hcut
                  go_upto_region 24 with fail
                  go_cut [88] (fun v88 wx => v88 = .bool d0 ∧ Hid (Below wr3.heap.size wr3 wx))
                  case first =>
                    go_quiet ((go_at_call 79; with_reducible exact Calls.quiet_of_same (HVQ.out _)))
                    go_wp2_with fail
                    go_meet
                    exact ⟨by rw [HD0.out], below_drewN _ _⟩
                  case rest =>
                  obtain ⟨rfl, hbx⟩ := hcut
                  have HT3 := Lib.hid (HT2.out.below hbx.out)
                  have HWD3 := Lib.hid (HWD2.out.below hbx.out)
                  have HZ4 := Lib.hid (bkbel HZ3.out hbx.out)
                  have HN4 := Lib.hid (bkbel HN3.out hbx.out)
                  have HB4 := Lib.hid (bthen HB3.out hbx.out)
                  clear HT2 HWD2 HZ3 HN3 HB3 x0 x1 hpl HA4 HA5 HA6 HA9 HA11 a7 a8 hcw hbx HD0 hw48 hw48n
                  have HT2 := HT3
                  have HZ3 := HZ4
                  have HN3 := HN4
                  have HB3 := HB4
                  clear HT3 HZ4 HN4 HB4
                  generalize wc = wr at *
                  subst hd0v
                  obtain ⟨A, c, Q, B2, a4, a5, a6, a7, a8, a9, a11⟩ := HT2.out.mem
                  obtain ⟨x0, x1⟩ := cells2 a4
                  have hpl := a4.lt
                  have HA4 := Lib.hid a4
                  have HA5 := Lib.hid a5
                  have HA6 := Lib.hid a6
                  have HA9 := Lib.hid a9
                  have HA11 := Lib.hid a11
                  clear a4 a5 a6 a9 a11
                  have hxq : (x == 0) = false := by simpa using hxz
                  clear hxz
                  go_upto_region 31 with fail
                  go_wp2_with (at_builtin; refine wpList_app el_int6 rfl (.tmp 108) (.tmp 110) rfl B2 (.slice A3 st2.c.length c3) st2.c.length _ rfl (HA11.out.alloc _) (some ⟨wr.heap.size, 0, none⟩) 1 1 [.int .i64 x] rfl (Rd.new _ #[_] _) rfl (by simp [Value.oneCell']) (by omega) (by simp; omega) ?_; intro A7 c7 w5 ho5 hg5 hat5; have HP5 := Lib.hid (HT2.out.push HA4.out HA5.out HA6.out a7 a8 HA9.out HA11.out hg5 ho5); have HR5 : Hid (Rd w5 A7 ((st2.c ++ [x]).map (Value.int .i64))) := (by have h9 := Rd.of_own ho5; rw [List.map_append]; exact h9); clear ho5 hg5 hat5; skip)
                  go_wp2_with fail
                  refine (clauseRightQ A7 (st2.c.length + 1) c7 (st2.c ++ [x]) w5 HR5 (Lib.hid (by simp)) (by omega)).mono ?_
                  rintro e w' ⟨rfl, rfl⟩
                  rw [hcb.out]
                  go_wp2_with fail
                  go_roundw
                  case rel =>
                    refine ⟨k + 1, ⟨st2.cls, st2.c ++ [x], true⟩, A7, c7, by omega, by go_num, ?_, HI2, HP5.out.1, HWD3.out.strs HP5.out.2.1⟩
                    rw [List.length_append]
                    rfl
                  case measure => simp [intOf]; omega
              · have e3 : decide ((k : Int) < (nW : Int)) = false := by simp; omega
                have HL2 := Lib.hid (HI.out.last (by rw [HWN.out]; omega) ⟨v0, v1⟩ ⟨m0, m1⟩)
                go_wp2_with fail
                go_roundw
                case rel => exact ⟨i + 1, v, n, st2, A3, c3, by omega, by go_num, rfl, rfl, HL2, HT⟩
                case measure => simp [intOf]; omega
      · have e2 : decide ((i : Int) < (nL : Int)) = false := by simp; omega
        have hin : i = nL := by omega
        have hwl : IntKind.i64.wrap ((nL : Int) + 1) = (nL : Int) + 1 := by rw [IntKind.wrap_i64]; omega
        rcases HL.out with ⟨p1, p2, p3, p4⟩ | ⟨⟨v0, v1⟩, ⟨m0, m1⟩, p3, p4⟩
        · subst p1 p2 p3
          have E : Hid ((F0, (nL : Int) + 1, 60) = R) := by
            show _ = _
            rw [List.drop_eq_nil_of_le (by rw [HLN.out]; omega)] at p4
            rw [← E0.out]
            unfold readL
            rw [p4, HLN.out]
            rfl
          have hv0 : decide ((-1 : Int) < 0) = true := by decide
          obtain ⟨A, c, Q, B2, a4, _⟩ := HS.out.mem
          obtain ⟨x0, x1⟩ := cells2 a4
          clear p4 a4 hin
          obtain ⟨y0, y1⟩ := cells2 HZr.out
          obtain ⟨n0, n1⟩ := cells2 HNr.out
          have g0 := HZr.out.frozen 0
          have g1 := HZr.out.frozen 1
          have HF := Lib.hid (bk_put2 (v0 := .int .i64 0) (v1 := .slice none 0 0) HZr.out)
          have HFB := Lib.hid (HBr.out.trans ((fr_put2 (w := wr) (a := b) (v0 := .int .i64 0) (v1 := .slice none 0 0)).below w.heap.size HBr.out.size (fun k hk e => by omega)))
          go_wp2_with fail
          generalize ((wr.setCell ⟨b, 0, none⟩ (.int .i64 0)).setCell ⟨b, 1, none⟩ (.slice none 0 0)) = WF at HF HFB ⊢
          obtain ⟨q0, q1⟩ := cells2 HF.out
          refine bodyPost_ret (v := .tuple #[.agg #[.int .i64 0, .slice none 0 0], .int .i64 ((nL : Int) + 1), .int .i64 60]) (by simp [results, Tryz.results43, go_sem, q0, q1]) rfl (readQ_err E.out HFB.out)
        · have hv0 : decide (v < 0) = false := by simp; omega
          have hv0i : ¬ (v < 0) := by omega
          have hrun : runW v n.toNat st (wordsD (LL.drop i) i) = (0, 0, st) := by
            rw [List.drop_eq_nil_of_le (by rw [HLN.out]; omega)]
            rfl
          rw [hrun, HLN.out] at p4
          have hfew : (st.cls.length : Int) ≤ n := by
            obtain ⟨⟨kk, hkk⟩, _⟩ := p3
            have := hkk.few
            omega
          have hbg := p3.2
          have hl26 : st.cls.length ≤ 262144 := by omega
          obtain ⟨A, c, Q, hbo, hcl, hqq⟩ := HS.out.out hl26 (fr_put2 (w := wr) (a := b) (v0 := .int .i64 v) (v1 := .slice none 0 0)) (fun k hk => (by rw [hk]; exact ⟨_, _, HZr.out⟩))
          clear hcl hqq
          obtain ⟨x0, x1⟩ := cells2 hbo
          have hpl := hbo.lt
          by_cases hc0 : st.c = []
          · have hc0l : decide ((0 : Int) < (st.c.length : Int)) = false := by rw [hc0]; rfl
            have hc0i : ¬ ((0 : Int) < (st.c.length : Int)) := by rw [hc0]; simp
            rw [hc0] at hbg
            by_cases hlt2 : (st.cls.length : Int) < n
            · have hd2 : decide ((st.cls.length : Int) < n) = true := by simpa using hlt2
              have E : Hid ((F0, (nL : Int) + 1, 63) = R) := by
                show _ = _
                rw [← p4]
                unfold endD
                rw [if_neg (by simp), if_pos (.inr (by show st.cls.length < n.toNat; omega))]
              clear p4 p3 hrun hbg hbo
              obtain ⟨y0, y1⟩ := cells2 HZr.out
              obtain ⟨n0, n1⟩ := cells2 HNr.out
              have g0 := HZr.out.frozen 0
              have g1 := HZr.out.frozen 1
              have HF := Lib.hid (bk_put2 (v0 := .int .i64 0) (v1 := .slice none 0 0) HZr.out)
              have HFB := Lib.hid (HBr.out.trans ((fr_put2 (w := wr) (a := b) (v0 := .int .i64 0) (v1 := .slice none 0 0)).below w.heap.size HBr.out.size (fun k hk e => by omega)))
              go_wp2_with fail
              generalize ((wr.setCell ⟨b, 0, none⟩ (.int .i64 0)).setCell ⟨b, 1, none⟩ (.slice none 0 0)) = WF at HF HFB ⊢
              obtain ⟨q0, q1⟩ := cells2 HF.out
              refine bodyPost_ret (v := .tuple #[.agg #[.int .i64 0, .slice none 0 0], .int .i64 ((nL : Int) + 1), .int .i64 63]) (by simp [results, Tryz.results43, go_sem, q0, q1]) rfl (readQ_err E.out HFB.out)
            · have hd2 : decide ((st.cls.length : Int) < n) = false := by simpa using hlt2
              have E : Hid ((⟨v, st.cls⟩, 0, 0) = R) := by
                show _ = _
                rw [← p4]
                unfold endD
                rw [if_neg (by simp), if_neg (by
                  rintro (h | h)
                  · have h' : st.begun = true := h
                    rw [hbg] at h'
                    simp at h'
                  · have h' : st.cls.length < n.toNat := h
                    omega)]
              obtain ⟨A', c', Q', hbo', hcl', hqq'⟩ := HS.out.out hl26 (fr_put2 (w := wr) (a := b) (v0 := .int .i64 v) (v1 := .slice A st.cls.length c)) (fun k hk => (by rw [hk]; exact ⟨_, _, HZr.out⟩))
              obtain ⟨rfl, rfl⟩ : A' = A ∧ c' = c := by
                have h1 := hbo'.cell 1
                rw [hbo.cell 1] at h1
                simp at h1
                exact ⟨h1.1.symm, h1.2.symm⟩
              have HCL := Lib.hid hcl'
              have HQQ := Lib.hid hqq'
              clear p4 p3 hrun hbg hbo hbo' hcl' hqq'
              obtain ⟨y0, y1⟩ := cells2 HZr.out
              have g0 := HZr.out.frozen 0
              have g1 := HZr.out.frozen 1
              have HF := Lib.hid (bk_put2 (v0 := .int .i64 v) (v1 := .slice A' st.cls.length c') HZr.out)
              have HFB := Lib.hid (HBr.out.trans ((fr_put2 (w := wr) (a := b) (v0 := .int .i64 v) (v1 := .slice A' st.cls.length c')).below w.heap.size HBr.out.size (fun k hk e => by omega)))
              go_wp2_with fail
              generalize ((wr.setCell ⟨b, 0, none⟩ (.int .i64 v)).setCell ⟨b, 1, none⟩ (.slice A' st.cls.length c')) = WF at HF HFB HCL ⊢
              obtain ⟨q0, q1⟩ := cells2 HF.out
              refine bodyPost_ret (v := .tuple #[.agg #[.int .i64 v, .slice A' st.cls.length c'], .int .i64 0, .int .i64 0]) (by simp [results, Tryz.results43, go_sem, q0, q1]) rfl (readQ_ok E.out HCL.out HQQ.out HFB.out)
          · have hcl0 : 0 < st.c.length := by
              rcases Nat.eq_zero_or_pos st.c.length with h | h
              · exact absurd (List.eq_nil_of_length_eq_zero h) hc0
              · exact h
            have hc0l : decide ((0 : Int) < (st.c.length : Int)) = true := by simp; omega
            have hc0i : (0 : Int) < (st.c.length : Int) := by omega
            have E : Hid ((F0, (nL : Int) + 1, 63) = R) := by
              show _ = _
              rw [← p4]
              unfold endD
              rw [if_neg (by simp), if_pos (.inl (by show st.begun = true; rw [hbg]; simpa using hc0))]
            clear p4 p3 hrun hbg hbo hc0
            obtain ⟨y0, y1⟩ := cells2 HZr.out
            obtain ⟨n0, n1⟩ := cells2 HNr.out
            have g0 := HZr.out.frozen 0
            have g1 := HZr.out.frozen 1
            have HF := Lib.hid (bk_put2 (v0 := .int .i64 0) (v1 := .slice none 0 0) HZr.out)
            have HFB := Lib.hid (HBr.out.trans ((fr_put2 (w := wr) (a := b) (v0 := .int .i64 0) (v1 := .slice none 0 0)).below w.heap.size HBr.out.size (fun k hk e => by omega)))
            go_wp2_with fail
            generalize ((wr.setCell ⟨b, 0, none⟩ (.int .i64 0)).setCell ⟨b, 1, none⟩ (.slice none 0 0)) = WF at HF HFB ⊢
            obtain ⟨q0, q1⟩ := cells2 HF.out
            refine bodyPost_ret (v := .tuple #[.agg #[.int .i64 0, .slice none 0 0], .int .i64 ((nL : Int) + 1), .int .i64 63]) (by simp [results, Tryz.results43, go_sem, q0, q1]) rfl (readQ_err E.out HFB.out)
end Go.Proofs.YtkpcpclaadgnbaaGreatDoor
