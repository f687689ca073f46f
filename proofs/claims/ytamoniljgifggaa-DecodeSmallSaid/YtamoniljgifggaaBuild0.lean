/-
  A result in numbers, the graph that is made of it, and what lies in memory while it is built.
-/
import Derived.Test.YtamoniljgifggaaBegin
import Derived.Test.YtamoniljgifggaaRefA
import Derived.Test.YtamoniljgifggaaRefT
set_option linter.unusedVariables false
set_option linter.unusedSimpArgs false
namespace Go.Proofs.Ytamoniljgifggaa
open Go.RowKit

theorem balloc {w w1 : World} (h : Below w.heap.size w w1) (o : Obj) : Below w.heap.size w (w1.alloc o) := h.alloc h.size o
theorem bkbel {w w' : World} {g : Nat} {t : TypeId} {cs : Array Value} (h : Bk w g t cs) (hb : Below w.heap.size w w') : Bk w' g t cs := h.below hb h.lt
theorem cells9 {w : World} {g : Nat} {t : TypeId} {v0 v1 v2 v3 v4 v5 v6 v7 v8 : Value} (h : Bk w g t #[v0, v1, v2, v3, v4, v5, v6, v7, v8]) : (w.cell? ⟨g, 0, none⟩ = some v0 ∧ w.cell? ⟨g, 1, none⟩ = some v1 ∧ w.cell? ⟨g, 2, none⟩ = some v2 ∧ w.cell? ⟨g, 3, none⟩ = some v3 ∧ w.cell? ⟨g, 4, none⟩ = some v4 ∧ w.cell? ⟨g, 5, none⟩ = some v5 ∧ w.cell? ⟨g, 6, none⟩ = some v6 ∧ w.cell? ⟨g, 7, none⟩ = some v7 ∧ w.cell? ⟨g, 8, none⟩ = some v8) ∧ (w.frozen? ⟨g, 0, none⟩ = false ∧ w.frozen? ⟨g, 1, none⟩ = false ∧ w.frozen? ⟨g, 2, none⟩ = false ∧ w.frozen? ⟨g, 3, none⟩ = false ∧ w.frozen? ⟨g, 4, none⟩ = false ∧ w.frozen? ⟨g, 5, none⟩ = false ∧ w.frozen? ⟨g, 6, none⟩ = false ∧ w.frozen? ⟨g, 7, none⟩ = false ∧ w.frozen? ⟨g, 8, none⟩ = false) :=
  ⟨⟨h.cell 0, h.cell 1, h.cell 2, h.cell 3, h.cell 4, h.cell 5, h.cell 6, h.cell 7, h.cell 8⟩, ⟨h.frozen 0, h.frozen 1, h.frozen 2, h.frozen 3, h.frozen 4, h.frozen 5, h.frozen 6, h.frozen 7, h.frozen 8⟩⟩
theorem cells10 {w : World} {g : Nat} {t : TypeId} {v0 v1 v2 v3 v4 v5 v6 v7 v8 v9 : Value} (h : Bk w g t #[v0, v1, v2, v3, v4, v5, v6, v7, v8, v9]) : (w.cell? ⟨g, 0, none⟩ = some v0 ∧ w.cell? ⟨g, 1, none⟩ = some v1 ∧ w.cell? ⟨g, 2, none⟩ = some v2 ∧ w.cell? ⟨g, 3, none⟩ = some v3 ∧ w.cell? ⟨g, 4, none⟩ = some v4 ∧ w.cell? ⟨g, 5, none⟩ = some v5 ∧ w.cell? ⟨g, 6, none⟩ = some v6 ∧ w.cell? ⟨g, 7, none⟩ = some v7 ∧ w.cell? ⟨g, 8, none⟩ = some v8 ∧ w.cell? ⟨g, 9, none⟩ = some v9) ∧ (w.frozen? ⟨g, 0, none⟩ = false ∧ w.frozen? ⟨g, 1, none⟩ = false ∧ w.frozen? ⟨g, 2, none⟩ = false ∧ w.frozen? ⟨g, 3, none⟩ = false ∧ w.frozen? ⟨g, 4, none⟩ = false ∧ w.frozen? ⟨g, 5, none⟩ = false ∧ w.frozen? ⟨g, 6, none⟩ = false ∧ w.frozen? ⟨g, 7, none⟩ = false ∧ w.frozen? ⟨g, 8, none⟩ = false ∧ w.frozen? ⟨g, 9, none⟩ = false) :=
  ⟨⟨h.cell 0, h.cell 1, h.cell 2, h.cell 3, h.cell 4, h.cell 5, h.cell 6, h.cell 7, h.cell 8, h.cell 9⟩, ⟨h.frozen 0, h.frozen 1, h.frozen 2, h.frozen 3, h.frozen 4, h.frozen 5, h.frozen 6, h.frozen 7, h.frozen 8, h.frozen 9⟩⟩
structure RawP where
  inp : Nat
  ands : List (Int × Int)
  words : List (List Int)
  ops : List OpR
  keep : List Int
  cached : List Int
  rules : List Int
  req : Int
  bey : Int
  hol : Int
structure RawV where
  A : SV
  W : SV
  S : List SV
  O : SV
  K : SV
  C : SV
  R : SV
def acells (L : List (Int × Int)) : List Value := L.flatMap fun p => [.int .i64 p.1, .int .i64 p.2]
theorem acells_length (L : List (Int × Int)) : (acells L).length = L.length * 2 := by
  induction L with
  | nil => rfl
  | cons x D ih => simp only [acells, List.flatMap_cons, List.length_append] at ih ⊢; rw [ih]; simp; omega
theorem acells_at (L : List (Int × Int)) (i : Nat) (x : Int × Int) (h : L[i]? = some x) :
    (acells L)[i * 2]? = some (.int .i64 x.1) ∧ (acells L)[i * 2 + 1]? = some (.int .i64 x.2) := by
  induction L generalizing i with
  | nil => simp at h
  | cons y L ih =>
    cases i with
    | zero =>
      simp at h
      subst h
      simp [acells]
    | succ i =>
      have := ih i (by simpa using h)
      have e1 : (i + 1) * 2 = i * 2 + 2 := by omega
      have e2 : (i + 1) * 2 + 1 = i * 2 + 1 + 2 := by omega
      rw [e2, e1]
      simpa [acells] using this
theorem Rd.pair {w : World} {A : Option Addr} {L : List (Int × Int)} {n i : Nat} (h : Rd w A (acells L)) (hl : L.length = n) (hi : i < n) :
    ∃ b off x, A = some ⟨b, off, none⟩ ∧ L[i]? = some x ∧ b < w.heap.size ∧ w.cell? ⟨b, off + i * 2, none⟩ = some (.int .i64 x.1) ∧ w.cell? ⟨b, off + i * 2 + 1, none⟩ = some (.int .i64 x.2) := by
  have hne : acells L ≠ [] := by
    intro e
    have := acells_length L
    rw [e] at this
    simp at this
    omega
  obtain ⟨b, off, rfl, hb, hc⟩ := h.cells hne
  have hx : L[i]? = some (L[i]'(by omega)) := List.getElem?_eq_getElem _
  obtain ⟨h1, h2⟩ := acells_at L i _ hx
  exact ⟨b, off, _, rfl, hx, hb, hc _ _ h1, hc _ _ h2⟩

structure RawAt (w : World) (v : RawV) (x : RawP) : Prop where
  inp : x.inp ≤ 255
  ands : Rd w v.A.A (acells x.ands)
  andsn : x.ands.length = v.A.n
  andsw : ∀ p ∈ x.ands, I64 p.1 ∧ I64 p.2
  words : ListsAt w v.W.A v.W.n v.S x.words
  ops : Rd w v.O.A (ocells x.ops)
  opsn : x.ops.length = v.O.n
  opsw : ∀ o ∈ x.ops, I64 o.done ∧ I64 o.sel ∧ I64 o.write ∧ 0 ≤ o.kind ∧ o.kind ≤ 255
  keep : IntsAt w v.K x.keep
  cached : IntsAt w v.C x.cached
  rules : IntsAt w v.R x.rules
  nums : I64 x.req ∧ I64 x.bey ∧ I64 x.hol
  small : v.A.n ≤ 40 ∧ v.W.n ≤ 20 ∧ v.O.n ≤ 20 ∧ v.K.n ≤ 20 ∧ v.C.n ≤ 20 ∧ v.R.n ≤ 20
theorem RawAt.below {w w' : World} {v : RawV} {x : RawP} (h : RawAt w v x) (hb : Below w.heap.size w w') : RawAt w' v x :=
  ⟨h.inp, h.ands.below hb, h.andsn, h.andsw, h.words.below hb, h.ops.below hb, h.opsn, h.opsw, h.keep.below hb, h.cached.below hb, h.rules.below hb, h.nums, h.small⟩

theorem tmod_bd (a k : Int) (h : 0 < k) : -k < a.tmod k ∧ a.tmod k < k := by
  have h1 := Int.tmod_lt_of_pos a h
  refine ⟨?_, h1⟩
  by_cases ha : 0 ≤ a
  · have := Int.tmod_nonneg k ha
    omega
  · have h3 := Int.tmod_lt_of_pos (-a) h
    rw [Int.neg_tmod] at h3
    omega
def nrm (a k : Int) : Int := (a.tmod k + k).tmod k
theorem nrm_bd (a k : Int) (h : 0 < k) : 0 ≤ nrm a k ∧ nrm a k < k := by
  have h1 := Int.tmod_lt_of_pos a h
  have h2 : -k < a.tmod k := by
    by_cases ha : 0 ≤ a
    · have := Int.tmod_nonneg k ha
      omega
    · have h3 := Int.tmod_lt_of_pos (-a) h
      rw [Int.neg_tmod] at h3
      omega
  unfold nrm
  rw [Int.tmod_eq_emod_of_nonneg (by omega)]
  exact ⟨Int.emod_nonneg _ (by omega), Int.emod_lt_of_pos _ h⟩
def gStep (G : List Nd) (p : Int × Int) : List Nd := (andG G (nrm p.1 (2 * G.length)) (nrm p.2 (2 * G.length))).1
def gInit (n : Nat) : List Nd := ⟨1, 0, 0⟩ :: List.replicate n ⟨2, 0, 0⟩
def gAnds (n : Nat) (L : List (Int × Int)) : List Nd := L.foldl gStep (gInit n)
def rawR (x : RawP) : Res := ⟨gAnds (x.inp % 24) x.ands, x.words, x.req, x.ops, x.keep, x.cached, x.rules, x.bey, x.hol⟩
theorem gInit_succ (n : Nat) : gInit (n + 1) = gInit n ++ [⟨2, 0, 0⟩] := by
  simp [gInit, List.replicate_succ']
theorem gInit_len (n : Nat) : (gInit n).length = n + 1 := by simp [gInit]
theorem gInit_ok (n : Nat) : GOk (gInit n) := by
  induction n with
  | zero =>
    intro i x hx
    cases i with
    | zero => simp [gInit] at hx; subst hx; simp
    | succ i => simp [gInit] at hx
  | succ n ih => rw [gInit_succ]; exact ih.snoc _ (by simp) (by simp)
theorem gAnds_snoc (n : Nat) (L : List (Int × Int)) (p : Int × Int) : gAnds n (L ++ [p]) = gStep (gAnds n L) p := by simp [gAnds]
theorem gAnds_fact (n : Nat) (L : List (Int × Int)) : GOk (gAnds n L) ∧ 0 < (gAnds n L).length ∧ (gAnds n L).length ≤ n + 1 + L.length := by
  have : ∀ (M : List (Int × Int)) (G : List Nd), GOk G → 0 < G.length → GOk (M.foldl gStep G) ∧ 0 < (M.foldl gStep G).length ∧ (M.foldl gStep G).length ≤ G.length + M.length := by
    intro M
    induction M with
    | nil => intro G h1 h2; exact ⟨h1, h2, by simp⟩
    | cons p M ih =>
      intro G h1 h2
      have hk : (0 : Int) < 2 * (G.length : Int) := by omega
      obtain ⟨a1, a2⟩ := nrm_bd p.1 _ hk
      obtain ⟨b1, b2⟩ := nrm_bd p.2 _ hk
      have hl := andG_len G (nrm p.1 (2 * G.length)) (nrm p.2 (2 * G.length))
      obtain ⟨c1, c2, c3⟩ := ih (gStep G p) (andG_ok h1 _ _ a1 a2 b1 b2) (by unfold gStep; omega)
      refine ⟨c1, c2, ?_⟩
      simp only [List.foldl_cons, List.length_cons]
      unfold gStep at c3 ⊢
      omega
  have h := this L (gInit n) (gInit_ok n) (by rw [gInit_len]; omega)
  rw [gInit_len] at h
  exact h

theorem GAt.off {w w' : World} {B g : Nat} {M : Int} {G : List Nd} {F : Nat → Prop} (h : GAt w B g M G) (hb : Fr F w w') (hF : ∀ k, F k → Safe w k) : GAt w' B g M G := by
  obtain ⟨nb, mb, c, iv, D, hD, h1, h2, hs, h3, h4, h5, h6⟩ := h
  have e1 : ∀ {t : TypeId} {k : Nat} {cs : Array Value}, w.heap[k]? = some (.cells cs t (0, 0)) → gType t → ¬ F k := by
    intro t k cs hk ht hf
    obtain ⟨cs', t', fr', h', hn⟩ := hF k hf
    rw [h'] at hk
    injection hk with hk
    injection hk with _ hk
    exact hn (hk ▸ ht)
  have e2 : ∀ {v : Value} {n size : Nat} {t : TypeId} {xs : List Value}, w.ownsRow B t size v n xs → gType t → ∀ k, v.ownBlock = some k → ¬ F k := by
    intro v n size t xs ho ht k hk
    rcases ho.2 with ⟨rfl, _⟩ | ⟨g', cap, cur, rfl, _, hh, _⟩
    · simp [Value.ownBlock] at hk
    · simp [Value.ownBlock] at hk
      subst hk
      exact e1 hh ht
  refine ⟨nb, mb, c, iv, D, hD, h1, h2, Nat.le_trans hs hb.size, h3.fr hb (e1 h3 (.inl rfl)), own_fr h4 hb (e2 h4 (.inr (.inl rfl))), h5.fr hb ?_, own_fr h6 hb (e2 h6 (.inr (.inr rfl)))⟩
  intro hf
  obtain ⟨cs', t', fr', h', hn⟩ := hF mb hf
  obtain ⟨es, ck, hm, _⟩ := h5
  rw [hm] at h'
  cases h'

theorem RdT.safe {w : World} {A : Option Addr} {t : TypeId} {xs : List Value} (h : RdT w A t xs) (ht : ¬ gType t) : ∀ b off, A = some ⟨b, off, none⟩ → b < 0 ∨ Safe w b := fun b off he => by
  obtain ⟨cs, fr, hb⟩ := h.ty b off he
  exact .inr ⟨cs, t, fr, hb, ht⟩
theorem RdT.gfr {B : Nat} {w w' : World} {A : Option Addr} {t : TypeId} {xs : List Value} (h : RdT w A t xs) (hf : GFr B w w') (ht : ¬ gType t) : RdT w' A t xs := by
  refine RdT.fr h hf ?_
  rintro b hb ⟨off, he⟩ hn
  rcases h.safe ht b off he with h0 | h0
  · omega
  · exact hn.2 h0
theorem RdT.put {w : World} {A : Option Addr} {t t' : TypeId} {xs : List Value} {g i : Nat} {cs : Array Value} (h : RdT w A t xs) (hb : Bk w g t' cs) (hne : t ≠ t') (u : Value) : RdT (w.setCell ⟨g, i, none⟩ u) A t xs := by
  refine h.fr (F := fun k => k = g) (Fr.setCell (Fr.refl (fun k => k = g) w) (p := ⟨g, i, none⟩) (.inl rfl) u) ?_
  rintro b _ ⟨off, he⟩ rfl
  obtain ⟨cs', fr, hh⟩ := h.ty b off he
  unfold Bk at hb
  rw [hh] at hb
  injection hb with hb
  injection hb with _ hb
  exact hne hb

theorem RdT.alloc {w : World} {A : Option Addr} {t : TypeId} {xs : List Value} (h : RdT w A t xs) (o : Obj) : RdT (w.alloc o) A t xs := h.below ((Below.refl _ w).alloc (Nat.le_refl _) o)
theorem bk_put9 {w : World} {a : Nat} {t : TypeId} {z0 z1 z2 z3 z4 z5 z6 z7 z8 v0 v1 v2 v3 v4 v5 v6 v7 v8 : Value} (h : Bk w a t #[z0, z1, z2, z3, z4, z5, z6, z7, z8]) : Bk (((((((((w.setCell ⟨a, 0, none⟩ v0).setCell ⟨a, 1, none⟩ v1).setCell ⟨a, 2, none⟩ v2).setCell ⟨a, 3, none⟩ v3).setCell ⟨a, 4, none⟩ v4).setCell ⟨a, 5, none⟩ v5).setCell ⟨a, 6, none⟩ v6).setCell ⟨a, 7, none⟩ v7).setCell ⟨a, 8, none⟩ v8) a t #[v0, v1, v2, v3, v4, v5, v6, v7, v8] := by
  have h1 := (((((((((h.put 0 v0).put 1 v1).put 2 v2).put 3 v3).put 4 v4).put 5 v5).put 6 v6).put 7 v7).put 8 v8)
  simp only [List.setIfInBounds_toArray, List.set_cons_succ, List.set_cons_zero] at h1
  exact h1
theorem rdT_put9 {w : World} {a : Nat} {t t' : TypeId} {A : Option Addr} {xs : List Value} {cs : Array Value} {v0 v1 v2 v3 v4 v5 v6 v7 v8 : Value} (h : RdT w A t xs) (hb : Bk w a t' cs) (hne : t ≠ t') : RdT (((((((((w.setCell ⟨a, 0, none⟩ v0).setCell ⟨a, 1, none⟩ v1).setCell ⟨a, 2, none⟩ v2).setCell ⟨a, 3, none⟩ v3).setCell ⟨a, 4, none⟩ v4).setCell ⟨a, 5, none⟩ v5).setCell ⟨a, 6, none⟩ v6).setCell ⟨a, 7, none⟩ v7).setCell ⟨a, 8, none⟩ v8) A t xs := by
  refine h.fr (F := fun k => k = a) ?_ ?_
  · exact Fr.setCell (Fr.setCell (Fr.setCell (Fr.setCell (Fr.setCell (Fr.setCell (Fr.setCell (Fr.setCell (Fr.setCell (Fr.refl (fun k => k = a) w) (p := ⟨a, 0, none⟩) (.inl rfl) v0) (p := ⟨a, 1, none⟩) (.inl rfl) v1) (p := ⟨a, 2, none⟩) (.inl rfl) v2) (p := ⟨a, 3, none⟩) (.inl rfl) v3) (p := ⟨a, 4, none⟩) (.inl rfl) v4) (p := ⟨a, 5, none⟩) (.inl rfl) v5) (p := ⟨a, 6, none⟩) (.inl rfl) v6) (p := ⟨a, 7, none⟩) (.inl rfl) v7) (p := ⟨a, 8, none⟩) (.inl rfl) v8
  · rintro b _ ⟨off, he⟩ rfl
    obtain ⟨cs', fr, hh⟩ := h.ty b off he
    unfold Bk at hb
    rw [hh] at hb
    injection hb with hb
    injection hb with _ hb
    exact hne hb
theorem below_put9 {B a : Nat} {w0 w : World} {v0 v1 v2 v3 v4 v5 v6 v7 v8 : Value} (h : Below B w0 w) (ha : B ≤ a) : Below B w0 (((((((((w.setCell ⟨a, 0, none⟩ v0).setCell ⟨a, 1, none⟩ v1).setCell ⟨a, 2, none⟩ v2).setCell ⟨a, 3, none⟩ v3).setCell ⟨a, 4, none⟩ v4).setCell ⟨a, 5, none⟩ v5).setCell ⟨a, 6, none⟩ v6).setCell ⟨a, 7, none⟩ v7).setCell ⟨a, 8, none⟩ v8) := (((((((((h.setCell (p := ⟨a, 0, none⟩) ha v0).setCell (p := ⟨a, 1, none⟩) ha v1).setCell (p := ⟨a, 2, none⟩) ha v2).setCell (p := ⟨a, 3, none⟩) ha v3).setCell (p := ⟨a, 4, none⟩) ha v4).setCell (p := ⟨a, 5, none⟩) ha v5).setCell (p := ⟨a, 6, none⟩) ha v6).setCell (p := ⟨a, 7, none⟩) ha v7).setCell (p := ⟨a, 8, none⟩) ha v8)
/-- While the two graphs are built. -/
structure BInv (B g rb : Nat) (Wb : World) (G : List Nd) (A : Option Addr) (n c : Nat) (wr : World) : Prop where
  bel : Below B Wb wr
  le : B ≤ rb
  g : GAt wr B g 400 G
  rd : RdT wr A 127 (rcells G)
  box : Bk wr rb 67 #[.int .i64 400, .slice A n c]
  len : G.length = n
theorem BInv.size {B g rb : Nat} {Wb : World} {G : List Nd} {A : Option Addr} {n c : Nat} {wr : World} (h : BInv B g rb Wb G A n c wr) : B ≤ wr.heap.size := Nat.le_trans h.le (Nat.le_of_lt h.box.lt)
theorem BInv.below {B g rb : Nat} {Wb : World} {G : List Nd} {A : Option Addr} {n c : Nat} {wr w' : World} (h : BInv B g rb Wb G A n c wr) (hb : Below wr.heap.size wr w') : BInv B g rb Wb G A n c w' :=
  ⟨h.bel.trans (hb.mono h.size), h.le, h.g.below hb, h.rd.below hb, h.box.below hb h.box.lt, h.len⟩
theorem BInv.next {B g rb : Nat} {Wb : World} {G G' : List Nd} {A A2 : Option Addr} {n c n2 c2 : Nat} {wr w1 w2 : World} (h : BInv B g rb Wb G A n c wr) (hg : GAt w1 B g 400 G') (hf : GFr B wr w1) (hb : Below w1.heap.size w1 w2) (hr : RdT w2 A2 127 (rcells G')) (hl : G'.length = n2) :
    BInv B g rb Wb G' A2 n2 c2 ((w2.setCell ⟨rb, 0, none⟩ (.int .i64 400)).setCell ⟨rb, 1, none⟩ (.slice A2 n2 c2)) := by
  have hng : ¬ gType 67 := by unfold gType; decide
  have b1 := h.box.gfr hf hng
  have b2 := b1.below hb b1.lt
  have b3 := b2.put 0 (.int .i64 400)
  have hB1 : B ≤ w1.heap.size := Nat.le_trans h.le (Nat.le_of_lt b1.lt)
  refine ⟨?_, h.le, ?_, ?_, b3.put 1 (.slice A2 n2 c2), hl⟩
  · exact (((h.bel.trans (hf.below h.size)).trans (hb.mono hB1)).setCell (p := ⟨rb, 0, none⟩) h.le _).setCell (p := ⟨rb, 1, none⟩) h.le _
  · have hfr := Fr.setCell (Fr.setCell (Fr.refl (fun k => k = rb) w2) (p := ⟨rb, 0, none⟩) (.inl rfl) (.int .i64 400)) (p := ⟨rb, 1, none⟩) (.inl rfl) (.slice A2 n2 c2)
    exact (hg.below hb).off hfr (fun k hk => by subst hk; exact Safe.bk b2 hng)
  · exact (hr.put b2 (by decide) _).put b3 (by decide) _
/-- What lies in memory when g has grown. -/
theorem BInv.grown {B g rb : Nat} {Wb : World} {G : List Nd} {A : Option Addr} {n c : Nat} {wr w1 : World} (h : BInv B g rb Wb G A n c wr) (hf : GFr B wr w1) : Bk w1 rb 67 #[.int .i64 400, .slice A n c] ∧ RdT w1 A 127 (rcells G) :=
  ⟨h.box.gfr hf (by unfold gType; decide), h.rd.gfr hf (by unfold gType; decide)⟩

theorem el_refs : El Try.prog 47 43 1 := El.mk' (z := .slice none 0 0) (bytes := 24) Try.underlying47 (by kernel_rfl) rfl (by omega) (by omega)
theorem el_qop : El Try.prog 68 131 4 := El.mk' (z := .agg #[.int .i64 0, .int .i64 0, .int .i64 0, .int .i64 0]) (bytes := 32) Try.underlying68 (by kernel_rfl) rfl (by omega) (by omega)
theorem RdT.grown {W W1 : World} {A : Option Addr} {t e : TypeId} {xs ys : List Value} {base size n : Nat} {v : Value} (h : RdT W A t xs) (ho : W.ownsRow base e size v n ys) (hne : t ≠ e) (hg : W.grownBy W1 v.ownBlock) : RdT W1 A t xs := by
  refine h.fr (F := fun k => v.ownBlock = some k) ((Fr.refl _ W).grown hg (fun k hk => .inl hk)) ?_
  rintro b _ ⟨off, he⟩ hk
  obtain ⟨cs', fr, hh⟩ := h.ty b off he
  rcases ho.2 with ⟨rfl, _⟩ | ⟨g', cap, cur, rfl, _, hg', _⟩
  · simp [Value.ownBlock] at hk
  · simp [Value.ownBlock] at hk
    subst hk
    rw [hh] at hg'
    injection hg' with hg'
    injection hg' with _ hg'
    exact hne hg'
/-- While the words are copied: only block a and new ones have changed since V. -/
structure LInv (a : Nat) (V : World) (AI : Option Addr) (k cI : Nat) (S : List SV) (L : List (List Int)) (wr : World) : Prop where
  fr : Fr (fun q => q = a) V wr
  own : wr.ownsRow V.heap.size 43 1 (.slice AI k cI) k (S.map SV.val)
  len : S.length = L.length
  inner : ∀ (i : Nat) (s : SV) (l : List Int), S[i]? = some s → L[i]? = some l → RdT wr s.A 35 (l.map (Value.int .i64)) ∧ l.length = s.n
theorem LInv.sn {a : Nat} {V : World} {AI : Option Addr} {k cI : Nat} {S : List SV} {L : List (List Int)} {wr : World} (h : LInv a V AI k cI S L wr) : S.length = k := by have := h.own.1; simpa using this
theorem LInv.below {a : Nat} {V : World} {AI : Option Addr} {k cI : Nat} {S : List SV} {L : List (List Int)} {wr w' : World} (h : LInv a V AI k cI S L wr) (hb : Below wr.heap.size wr w') : LInv a V AI k cI S L w' :=
  ⟨h.fr.trans (Fr.of_below hb), own_fr h.own (Fr.of_below (F := fun _ => False) hb) (fun _ _ h => h), h.len, fun i s l hs hl => ⟨(h.inner i s l hs hl).1.below hb, (h.inner i s l hs hl).2⟩⟩
theorem LInv.app {a : Nat} {V : World} {AI A1 A3 : Option Addr} {k cI n1 c1 c3 : Nat} {S : List SV} {L : List (List Int)} {l : List Int} {W W1 : World} (h : LInv a V AI k cI S L W) (hn : RdT W A1 35 (l.map (Value.int .i64))) (hl : l.length = n1)
    (ho : W1.ownsRow V.heap.size 43 1 (.slice A3 (k + 1) c3) (k + 1) (S.map SV.val ++ [.slice A1 n1 c1])) (hg : W.grownBy W1 (Value.slice AI k cI).ownBlock) : LInv a V A3 (k + 1) c3 (S ++ [⟨A1, n1, c1⟩]) (L ++ [l]) W1 := by
  refine ⟨h.fr.grown hg (fun q hq => .inr (h.own.lt q hq).1), by rw [List.map_append]; exact ho, by simp [h.len], ?_⟩
  intro i s l' hs hl'
  rcases Nat.lt_trichotomy i S.length with hi | hi | hi
  · rw [List.getElem?_append_left hi] at hs
    rw [List.getElem?_append_left (by rw [← h.len]; exact hi)] at hl'
    exact ⟨(h.inner i s l' hs hl').1.grown h.own (by decide) hg, (h.inner i s l' hs hl').2⟩
  · subst hi
    rw [List.getElem?_append_right (Nat.le_refl _)] at hs
    rw [List.getElem?_append_right (by rw [h.len]; exact Nat.le_refl _), h.len] at hl'
    simp at hs hl'
    subst hs hl'
    exact ⟨hn.grown h.own (by decide) hg, hl⟩
  · rw [List.getElem?_eq_none (by simp; omega)] at hs
    cases hs
theorem LInv.put {a i : Nat} {V : World} {AI : Option Addr} {k cI : Nat} {S : List SV} {L : List (List Int)} {W : World} {cs : Array Value} (h : LInv a V AI k cI S L W) (hb : Bk W a 49 cs) (u : Value) : LInv a V AI k cI S L (W.setCell ⟨a, i, none⟩ u) :=
  ⟨h.fr.setCell (p := ⟨a, i, none⟩) (.inl rfl) u, ownsRow_setCell_other h.own (a := ⟨a, i, none⟩) (fun e => own_ne h.own hb (by decide) e.symm) u, h.len, fun j s l hs hl => ⟨(h.inner j s l hs hl).1.put hb (by decide) u, (h.inner j s l hs hl).2⟩⟩
/-- While the operations are copied: only block q and new ones have changed since V. -/
structure QInv (q : Nat) (V : World) (AQ : Option Addr) (k cQ : Nat) (L : List OpR) (wr : World) : Prop where
  fr : Fr (fun x => x = q) V wr
  own : wr.ownsRow V.heap.size 131 4 (.slice AQ k cQ) k (qcells L)
theorem QInv.below {q : Nat} {V : World} {AQ : Option Addr} {k cQ : Nat} {L : List OpR} {wr w' : World} (h : QInv q V AQ k cQ L wr) (hb : Below wr.heap.size wr w') : QInv q V AQ k cQ L w' :=
  ⟨h.fr.trans (Fr.of_below hb), own_fr h.own (Fr.of_below (F := fun _ => False) hb) (fun _ _ h => h)⟩
theorem QInv.app {q : Nat} {V : World} {AQ A3 : Option Addr} {k cQ c3 : Nat} {L : List OpR} {o : OpR} {W W1 : World} (h : QInv q V AQ k cQ L W)
    (ho : W1.ownsRow V.heap.size 131 4 (.slice A3 (k + 1) c3) (k + 1) (qcells L ++ [.int .i64 o.kind, .int .i64 o.done, .int .i64 o.sel, .int .i64 o.write])) (hg : W.grownBy W1 (Value.slice AQ k cQ).ownBlock) : QInv q V A3 (k + 1) c3 (L ++ [o]) W1 :=
  ⟨h.fr.grown hg (fun x hx => .inr (h.own.lt x hx).1), by rw [show qcells (L ++ [o]) = qcells L ++ [.int .i64 o.kind, .int .i64 o.done, .int .i64 o.sel, .int .i64 o.write] from by simp [qcells, qcell]]; exact ho⟩
theorem QInv.put {q i : Nat} {V : World} {AQ : Option Addr} {k cQ : Nat} {L : List OpR} {W : World} {cs : Array Value} (h : QInv q V AQ k cQ L W) (hb : Bk W q 70 cs) (u : Value) : QInv q V AQ k cQ L (W.setCell ⟨q, i, none⟩ u) :=
  ⟨h.fr.setCell (p := ⟨q, i, none⟩) (.inl rfl) u, ownsRow_setCell_other h.own (a := ⟨q, i, none⟩) (fun e => own_ne h.own hb (by decide) e.symm) u⟩
theorem RdT.frT {w w' : World} {A : Option Addr} {t t' : TypeId} {xs : List Value} {a : Nat} {cs : Array Value} (h : RdT w A t xs) (hf : Fr (fun q => q = a) w w') (hb : Bk w a t' cs) (hne : t ≠ t') : RdT w' A t xs := by
  refine h.fr hf ?_
  rintro b _ ⟨off, he⟩ rfl
  obtain ⟨cs', fr, hh⟩ := h.ty b off he
  unfold Bk at hb
  rw [hh] at hb
  injection hb with hb
  injection hb with _ hb
  exact hne hb
theorem GAt.offB {w w' : World} {B g a : Nat} {M : Int} {G : List Nd} {t : TypeId} {cs : Array Value} (h : GAt w B g M G) (hf : Fr (fun q => q = a) w w') (hb : Bk w a t cs) (ht : ¬ gType t) : GAt w' B g M G :=
  h.off hf (fun k hk => by subst hk; exact Safe.bk hb ht)
theorem LInv.later {a q : Nat} {V : World} {AI : Option Addr} {k cI : Nat} {S : List SV} {L : List (List Int)} {W W1 : World} {cs : Array Value} (h : LInv a V AI k cI S L W) (hf : Fr (fun x => x = q) W W1) (hb : Bk W q 70 cs) :
    RdT W1 AI 43 (S.map SV.val) ∧ S.length = k ∧ S.length = L.length ∧ ∀ (i : Nat) (s : SV) (l : List Int), S[i]? = some s → L[i]? = some l → RdT W1 s.A 35 (l.map (Value.int .i64)) ∧ l.length = s.n :=
  ⟨(RdT.of_own h.own).frT hf hb (by decide), h.sn, h.len, fun i s l hs hl => ⟨(h.inner i s l hs hl).1.frT hf hb (by decide), (h.inner i s l hs hl).2⟩⟩
theorem held33 {W : World} {a bq rb : Nat} {t1 t2 t3 : TypeId} {v0 v1 v2 v3 v4 v5 v6 v7 v8 u0 u1 u2 u3 u4 u5 u6 u7 u8 u9 s0 s1 : Value} (h1 : Bk W a t1 #[v0, v1, v2, v3, v4, v5, v6, v7, v8]) (h2 : Bk W bq t2 #[u0, u1, u2, u3, u4, u5, u6, u7, u8, u9]) (h3 : Bk W rb t3 #[s0, s1]) : W.cell? ⟨a, 0, none⟩ = some v0 ∧ W.cell? ⟨a, 1, none⟩ = some v1 ∧ W.cell? ⟨a, 2, none⟩ = some v2 ∧ W.cell? ⟨a, 3, none⟩ = some v3 ∧ W.cell? ⟨a, 4, none⟩ = some v4 ∧ W.cell? ⟨a, 5, none⟩ = some v5 ∧ W.cell? ⟨a, 6, none⟩ = some v6 ∧ W.cell? ⟨a, 7, none⟩ = some v7 ∧ W.cell? ⟨a, 8, none⟩ = some v8 ∧ W.cell? ⟨bq, 0, none⟩ = some u0 ∧ W.cell? ⟨bq, 1, none⟩ = some u1 ∧ W.cell? ⟨bq, 2, none⟩ = some u2 ∧ W.cell? ⟨bq, 3, none⟩ = some u3 ∧ W.cell? ⟨bq, 4, none⟩ = some u4 ∧ W.cell? ⟨bq, 5, none⟩ = some u5 ∧ W.cell? ⟨bq, 6, none⟩ = some u6 ∧ W.cell? ⟨bq, 7, none⟩ = some u7 ∧ W.cell? ⟨bq, 8, none⟩ = some u8 ∧ W.cell? ⟨bq, 9, none⟩ = some u9 ∧ W.cell? ⟨rb, 1, none⟩ = some s1 :=
  ⟨h1.cell 0, h1.cell 1, h1.cell 2, h1.cell 3, h1.cell 4, h1.cell 5, h1.cell 6, h1.cell 7, h1.cell 8, h2.cell 0, h2.cell 1, h2.cell 2, h2.cell 3, h2.cell 4, h2.cell 5, h2.cell 6, h2.cell 7, h2.cell 8, h2.cell 9, h3.cell 1⟩
theorem fin33 {w : World} {N1 N2 : Nat} {t1 t2 : TypeId} {v0 v1 v2 v3 v4 v5 v6 v7 v8 u0 u1 u2 u3 u4 u5 u6 u7 u8 u9 y0 y1 y2 y3 y4 y5 y6 y7 y8 z0 z1 z2 z3 z4 z5 z6 z7 z8 z9 : Value} (h1 : Bk w N1 t1 #[y0, y1, y2, y3, y4, y5, y6, y7, y8]) (h2 : Bk w N2 t2 #[z0, z1, z2, z3, z4, z5, z6, z7, z8, z9]) (hne : N1 ≠ N2) :
    Bk (((((((((((((((((((w.setCell ⟨N1, 0, none⟩ v0).setCell ⟨N1, 1, none⟩ v1).setCell ⟨N1, 2, none⟩ v2).setCell ⟨N1, 3, none⟩ v3).setCell ⟨N1, 4, none⟩ v4).setCell ⟨N1, 5, none⟩ v5).setCell ⟨N1, 6, none⟩ v6).setCell ⟨N1, 7, none⟩ v7).setCell ⟨N1, 8, none⟩ v8).setCell ⟨N2, 0, none⟩ u0).setCell ⟨N2, 1, none⟩ u1).setCell ⟨N2, 2, none⟩ u2).setCell ⟨N2, 3, none⟩ u3).setCell ⟨N2, 4, none⟩ u4).setCell ⟨N2, 5, none⟩ u5).setCell ⟨N2, 6, none⟩ u6).setCell ⟨N2, 7, none⟩ u7).setCell ⟨N2, 8, none⟩ u8).setCell ⟨N2, 9, none⟩ u9) N1 t1 #[v0, v1, v2, v3, v4, v5, v6, v7, v8] ∧ Bk (((((((((((((((((((w.setCell ⟨N1, 0, none⟩ v0).setCell ⟨N1, 1, none⟩ v1).setCell ⟨N1, 2, none⟩ v2).setCell ⟨N1, 3, none⟩ v3).setCell ⟨N1, 4, none⟩ v4).setCell ⟨N1, 5, none⟩ v5).setCell ⟨N1, 6, none⟩ v6).setCell ⟨N1, 7, none⟩ v7).setCell ⟨N1, 8, none⟩ v8).setCell ⟨N2, 0, none⟩ u0).setCell ⟨N2, 1, none⟩ u1).setCell ⟨N2, 2, none⟩ u2).setCell ⟨N2, 3, none⟩ u3).setCell ⟨N2, 4, none⟩ u4).setCell ⟨N2, 5, none⟩ u5).setCell ⟨N2, 6, none⟩ u6).setCell ⟨N2, 7, none⟩ u7).setCell ⟨N2, 8, none⟩ u8).setCell ⟨N2, 9, none⟩ u9) N2 t2 #[u0, u1, u2, u3, u4, u5, u6, u7, u8, u9] ∧ Fr (fun k => k = N1 ∨ k = N2) w (((((((((((((((((((w.setCell ⟨N1, 0, none⟩ v0).setCell ⟨N1, 1, none⟩ v1).setCell ⟨N1, 2, none⟩ v2).setCell ⟨N1, 3, none⟩ v3).setCell ⟨N1, 4, none⟩ v4).setCell ⟨N1, 5, none⟩ v5).setCell ⟨N1, 6, none⟩ v6).setCell ⟨N1, 7, none⟩ v7).setCell ⟨N1, 8, none⟩ v8).setCell ⟨N2, 0, none⟩ u0).setCell ⟨N2, 1, none⟩ u1).setCell ⟨N2, 2, none⟩ u2).setCell ⟨N2, 3, none⟩ u3).setCell ⟨N2, 4, none⟩ u4).setCell ⟨N2, 5, none⟩ u5).setCell ⟨N2, 6, none⟩ u6).setCell ⟨N2, 7, none⟩ u7).setCell ⟨N2, 8, none⟩ u8).setCell ⟨N2, 9, none⟩ u9) := by
  have h1' := bk_put9 (v0 := v0) (v1 := v1) (v2 := v2) (v3 := v3) (v4 := v4) (v5 := v5) (v6 := v6) (v7 := v7) (v8 := v8) h1
  have h2' := (((((((((h2.far (p := ⟨N1, 0, none⟩) (Ne.symm hne) v0).far (p := ⟨N1, 1, none⟩) (Ne.symm hne) v1).far (p := ⟨N1, 2, none⟩) (Ne.symm hne) v2).far (p := ⟨N1, 3, none⟩) (Ne.symm hne) v3).far (p := ⟨N1, 4, none⟩) (Ne.symm hne) v4).far (p := ⟨N1, 5, none⟩) (Ne.symm hne) v5).far (p := ⟨N1, 6, none⟩) (Ne.symm hne) v6).far (p := ⟨N1, 7, none⟩) (Ne.symm hne) v7).far (p := ⟨N1, 8, none⟩) (Ne.symm hne) v8)
  refine ⟨((((((((((h1'.far (p := ⟨N2, 0, none⟩) hne u0).far (p := ⟨N2, 1, none⟩) hne u1).far (p := ⟨N2, 2, none⟩) hne u2).far (p := ⟨N2, 3, none⟩) hne u3).far (p := ⟨N2, 4, none⟩) hne u4).far (p := ⟨N2, 5, none⟩) hne u5).far (p := ⟨N2, 6, none⟩) hne u6).far (p := ⟨N2, 7, none⟩) hne u7).far (p := ⟨N2, 8, none⟩) hne u8).far (p := ⟨N2, 9, none⟩) hne u9), ?_, Fr.setCell (Fr.setCell (Fr.setCell (Fr.setCell (Fr.setCell (Fr.setCell (Fr.setCell (Fr.setCell (Fr.setCell (Fr.setCell (Fr.setCell (Fr.setCell (Fr.setCell (Fr.setCell (Fr.setCell (Fr.setCell (Fr.setCell (Fr.setCell (Fr.setCell (Fr.refl (fun k => k = N1 ∨ k = N2) w) (p := ⟨N1, 0, none⟩) (.inl (.inl rfl)) v0) (p := ⟨N1, 1, none⟩) (.inl (.inl rfl)) v1) (p := ⟨N1, 2, none⟩) (.inl (.inl rfl)) v2) (p := ⟨N1, 3, none⟩) (.inl (.inl rfl)) v3) (p := ⟨N1, 4, none⟩) (.inl (.inl rfl)) v4) (p := ⟨N1, 5, none⟩) (.inl (.inl rfl)) v5) (p := ⟨N1, 6, none⟩) (.inl (.inl rfl)) v6) (p := ⟨N1, 7, none⟩) (.inl (.inl rfl)) v7) (p := ⟨N1, 8, none⟩) (.inl (.inl rfl)) v8) (p := ⟨N2, 0, none⟩) (.inl (.inr rfl)) u0) (p := ⟨N2, 1, none⟩) (.inl (.inr rfl)) u1) (p := ⟨N2, 2, none⟩) (.inl (.inr rfl)) u2) (p := ⟨N2, 3, none⟩) (.inl (.inr rfl)) u3) (p := ⟨N2, 4, none⟩) (.inl (.inr rfl)) u4) (p := ⟨N2, 5, none⟩) (.inl (.inr rfl)) u5) (p := ⟨N2, 6, none⟩) (.inl (.inr rfl)) u6) (p := ⟨N2, 7, none⟩) (.inl (.inr rfl)) u7) (p := ⟨N2, 8, none⟩) (.inl (.inr rfl)) u8) (p := ⟨N2, 9, none⟩) (.inl (.inr rfl)) u9⟩
  have h3 := ((((((((((h2'.put 0 u0).put 1 u1).put 2 u2).put 3 u3).put 4 u4).put 5 u5).put 6 u6).put 7 u7).put 8 u8).put 9 u9)
  simp only [List.setIfInBounds_toArray, List.set_cons_succ, List.set_cons_zero] at h3
  exact h3
theorem RdT.frTT {w w' : World} {A : Option Addr} {t t1 t2 : TypeId} {xs : List Value} {N1 N2 : Nat} {c1 c2 : Array Value} (h : RdT w A t xs) (hf : Fr (fun k => k = N1 ∨ k = N2) w w') (h1 : Bk w N1 t1 c1) (h2 : Bk w N2 t2 c2) (hn1 : t ≠ t1) (hn2 : t ≠ t2) : RdT w' A t xs := by
  refine h.fr hf ?_
  rintro b _ ⟨off, he⟩ (rfl | rfl)
  · obtain ⟨cs', fr, hh⟩ := h.ty b off he
    unfold Bk at h1
    rw [hh] at h1
    injection h1 with h1
    injection h1 with _ h1
    exact hn1 h1
  · obtain ⟨cs', fr, hh⟩ := h.ty b off he
    unfold Bk at h2
    rw [hh] at h2
    injection h2 with h2
    injection h2 with _ h2
    exact hn2 h2
theorem build_end {w wr WF : World} {B g m n c N1 N2 cI cK' cC' cR' cQ : Nat} {A AI AK' AC' AR' AQ : Option Addr} {S2 : List SV} {x : RawP} {v : RawV} {c1 c2 : Array Value} (h : RawAt w v x) (hm : x.inp % 24 = m) (hm24 : m < 24)
    (hfr : Fr (fun k => k = N1 ∨ k = N2) wr WF) (hy : Bk wr N1 49 c1) (hz : Bk wr N2 70 c2) (hN1 : N1 < B) (hN2 : N2 < B) (hbel : Below w.heap.size w WF)
    (HG : GAt wr B g 400 (gAnds m x.ands)) (HN : RdT wr A 127 (rcells (gAnds m x.ands))) (hlen : (gAnds m x.ands).length = n)
    (HK : RdT wr AK' 35 (x.keep.map (Value.int .i64))) (HC : RdT wr AC' 35 (x.cached.map (Value.int .i64))) (HR : RdT wr AR' 35 (x.rules.map (Value.int .i64)))
    (HL : RdT wr AI 43 (S2.map SV.val) ∧ S2.length = v.W.n ∧ S2.length = x.words.length ∧ ∀ (i : Nat) (s : SV) (l : List Int), S2[i]? = some s → x.words[i]? = some l → RdT wr s.A 35 (l.map (Value.int .i64)) ∧ l.length = s.n)
    (HQ : RdT wr AQ 131 (qcells x.ops)) :
    ResAt WF B 400 ⟨g, ⟨AI, v.W.n, cI⟩, S2, v.O, ⟨AK', v.K.n, cK'⟩, ⟨AC', v.C.n, cC'⟩, ⟨AR', v.R.n, cR'⟩⟩ (rawR x) ∧ RefAt WF ⟨⟨A, n, c⟩, v.W, v.S, ⟨AQ, v.O.n, cQ⟩, v.K, v.C, v.R⟩ (rawR x) := by
  obtain ⟨hsA, hsW, hsO, hsK, hsC, hsR⟩ := h.small
  obtain ⟨g1, g2, g3⟩ := gAnds_fact m x.ands
  have hal := h.andsn
  have e : (rawR x).G = gAnds m x.ands := by rw [← hm]; rfl
  have hT : ∀ {A : Option Addr} {t : TypeId} {xs : List Value}, RdT wr A t xs → t ≠ 49 → t ≠ 70 → Rd WF A xs := fun ha h1 h2 => (ha.frTT hfr hy hz h1 h2).rd
  have h64 : ∀ (i : Nat) (l : List Int), x.words[i]? = some l → (∀ u ∈ l, I64 u) ∧ l.length ≤ 100000 := by
    intro i l hl
    have hi := (List.getElem?_eq_some_iff.1 hl).1
    obtain ⟨s, hs⟩ : ∃ s, v.S[i]? = some s := ⟨_, List.getElem?_eq_getElem (by rw [h.words.len]; exact hi)⟩
    have h1 := h.words.inner i s l hs hl
    exact ⟨h1.1.2.2, h1.2⟩
  refine ⟨⟨?_, ?_, ?_, hT HL.1 (by decide) (by decide), HL.2.1, ⟨HL.2.2.1, ?_⟩, h.ops.below hbel, h.opsn, h.opsw, ⟨hT HK (by decide) (by decide), h.keep.2.1, h.keep.2.2⟩, ⟨hT HC (by decide) (by decide), h.cached.2.1, h.cached.2.2⟩, ⟨hT HR (by decide) (by decide), h.rules.2.1, h.rules.2.2⟩, h.nums, ⟨by show v.W.n ≤ _; omega, by show v.O.n ≤ _; omega, by show v.K.n ≤ _; omega, by show v.C.n ≤ _; omega, by show v.R.n ≤ _; omega⟩⟩,
    ⟨?_, ?_, ?_, ?_, h.words.below hbel, hT HQ (by decide) (by decide), h.opsn, h.opsw, h.keep.below hbel, h.cached.below hbel, h.rules.below hbel, h.nums, ⟨by show v.W.n ≤ _; omega, by show v.O.n ≤ _; omega, by show v.K.n ≤ _; omega, by show v.C.n ≤ _; omega, by show v.R.n ≤ _; omega⟩⟩⟩
  · rw [e]
    exact HG.fr hfr (fun k hk hq => by rcases hq with hq | hq <;> omega)
  · rw [e]; exact g1
  · rw [e]; omega
  · intro i s l hs hl
    obtain ⟨h1, h2⟩ := HL.2.2.2 i s l hs hl
    exact ⟨⟨hT h1 (by decide) (by decide), h2, (h64 i l hl).1⟩, (h64 i l hl).2⟩
  · rw [e]; exact hT HN (by decide) (by decide)
  · rw [e]; exact hlen
  · rw [e]; exact g1
  · rw [e]; omega
end Go.Proofs.Ytamoniljgifggaa
