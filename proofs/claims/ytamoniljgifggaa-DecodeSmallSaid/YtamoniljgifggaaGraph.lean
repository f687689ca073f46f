/-
  A graph in memory, and the contract of (*aig.Graph).and over it.
-/
import Derived.Test.YtamoniljgifggaaAnd
import Derived.Test.YtamoniljgifggaaAig0
set_option linter.unusedVariables false
set_option linter.unusedSimpArgs false
namespace Go.Proofs.Ytamoniljgifggaa
open Go.RowKit

def ncell (x : Nd × Int) : List Value := [.int .u8 x.1.k, .int .i64 x.1.l, .int .i64 x.1.r, .int .i64 x.2]
def ncells (D : List (Nd × Int)) : List Value := D.flatMap ncell
theorem ncells_length (D : List (Nd × Int)) : (ncells D).length = D.length * 4 := by
  induction D with
  | nil => rfl
  | cons x D ih => simp only [ncells, List.flatMap_cons, List.length_append] at ih ⊢; rw [ih]; simp [ncell]; omega
theorem ncells_at (D : List (Nd × Int)) (i : Nat) (x : Nd × Int) (h : D[i]? = some x) :
    (ncells D)[i * 4]? = some (.int .u8 x.1.k) ∧ (ncells D)[i * 4 + 1]? = some (.int .i64 x.1.l) ∧ (ncells D)[i * 4 + 2]? = some (.int .i64 x.1.r) ∧ (ncells D)[i * 4 + 3]? = some (.int .i64 x.2) := by
  induction D generalizing i with
  | nil => simp at h
  | cons y D ih =>
    have hc : ncells (y :: D) = ncell y ++ ncells D := rfl
    cases i with
    | zero => simp at h; subst h; simp [hc, ncell]
    | succ i =>
      simp at h
      obtain ⟨h1, h2, h3, h4⟩ := ih i h
      have hl : (ncell y).length = 4 := rfl
      refine ⟨?_, ?_, ?_, ?_⟩
      · rw [hc, List.getElem?_append_right (by rw [hl]; omega), hl]; rw [← h1]; congr 1; omega
      · rw [hc, List.getElem?_append_right (by rw [hl]; omega), hl]; rw [← h2]; congr 1; omega
      · rw [hc, List.getElem?_append_right (by rw [hl]; omega), hl]; rw [← h3]; congr 1; omega
      · rw [hc, List.getElem?_append_right (by rw [hl]; omega), hl]; rw [← h4]; congr 1; omega

/-- Types of blocks that a graph has. -/
def gType (t : TypeId) : Prop := t = 45 ∨ t = 141 ∨ t = 35
/-- A block that no graph has. -/
def Safe (w : World) (k : Nat) : Prop := ∃ cs t fr, w.heap[k]? = some (.cells cs t fr) ∧ ¬ gType t
/-- Only blocks of graphs that lie from B on have changed, and new ones. -/
def GFr (B : Nat) (w w' : World) : Prop := Fr (fun k => B ≤ k ∧ ¬ Safe w k) w w'

theorem Safe.bk {w : World} {g : Nat} {t : TypeId} {cs : Array Value} (h : Bk w g t cs) (ht : ¬ gType t) : Safe w g := ⟨cs, t, (0, 0), h, ht⟩
theorem GFr.refl (B : Nat) (w : World) : GFr B w w := Fr.refl _ _
theorem GFr.of_below {B : Nat} {w w' : World} (h : Below w.heap.size w w') : GFr B w w' := Fr.of_below h
theorem GFr.safe {B : Nat} {w w' : World} (h : GFr B w w') {k : Nat} (hk : Safe w k) : Safe w' k := by
  obtain ⟨cs, t, fr, h1, h2⟩ := hk
  exact ⟨cs, t, fr, (h.block k (lt_of_heap h1) (fun hn => hn.2 ⟨cs, t, fr, h1, h2⟩)).trans h1, h2⟩
theorem GFr.trans {B : Nat} {a b c : World} (h : GFr B a b) (k : GFr B b c) : GFr B a c := by
  refine ⟨k.os.trans h.os, k.tape.trans h.tape, k.output.trans h.output, Nat.le_trans h.size k.size, fun i hi hf => ?_⟩
  refine (k.block i (Nat.lt_of_lt_of_le hi h.size) (fun hn => hf ⟨hn.1, fun hs => hn.2 (h.safe hs)⟩)).trans (h.block i hi hf)
theorem GFr.below {B : Nat} {w w' : World} (h : GFr B w w') (hB : B ≤ w.heap.size) : Below B w w' := Fr.below h B hB (fun k hk hn => by omega)
theorem Bk.gfr {B : Nat} {w w' : World} {g : Nat} {t : TypeId} {cs : Array Value} (h : Bk w g t cs) (hf : GFr B w w') (ht : ¬ gType t) : Bk w' g t cs := h.fr hf (fun hn => hn.2 (Safe.bk h ht))
theorem Rd.gfr {B : Nat} {w w' : World} {A : Option Addr} {xs : List Value} (h : Rd w A xs) (hf : GFr B w w') (hs : ∀ b off, A = some ⟨b, off, none⟩ → b < B ∨ Safe w b) : Rd w' A xs := by
  refine h.fr hf (fun b _ ⟨off, e⟩ hn => ?_)
  rcases hs b off e with h1 | h1
  · omega
  · exact hn.2 h1
theorem own_safe {w : World} {base : Nat} {e : TypeId} {size n : Nat} {v : Value} {xs : List Value} (h : w.ownsRow base e size v n xs) (he : ¬ gType e) : ∀ k, v.ownBlock = some k → Safe w k := by
  intro k hk
  rcases h.2 with ⟨rfl, _⟩ | ⟨g', cap, cur, rfl, _, hh, _⟩
  · simp [Value.ownBlock] at hk
  · obtain rfl : g' = k := by simpa [Value.ownBlock] using hk
    exact ⟨cur, e, _, hh, he⟩
theorem own_gfr {B : Nat} {w w' : World} {base : Nat} {e : TypeId} {size n : Nat} {v : Value} {xs : List Value} (h : w.ownsRow base e size v n xs) (hf : GFr B w w') (he : ¬ gType e) : w'.ownsRow base e size v n xs :=
  own_fr h hf (fun k hk hn => hn.2 (own_safe h he k hk))

/-- The graph at block g, all of it from B on. -/
def GAt (w : World) (B g : Nat) (M : Int) (G : List Nd) : Prop :=
  ∃ (nb mb c : Nat) (iv : Value) (D : List (Nd × Int)), D.map (·.1) = G ∧ B ≤ g ∧ B ≤ mb ∧ B ≤ w.heap.size ∧
    Bk w g 45 #[.int .i64 M, .slice (some ⟨nb, 0, none⟩) G.length c, .map (some mb), iv] ∧
    w.ownsRow B 141 4 (.slice (some ⟨nb, 0, none⟩) G.length c) G.length (ncells D) ∧ MapAt w mb (ents G) ∧
    w.ownsRow B 35 1 iv (inputsOf G).length ((inputsOf G).map (Value.int .i64))

theorem own_lt {w : World} {base : Nat} {e : TypeId} {size n : Nat} {v : Value} {xs : List Value} (h : w.ownsRow base e size v n xs) {k : Nat} (hk : v.ownBlock = some k) : base ≤ k ∧ k < w.heap.size := h.lt k hk

theorem GAt.below {w w' : World} {B g : Nat} {M : Int} {G : List Nd} (h : GAt w B g M G) (hb : Below w.heap.size w w') : GAt w' B g M G := by
  obtain ⟨nb, mb, c, iv, D, hD, h1, h2, hs, h3, h4, h5, h6⟩ := h
  have hf : Fr (fun _ => False) w w' := Fr.of_below hb
  exact ⟨nb, mb, c, iv, D, hD, h1, h2, Nat.le_trans hs hb.size, h3.fr hf (fun h => h), own_fr h4 hf (fun _ _ h => h), h5.fr hf (fun h => h), own_fr h6 hf (fun _ _ h => h)⟩
theorem GAt.drewN {w : World} {B g : Nat} {M : Int} {G : List Nd} (h : GAt w B g M G) (n : Nat) : GAt (w.drewN n) B g M G := h.below (below_drewN w n)

theorem min_lt {a b : Int} (h : a < b) : min a b = a ∧ max a b = b := ⟨by omega, by omega⟩
theorem min_gt {a b : Int} (h : b < a) : min a b = b ∧ max a b = a := ⟨by omega, by omega⟩

/-- The contract of and, over a graph. -/
def AndPost (B g : Nat) (M : Int) (G : List Nd) (a b : Int) (w : World) (e : Ending) (w' : World) : Prop :=
  e = .returned (.tuple #[.int .i64 (andG G a b).2, .int .i64 0]) ∧ GAt w' B g M (andG G a b).1 ∧ GFr B w w'

theorem andPost_same {B g : Nat} {M : Int} {G : List Nd} {a b r : Int} {w : World} (h : GAt w B g M G) (hr : andG G a b = (G, r)) : ∀ (e : Ending) (w' : World), (e = .returned (.tuple #[.int .i64 r, .int .i64 0]) ∧ Below w.heap.size w w') → AndPost B g M G a b w e w' := by
  rintro e w' ⟨rfl, hb⟩
  unfold AndPost
  rw [hr]
  exact ⟨rfl, h.below hb, GFr.of_below hb⟩

theorem andPost_new {B g mb nb c n : Nat} {M : Int} {iv : Value} {D : List (Nd × Int)} {G : List Nd} {a b lo hi : Int} {w : World} (hG : D.map (·.1) = G) (hn : G.length = n) (hBg : B ≤ g) (hBm : B ≤ mb) (hBs : B ≤ w.heap.size) (hnb : B ≤ nb)
    (hg : Bk w g 45 #[.int .i64 M, .slice (some ⟨nb, 0, none⟩) n c, .map (some mb), iv]) (hno : ∃ cur, Bk w nb 141 cur) (hmm : MapAt w mb (ents G))
    (hi6 : w.ownsRow B 35 1 iv (inputsOf G).length ((inputsOf G).map (Value.int .i64))) (hr : andG G a b = (G ++ [⟨3, lo, hi⟩], (2 * G.length : Int))) :
    ∀ (e : Ending) (w' : World), AndOk B g mb n M iv (ncells D) (ents G) lo hi nb w e w' → AndPost B g M G a b w e w' := by
  rintro e w' ⟨nb', c', d, rfl, h1, h2, h3, h4, h5⟩
  unfold AndPost
  rw [hr]
  subst hn
  obtain ⟨cur, hno⟩ := hno
  have hne : ∀ k, iv.ownBlock = some k → ¬ (k = g ∨ k = nb ∨ k = mb) := by
    intro k hk
    obtain ⟨_, hkl⟩ := own_lt hi6 hk
    have hk1 := own_ne hi6 hg (by decide)
    have hk2 := own_ne hi6 hno (by decide)
    rintro (rfl | rfl | rfl)
    · exact hk1 hk.symm
    · exact hk2 hk.symm
    · rcases hi6.2 with ⟨rfl, _⟩ | ⟨g', cap, cur', rfl, _, hh, _⟩
      · simp [Value.ownBlock] at hk
      · obtain rfl : g' = k := by simpa [Value.ownBlock] using hk
        exact hmm.ne (t := 35) (cs := cur') hh rfl
  have hin : inputsOf (G ++ [⟨3, lo, hi⟩]) = inputsOf G := by rw [inputsOf_snoc, if_neg (by simp)]
  refine ⟨rfl, ⟨nb', mb, c', iv, D ++ [(⟨3, lo, hi⟩, d)], by simp [hG], hBg, hBm, Nat.le_trans hBs h5.size, by simpa using h1, ?_, ?_, ?_⟩, ?_⟩
  · have : ncells (D ++ [(⟨3, lo, hi⟩, d)]) = ncells D ++ [.int .u8 3, .int .i64 lo, .int .i64 hi, .int .i64 d] := by simp [ncells, ncell]
    rw [this]
    simpa using h2
  · rw [ents_snoc, if_pos rfl]
    exact h3
  · rw [hin]
    exact own_fr hi6 h5 hne
  · refine h5.mono (fun k hk hF => ?_)
    rcases hF with rfl | rfl | rfl
    · exact ⟨hBg, fun ⟨cs, t, fr, h, ht⟩ => by unfold Bk at hg; rw [hg] at h; injection h with h; injection h with _ h _; subst h; exact ht (.inl rfl)⟩
    · exact ⟨hnb, fun ⟨cs, t, fr, h, ht⟩ => by unfold Bk at hno; rw [hno] at h; injection h with h; injection h with _ h _; subst h; exact ht (.inr (.inl rfl))⟩
    · exact ⟨hBm, fun ⟨cs, t, fr, h, ht⟩ => by obtain ⟨es, cl, hm, _⟩ := hmm; rw [hm] at h; cases h⟩

theorem and_any (B g : Nat) (M : Int) (G : List Nd) (a b : Int) (w : World) (h : GAt w B g M G) (hM : M ≤ 65536) (hlt : (G.length : Int) < M) (ha : 0 ≤ a) (ha' : a < 2 * G.length) (hb : 0 ≤ b) (hb' : b < 2 * G.length) :
    Calls Try.prog 89 #[.pointer (some ⟨g, 0, none⟩), .int .i64 a, .int .i64 b] w (AndPost B g M G a b w) := by
  have hG := h
  obtain ⟨nb, mb, c, iv, D, hD, hBg, hBm, hBs, hg, hown, hm, hi⟩ := h
  have hgl := hg.lt
  have hc2 : w.cell? ⟨g, 2, none⟩ = some (.map (some mb)) := hg.cell 2
  have hdep : ∀ r : Int, 0 ≤ r → r < 2 * G.length → ∃ d, w.cell? ⟨nb, (r / 2).toNat * 4 + 3, none⟩ = some (.int .i64 d) := by
    intro r h0 h1
    have hl : (r / 2).toNat < D.length := by have : D.length = G.length := by rw [← hD]; simp
                                             omega
    obtain ⟨_, _, _, h4⟩ := ncells_at D _ _ (List.getElem?_eq_getElem hl)
    refine ⟨_, ((hown.cellAt _ ?_).trans h4)⟩
    have : D.length = G.length := by rw [← hD]; simp
    omega
  obtain ⟨d1, hd1⟩ := hdep a ha ha'
  obtain ⟨d2, hd2⟩ := hdep b hb hb'
  have hno := own_bk hown
  have hnbB : B ≤ nb := (own_lt hown rfl).1
  have hla : a ≤ 1000000 := by omega
  have hlb : b ≤ 1000000 := by omega
  rcases Int.lt_trichotomy a b with hab | hab | hab
  · obtain ⟨em, ex⟩ := min_lt hab
    by_cases h0 : a = 0
    · exact (and_A1_ab g a b w ha hla hb hlb hab (by simpa using h0)).mono (andPost_same hG (by unfold andG; rw [if_pos (.inl (by omega))]))
    have h0' : (a == 0) = false := by simpa using h0
    by_cases h1 : a = notI b
    · exact (and_A2_ab g a b w ha hla hb hlb hab h0' (by simpa using h1)).mono (andPost_same hG (by unfold andG; rw [if_pos (.inr h1)]))
    have h1' : (a == notI b) = false := by simpa using h1
    by_cases h2 : a = 1
    · exact (and_B_ab g a b w ha hla hb hlb hab h0' h1' (by simpa using h2)).mono (andPost_same hG (by unfold andG; rw [if_neg (by omega), if_pos (.inl (by omega)), ex]))
    have h2' : (a == 1) = false := by simpa using h2
    have h3' : (a == b) = false := by simp; omega
    have key : andG G a b = match lookS (ents G) a b with | some v => (G, 2 * v) | none => (G ++ [⟨3, a, b⟩], 2 * G.length) := by
      unfold andG; rw [if_neg (by omega), if_neg (by omega), em, ex]
      cases lookS (ents G) a b <;> rfl
    cases hl : lookS (ents G) a b with
    | some v =>
      obtain ⟨hv0, hv1⟩ := lookS_lt G _ _ _ hl
      exact (and_C_ab g mb (ents G) v a b w ha hla hb hlb hab h0' h1' h2' h3' hgl hc2 hm hl hv0 (by omega)).mono (andPost_same hG (by rw [key, hl]))
    | none =>
      exact (and_D_ab B g nb mb c G.length M iv (ncells D) (ents G) d1 d2 a b w ha hla hb hlb hab h0' h1' h2' h3' hg hown hBs hlt hM hd1 hd2 ha' hb' hm hl).mono (andPost_new hD rfl hBg hBm hBs hnbB hg hno hm hi (by rw [key, hl]))
  · subst hab
    have hnot : ¬ a = notI a := by unfold notI; split <;> omega
    have hn' : (a == notI a) = false := by simpa using hnot
    by_cases h0 : a = 0
    · exact (and_E0 g a w ha hla (by simpa using h0)).mono (andPost_same hG (by unfold andG; rw [if_pos (.inl (by omega))]))
    have h0' : (a == 0) = false := by simpa using h0
    have key : andG G a a = (G, a) := by unfold andG; rw [if_neg (by omega), if_pos (.inr rfl)]; congr 1; omega
    by_cases h1 : a = 1
    · exact (and_E1 g a w ha hla h0' hn' (by simpa using h1)).mono (andPost_same hG key)
    · exact (and_E2 g a w ha hla h0' hn' (by simpa using h1)).mono (andPost_same hG key)
  · obtain ⟨em, ex⟩ := min_gt hab
    by_cases h0 : b = 0
    · exact (and_A1_ba g a b w ha hla hb hlb hab (by simpa using h0)).mono (andPost_same hG (by unfold andG; rw [if_pos (.inl (by omega))]))
    have h0' : (b == 0) = false := by simpa using h0
    by_cases h1 : a = notI b
    · exact (and_A2_ba g a b w ha hla hb hlb hab h0' (by simpa using h1)).mono (andPost_same hG (by unfold andG; rw [if_pos (.inr h1)]))
    have h1' : (a == notI b) = false := by simpa using h1
    by_cases h2 : b = 1
    · exact (and_B_ba g a b w ha hla hb hlb hab h0' h1' (by simpa using h2)).mono (andPost_same hG (by unfold andG; rw [if_neg (by omega), if_pos (.inl (by omega)), ex]))
    have h2' : (b == 1) = false := by simpa using h2
    have h3' : (a == b) = false := by simp; omega
    have key : andG G a b = match lookS (ents G) b a with | some v => (G, 2 * v) | none => (G ++ [⟨3, b, a⟩], 2 * G.length) := by
      unfold andG; rw [if_neg (by omega), if_neg (by omega), em, ex]
      cases lookS (ents G) b a <;> rfl
    cases hl : lookS (ents G) b a with
    | some v =>
      obtain ⟨hv0, hv1⟩ := lookS_lt G _ _ _ hl
      exact (and_C_ba g mb (ents G) v a b w ha hla hb hlb hab h0' h1' h2' h3' hgl hc2 hm hl hv0 (by omega)).mono (andPost_same hG (by rw [key, hl]))
    | none =>
      exact (and_D_ba B g nb mb c G.length M iv (ncells D) (ents G) d1 d2 a b w ha hla hb hlb hab h0' h1' h2' h3' hg hown hBs hlt hM hd1 hd2 ha' hb' hm hl).mono (andPost_new hD rfl hBg hBm hBs hnbB hg hno hm hi (by rw [key, hl]))
end Go.Proofs.Ytamoniljgifggaa
