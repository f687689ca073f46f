/-
  The proofs that Made makes: plain laws.
-/
import Derived.Test.YteglgcfbmjlnkaaDoorMade7
import Derived.Test.YteglgcfbmjlnkaaDoorWrite
set_option linter.unusedVariables false
set_option linter.unusedSimpArgs false
namespace Go.Proofs.YteglgcfbmjlnkaaDoor
open Go.RowKit

/-- Small steps with small hints. -/
def SmlB (xs : List Sml) : Prop := ∀ x ∈ xs, ∀ h ∈ x.hints, -128 ≤ h ∧ h ≤ 127
theorem SmlsAt.b {w : World} {A : Option Addr} {n : Nat} {L : List (StV × Sml)} (h : SmlsAt w A n L) : SmlB (L.map (·.2)) := by
  intro x hx
  obtain ⟨p, hp, rfl⟩ := List.mem_map.1 hx
  obtain ⟨i, hi⟩ := List.getElem?_of_mem hp
  exact (h.all i p.1 p.2 hi).hall
theorem madeF_right : ∀ (xs : List Sml) (id : Int), 0 ≤ id → id + 5 * xs.length ≤ 1000000 → SmlB xs → ∀ s ∈ madeF id xs, rightS s = true ∧ s.lits.length ≤ 20 ∧ s.hints.length ≤ 10
  | [], _, _, _, _, s, hs => by cases hs
  | x :: xs, id, h0, h1, hb, s, hs => by
    obtain ⟨g1, g2, g3⟩ := idM_ge x id
    simp only [madeF, List.mem_cons] at hs
    rcases hs with rfl | hs
    · refine ⟨stpM_right x id h0 (by simp at h1; omega) (hb x (by simp)), ?_, ?_⟩
      · unfold stpM
        cases x.del <;> simp <;> omega
      · show (hintsM x.del x.hints).length ≤ 10
        unfold hintsM
        have := List.length_filter_le (fun y : Int => decide (y ≠ 0)) ((x.hints.take 10).map (hintM x.del))
        simp at this ⊢
        omega
    · exact madeF_right xs _ (by omega) (by simp at h1; omega) (fun y hy => hb y (by simp [hy])) s hs
theorem madeS_right {xs : List Sml} (hb : SmlB xs) : ∀ s ∈ madeS xs, rightS s = true ∧ s.lits.length ≤ 20 ∧ s.hints.length ≤ 10 :=
  madeF_right _ 0 (by omega) (by have := List.length_take_le 40 xs; omega) (fun x hx => hb x (List.mem_of_mem_take hx))
theorem madeF_length : ∀ (xs : List Sml) (id : Int), (madeF id xs).length = xs.length
  | [], _ => rfl
  | x :: xs, id => by simp [madeF, madeF_length xs]
theorem madeS_length (xs : List Sml) : (madeS xs).length ≤ 40 := by
  unfold madeS
  rw [madeF_length]
  exact List.length_take_le 40 xs
theorem checkS_made {L : List (StV × Stp)} {xs : List Sml} (hb : SmlB xs) (h : L.map (·.2) = madeS xs) : checkS L = (-1, 0) := by
  have hl : L.length ≤ 40 := by
    have := madeS_length xs
    rw [← h, List.length_map] at this
    exact this
  unfold checkS
  rw [if_neg (by omega)]
  exact checkF_made (xs.take 40) L 0 0 (by omega) (by have := List.length_take_le 40 xs; omega) (fun x hx => hb x (List.mem_of_mem_take hx)) h
theorem line_small {s : Stp} (hr : rightS s = true) (h1 : s.lits.length ≤ 20) (h2 : s.hints.length ≤ 10) : (lineS s).length ≤ 2000 := by
  obtain ⟨a1, a2, a3, ⟨_, a4⟩, _, a5⟩ := right_parts hr
  have hL : ∀ x ∈ s.lits, I64 x := fun x hx => ⟨by have := (a4 x hx).2.1; omega, by have := (a4 x hx).2.2; omega⟩
  have hH : ∀ x ∈ s.hints, I64 x := fun x hx => ⟨by have := (a5 x hx).2.1; omega, by have := (a5 x hx).2.2.1; omega⟩
  have b1 := mid_len (s := s) ⟨by omega, by omega⟩ hL
  have b2 := flat_len s.hints hH
  rw [line_mid]
  simp only [List.length_append, List.length_cons, List.length_nil]
  omega
/-- Steps as the program's Made makes them. -/
structure MadeOk (L : List (StV × Stp)) : Prop where
  n40 : L.length ≤ 40
  right : ∀ p ∈ L, rightS p.2 = true ∧ p.2.lits.length ≤ 20 ∧ p.2.hints.length ≤ 10
  check : checkS L = (-1, 0)
theorem made_ok {L : List (StV × Stp)} {xs : List Sml} (hb : SmlB xs) (h : L.map (·.2) = madeS xs) : MadeOk L :=
  ⟨by have := madeS_length xs; rw [← h, List.length_map] at this; exact this,
   fun p hp => madeS_right hb p.2 (by rw [← h]; exact List.mem_map.2 ⟨p, hp, rfl⟩),
   checkS_made hb h⟩
theorem text_small : ∀ (L : List (StV × Stp)), (∀ p ∈ L, rightS p.2 = true ∧ p.2.lits.length ≤ 20 ∧ p.2.hints.length ≤ 10) → (textS L).length ≤ L.length * 2001
  | [], _ => by simp [textS]
  | p :: L, h => by
    have h1 := text_small L (fun q hq => h q (by simp [hq]))
    obtain ⟨a, b, c⟩ := h p (by simp)
    have h2 := line_small a b c
    unfold textS at h1 ⊢
    rw [List.flatMap_cons]
    simp only [List.length_append, List.length_cons, List.length_nil]
    omega
theorem MadeOk.write {L : List (StV × Stp)} (h : MadeOk L) : writeS L = (textS L, -1, 0) := by
  have h1 := text_small L h.right
  have h2 := h.n40
  unfold writeS
  rw [h.check, if_pos rfl, if_neg (by omega)]
theorem parse_line {s : Stp} (h : rightS s = true) : parseS (lineS s) = some s := (parseS_iff _ _).2 ⟨h, rfl⟩
/-- The made steps in memory. -/
theorem made_steps {w : World} {base n c : Nat} {A : Option Addr} {L : List (StV × Stp)} (ho : w.ownsRow base 31 4 (.slice A n c) n (scells L)) (ht : ∀ (i : Nat) (v : StV) (x : Stp), L[i]? = some (v, x) → StpT w v x) (hl : L.length = n) (hn : n ≤ 40) : StepsAt w A n L :=
  ⟨Rd.of_own ho, hl, fun i v x h => (ht i v x h).at', by omega⟩
end Go.Proofs.YteglgcfbmjlnkaaDoor
