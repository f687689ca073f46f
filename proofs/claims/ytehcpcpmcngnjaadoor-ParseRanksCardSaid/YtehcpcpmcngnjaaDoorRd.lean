/-
  Slices that read as lists of cells.
-/
import Derived.Test.YtehcpcpmcngnjaaDoorWords
set_option linter.unusedVariables false
set_option linter.unusedSimpArgs false
namespace Go.Proofs.YtehcpcpmcngnjaaDoor
open Go.RowKit

/-- The slice at A holds the cells xs. -/
def Rd (w : World) (A : Option Addr) (xs : List Value) : Prop :=
  xs ≠ [] → ∃ b off cs t fr, A = some ⟨b, off, none⟩ ∧ w.heap[b]? = some (.cells cs t fr) ∧ ∀ j u, xs[j]? = some u → cs[off + j]? = some u

section
variable {w w' : World} {A : Option Addr} {xs : List Value} {F : Nat → Prop}
theorem Rd.nil : Rd w A [] := fun h => absurd rfl h
theorem Rd.at (h : Rd w A xs) {k : Nat} (hk : k < xs.length) : ∃ b off, A = some ⟨b, off, none⟩ ∧ w.cell? ⟨b, off + k, none⟩ = some xs[k] := by
  obtain ⟨b, off, cs, t, fr, rfl, hb, hc⟩ := h (by rintro rfl; simp at hk)
  exact ⟨b, off, rfl, by simp [World.cell?, hb, hc k _ (List.getElem?_eq_getElem hk)]⟩
theorem Rd.getm {α : Type} {f : α → Value} {l : List α} {n k : Nat} (h : Rd w A (l.map f)) (hl : l.length = n) (hk : k < n) : ∃ b off x, A = some ⟨b, off, none⟩ ∧ l[k]? = some x ∧ w.cell? ⟨b, off + k, none⟩ = some (f x) := by
  obtain ⟨b, off, rfl, hc⟩ := h.at (k := k) (by simpa [hl] using hk)
  exact ⟨b, off, l[k]'(by omega), rfl, List.getElem?_eq_getElem _, by simpa using hc⟩
theorem Rd.cells (h : Rd w A xs) (hx : xs ≠ []) : ∃ b off, A = some ⟨b, off, none⟩ ∧ b < w.heap.size ∧ ∀ j u, xs[j]? = some u → w.cell? ⟨b, off + j, none⟩ = some u := by
  obtain ⟨b, off, cs, t, fr, rfl, hb, hc⟩ := h hx
  exact ⟨b, off, rfl, lt_of_heap hb, fun j u hu => by simp [World.cell?, hb, hc j u hu]⟩
theorem Rd.fr (h : Rd w A xs) (hf : Fr F w w') (hF : ∀ b, b < w.heap.size → (∃ off, A = some ⟨b, off, none⟩) → ¬ F b) : Rd w' A xs := fun hx => by
  obtain ⟨b, off, cs, t, fr, rfl, hb, hc⟩ := h hx
  exact ⟨b, off, cs, t, fr, rfl, (hf.block b (lt_of_heap hb) (hF b (lt_of_heap hb) ⟨off, rfl⟩)).trans hb, hc⟩
theorem Rd.below (h : Rd w A xs) (hf : Below w.heap.size w w') : Rd w' A xs := h.fr (Fr.of_below (F := fun _ => False) hf) (fun _ _ _ h => h)
theorem Rd.alloc (h : Rd w A xs) (o : Obj) : Rd (w.alloc o) A xs := h.fr ((Fr.refl (fun _ => False) w).alloc o) (fun _ _ _ h => h)
theorem Rd.drewN (h : Rd w A xs) (n : Nat) : Rd (w.drewN n) A xs := h
theorem Rd.drew (h : Rd w A xs) : Rd w.drew A xs := h
theorem Rd.take (h : Rd w A xs) (n : Nat) : Rd w A (xs.take n) := fun hx => by
  obtain ⟨b, off, cs, t, fr, rfl, hb, hc⟩ := h (by rintro rfl; simp at hx)
  refine ⟨b, off, cs, t, fr, rfl, hb, fun j u hu => hc j u ?_⟩
  rw [List.getElem?_take] at hu
  split at hu
  · exact hu
  · cases hu
theorem Rd.of_own {base : Nat} {e : TypeId} {size n c : Nat} (h : w.ownsRow base e size (.slice A n c) n xs) : Rd w A xs := fun hx => by
  rcases h.2 with ⟨h0, h1⟩ | ⟨g', cap, cur, h0, _, hh, h3, h4, h5, h6⟩
  · subst h1
    exact absurd (List.eq_nil_of_length_eq_zero (by simpa using h.1)) hx
  · have : A = some ⟨g', 0, none⟩ := by injection h0
    subst this
    refine ⟨g', 0, cur, e, _, rfl, hh, fun j u hu => ?_⟩
    rw [← h6, List.getElem?_take] at hu
    split at hu
    · simpa using hu
    · cases hu
/-- append's source, whatever the address. -/
theorem Rd.news {ad : Addr} (h : Rd w (some ad) xs) : ∀ j u, xs[j]? = some u → w.cell? (ad.add j) = some u := by
  intro j u hu
  obtain ⟨b, off, e, _, hc⟩ := h.cells (by rintro rfl; simp at hu)
  injection e with e
  subst e
  have hadd : (⟨b, off, none⟩ : Addr).add j = ⟨b, off + j, none⟩ := by unfold Addr.add; split <;> simp_all
  rw [hadd]
  exact hc j u hu
end

theorem below_drewN (w : World) (n : Nat) : Below w.heap.size w (w.drewN n) := ⟨rfl, rfl, rfl, Nat.le_refl _, fun _ _ => rfl⟩
theorem bdrewN {B : Nat} {a w : World} (h : Below B a w) (n : Nat) : Below B a (w.drewN n) := ⟨h.os, h.tape, h.output, h.size, h.block⟩
/-- One call behind another. -/
theorem bthen {w w1 w2 : World} (h : Below w.heap.size w w1) (k : Below w1.heap.size w1 w2) : Below w.heap.size w w2 := h.trans (k.mono h.size)

theorem take_snoc {α : Type} {l : List α} {k : Nat} {x : α} (h : l[k]? = some x) : l.take (k + 1) = l.take k ++ [x] := by
  obtain ⟨hk, rfl⟩ := List.getElem?_eq_some_iff.1 h
  rw [List.take_succ_eq_append_getElem hk]
theorem take_eq_succ {α : Type} {l1 l2 : List α} {k : Nat} {x : α} (h1 : l1[k]? = some x) (h2 : l2[k]? = some x) (ht : l1.take k = l2.take k) : l1.take (k + 1) = l2.take (k + 1) := by
  rw [take_snoc h1, take_snoc h2, ht]
end Go.Proofs.YtehcpcpmcngnjaaDoor
