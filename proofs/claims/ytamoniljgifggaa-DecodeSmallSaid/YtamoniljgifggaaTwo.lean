/-
  Two rows of the call's own, each appended to in a region that draws its order.
-/
import Derived.Test.YtamoniljgifggaaApp
import Derived.Deep.RegionLaw
set_option linter.unusedVariables false
set_option linter.unusedSimpArgs false
namespace Go.Proofs.Ytamoniljgifggaa
open Go.RowKit

theorem Rd.newAt (w : World) (cs : Array Value) (t : TypeId) (n : Nat) (h : w.heap.size = n) : Rd (w.alloc (.cells cs t)) (some ⟨n, 0, none⟩) cs.toList := by
  subst h
  exact Rd.new w cs t
theorem own_drew {w : World} {base : Nat} {e : TypeId} {size n : Nat} {v : Value} {xs : List Value} (h : w.ownsRow base e size v n xs) : w.drew.ownsRow base e size v n xs := h

/-- Two rows that lie apart, in a world that has come of wr by writing to blocks from N0 on alone. -/
structure Two (B e : Nat) (wr : World) (v1 : Value) (n1 : Nat) (l1 : List Value) (v2 : Value) (n2 : Nat) (l2 : List Value) (W : World) : Prop where
  bel : Below B wr W
  base : B ≤ W.heap.size
  o1 : W.ownsRow B e 1 v1 n1 l1
  o2 : W.ownsRow B e 1 v2 n2 l2
  ne : ∀ q, v1.ownBlock = some q → v2.ownBlock = some q → False

section
variable {B e : Nat} {wr W W1 : World} {v1 v2 v1' v2' : Value} {n1 n2 : Nat} {l1 l2 x1 x2 : List Value}
theorem Two.alloc (h : Two B e wr v1 n1 l1 v2 n2 l2 W) (o : Obj) : Two B e wr v1 n1 l1 v2 n2 l2 (W.alloc o) :=
  ⟨h.bel.alloc h.base o, by have := h.base; simp; omega, h.o1.alloc o, h.o2.alloc o, h.ne⟩
theorem Two.drew (h : Two B e wr v1 n1 l1 v2 n2 l2 W) : Two B e wr v1 n1 l1 v2 n2 l2 W.drew := ⟨h.bel.drew, h.base, h.o1, h.o2, h.ne⟩
theorem Two.app1 (h : Two B e wr v1 n1 l1 v2 n2 l2 W) {m : Nat} (ho : W1.ownsRow B e 1 v1' m (l1 ++ x1)) (hg : W.grownBy W1 v1.ownBlock) (hat : v1'.ownBlock = v1.ownBlock ∨ v1'.ownBlock = some W.heap.size) : Two B e wr v1' m (l1 ++ x1) v2 n2 l2 W1 := by
  refine ⟨h.bel.grown hg h.base (fun k hk => (h.o1.lt k hk).1), Nat.le_trans h.base hg.size, ho, ?_, ?_⟩
  · refine h.o2.kept hg ?_
    cases hq : v2.ownBlock with
    | none => exact .inl rfl
    | some q => exact .inr (fun he => h.ne q he.symm hq)
  · intro q h1 h2
    rcases hat with ha | ha
    · exact h.ne q (ha ▸ h1) h2
    · rw [ha] at h1
      injection h1 with h1
      have := (h.o2.lt q h2).2
      omega
theorem Two.app2 (h : Two B e wr v1 n1 l1 v2 n2 l2 W) {m : Nat} (ho : W1.ownsRow B e 1 v2' m (l2 ++ x2)) (hg : W.grownBy W1 v2.ownBlock) (hat : v2'.ownBlock = v2.ownBlock ∨ v2'.ownBlock = some W.heap.size) : Two B e wr v1 n1 l1 v2' m (l2 ++ x2) W1 := by
  refine ⟨h.bel.grown hg h.base (fun k hk => (h.o2.lt k hk).1), Nat.le_trans h.base hg.size, ?_, ho, ?_⟩
  · refine h.o1.kept hg ?_
    cases hq : v1.ownBlock with
    | none => exact .inl rfl
    | some q => exact .inr (fun he => h.ne q hq he.symm)
  · intro q h1 h2
    rcases hat with ha | ha
    · exact h.ne q h1 (ha ▸ h2)
    · rw [ha] at h2
      injection h2 with h2
      have := (h.o1.lt q h1).2
      omega
theorem rd_grow {v : Value} {src N : Nat} {xs : List Value} (h : Rd W (some ⟨src, 0, none⟩) xs) (hg : W.grownBy W1 v.ownBlock) (hv : ∀ q, v.ownBlock = some q → q < N) (hs : N ≤ src) : Rd W1 (some ⟨src, 0, none⟩) xs := by
  refine h.fr (F := fun k => v.ownBlock = some k) ((Fr.refl _ W).grown hg (fun k hk => .inl hk)) ?_
  rintro b hb ⟨off, he⟩ hq
  injection he with he
  injection he with he
  have := hv b hq
  omega
end
end Go.Proofs.Ytamoniljgifggaa
