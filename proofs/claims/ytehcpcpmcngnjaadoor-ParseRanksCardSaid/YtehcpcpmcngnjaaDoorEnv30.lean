/-
  The tokens of a text are what the parser wants of its tokens. No walk.
-/
import Derived.Test.YtehcpcpmcngnjaaDoorPs30
set_option linter.unusedVariables false
set_option linter.unusedSimpArgs false
namespace Go.Proofs.YtehcpcpmcngnjaaDoor
open Go.RowKit

theorem yl_ok (t : List UInt8) : ∀ f a, a ≤ t.length → (∀ y ∈ ylT t f a, y.1 ≠ 0 → y.1 ≤ 4 ∧ y.2.1 < y.2.2.1 ∧ y.2.2.1 ≤ t.length) ∧ ((ylT t f a).filter fun y => decide (y.1 ≠ 0)).length + a ≤ t.length
  | 0, a, h => ⟨fun y hy => by simp [ylT] at hy, by simp [ylT]; exact h⟩
  | f + 1, a, h => by
    obtain ⟨h1, h2, h3, h4, h5⟩ := nextT_ok t a h
    unfold ylT
    by_cases hk : (nextT t a).1 = 0
    · rw [if_pos hk]
      refine ⟨fun y hy hy0 => ?_, ?_⟩
      · rw [List.mem_singleton.1 hy] at hy0
        exact absurd hk hy0
      · rw [List.filter_cons_of_neg (by simp [hk])]
        simpa using h
    · obtain ⟨h6, h7⟩ := h4 hk
      obtain ⟨i1, i2⟩ := yl_ok t f _ h7
      rw [if_neg hk]
      refine ⟨fun y hy hy0 => ?_, ?_⟩
      · rcases List.mem_cons.1 hy with rfl | hy
        · exact ⟨h3, h6, h7⟩
        · exact i1 y hy hy0
      · rw [List.filter_cons_of_pos (by simp [hk]), List.length_cons]
        omega
theorem env_ok (t : List UInt8) (h : t.length ≤ 65536) : EnvOk ⟨t, toksY t (allT t)⟩ (toksY t (allT t)).length := by
  obtain ⟨h1, h2⟩ := yl_ok t (t.length + 2) 0 (Nat.zero_le _)
  refine ⟨rfl, h, ?_, fun i tk hi => ?_⟩
  · show ((((allT t).filter fun y => decide (y.1 ≠ 0)).map (tkY t)).length ≤ 65536)
    rw [List.length_map]
    unfold allT
    omega
  · obtain ⟨y, hy, rfl⟩ := List.mem_map.1 (List.mem_of_getElem? hi)
    obtain ⟨hy1, hy2⟩ := List.mem_filter.1 hy
    have hy2 := of_decide_eq_true hy2
    obtain ⟨h3, h4, h5⟩ := h1 y hy1 hy2
    exact ⟨Nat.pos_of_ne_zero hy2, h3, h4, h5, rfl⟩
/-! ### how great an expression is -/
mutual
def fewX : Ex → Nat
  | .mk _ _ _ _ n l => 1 + n.length + fewXs l
def fewXs : List Ex → Nat
  | [] => 0
  | x :: l => fewX x + fewXs l
end
theorem fewX_eq (x : Ex) : fewX x = 1 + x.name.length + fewXs x.subs := by
  cases x
  simp only [fewX, Ex.name, Ex.subs]
theorem fewXs_app (l m : List Ex) : fewXs (l ++ m) = fewXs l + fewXs m := by
  induction l with
  | nil => simp [fewXs]
  | cons x l ih => rw [List.cons_append, fewXs, fewXs, ih, Nat.add_assoc]
theorem fewXs_take (l : List Ex) (i : Nat) (y : Ex) (h : l[i]? = some y) : fewXs (l.take (i + 1)) = fewXs (l.take i) + fewX y := by
  rw [take_snoc h, fewXs_app]
  simp [fewXs]
theorem fewXs_le (l : List Ex) (i : Nat) : fewXs (l.take i) ≤ fewXs l := by
  have h : fewXs l = fewXs (l.take i) + fewXs (l.drop i) := by rw [← fewXs_app, List.take_append_drop]
  omega
theorem fewX_sub {x y : Ex} {i : Nat} (h : x.subs[i]? = some y) : fewX y < fewX x := by
  have h1 := fewXs_take _ _ _ h
  have h2 := fewXs_le x.subs (i + 1)
  have h3 := fewX_eq x
  omega
end Go.Proofs.YtehcpcpmcngnjaaDoor
