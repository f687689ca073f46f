/-
  The parser's recursion, whole: every function at every fuel.
-/
import Derived.Test.YtehcpcpmcngnjaaDoorRecC
import Derived.Test.YtehcpcpmcngnjaaDoorRecH
set_option linter.unusedVariables false
namespace Go.Proofs.YtehcpcpmcngnjaaDoor
open Go.RowKit Go.PlainAid

section
variable {p : Nat} {E : Env} {T : TV} {Q : SV}
theorem sp_zero : Sp p E T Q 0 where
  choice := fun s x s' w hx _ => by unfold choiceP at hx; cases hx
  chain := fun r s x s' w _ hx _ => by unfold chainP at hx; cases hx
  operand := fun s x s' w hx _ => by unfold operandP at hx; cases hx
  basis := fun s x s' w hx _ => by unfold basisP at hx; cases hx
  within := fun s a b x s' w hx _ => by unfold withinP at hx; cases hx
theorem sp_all : ∀ f, ∀ g, g ≤ f → Sp p E T Q g
  | 0, g, hg => by
    have : g = 0 := by omega
    subst this
    exact sp_zero
  | f + 1, g, hg => by
    have IH := sp_all f
    by_cases h : g ≤ f
    · exact IH g h
    · have : g = f + 1 := by omega
      subst this
      exact
        { choice := fun s x s' w hx h => choice_step (IH f (Nat.le_refl _)) s x s' w hx h
          chain := fun r s x s' w hr hx h => chain_step IH r s x s' w hr hx h
          operand := fun s x s' w hx h => operand_step IH s x s' w hx h
          basis := fun s x s' w hx h => basis_step (IH f (Nat.le_refl _)) s x s' w hx h
          within := fun s a b x s' w hx h => within_step (IH f (Nat.le_refl _)) s a b x s' w hx h }
theorem sp (f : Nat) : Sp p E T Q f := sp_all f f (Nat.le_refl _)
end
end Go.Proofs.YtehcpcpmcngnjaaDoor
