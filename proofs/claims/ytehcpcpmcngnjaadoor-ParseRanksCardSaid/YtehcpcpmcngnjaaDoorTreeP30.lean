/-
  Expressions whose rows lie in blocks of a kind: what stays when other blocks change. No walk.
-/
import Derived.Test.YtehcpcpmcngnjaaDoorEnv30
set_option linter.unusedVariables false
set_option linter.unusedSimpArgs false
namespace Go.Proofs.YtehcpcpmcngnjaaDoor
open Go.RowKit

inductive TreeP (P : Nat → Prop) (c : Ex → SV → List Value) (t : TypeId) (w : World) : Ex → SV → Prop where
  | mk (x : Ex) (S : SV) (vs : List SV) (ok : ExOk x) (hl : vs.length = x.subs.length) (hn : S.n = x.subs.length) (hP : ∀ b off, S.A = some ⟨b, off, none⟩ → P b) (rd : RdT w S.A t ((x.subs.zip vs).flatMap fun p => c p.1 p.2))
      (all : ∀ (i : Nat) (y : Ex) (v : SV), x.subs[i]? = some y → vs[i]? = some v → TreeP P c t w y v) : TreeP P c t w x S
section
variable {P P' : Nat → Prop} {B : Nat} {c : Ex → SV → List Value} {t : TypeId} {w w' : World} {x : Ex} {S : SV}
theorem TreeAt.toP (h : TreeAt B c t w x S) : TreeP (fun b => B ≤ b) c t w x S := by
  induction h with
  | mk x S vs ok hl hn hB rd all ih => exact .mk x S vs ok hl hn hB rd ih
theorem TreeP.mono (h : TreeP P c t w x S) (hp : ∀ b, b < w.heap.size → P b → P' b) : TreeP P' c t w x S := by
  induction h with
  | mk x S vs ok hl hn hP rd all ih =>
    refine .mk x S vs ok hl hn (fun b off e => ?_) rd ih
    obtain ⟨cs, fr, hb⟩ := rd.ty b off e
    exact hp b (lt_of_heap hb) (hP b off e)
theorem TreeP.toAt (h : TreeP P c t w x S) (hp : ∀ b, P b → B ≤ b) : TreeAt B c t w x S := by
  induction h with
  | mk x S vs ok hl hn hP rd all ih => exact .mk x S vs ok hl hn (fun b off e => hp b (hP b off e)) rd ih
theorem TreeP.fr {F : Nat → Prop} (h : TreeP P c t w x S) (hf : Fr F w w') (hp : ∀ b, b < w.heap.size → P b → ¬ F b) : TreeP P c t w' x S := by
  induction h with
  | mk x S vs ok hl hn hP rd all ih =>
    have key : ∀ b off cs fr, S.A = some ⟨b, off, none⟩ → w.heap[b]? = some (.cells cs t fr) → w'.heap[b]? = w.heap[b]? := fun b off cs fr e hb => hf.block b (lt_of_heap hb) (hp b (lt_of_heap hb) (hP b off e))
    refine .mk x S vs ok hl hn hP ⟨fun hx => ?_, fun b off he => ?_⟩ ih
    · obtain ⟨b, off, cs, t0, fr, hA, hb, hc⟩ := rd.rd hx
      exact ⟨b, off, cs, t0, fr, hA, (hf.block b (lt_of_heap hb) (hp b (lt_of_heap hb) (hP b off hA))).trans hb, hc⟩
    · obtain ⟨cs, fr, hb⟩ := rd.ty b off he
      exact ⟨cs, fr, (key b off cs fr he hb).trans hb⟩
theorem TreeP.bel (h : TreeP P c t w x S) (hb : Below w.heap.size w w') : TreeP P c t w' x S := h.fr (Fr.of_below (F := fun _ => False) hb) (fun _ _ _ h => h)
theorem TreeP.ok (h : TreeP P c t w x S) : ExOk x := by cases h; assumption
end
end Go.Proofs.YtehcpcpmcngnjaaDoor
