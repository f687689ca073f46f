/-
  Results of symbolic execution in memory.
-/
import Derived.Test.YtamoniljgifggaaSim
set_option linter.unusedVariables false
set_option linter.unusedSimpArgs false
namespace Go.Proofs.Ytamoniljgifggaa
open Go.RowKit

/-- An operation. -/
structure OpR where
  kind : Int
  done : Int
  sel : Int
  write : Int
deriving DecidableEq

/-- A result. -/
structure Res where
  G : List Nd
  ins : List (List Int)
  req : Int
  ops : List OpR
  keep : List Int
  cached : List Int
  rules : List Int
  bey : Int
  hol : Int

/-- A slice's value. -/
structure SV where
  A : Option Addr
  n : Nat
  c : Nat
def SV.val (s : SV) : Value := .slice s.A s.n s.c

/-- Where a result lies. -/
structure RV where
  g : Nat
  I : SV
  S : List SV
  O : SV
  K : SV
  C : SV
  R : SV

def ocell (x : OpR) : List Value := [.int .u8 x.kind, .int .i64 x.done, .int .i64 x.sel, .int .i64 x.write]
def ocells (L : List OpR) : List Value := L.flatMap ocell
theorem ocells_length (L : List OpR) : (ocells L).length = L.length * 4 := by
  induction L with
  | nil => rfl
  | cons x D ih => simp only [ocells, List.flatMap_cons, List.length_append] at ih ⊢; rw [ih]; simp [ocell]; omega
theorem ocells_at (L : List OpR) (i : Nat) (x : OpR) (h : L[i]? = some x) :
    (ocells L)[i * 4]? = some (.int .u8 x.kind) ∧ (ocells L)[i * 4 + 1]? = some (.int .i64 x.done) ∧ (ocells L)[i * 4 + 2]? = some (.int .i64 x.sel) ∧ (ocells L)[i * 4 + 3]? = some (.int .i64 x.write) := by
  induction L generalizing i with
  | nil => simp at h
  | cons y D ih =>
    have hc : ocells (y :: D) = ocell y ++ ocells D := rfl
    cases i with
    | zero => simp at h; subst h; simp [hc, ocell]
    | succ i =>
      simp at h
      obtain ⟨h1, h2, h3, h4⟩ := ih i h
      have hl : (ocell y).length = 4 := rfl
      refine ⟨?_, ?_, ?_, ?_⟩
      · rw [hc, List.getElem?_append_right (by rw [hl]; omega), hl]; rw [← h1]; congr 1; omega
      · rw [hc, List.getElem?_append_right (by rw [hl]; omega), hl]; rw [← h2]; congr 1; omega
      · rw [hc, List.getElem?_append_right (by rw [hl]; omega), hl]; rw [← h3]; congr 1; omega
      · rw [hc, List.getElem?_append_right (by rw [hl]; omega), hl]; rw [← h4]; congr 1; omega
theorem Rd.op {w : World} {A : Option Addr} {L : List OpR} {n i : Nat} (h : Rd w A (ocells L)) (hl : L.length = n) (hi : i < n) :
    ∃ b off x, A = some ⟨b, off, none⟩ ∧ L[i]? = some x ∧ b < w.heap.size ∧ w.cell? ⟨b, off + i * 4, none⟩ = some (.int .u8 x.kind) ∧ w.cell? ⟨b, off + i * 4 + 1, none⟩ = some (.int .i64 x.done) ∧ w.cell? ⟨b, off + i * 4 + 2, none⟩ = some (.int .i64 x.sel) ∧ w.cell? ⟨b, off + i * 4 + 3, none⟩ = some (.int .i64 x.write) := by
  have hne : ocells L ≠ [] := by
    intro e
    have := ocells_length L
    rw [e] at this
    simp at this
    omega
  obtain ⟨b, off, rfl, hb, hc⟩ := h.cells hne
  have hx : L[i]? = some (L[i]'(by omega)) := List.getElem?_eq_getElem _
  obtain ⟨h1, h2, h3, h4⟩ := ocells_at L i _ hx
  exact ⟨b, off, _, rfl, hx, hb, hc _ _ h1, hc _ _ h2, hc _ _ h3, hc _ _ h4⟩

/-- Numbers of 64 bits. -/
def I64 (r : Int) : Prop := -9223372036854775808 ≤ r ∧ r ≤ 9223372036854775807

/-- A list of numbers at a slice. -/
def IntsAt (w : World) (s : SV) (l : List Int) : Prop := Rd w s.A (l.map (Value.int .i64)) ∧ l.length = s.n ∧ ∀ u ∈ l, I64 u
theorem IntsAt.below {w w' : World} {s : SV} {l : List Int} (h : IntsAt w s l) (hb : Below w.heap.size w w') : IntsAt w' s l := ⟨h.1.below hb, h.2.1, h.2.2⟩

/-- The result R lies at x. -/
structure ResAt (w : World) (B : Nat) (M : Int) (x : RV) (R : Res) : Prop where
  g : GAt w B x.g M R.G
  gok : GOk R.G
  glen : 0 < R.G.length ∧ R.G.length ≤ 65536
  ins : Rd w x.I.A (x.S.map SV.val)
  insn : x.S.length = x.I.n
  inner : x.S.length = R.ins.length ∧ ∀ (i : Nat) (s : SV) (l : List Int), x.S[i]? = some s → R.ins[i]? = some l → IntsAt w s l ∧ l.length ≤ 100000
  ops : Rd w x.O.A (ocells R.ops)
  opsn : R.ops.length = x.O.n
  opsw : ∀ o ∈ R.ops, I64 o.done ∧ I64 o.sel ∧ I64 o.write ∧ 0 ≤ o.kind ∧ o.kind ≤ 255
  keep : IntsAt w x.K R.keep
  cached : IntsAt w x.C R.cached
  rules : IntsAt w x.R R.rules
  nums : I64 R.req ∧ I64 R.bey ∧ I64 R.hol
  small : x.I.n ≤ 100000 ∧ x.O.n ≤ 100000 ∧ x.K.n ≤ 100000 ∧ x.C.n ≤ 100000 ∧ x.R.n ≤ 100000

theorem ResAt.below {w w' : World} {B : Nat} {M : Int} {x : RV} {R : Res} (h : ResAt w B M x R) (hb : Below w.heap.size w w') : ResAt w' B M x R :=
  ⟨h.g.below hb, h.gok, h.glen, h.ins.below hb, h.insn, ⟨h.inner.1, fun i s l hs hl => ⟨(h.inner.2 i s l hs hl).1.below hb, (h.inner.2 i s l hs hl).2⟩⟩, h.ops.below hb, h.opsn, h.opsw, h.keep.below hb, h.cached.below hb, h.rules.below hb, h.nums, h.small⟩

/-- The operations are right: how many writes there are; none if they are not. -/
def opsCount : Nat → List OpR → Option Nat
  | n, [] => some n
  | n, o :: L => if o.kind = 3 then (if o.write = n then opsCount (n + 1) L else none) else if (o.kind = 4 ∨ o.kind = 5) ∧ o.write = -1 then opsCount n L else none
theorem opsCount_snoc (L : List OpR) (o : OpR) (n : Nat) : opsCount n (L ++ [o]) = (opsCount n L).bind fun m => opsCount m [o] := by
  induction L generalizing n with
  | nil => rfl
  | cons x L ih =>
    simp only [List.cons_append, opsCount]
    split
    · split
      · exact ih _
      · rfl
    · split
      · exact ih _
      · rfl
theorem opsCount_le (L : List OpR) (n m : Nat) (h : opsCount n L = some m) : n ≤ m ∧ m ≤ n + L.length := by
  induction L generalizing n with
  | nil => simp [opsCount] at h; simp; omega
  | cons x L ih =>
    simp only [opsCount] at h
    split at h
    · split at h
      · have := ih _ h; simp; omega
      · cases h
    · split at h
      · have := ih _ h; simp; omega
      · cases h
theorem opsCount_none (L K : List OpR) (n : Nat) (h : opsCount n L = none) : opsCount n (L ++ K) = none := by
  induction K generalizing L with
  | nil => simpa using h
  | cons x K ih =>
    have : L ++ x :: K = (L ++ [x]) ++ K := by simp
    rw [this]
    apply ih
    rw [opsCount_snoc, h]
    rfl
/-- operations, as the program has it. -/
def opsOk (R : Res) : Bool := match opsCount 0 R.ops with
  | some n => decide (R.keep.length = n ∧ R.cached.length = n)
  | none => false
end Go.Proofs.Ytamoniljgifggaa
