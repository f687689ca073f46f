/-
  Expressions in memory: those of the program and those of the reference; nodes of the parser. No walk.
-/
import Derived.Test.YtehcpcpmcngnjaaDoorBase30
import Derived.Test.YtehcpcpmcngnjaaDoorPars
set_option linter.unusedVariables false
set_option linter.unusedSimpArgs false
namespace Go.Proofs.YtehcpcpmcngnjaaDoor
open Go.RowKit

def Ex.kind : Ex → Nat | .mk k _ _ _ _ _ => k
def Ex.op : Ex → Nat | .mk _ o _ _ _ _ => o
def Ex.value : Ex → Nat | .mk _ _ v _ _ _ => v
def Ex.width : Ex → Int | .mk _ _ _ w _ _ => w
def Ex.name : Ex → List UInt8 | .mk _ _ _ _ n _ => n
def Ex.subs : Ex → List Ex | .mk _ _ _ _ _ l => l
/-- The cells of an expression: of the program, of the reference. -/
def cellT (x : Ex) (S : SV) : List Value := [.int .u8 (x.kind : Int), .int .u8 (x.op : Int), .int .u32 (x.value : Int), .int .i64 x.width, .string (str x.name), .slice S.A S.n S.c]
def cellR (x : Ex) (S : SV) : List Value := [.int .i64 (x.kind : Int), .int .i64 (x.op : Int), .int .i64 (x.value : Int), .int .i64 x.width, .string (str x.name), .slice S.A S.n S.c]
/-- What an expression's own fields may be. -/
structure ExOk (x : Ex) : Prop where
  k : x.kind ≤ 255
  o : x.op ≤ 255
  v : x.value ≤ 4294967295
  w0 : -9223372036854775808 ≤ x.width
  w1 : x.width ≤ 9223372036854775807
  n : x.name.length ≤ 1000000
  s : x.subs.length ≤ 1000
/-- The expression x, whose subs lie at the slice S. -/
inductive TreeAt (B : Nat) (c : Ex → SV → List Value) (t : TypeId) (w : World) : Ex → SV → Prop where
  | mk (x : Ex) (S : SV) (vs : List SV) (ok : ExOk x) (hl : vs.length = x.subs.length) (hn : S.n = x.subs.length) (hB : ∀ b off, S.A = some ⟨b, off, none⟩ → B ≤ b) (rd : RdT w S.A t ((x.subs.zip vs).flatMap fun p => c p.1 p.2))
      (all : ∀ (i : Nat) (y : Ex) (v : SV), x.subs[i]? = some y → vs[i]? = some v → TreeAt B c t w y v) : TreeAt B c t w x S
section
variable {B B2 : Nat} {c : Ex → SV → List Value} {t : TypeId} {w w' : World} {x : Ex} {S : SV}
theorem TreeAt.keeps (h : TreeAt B c t w x S) (hk : Keeps t w w') : TreeAt B c t w' x S := by
  induction h with
  | mk x S vs ok hl hn hB rd all ih => exact .mk x S vs ok hl hn hB (rd.keeps hk) fun i y v hy hv => ih i y v hy hv
theorem TreeAt.bel (h : TreeAt B c t w x S) (hb : Below w.heap.size w w') : TreeAt B c t w' x S := h.keeps (Keeps.below hb)
theorem TreeAt.ok (h : TreeAt B c t w x S) : ExOk x := by cases h; assumption
theorem TreeAt.len (h : TreeAt B c t w x S) : S.n = x.subs.length := by cases h; assumption
/-- The subs of an expression, one by one. -/
theorem TreeAt.subs (h : TreeAt B c t w x S) : ∃ vs : List SV, vs.length = x.subs.length ∧ RdT w S.A t ((x.subs.zip vs).flatMap fun p => c p.1 p.2) ∧ ∀ (i : Nat) (y : Ex) (v : SV), x.subs[i]? = some y → vs[i]? = some v → TreeAt B c t w y v := by
  cases h with
  | mk x S vs ok hl hn hB rd all => exact ⟨vs, hl, rd, all⟩
theorem TreeAt.leaf (ok : ExOk x) (hs : x.subs = []) (c0 : Nat) : TreeAt B c t w x ⟨none, 0, c0⟩ := .mk x _ [] ok (by rw [hs]; rfl) (by rw [hs]; rfl) (fun _ _ h => by cases h) (by rw [hs]; exact RdT.nil) (fun i y v hy _ => by rw [hs] at hy; simp at hy)
/-- Only a block below the base has changed. -/
theorem TreeAt.far (h : TreeAt B c t w x S) {r : Nat} (hf : Fr (fun k => k = r) w w') (hr : r < B) : TreeAt B c t w' x S := by
  induction h with
  | mk x S vs ok hl hn hB rd all ih =>
    refine .mk x S vs ok hl hn hB ⟨fun hx => ?_, fun b off he => ?_⟩ fun i y v hy hv => ih i y v hy hv
    · obtain ⟨b, off, cs, t0, fr, hA, hb, hc⟩ := rd.rd hx
      have := hB b off hA
      exact ⟨b, off, cs, t0, fr, hA, (hf.block b (lt_of_heap hb) (by omega)).trans hb, hc⟩
    · obtain ⟨cs, fr, hb⟩ := rd.ty b off he
      have := hB b off he
      exact ⟨cs, fr, (hf.block b (lt_of_heap hb) (by omega)).trans hb⟩
theorem TreeAt.less (h : TreeAt B c t w x S) (hb : B2 ≤ B) : TreeAt B2 c t w x S := by
  induction h with
  | mk x S vs ok hl hn hB rd all ih => exact .mk x S vs ok hl hn (fun b off e => Nat.le_trans hb (hB b off e)) rd fun i y v hy hv => ih i y v hy hv
/-- One sub of an expression, its cells. -/
theorem TreeAt.sub (hc : ∀ x S, (c x S).length = 6) (h : TreeAt B c t w x S) {i : Nat} (hi : i < S.n) :
    ∃ b off y v, S.A = some ⟨b, off, none⟩ ∧ x.subs[i]? = some y ∧ TreeAt B c t w y v ∧ b < w.heap.size ∧ ∀ j u, j < 6 → (c y v)[j]? = some u → w.cell? ⟨b, off + (i * 6 + j), none⟩ = some u := by
  cases h with
  | mk x S vs ok hl hn hB rd all =>
    obtain ⟨b, off, p, hA, hp, hb, hcl⟩ := rd.rd.flat (f := fun p : Ex × SV => c p.1 p.2) (m := 6) (fun p => hc _ _) (by omega) (L := x.subs.zip vs) (i := i) (by rw [List.length_zip, hl, Nat.min_self, ← hn]; exact hi)
    obtain ⟨y, v⟩ := p
    obtain ⟨h1, h2⟩ := List.getElem?_zip_eq_some.1 hp
    exact ⟨b, off, y, v, hA, h1, all i y v h1 h2, hb, hcl⟩
end
theorem cellT_len (x : Ex) (S : SV) : (cellT x S).length = 6 := rfl
theorem cellR_len (x : Ex) (S : SV) : (cellR x S).length = 6 := rfl
theorem cellT_one (x : Ex) (S : SV) : ∀ u ∈ cellT x S, u.oneCell' = true := by
  intro u hu
  simp only [cellT, List.mem_cons, List.not_mem_nil, or_false] at hu
  rcases hu with rfl | rfl | rfl | rfl | rfl | rfl <;> rfl
theorem cellR_one (x : Ex) (S : SV) : ∀ u ∈ cellR x S, u.oneCell' = true := by
  intro u hu
  simp only [cellR, List.mem_cons, List.not_mem_nil, or_false] at hu
  rcases hu with rfl | rfl | rfl | rfl | rfl | rfl <;> rfl
/-- An expression of the program, of the reference. -/
abbrev TrT (B : Nat) (w : World) (x : Ex) (S : SV) : Prop := TreeAt B cellT 28 w x S
abbrev TrR (B : Nat) (w : World) (x : Ex) (S : SV) : Prop := TreeAt B cellR 49 w x S
/-- Places, in a row. -/
def natsV (l : List Nat) : List Value := l.map fun (n : Nat) => Value.int .i64 (n : Int)
structure AtsAt (w : World) (Q : SV) (l : List Nat) : Prop where
  rd : RdT w Q.A 3 (natsV l)
  len : l.length = Q.n
  all : ∀ n ∈ l, n ≤ 1000000
  small : Q.n ≤ 100000000
theorem AtsAt.keeps {w w' : World} {Q : SV} {l : List Nat} (h : AtsAt w Q l) (hk : Keeps 3 w w') : AtsAt w' Q l := ⟨h.rd.keeps hk, h.len, h.all, h.small⟩
/-- A node of the parser: an expression and where it stands. -/
structure NdAt (B : Nat) (w : World) (x : Nd) (S Q : SV) : Prop where
  t : TrT B w x.1 S
  a : AtsAt w Q x.2
  base : B ≤ w.heap.size
theorem NdAt.keeps {B : Nat} {w w' : World} {x : Nd} {S Q : SV} (h : NdAt B w x S Q) (hs : w.heap.size ≤ w'.heap.size) (h1 : Keeps 28 w w') (h2 : Keeps 3 w w') : NdAt B w' x S Q := ⟨h.t.keeps h1, h.a.keeps h2, Nat.le_trans h.base hs⟩
theorem NdAt.below {B : Nat} {w w' : World} {x : Nd} {S Q : SV} (h : NdAt B w x S Q) (hb : Below w.heap.size w w') : NdAt B w' x S Q := h.keeps hb.size (Keeps.below hb) (Keeps.below hb)
/-- A node's cells, its value. -/
def cellN (x : Nd) (S Q : SV) : List Value := cellT x.1 S ++ [.slice Q.A Q.n Q.c]
end Go.Proofs.YtehcpcpmcngnjaaDoor
