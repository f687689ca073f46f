/-
  The parser's box in memory.
-/
import Derived.Test.YtehcpcpmcngnjaaDoorTree30
import Derived.Test.YtehcpcpmcngnjaaDoorVars30
set_option linter.unusedVariables false
set_option linter.unusedSimpArgs false
namespace Go.Proofs.YtehcpcpmcngnjaaDoor
open Go.RowKit

/-- A token's cells. -/
def cellK (t : Tk) : List Value := [.int .u8 (t.kind : Int), .int .i64 (t.at' : Int), .int .i64 (t.fin : Int)]
theorem cellK_len (t : Tk) : (cellK t).length = 3 := rfl
theorem cellK_one (t : Tk) : ∀ u ∈ cellK t, u.oneCell' = true := by
  intro u hu
  simp only [cellK, List.mem_cons, List.not_mem_nil, or_false] at hu
  rcases hu with rfl | rfl | rfl <;> rfl
/-- A token of a text. -/
structure TkOk (text : List UInt8) (t : Tk) : Prop where
  k1 : 1 ≤ t.kind
  k4 : t.kind ≤ 4
  a : t.at' < t.fin
  f : t.fin ≤ text.length
  t : t.text = cutB text t.at' t.fin
/-- What is parsed. -/
structure EnvOk (E : Env) (n : Nat) : Prop where
  len : E.toks.length = n
  small : E.text.length ≤ 65536
  few : n ≤ 65536
  tok : ∀ (i : Nat) (t : Tk), E.toks[i]? = some t → TkOk E.text t
/-- The slice of the tokens, and a base: what is read is laid at it or above. -/
structure TV where
  A : Option Addr
  n : Nat
  c : Nat
  base : Nat
/-- The parser's cells: T its tokens, Q the places. -/
def cellP (E : Env) (T : TV) (Q : SV) (s : PSt) : Array Value := #[.string (str E.text), .slice T.A T.n T.c, .int .i64 (s.n : Int), .int .i64 s.deep, .slice Q.A Q.n Q.c, .int .i64 (s.fail : Int), .int .i64 (s.e : Int)]
/-- The parser lies in the block p. -/
structure Ps (w : World) (p : Nat) (E : Env) (T : TV) (Q : SV) (s : PSt) : Prop where
  bk : Bk w p 64 (cellP E T Q s)
  rd : RdT w T.A 74 (E.toks.flatMap cellK)
  ok : EnvOk E T.n
  n : s.n ≤ T.n
  vr : Vars w
  g0 : 0 ≠ p
  g1 : 1 ≠ p
  base : T.base ≤ w.heap.size
section
variable {w w' : World} {p : Nat} {E : Env} {T : TV} {Q : SV} {s s' : PSt}
theorem Ps.below (h : Ps w p E T Q s) (hb : Below w.heap.size w w') : Ps w' p E T Q s := ⟨bkbel h.bk hb, h.rd.below hb, h.ok, h.n, h.vr.below hb, h.g0, h.g1, Nat.le_trans h.base hb.size⟩
theorem Ps.lt (h : Ps w p E T Q s) : p < w.heap.size := h.bk.lt
theorem Ps.cells (h : Ps w p E T Q s) : w.cell? ⟨p, 0, none⟩ = some (.string (str E.text)) ∧ w.cell? ⟨p, 1, none⟩ = some (.slice T.A T.n T.c) ∧ w.cell? ⟨p, 2, none⟩ = some (.int .i64 (s.n : Int)) ∧ w.cell? ⟨p, 3, none⟩ = some (.int .i64 s.deep) ∧ w.cell? ⟨p, 4, none⟩ = some (.slice Q.A Q.n Q.c) ∧ w.cell? ⟨p, 5, none⟩ = some (.int .i64 (s.fail : Int)) ∧ w.cell? ⟨p, 6, none⟩ = some (.int .i64 (s.e : Int)) :=
  ⟨h.bk.cell 0, h.bk.cell 1, h.bk.cell 2, h.bk.cell 3, h.bk.cell 4, h.bk.cell 5, h.bk.cell 6⟩
/-- Rows of another type stay when only the parser's box changes. -/
theorem Ps.keeps (h : Ps w p E T Q s) (hf : Fr (fun k => k = p) w w') {t : TypeId} (hne : 64 ≠ t) : Keeps t w w' := Keeps.box hf h.bk hne
theorem Ps.nd (h : Ps w p E T Q s) (hf : Fr (fun k => k = p) w w') {B : Nat} {x : Nd} {S R : SV} (hx : NdAt B w x S R) : NdAt B w' x S R := hx.keeps hf.size (h.keeps hf (by decide)) (h.keeps hf (by decide))
/-- The box is written anew, all else stays. -/
theorem Ps.put (h : Ps w p E T Q s) (hf : Fr (fun k => k = p) w w') (hb : Bk w' p 64 (cellP E T Q s')) (hn : s'.n ≤ T.n) : Ps w' p E T Q s' := ⟨hb, h.rd.keeps (h.keeps hf (by decide)), h.ok, hn, h.vr.fr hf h.g0 h.g1, h.g0, h.g1, Nat.le_trans h.base hf.size⟩
theorem frp (hb : Below w.heap.size w w') (p : Nat) : Fr (fun k => k = p) w w' := Fr.of_below hb
end
end Go.Proofs.YtehcpcpmcngnjaaDoor
