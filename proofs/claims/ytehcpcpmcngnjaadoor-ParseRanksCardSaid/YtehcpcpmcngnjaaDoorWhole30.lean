/-
  The parser's nodes: here, whole.
-/
import Derived.Test.YtehcpcpmcngnjaaDoorScan30
set_option linter.unusedVariables false
set_option linter.unusedSimpArgs false
namespace Go.Proofs.YtehcpcpmcngnjaaDoor
open Go.RowKit Go.PlainAid

theorem pokeB' {w : World} {o : Obj} : Below w.heap.size w (w.alloc o) := balloc (Below.refl _ _) _
/-- A node's value. -/
def nodeV (x : Nd) (S Q : SV) : Value := .agg (cellN x S Q).toArray
theorem ret_node {x y : Nd} {S Q : SV} (h : x = y) : Ending.returned (nodeV x S Q) = .returned (nodeV y S Q) := by rw [h]
theorem el_ex : El Tryd.prog 26 28 6 := El.mk' (z := .agg #[.int .u8 0, .int .u8 0, .int .u32 0, .int .i64 0, .string ⟨#[]⟩, .slice none 0 0]) (bytes := 56) Tryd.underlying26 (by kernel_rfl) rfl (by omega) (by omega)
theorem el_in : El Tryd.prog 52 3 1 := El.mk' (z := .int .i64 0) (bytes := 8) Tryd.underlying52 (by kernel_rfl) rfl (by omega) (by omega)
theorem cells7 {w : World} {g : Nat} {t : TypeId} {u0 u1 u2 u3 u4 u5 u6 : Value} (h : Bk w g t #[u0, u1, u2, u3, u4, u5, u6]) : w.cell? ⟨g, 0, none⟩ = some u0 ∧ w.cell? ⟨g, 1, none⟩ = some u1 ∧ w.cell? ⟨g, 2, none⟩ = some u2 ∧ w.cell? ⟨g, 3, none⟩ = some u3 ∧ w.cell? ⟨g, 4, none⟩ = some u4 ∧ w.cell? ⟨g, 5, none⟩ = some u5 ∧ w.cell? ⟨g, 6, none⟩ = some u6 := ⟨h.cell 0, h.cell 1, h.cell 2, h.cell 3, h.cell 4, h.cell 5, h.cell 6⟩
theorem froz7 {w : World} {g : Nat} {t : TypeId} {cs : Array Value} (h : Bk w g t cs) : w.frozen? ⟨g, 0, none⟩ = false ∧ w.frozen? ⟨g, 1, none⟩ = false ∧ w.frozen? ⟨g, 2, none⟩ = false ∧ w.frozen? ⟨g, 3, none⟩ = false ∧ w.frozen? ⟨g, 4, none⟩ = false ∧ w.frozen? ⟨g, 5, none⟩ = false ∧ w.frozen? ⟨g, 6, none⟩ = false := ⟨h.frozen 0, h.frozen 1, h.frozen 2, h.frozen 3, h.frozen 4, h.frozen 5, h.frozen 6⟩
set_option maxRecDepth 100000 in
theorem hereC (x : Nd) (S Q : SV) (w : World) (h : Hid (AtsAt w Q x.2)) : Calls Tryd.prog 49 #[nodeV x S Q] w fun e w' => e = .returned (.int .i64 (hereP x : Int)) ∧ Below w.heap.size w w' := by
  obtain ⟨ex, l⟩ := x
  obtain ⟨QA, Qn, Qc⟩ := Q
  have hl := h.out.len
  dsimp only at hl
  unfold nodeV cellN cellT
  simp only [List.cons_append, List.nil_append]
  generalize Ex.kind ex = k0
  generalize Ex.op ex = k1
  generalize Ex.value ex = k2
  generalize Ex.width ex = k3
  generalize Ex.name ex = k4
  cases l with
  | nil =>
    have e1 : ((Qn : Int) == 0) = true := by simp at hl; simp; omega
    have E : Hid (hereP (ex, []) = 0) := rfl
    go_enter Tryd.func49, Tryd.ntmps49
    go_wp2_with fail
    go_ret
    exact ⟨rfl, pokeB'⟩
  | cons a r =>
    have e1 : ((Qn : Int) == 0) = false := by simp at hl; simp; omega
    have hq0 : 0 < Qn := by simp at hl; omega
    have hq1 : (0 : Int) < (Qn : Int) := by omega
    obtain ⟨b, off, hA, hb, hc⟩ := h.out.rd.rd.cells (by simp [natsV])
    dsimp only at hA
    subst hA
    have c0 : w.cell? ⟨b, off, none⟩ = some (.int .i64 (a : Int)) := hc 0 _ rfl
    have E : Hid (hereP (ex, a :: r) = a) := rfl
    clear hc
    go_enter Tryd.func49, Tryd.ntmps49
    go_wp2_with fail
    go_ret
    exact ⟨rfl, pokeB'⟩
end Go.Proofs.YtehcpcpmcngnjaaDoor
