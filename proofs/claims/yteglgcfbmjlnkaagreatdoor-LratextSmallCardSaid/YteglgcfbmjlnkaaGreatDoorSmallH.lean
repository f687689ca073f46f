/-
  LratextSmall: what its walk leans on.
-/
import Derived.Test.YteglgcfbmjlnkaaGreatDoorTellsT
import Derived.Test.YteglgcfbmjlnkaaGreatDoorAwake7
import Derived.Test.YteglgcfbmjlnkaaGreatDoorReadsL
import Derived.Test.YteglgcfbmjlnkaaGreatDoorRepT
import Derived.Test.YteglgcfbmjlnkaaGreatDoorSmallP
set_option linter.unusedVariables false
set_option linter.unusedSimpArgs false
namespace Go.Proofs.YteglgcfbmjlnkaaGreatDoor
open Go.RowKit

def nineS : List ByteArray := [⟨#[48]⟩, ⟨#[49]⟩, ⟨#[45, 49]⟩, ⟨#[100]⟩, ⟨#[50]⟩, ⟨#[48, 49]⟩, ⟨#[]⟩, ⟨#[99]⟩, ⟨#[43, 49]⟩]
def headS : List ByteArray := [⟨#[49, 32, 48, 32, 48]⟩, ⟨#[50, 32, 100, 32, 49, 32, 48]⟩, ⟨#[49, 32, 100, 32, 48]⟩, ⟨#[48, 32, 100, 32, 48]⟩, ⟨#[50, 32, 49, 32, 48, 32, 49, 32, 48]⟩, ⟨#[99]⟩, ⟨#[99, 32, 120]⟩, ⟨#[99, 120]⟩, ⟨#[]⟩, ⟨#[32]⟩, ⟨#[49, 48, 52, 56, 53, 55, 54, 32, 45, 49, 48, 52, 56, 53, 55, 54, 32, 48, 32, 49, 48, 55, 51, 55, 52, 49, 56, 50, 52, 32, 48]⟩, ⟨#[49, 48, 55, 51, 55, 52, 49, 56, 50, 53, 32, 48, 32, 48]⟩, ⟨#[49, 32, 49, 48, 52, 56, 53, 55, 55, 32, 48, 32, 48]⟩, ⟨#[49, 32, 48, 32, 45, 49, 48, 55, 51, 55, 52, 49, 56, 50, 53, 32, 48]⟩, ⟨#[49, 32, 49, 32, 49, 32, 48, 32, 49, 32, 49, 32, 48]⟩, ⟨#[57, 57, 57, 57, 57, 57, 57, 57, 57, 57, 57, 57, 57, 57, 57, 57, 57, 57, 57, 57, 32, 48, 32, 48]⟩]
def tailS : List ByteArray := [⟨#[49, 32, 48, 32, 48]⟩, ⟨#[50, 32, 100, 32, 49, 32, 48]⟩, ⟨#[49, 32, 100, 32, 48]⟩, ⟨#[51, 32, 48, 32, 45, 49, 32, 48]⟩, ⟨#[]⟩, ⟨#[99]⟩, ⟨#[51, 32, 48, 32, 48, 13]⟩]
theorem nine_short : ∀ x ∈ nineS, x.size ≤ 10 := by decide +kernel
theorem head_short : ∀ x ∈ headS, x.size ≤ 100 := by decide +kernel
theorem tail_short : ∀ x ∈ tailS, x.size ≤ 100 := by decide +kernel
theorem wd_new (w : World) (t : TypeId) (L : List ByteArray) : WdAt (w.alloc (.cells (L.map Value.string).toArray t)) w.heap.size L := ⟨by simp, fun i x hx => by
  rw [(Bk.new w t (L.map Value.string).toArray).cell i]
  simp [hx]⟩
theorem WdAt.some {W : World} {b k : Nat} {L : List ByteArray} (h : WdAt W b L) (hk : k < L.length) : ∃ x, x ∈ L ∧ W.cell? ⟨b, k, none⟩ = some (.string x) := ⟨L[k], List.getElem_mem hk, h.2 k _ (List.getElem?_eq_getElem hk)⟩
theorem Bk.someI {W : World} {b k : Nat} {t : TypeId} {L : List Int} (h : Bk W b t (L.map (Value.int .i64)).toArray) (hk : k < L.length) : ∃ n, n ∈ L ∧ W.cell? ⟨b, k, none⟩ = some (.int .i64 n) := ⟨L[k], List.getElem_mem hk, by rw [h.cell]; simp [hk]⟩
theorem Bk.someB {W : World} {b k : Nat} {t : TypeId} (h : Bk W b t #[.bool false, .bool true]) (hk : k < 2) : ∃ r, W.cell? ⟨b, k, none⟩ = some (.bool r) := by
  rw [h.cell]
  match k, hk with
  | 0, _ => exact ⟨false, rfl⟩
  | 1, _ => exact ⟨true, rfl⟩
theorem alloc_ext {w : World} {a b : Array Value} {t : TypeId} (h : a = b) : w.alloc (.cells a t) = w.alloc (.cells b t) := by rw [h]
/-- Join of the first words. -/
theorem joinFew (b n : Nat) (L : List ByteArray) (hL : ∀ x ∈ L, x.size ≤ 10) (h5 : L.length = 5) (W0 W : World) (hw : Hid (WdAt W0 b L)) (hW : Below W0.heap.size W0 W) (hn : n ≤ 5) :
    Calls Tryz.prog 9 #[.slice (some ⟨b, 0, none⟩) n 5, .string ⟨#[32]⟩] W fun e w' => ∃ x, x.size ≤ 100 ∧ e = .returned (.string x) ∧ Below W.heap.size W w' := by
  have hlen : (L.take n).length = n := by rw [List.length_take]; omega
  have hsm : (Lib.join ((L.take n).map (·.data.toList)) [32]).length ≤ 100 := by
    have h1 := join_len 32 ((L.take n).map (·.data.toList)) (fun u hu => by
      obtain ⟨x, hx, rfl⟩ := List.mem_map.1 hu
      have := hL x (List.mem_of_mem_take hx)
      rw [← data_len] at this
      exact this)
    rw [List.length_map, hlen] at h1
    omega
  have hj := Tryz.strings_Join b 0 5 (L.take n) ⟨#[32]⟩ W (fun j x hj => by
    rw [Nat.zero_add]
    refine (hw.out.below hW).2 j x ?_
    rw [List.getElem?_take] at hj
    split at hj
    · exact hj
    · cases hj) (Nat.lt_of_lt_of_le hw.out.1 hW.size) (by rw [hlen]; omega) (by rw [hlen]; exact hn) (by show (Lib.join ((L.take n).map (·.data.toList)) [32]).length ≤ _; omega)
  rw [hlen] at hj
  refine hj.mono ?_
  rintro e w' ⟨rfl, hb⟩
  exact ⟨_, by show (Lib.join ((L.take n).map (·.data.toList)) [32]).toArray.size ≤ 100; simpa using hsm, rfl, hb⟩
/-- Slices of steps, in a slice. -/
structure RowsZ (w : World) (g : Nat) (Q : List (SV × List (StV × Stp))) : Prop where
  lt : g < w.heap.size
  cell : ∀ (i : Nat) p, Q[i]? = some p → w.cell? ⟨g, i, none⟩ = some (.slice p.1.A p.1.n p.1.c)
  all : ∀ (i : Nat) p, Q[i]? = some p → StepsAt w p.1.A p.1.n p.2 ∧ p.1.n ≤ 3 ∧ ∀ q ∈ p.2, q.2.lits.length ≤ 2000 ∧ q.2.hints.length ≤ 2000
theorem RowsZ.below {w w' : World} {g : Nat} {Q : List (SV × List (StV × Stp))} (h : RowsZ w g Q) (hb : Below w.heap.size w w') : RowsZ w' g Q :=
  ⟨Nat.lt_of_lt_of_le h.lt hb.size, fun i p hp => (hb.cell (p := ⟨g, i, none⟩) h.lt).trans (h.cell i p hp), fun i p hp => ⟨(h.all i p hp).1.below hb, (h.all i p hp).2⟩⟩
def sixQ (b : Nat) (r : Bool) (n : Int) : List (SV × List (StV × Stp)) := [(⟨some ⟨b, 0, none⟩, 1, 1⟩, [(⟨⟨none, 0, 0⟩, ⟨none, 0, 0⟩⟩, ⟨r, n, [], []⟩)]), (⟨some ⟨b + 2, 0, none⟩, 1, 1⟩, [(⟨⟨none, 0, 0⟩, ⟨some ⟨b + 1, 0, none⟩, 2, 2⟩⟩, ⟨r, 5, [], [1, n]⟩)]), (⟨some ⟨b + 3, 0, none⟩, 2, 2⟩, [(⟨⟨none, 0, 0⟩, ⟨none, 0, 0⟩⟩, ⟨false, 3, [], []⟩), (⟨⟨none, 0, 0⟩, ⟨none, 0, 0⟩⟩, ⟨r, n, [], []⟩)]), (⟨some ⟨b + 4, 0, none⟩, 2, 2⟩, [(⟨⟨none, 0, 0⟩, ⟨none, 0, 0⟩⟩, ⟨r, 3, [], []⟩), (⟨⟨none, 0, 0⟩, ⟨none, 0, 0⟩⟩, ⟨false, 3, [], []⟩)]), (⟨some ⟨b + 5, 0, none⟩, 3, 3⟩, [(⟨⟨none, 0, 0⟩, ⟨none, 0, 0⟩⟩, ⟨true, 3, [], []⟩), (⟨⟨none, 0, 0⟩, ⟨none, 0, 0⟩⟩, ⟨r, n, [], []⟩), (⟨⟨none, 0, 0⟩, ⟨none, 0, 0⟩⟩, ⟨false, 4, [], []⟩)]), (⟨some ⟨b + 7, 0, none⟩, 1, 1⟩, [(⟨⟨some ⟨b + 6, 0, none⟩, 1, 1⟩, ⟨none, 0, 0⟩⟩, ⟨r, 3, [1], []⟩)])]
theorem six_rows (w : World) (r : Bool) (n : Int) (hn : I64 n) : RowsZ (((((((((w.alloc (.cells #[.bool r, .int .i64 n, .slice none 0 0, .slice none 0 0] 33)).alloc (.cells #[.int .i64 1, .int .i64 n] 3)).alloc (.cells #[.bool r, .int .i64 5, .slice none 0 0, .slice (some ⟨w.heap.size + 1, 0, none⟩) 2 2] 33)).alloc (.cells #[.bool false, .int .i64 3, .slice none 0 0, .slice none 0 0, .bool r, .int .i64 n, .slice none 0 0, .slice none 0 0] 33)).alloc (.cells #[.bool r, .int .i64 3, .slice none 0 0, .slice none 0 0, .bool false, .int .i64 3, .slice none 0 0, .slice none 0 0] 33)).alloc (.cells #[.bool true, .int .i64 3, .slice none 0 0, .slice none 0 0, .bool r, .int .i64 n, .slice none 0 0, .slice none 0 0, .bool false, .int .i64 4, .slice none 0 0, .slice none 0 0] 33)).alloc (.cells #[.int .i64 1] 34)).alloc (.cells #[.bool r, .int .i64 3, .slice (some ⟨w.heap.size + 6, 0, none⟩) 1 1, .slice none 0 0] 33)).alloc (.cells #[.slice (some ⟨w.heap.size, 0, none⟩) 1 1, .slice (some ⟨w.heap.size + 2, 0, none⟩) 1 1, .slice (some ⟨w.heap.size + 3, 0, none⟩) 2 2, .slice (some ⟨w.heap.size + 4, 0, none⟩) 2 2, .slice (some ⟨w.heap.size + 5, 0, none⟩) 3 3, .slice (some ⟨w.heap.size + 7, 0, none⟩) 1 1] 22)) (w.heap.size + 8) (sixQ w.heap.size r n) := by
  have k0 : Bk (((((((((w.alloc (.cells #[.bool r, .int .i64 n, .slice none 0 0, .slice none 0 0] 33)).alloc (.cells #[.int .i64 1, .int .i64 n] 3)).alloc (.cells #[.bool r, .int .i64 5, .slice none 0 0, .slice (some ⟨w.heap.size + 1, 0, none⟩) 2 2] 33)).alloc (.cells #[.bool false, .int .i64 3, .slice none 0 0, .slice none 0 0, .bool r, .int .i64 n, .slice none 0 0, .slice none 0 0] 33)).alloc (.cells #[.bool r, .int .i64 3, .slice none 0 0, .slice none 0 0, .bool false, .int .i64 3, .slice none 0 0, .slice none 0 0] 33)).alloc (.cells #[.bool true, .int .i64 3, .slice none 0 0, .slice none 0 0, .bool r, .int .i64 n, .slice none 0 0, .slice none 0 0, .bool false, .int .i64 4, .slice none 0 0, .slice none 0 0] 33)).alloc (.cells #[.int .i64 1] 34)).alloc (.cells #[.bool r, .int .i64 3, .slice (some ⟨w.heap.size + 6, 0, none⟩) 1 1, .slice none 0 0] 33)).alloc (.cells #[.slice (some ⟨w.heap.size, 0, none⟩) 1 1, .slice (some ⟨w.heap.size + 2, 0, none⟩) 1 1, .slice (some ⟨w.heap.size + 3, 0, none⟩) 2 2, .slice (some ⟨w.heap.size + 4, 0, none⟩) 2 2, .slice (some ⟨w.heap.size + 5, 0, none⟩) 3 3, .slice (some ⟨w.heap.size + 7, 0, none⟩) 1 1] 22)) (w.heap.size) 33 #[.bool r, .int .i64 n, .slice none 0 0, .slice none 0 0] := (((((((((Bk.newAt w _ _ (w.heap.size) (by simp)).alloc _).alloc _).alloc _).alloc _).alloc _).alloc _).alloc _).alloc _)
  have k1 : Bk (((((((((w.alloc (.cells #[.bool r, .int .i64 n, .slice none 0 0, .slice none 0 0] 33)).alloc (.cells #[.int .i64 1, .int .i64 n] 3)).alloc (.cells #[.bool r, .int .i64 5, .slice none 0 0, .slice (some ⟨w.heap.size + 1, 0, none⟩) 2 2] 33)).alloc (.cells #[.bool false, .int .i64 3, .slice none 0 0, .slice none 0 0, .bool r, .int .i64 n, .slice none 0 0, .slice none 0 0] 33)).alloc (.cells #[.bool r, .int .i64 3, .slice none 0 0, .slice none 0 0, .bool false, .int .i64 3, .slice none 0 0, .slice none 0 0] 33)).alloc (.cells #[.bool true, .int .i64 3, .slice none 0 0, .slice none 0 0, .bool r, .int .i64 n, .slice none 0 0, .slice none 0 0, .bool false, .int .i64 4, .slice none 0 0, .slice none 0 0] 33)).alloc (.cells #[.int .i64 1] 34)).alloc (.cells #[.bool r, .int .i64 3, .slice (some ⟨w.heap.size + 6, 0, none⟩) 1 1, .slice none 0 0] 33)).alloc (.cells #[.slice (some ⟨w.heap.size, 0, none⟩) 1 1, .slice (some ⟨w.heap.size + 2, 0, none⟩) 1 1, .slice (some ⟨w.heap.size + 3, 0, none⟩) 2 2, .slice (some ⟨w.heap.size + 4, 0, none⟩) 2 2, .slice (some ⟨w.heap.size + 5, 0, none⟩) 3 3, .slice (some ⟨w.heap.size + 7, 0, none⟩) 1 1] 22)) (w.heap.size + 1) 3 #[.int .i64 1, .int .i64 n] := ((((((((Bk.newAt (w.alloc (.cells #[.bool r, .int .i64 n, .slice none 0 0, .slice none 0 0] 33)) _ _ (w.heap.size + 1) (by simp)).alloc _).alloc _).alloc _).alloc _).alloc _).alloc _).alloc _)
  have k2 : Bk (((((((((w.alloc (.cells #[.bool r, .int .i64 n, .slice none 0 0, .slice none 0 0] 33)).alloc (.cells #[.int .i64 1, .int .i64 n] 3)).alloc (.cells #[.bool r, .int .i64 5, .slice none 0 0, .slice (some ⟨w.heap.size + 1, 0, none⟩) 2 2] 33)).alloc (.cells #[.bool false, .int .i64 3, .slice none 0 0, .slice none 0 0, .bool r, .int .i64 n, .slice none 0 0, .slice none 0 0] 33)).alloc (.cells #[.bool r, .int .i64 3, .slice none 0 0, .slice none 0 0, .bool false, .int .i64 3, .slice none 0 0, .slice none 0 0] 33)).alloc (.cells #[.bool true, .int .i64 3, .slice none 0 0, .slice none 0 0, .bool r, .int .i64 n, .slice none 0 0, .slice none 0 0, .bool false, .int .i64 4, .slice none 0 0, .slice none 0 0] 33)).alloc (.cells #[.int .i64 1] 34)).alloc (.cells #[.bool r, .int .i64 3, .slice (some ⟨w.heap.size + 6, 0, none⟩) 1 1, .slice none 0 0] 33)).alloc (.cells #[.slice (some ⟨w.heap.size, 0, none⟩) 1 1, .slice (some ⟨w.heap.size + 2, 0, none⟩) 1 1, .slice (some ⟨w.heap.size + 3, 0, none⟩) 2 2, .slice (some ⟨w.heap.size + 4, 0, none⟩) 2 2, .slice (some ⟨w.heap.size + 5, 0, none⟩) 3 3, .slice (some ⟨w.heap.size + 7, 0, none⟩) 1 1] 22)) (w.heap.size + 2) 33 #[.bool r, .int .i64 5, .slice none 0 0, .slice (some ⟨w.heap.size + 1, 0, none⟩) 2 2] := (((((((Bk.newAt ((w.alloc (.cells #[.bool r, .int .i64 n, .slice none 0 0, .slice none 0 0] 33)).alloc (.cells #[.int .i64 1, .int .i64 n] 3)) _ _ (w.heap.size + 2) (by simp)).alloc _).alloc _).alloc _).alloc _).alloc _).alloc _)
  have k3 : Bk (((((((((w.alloc (.cells #[.bool r, .int .i64 n, .slice none 0 0, .slice none 0 0] 33)).alloc (.cells #[.int .i64 1, .int .i64 n] 3)).alloc (.cells #[.bool r, .int .i64 5, .slice none 0 0, .slice (some ⟨w.heap.size + 1, 0, none⟩) 2 2] 33)).alloc (.cells #[.bool false, .int .i64 3, .slice none 0 0, .slice none 0 0, .bool r, .int .i64 n, .slice none 0 0, .slice none 0 0] 33)).alloc (.cells #[.bool r, .int .i64 3, .slice none 0 0, .slice none 0 0, .bool false, .int .i64 3, .slice none 0 0, .slice none 0 0] 33)).alloc (.cells #[.bool true, .int .i64 3, .slice none 0 0, .slice none 0 0, .bool r, .int .i64 n, .slice none 0 0, .slice none 0 0, .bool false, .int .i64 4, .slice none 0 0, .slice none 0 0] 33)).alloc (.cells #[.int .i64 1] 34)).alloc (.cells #[.bool r, .int .i64 3, .slice (some ⟨w.heap.size + 6, 0, none⟩) 1 1, .slice none 0 0] 33)).alloc (.cells #[.slice (some ⟨w.heap.size, 0, none⟩) 1 1, .slice (some ⟨w.heap.size + 2, 0, none⟩) 1 1, .slice (some ⟨w.heap.size + 3, 0, none⟩) 2 2, .slice (some ⟨w.heap.size + 4, 0, none⟩) 2 2, .slice (some ⟨w.heap.size + 5, 0, none⟩) 3 3, .slice (some ⟨w.heap.size + 7, 0, none⟩) 1 1] 22)) (w.heap.size + 3) 33 #[.bool false, .int .i64 3, .slice none 0 0, .slice none 0 0, .bool r, .int .i64 n, .slice none 0 0, .slice none 0 0] := ((((((Bk.newAt (((w.alloc (.cells #[.bool r, .int .i64 n, .slice none 0 0, .slice none 0 0] 33)).alloc (.cells #[.int .i64 1, .int .i64 n] 3)).alloc (.cells #[.bool r, .int .i64 5, .slice none 0 0, .slice (some ⟨w.heap.size + 1, 0, none⟩) 2 2] 33)) _ _ (w.heap.size + 3) (by simp)).alloc _).alloc _).alloc _).alloc _).alloc _)
  have k4 : Bk (((((((((w.alloc (.cells #[.bool r, .int .i64 n, .slice none 0 0, .slice none 0 0] 33)).alloc (.cells #[.int .i64 1, .int .i64 n] 3)).alloc (.cells #[.bool r, .int .i64 5, .slice none 0 0, .slice (some ⟨w.heap.size + 1, 0, none⟩) 2 2] 33)).alloc (.cells #[.bool false, .int .i64 3, .slice none 0 0, .slice none 0 0, .bool r, .int .i64 n, .slice none 0 0, .slice none 0 0] 33)).alloc (.cells #[.bool r, .int .i64 3, .slice none 0 0, .slice none 0 0, .bool false, .int .i64 3, .slice none 0 0, .slice none 0 0] 33)).alloc (.cells #[.bool true, .int .i64 3, .slice none 0 0, .slice none 0 0, .bool r, .int .i64 n, .slice none 0 0, .slice none 0 0, .bool false, .int .i64 4, .slice none 0 0, .slice none 0 0] 33)).alloc (.cells #[.int .i64 1] 34)).alloc (.cells #[.bool r, .int .i64 3, .slice (some ⟨w.heap.size + 6, 0, none⟩) 1 1, .slice none 0 0] 33)).alloc (.cells #[.slice (some ⟨w.heap.size, 0, none⟩) 1 1, .slice (some ⟨w.heap.size + 2, 0, none⟩) 1 1, .slice (some ⟨w.heap.size + 3, 0, none⟩) 2 2, .slice (some ⟨w.heap.size + 4, 0, none⟩) 2 2, .slice (some ⟨w.heap.size + 5, 0, none⟩) 3 3, .slice (some ⟨w.heap.size + 7, 0, none⟩) 1 1] 22)) (w.heap.size + 4) 33 #[.bool r, .int .i64 3, .slice none 0 0, .slice none 0 0, .bool false, .int .i64 3, .slice none 0 0, .slice none 0 0] := (((((Bk.newAt ((((w.alloc (.cells #[.bool r, .int .i64 n, .slice none 0 0, .slice none 0 0] 33)).alloc (.cells #[.int .i64 1, .int .i64 n] 3)).alloc (.cells #[.bool r, .int .i64 5, .slice none 0 0, .slice (some ⟨w.heap.size + 1, 0, none⟩) 2 2] 33)).alloc (.cells #[.bool false, .int .i64 3, .slice none 0 0, .slice none 0 0, .bool r, .int .i64 n, .slice none 0 0, .slice none 0 0] 33)) _ _ (w.heap.size + 4) (by simp)).alloc _).alloc _).alloc _).alloc _)
  have k5 : Bk (((((((((w.alloc (.cells #[.bool r, .int .i64 n, .slice none 0 0, .slice none 0 0] 33)).alloc (.cells #[.int .i64 1, .int .i64 n] 3)).alloc (.cells #[.bool r, .int .i64 5, .slice none 0 0, .slice (some ⟨w.heap.size + 1, 0, none⟩) 2 2] 33)).alloc (.cells #[.bool false, .int .i64 3, .slice none 0 0, .slice none 0 0, .bool r, .int .i64 n, .slice none 0 0, .slice none 0 0] 33)).alloc (.cells #[.bool r, .int .i64 3, .slice none 0 0, .slice none 0 0, .bool false, .int .i64 3, .slice none 0 0, .slice none 0 0] 33)).alloc (.cells #[.bool true, .int .i64 3, .slice none 0 0, .slice none 0 0, .bool r, .int .i64 n, .slice none 0 0, .slice none 0 0, .bool false, .int .i64 4, .slice none 0 0, .slice none 0 0] 33)).alloc (.cells #[.int .i64 1] 34)).alloc (.cells #[.bool r, .int .i64 3, .slice (some ⟨w.heap.size + 6, 0, none⟩) 1 1, .slice none 0 0] 33)).alloc (.cells #[.slice (some ⟨w.heap.size, 0, none⟩) 1 1, .slice (some ⟨w.heap.size + 2, 0, none⟩) 1 1, .slice (some ⟨w.heap.size + 3, 0, none⟩) 2 2, .slice (some ⟨w.heap.size + 4, 0, none⟩) 2 2, .slice (some ⟨w.heap.size + 5, 0, none⟩) 3 3, .slice (some ⟨w.heap.size + 7, 0, none⟩) 1 1] 22)) (w.heap.size + 5) 33 #[.bool true, .int .i64 3, .slice none 0 0, .slice none 0 0, .bool r, .int .i64 n, .slice none 0 0, .slice none 0 0, .bool false, .int .i64 4, .slice none 0 0, .slice none 0 0] := ((((Bk.newAt (((((w.alloc (.cells #[.bool r, .int .i64 n, .slice none 0 0, .slice none 0 0] 33)).alloc (.cells #[.int .i64 1, .int .i64 n] 3)).alloc (.cells #[.bool r, .int .i64 5, .slice none 0 0, .slice (some ⟨w.heap.size + 1, 0, none⟩) 2 2] 33)).alloc (.cells #[.bool false, .int .i64 3, .slice none 0 0, .slice none 0 0, .bool r, .int .i64 n, .slice none 0 0, .slice none 0 0] 33)).alloc (.cells #[.bool r, .int .i64 3, .slice none 0 0, .slice none 0 0, .bool false, .int .i64 3, .slice none 0 0, .slice none 0 0] 33)) _ _ (w.heap.size + 5) (by simp)).alloc _).alloc _).alloc _)
  have k6 : Bk (((((((((w.alloc (.cells #[.bool r, .int .i64 n, .slice none 0 0, .slice none 0 0] 33)).alloc (.cells #[.int .i64 1, .int .i64 n] 3)).alloc (.cells #[.bool r, .int .i64 5, .slice none 0 0, .slice (some ⟨w.heap.size + 1, 0, none⟩) 2 2] 33)).alloc (.cells #[.bool false, .int .i64 3, .slice none 0 0, .slice none 0 0, .bool r, .int .i64 n, .slice none 0 0, .slice none 0 0] 33)).alloc (.cells #[.bool r, .int .i64 3, .slice none 0 0, .slice none 0 0, .bool false, .int .i64 3, .slice none 0 0, .slice none 0 0] 33)).alloc (.cells #[.bool true, .int .i64 3, .slice none 0 0, .slice none 0 0, .bool r, .int .i64 n, .slice none 0 0, .slice none 0 0, .bool false, .int .i64 4, .slice none 0 0, .slice none 0 0] 33)).alloc (.cells #[.int .i64 1] 34)).alloc (.cells #[.bool r, .int .i64 3, .slice (some ⟨w.heap.size + 6, 0, none⟩) 1 1, .slice none 0 0] 33)).alloc (.cells #[.slice (some ⟨w.heap.size, 0, none⟩) 1 1, .slice (some ⟨w.heap.size + 2, 0, none⟩) 1 1, .slice (some ⟨w.heap.size + 3, 0, none⟩) 2 2, .slice (some ⟨w.heap.size + 4, 0, none⟩) 2 2, .slice (some ⟨w.heap.size + 5, 0, none⟩) 3 3, .slice (some ⟨w.heap.size + 7, 0, none⟩) 1 1] 22)) (w.heap.size + 6) 34 #[.int .i64 1] := (((Bk.newAt ((((((w.alloc (.cells #[.bool r, .int .i64 n, .slice none 0 0, .slice none 0 0] 33)).alloc (.cells #[.int .i64 1, .int .i64 n] 3)).alloc (.cells #[.bool r, .int .i64 5, .slice none 0 0, .slice (some ⟨w.heap.size + 1, 0, none⟩) 2 2] 33)).alloc (.cells #[.bool false, .int .i64 3, .slice none 0 0, .slice none 0 0, .bool r, .int .i64 n, .slice none 0 0, .slice none 0 0] 33)).alloc (.cells #[.bool r, .int .i64 3, .slice none 0 0, .slice none 0 0, .bool false, .int .i64 3, .slice none 0 0, .slice none 0 0] 33)).alloc (.cells #[.bool true, .int .i64 3, .slice none 0 0, .slice none 0 0, .bool r, .int .i64 n, .slice none 0 0, .slice none 0 0, .bool false, .int .i64 4, .slice none 0 0, .slice none 0 0] 33)) _ _ (w.heap.size + 6) (by simp)).alloc _).alloc _)
  have k7 : Bk (((((((((w.alloc (.cells #[.bool r, .int .i64 n, .slice none 0 0, .slice none 0 0] 33)).alloc (.cells #[.int .i64 1, .int .i64 n] 3)).alloc (.cells #[.bool r, .int .i64 5, .slice none 0 0, .slice (some ⟨w.heap.size + 1, 0, none⟩) 2 2] 33)).alloc (.cells #[.bool false, .int .i64 3, .slice none 0 0, .slice none 0 0, .bool r, .int .i64 n, .slice none 0 0, .slice none 0 0] 33)).alloc (.cells #[.bool r, .int .i64 3, .slice none 0 0, .slice none 0 0, .bool false, .int .i64 3, .slice none 0 0, .slice none 0 0] 33)).alloc (.cells #[.bool true, .int .i64 3, .slice none 0 0, .slice none 0 0, .bool r, .int .i64 n, .slice none 0 0, .slice none 0 0, .bool false, .int .i64 4, .slice none 0 0, .slice none 0 0] 33)).alloc (.cells #[.int .i64 1] 34)).alloc (.cells #[.bool r, .int .i64 3, .slice (some ⟨w.heap.size + 6, 0, none⟩) 1 1, .slice none 0 0] 33)).alloc (.cells #[.slice (some ⟨w.heap.size, 0, none⟩) 1 1, .slice (some ⟨w.heap.size + 2, 0, none⟩) 1 1, .slice (some ⟨w.heap.size + 3, 0, none⟩) 2 2, .slice (some ⟨w.heap.size + 4, 0, none⟩) 2 2, .slice (some ⟨w.heap.size + 5, 0, none⟩) 3 3, .slice (some ⟨w.heap.size + 7, 0, none⟩) 1 1] 22)) (w.heap.size + 7) 33 #[.bool r, .int .i64 3, .slice (some ⟨w.heap.size + 6, 0, none⟩) 1 1, .slice none 0 0] := ((Bk.newAt (((((((w.alloc (.cells #[.bool r, .int .i64 n, .slice none 0 0, .slice none 0 0] 33)).alloc (.cells #[.int .i64 1, .int .i64 n] 3)).alloc (.cells #[.bool r, .int .i64 5, .slice none 0 0, .slice (some ⟨w.heap.size + 1, 0, none⟩) 2 2] 33)).alloc (.cells #[.bool false, .int .i64 3, .slice none 0 0, .slice none 0 0, .bool r, .int .i64 n, .slice none 0 0, .slice none 0 0] 33)).alloc (.cells #[.bool r, .int .i64 3, .slice none 0 0, .slice none 0 0, .bool false, .int .i64 3, .slice none 0 0, .slice none 0 0] 33)).alloc (.cells #[.bool true, .int .i64 3, .slice none 0 0, .slice none 0 0, .bool r, .int .i64 n, .slice none 0 0, .slice none 0 0, .bool false, .int .i64 4, .slice none 0 0, .slice none 0 0] 33)).alloc (.cells #[.int .i64 1] 34)) _ _ (w.heap.size + 7) (by simp)).alloc _)
  have k8 : Bk (((((((((w.alloc (.cells #[.bool r, .int .i64 n, .slice none 0 0, .slice none 0 0] 33)).alloc (.cells #[.int .i64 1, .int .i64 n] 3)).alloc (.cells #[.bool r, .int .i64 5, .slice none 0 0, .slice (some ⟨w.heap.size + 1, 0, none⟩) 2 2] 33)).alloc (.cells #[.bool false, .int .i64 3, .slice none 0 0, .slice none 0 0, .bool r, .int .i64 n, .slice none 0 0, .slice none 0 0] 33)).alloc (.cells #[.bool r, .int .i64 3, .slice none 0 0, .slice none 0 0, .bool false, .int .i64 3, .slice none 0 0, .slice none 0 0] 33)).alloc (.cells #[.bool true, .int .i64 3, .slice none 0 0, .slice none 0 0, .bool r, .int .i64 n, .slice none 0 0, .slice none 0 0, .bool false, .int .i64 4, .slice none 0 0, .slice none 0 0] 33)).alloc (.cells #[.int .i64 1] 34)).alloc (.cells #[.bool r, .int .i64 3, .slice (some ⟨w.heap.size + 6, 0, none⟩) 1 1, .slice none 0 0] 33)).alloc (.cells #[.slice (some ⟨w.heap.size, 0, none⟩) 1 1, .slice (some ⟨w.heap.size + 2, 0, none⟩) 1 1, .slice (some ⟨w.heap.size + 3, 0, none⟩) 2 2, .slice (some ⟨w.heap.size + 4, 0, none⟩) 2 2, .slice (some ⟨w.heap.size + 5, 0, none⟩) 3 3, .slice (some ⟨w.heap.size + 7, 0, none⟩) 1 1] 22)) (w.heap.size + 8) 22 #[.slice (some ⟨w.heap.size, 0, none⟩) 1 1, .slice (some ⟨w.heap.size + 2, 0, none⟩) 1 1, .slice (some ⟨w.heap.size + 3, 0, none⟩) 2 2, .slice (some ⟨w.heap.size + 4, 0, none⟩) 2 2, .slice (some ⟨w.heap.size + 5, 0, none⟩) 3 3, .slice (some ⟨w.heap.size + 7, 0, none⟩) 1 1] := (Bk.newAt ((((((((w.alloc (.cells #[.bool r, .int .i64 n, .slice none 0 0, .slice none 0 0] 33)).alloc (.cells #[.int .i64 1, .int .i64 n] 3)).alloc (.cells #[.bool r, .int .i64 5, .slice none 0 0, .slice (some ⟨w.heap.size + 1, 0, none⟩) 2 2] 33)).alloc (.cells #[.bool false, .int .i64 3, .slice none 0 0, .slice none 0 0, .bool r, .int .i64 n, .slice none 0 0, .slice none 0 0] 33)).alloc (.cells #[.bool r, .int .i64 3, .slice none 0 0, .slice none 0 0, .bool false, .int .i64 3, .slice none 0 0, .slice none 0 0] 33)).alloc (.cells #[.bool true, .int .i64 3, .slice none 0 0, .slice none 0 0, .bool r, .int .i64 n, .slice none 0 0, .slice none 0 0, .bool false, .int .i64 4, .slice none 0 0, .slice none 0 0] 33)).alloc (.cells #[.int .i64 1] 34)).alloc (.cells #[.bool r, .int .i64 3, .slice (some ⟨w.heap.size + 6, 0, none⟩) 1 1, .slice none 0 0] 33)) _ _ (w.heap.size + 8) (by simp))
  refine ⟨k8.lt, fun i p hi => ?_, fun i p hi => ?_⟩
  · match i, hi with
    | 0, hi => obtain rfl := Option.some.inj hi; exact k8.cell 0
    | 1, hi => obtain rfl := Option.some.inj hi; exact k8.cell 1
    | 2, hi => obtain rfl := Option.some.inj hi; exact k8.cell 2
    | 3, hi => obtain rfl := Option.some.inj hi; exact k8.cell 3
    | 4, hi => obtain rfl := Option.some.inj hi; exact k8.cell 4
    | 5, hi => obtain rfl := Option.some.inj hi; exact k8.cell 5
    | i + 6, hi => cases hi
  · match i, hi with
    | 0, hi =>
      obtain rfl := Option.some.inj hi
      refine ⟨⟨Rd.of_bk k0 rfl, rfl, fun j v s hj => ?_, by show 1 ≤ _; omega⟩, by show 1 ≤ 3; omega, fun q hq => ?_⟩
      · match j, hj with
        | 0, hj => obtain ⟨rfl, rfl⟩ := Prod.mk.inj (Option.some.inj hj); exact ⟨hn, ints0, ints0⟩
        | j + 1, hj => cases hj
      · simp only [List.mem_cons, List.not_mem_nil, or_false] at hq
        rcases hq with rfl <;> exact ⟨by simp, by simp⟩
    | 1, hi =>
      obtain rfl := Option.some.inj hi
      refine ⟨⟨Rd.of_bk k2 rfl, rfl, fun j v s hj => ?_, by show 1 ≤ _; omega⟩, by show 1 ≤ 3; omega, fun q hq => ?_⟩
      · match j, hj with
        | 0, hj => obtain ⟨rfl, rfl⟩ := Prod.mk.inj (Option.some.inj hj); exact ⟨(i64_small 5 (by decide) (by decide)), ints0, ints2 k1 (i64_small 1 (by decide) (by decide)) hn⟩
        | j + 1, hj => cases hj
      · simp only [List.mem_cons, List.not_mem_nil, or_false] at hq
        rcases hq with rfl <;> exact ⟨by simp, by simp⟩
    | 2, hi =>
      obtain rfl := Option.some.inj hi
      refine ⟨⟨Rd.of_bk k3 rfl, rfl, fun j v s hj => ?_, by show 2 ≤ _; omega⟩, by show 2 ≤ 3; omega, fun q hq => ?_⟩
      · match j, hj with
        | 0, hj => obtain ⟨rfl, rfl⟩ := Prod.mk.inj (Option.some.inj hj); exact ⟨(i64_small 3 (by decide) (by decide)), ints0, ints0⟩
        | 1, hj => obtain ⟨rfl, rfl⟩ := Prod.mk.inj (Option.some.inj hj); exact ⟨hn, ints0, ints0⟩
        | j + 2, hj => cases hj
      · simp only [List.mem_cons, List.not_mem_nil, or_false] at hq
        rcases hq with rfl | rfl <;> exact ⟨by simp, by simp⟩
    | 3, hi =>
      obtain rfl := Option.some.inj hi
      refine ⟨⟨Rd.of_bk k4 rfl, rfl, fun j v s hj => ?_, by show 2 ≤ _; omega⟩, by show 2 ≤ 3; omega, fun q hq => ?_⟩
      · match j, hj with
        | 0, hj => obtain ⟨rfl, rfl⟩ := Prod.mk.inj (Option.some.inj hj); exact ⟨(i64_small 3 (by decide) (by decide)), ints0, ints0⟩
        | 1, hj => obtain ⟨rfl, rfl⟩ := Prod.mk.inj (Option.some.inj hj); exact ⟨(i64_small 3 (by decide) (by decide)), ints0, ints0⟩
        | j + 2, hj => cases hj
      · simp only [List.mem_cons, List.not_mem_nil, or_false] at hq
        rcases hq with rfl | rfl <;> exact ⟨by simp, by simp⟩
    | 4, hi =>
      obtain rfl := Option.some.inj hi
      refine ⟨⟨Rd.of_bk k5 rfl, rfl, fun j v s hj => ?_, by show 3 ≤ _; omega⟩, by show 3 ≤ 3; omega, fun q hq => ?_⟩
      · match j, hj with
        | 0, hj => obtain ⟨rfl, rfl⟩ := Prod.mk.inj (Option.some.inj hj); exact ⟨(i64_small 3 (by decide) (by decide)), ints0, ints0⟩
        | 1, hj => obtain ⟨rfl, rfl⟩ := Prod.mk.inj (Option.some.inj hj); exact ⟨hn, ints0, ints0⟩
        | 2, hj => obtain ⟨rfl, rfl⟩ := Prod.mk.inj (Option.some.inj hj); exact ⟨(i64_small 4 (by decide) (by decide)), ints0, ints0⟩
        | j + 3, hj => cases hj
      · simp only [List.mem_cons, List.not_mem_nil, or_false] at hq
        rcases hq with rfl | rfl | rfl <;> exact ⟨by simp, by simp⟩
    | 5, hi =>
      obtain rfl := Option.some.inj hi
      refine ⟨⟨Rd.of_bk k7 rfl, rfl, fun j v s hj => ?_, by show 1 ≤ _; omega⟩, by show 1 ≤ 3; omega, fun q hq => ?_⟩
      · match j, hj with
        | 0, hj => obtain ⟨rfl, rfl⟩ := Prod.mk.inj (Option.some.inj hj); exact ⟨(i64_small 3 (by decide) (by decide)), ints1 k6 (i64_small 1 (by decide) (by decide)), ints0⟩
        | j + 1, hj => cases hj
      · simp only [List.mem_cons, List.not_mem_nil, or_false] at hq
        rcases hq with rfl <;> exact ⟨by simp, by simp⟩
    | i + 6, hi => cases hi
def nsS : List Int := [(-9223372036854775808), (-1073741824), (-1073741825), (-1), 0, 1, 1073741824, 1073741825, 9223372036854775807]
theorem ns_i64 : ∀ n ∈ nsS, I64 n := by
  intro n hn
  simp only [nsS, List.mem_cons, List.not_mem_nil, or_false] at hn
  rcases hn with rfl | rfl | rfl | rfl | rfl | rfl | rfl | rfl | rfl <;> exact ⟨by decide, by decide⟩
/-! ### as many as there may be -/
theorem rep_ints (k : Nat) (n : Int) : rep [Value.int .i64 n] k = (List.replicate k n).map (Value.int .i64) := by
  induction k with
  | zero => rfl
  | succ k ih =>
    unfold rep at ih ⊢
    rw [List.replicate_succ, List.flatten_cons, ih, List.replicate_succ]
    rfl
theorem rep_steps (k : Nat) (p : StV × Stp) : rep (scell p) k = scells (List.replicate k p) := by
  induction k with
  | zero => rfl
  | succ k ih =>
    unfold rep at ih ⊢
    rw [List.replicate_succ, List.flatten_cons, ih, List.replicate_succ]
    rfl
theorem Rd.of_bk1 {w : World} {g o : Nat} {t : TypeId} {cs : Array Value} {ys xs : List Value} (h : Bk w g t cs) (hx : cs.toList = ys ++ xs) (ho : ys.length = o) : Rd w (some ⟨g, o, none⟩) xs := fun _ =>
  ⟨g, o, cs, t, (0, 0), rfl, h, fun j u hu => by
    rw [← Array.getElem?_toList, hx, List.getElem?_append_right (by omega), show o + j - ys.length = j by omega]
    exact hu⟩
theorem ints_rep {w : World} {g k : Nat} {t : TypeId} {cs : Array Value} (h : Bk w g t cs) (hx : cs.toList = rep [Value.int .i64 1] (k + 1)) (hk : k + 1 ≤ 100000000) :
    IntsAt w ⟨some ⟨g, 0, none⟩, k + 1, k + 1⟩ (List.replicate (k + 1) 1) ∧ IntsAt w ⟨some ⟨g, 1, none⟩, k, k⟩ (List.replicate k 1) := by
  have h1 : ∀ m, ∀ u ∈ List.replicate m (1 : Int), I64 u := fun m u hu => by
    rw [(List.mem_replicate.1 hu).2]
    exact i64_small 1 (by decide) (by decide)
  rw [rep_ints] at hx
  refine ⟨⟨Rd.of_bk h hx.symm, List.length_replicate, h1 _, hk⟩, ⟨Rd.of_bk1 h (ys := [.int .i64 1]) ?_ rfl, List.length_replicate, h1 _, by show k ≤ _; omega⟩⟩
  rw [hx, List.replicate_succ]
  rfl
theorem steps_rep {w : World} {g k : Nat} {t : TypeId} {cs : Array Value} {v : StV} {s : Stp} (h : Bk w g t cs) (hx : cs.toList = rep (scell (v, s)) (k + 1)) (hk : k + 1 ≤ 100000000) (hs : StpAt w v s) :
    StepsAt w (some ⟨g, 0, none⟩) (k + 1) (List.replicate (k + 1) (v, s)) ∧ StepsAt w (some ⟨g, 4, none⟩) k (List.replicate k (v, s)) := by
  have h1 : ∀ (m i : Nat) (v' : StV) (s' : Stp), (List.replicate m (v, s))[i]? = some (v', s') → StpAt w v' s' := fun m i v' s' hi => by
    have h2 := (List.mem_replicate.1 (List.mem_of_getElem? hi)).2
    obtain ⟨rfl, rfl⟩ := Prod.mk.inj h2
    exact hs
  rw [rep_steps] at hx
  refine ⟨⟨Rd.of_bk h hx.symm, List.length_replicate, h1 _, hk⟩, ⟨Rd.of_bk1 h (ys := scell (v, s)) ?_ rfl, List.length_replicate, h1 _, by omega⟩⟩
  rw [hx, List.replicate_succ]
  rfl
def NVs : StV := ⟨⟨none, 0, 0⟩, ⟨none, 0, 0⟩⟩
def sD : Stp := ⟨true, 1, [], []⟩
def HVs (g : Nat) : StV := ⟨⟨none, 0, 0⟩, ⟨some ⟨g, 1, none⟩, 65536, 65536⟩⟩
theorem stp_none (w : World) : StpAt w NVs sD := ⟨i64_small 1 (by decide) (by decide), ints0, ints0⟩
theorem hintsMany (b : Nat) (w : World) (hb : Hid (Bk w b 3 #[.int .i64 1])) :
    Calls Tryz.prog 10 #[.slice (some ⟨b, 0, none⟩) 1 1, .int .i64 65537] w fun e w' => ∃ g, e = .returned (.slice (some ⟨g, 0, none⟩) 65537 65537) ∧ (Hid (IntsAt w' ⟨some ⟨g, 0, none⟩, 65537, 65537⟩ (List.replicate 65537 1)) ∧ Hid (IntsAt w' ⟨some ⟨g, 1, none⟩, 65536, 65536⟩ (List.replicate 65536 1))) ∧ Below w.heap.size w w' := by
  have h := repeatInts b [.int .i64 1] 65537 w rfl (fun v hv => by rw [List.mem_singleton.1 hv]; rfl) hb (by omega) (by omega)
  refine h.mono ?_
  rintro e w' ⟨g, cur, rfl, _, hk, ht, hbl⟩
  obtain ⟨h1, h2⟩ := ints_rep (k := 65536) hk ht (by omega)
  exact ⟨g, rfl, ⟨h1, h2⟩, hbl⟩
theorem stepsMany (b : Nat) (w : World) (hb : Hid (Bk w b 33 #[.bool true, .int .i64 1, .slice none 0 0, .slice none 0 0])) :
    Calls Tryz.prog 11 #[.slice (some ⟨b, 0, none⟩) 1 1, .int .i64 262145] w fun e w' => ∃ g, e = .returned (.slice (some ⟨g, 0, none⟩) 262145 262145) ∧ (Hid (StepsAt w' (some ⟨g, 0, none⟩) 262145 (List.replicate 262145 (NVs, sD))) ∧ Hid (StepsAt w' (some ⟨g, 4, none⟩) 262144 (List.replicate 262144 (NVs, sD)))) ∧ Below w.heap.size w w' := by
  have h := repeatSteps b (scell (NVs, sD)) 262145 w rfl (scell_one _) hb (by omega) (by omega)
  refine h.mono ?_
  rintro e w' ⟨g, cur, rfl, _, hk, ht, hbl⟩
  obtain ⟨h1, h2⟩ := steps_rep (k := 262144) hk ht (by omega) (stp_none w')
  exact ⟨g, rfl, ⟨h1, h2⟩, hbl⟩
theorem stepsLong (b g : Nat) (w : World) (hb : Hid (Bk w b 33 #[.bool true, .int .i64 1, .slice none 0 0, .slice (some ⟨g, 1, none⟩) 65536 65536])) (hg : Hid (IntsAt w ⟨some ⟨g, 1, none⟩, 65536, 65536⟩ (List.replicate 65536 1))) :
    Calls Tryz.prog 11 #[.slice (some ⟨b, 0, none⟩) 1 1, .int .i64 129] w fun e w' => ∃ g', e = .returned (.slice (some ⟨g', 0, none⟩) 129 129) ∧ Hid (StepsAt w' (some ⟨g', 0, none⟩) 129 (List.replicate 129 (HVs g, ⟨true, 1, [], List.replicate 65536 1⟩))) ∧ Below w.heap.size w w' := by
  have h := repeatSteps b (scell (HVs g, ⟨true, 1, [], List.replicate 65536 1⟩)) 129 w rfl (scell_one _) hb (by omega) (by omega)
  refine h.mono ?_
  rintro e w' ⟨g', cur, rfl, _, hk, ht, hbl⟩
  obtain ⟨h1, h2⟩ := steps_rep (k := 128) hk ht (by omega) ⟨i64_small 1 (by decide) (by decide), ints0, hg.out.below hbl⟩
  exact ⟨g', rfl, h1, hbl⟩
theorem linesMany (w : World) (hv : Hid (Vars w)) : Calls Tryz.prog 15 #[.string ⟨#[49, 32, 100, 32, 48, 10]⟩, .int .i64 262145] w fun e w' => ∃ s : ByteArray, e = .returned (.string s) ∧ Hid (s.size ≤ 20000000 ∧ readS s.data.toList = ([], 262145, 5)) ∧ Below w.heap.size w w' := by
  have h := Tryz.strings_Repeat ⟨#[49, 32, 100, 32, 48, 10]⟩ 262145 w (by omega) (by show 6 * 262145 ≤ _; omega)
  refine h.mono ?_
  rintro e w' ⟨rfl, hb⟩
  refine ⟨_, rfl, ⟨?_, readS_many⟩, hb⟩
  show (Lib.repeatL [49, 32, 100, 32, 48, 10] 262145).toArray.size ≤ _
  rw [List.size_toArray, Lib.repeatL_length]
  show 262145 * 6 ≤ _
  omega
theorem linesLong (w : World) (hv : Hid (Vars w)) : Calls Tryz.prog 15 #[.string ⟨#[99]⟩, .int .i64 16777217] w fun e w' => ∃ s : ByteArray, e = .returned (.string s) ∧ Hid (s.size ≤ 20000000 ∧ readS s.data.toList = ([], 0, 3)) ∧ Below w.heap.size w w' := by
  have h := Tryz.strings_Repeat ⟨#[99]⟩ 16777217 w (by omega) (by show 1 * 16777217 ≤ _; omega)
  refine h.mono ?_
  rintro e w' ⟨rfl, hb⟩
  refine ⟨_, rfl, ⟨?_, readS_long⟩, hb⟩
  show (Lib.repeatL [99] 16777217).toArray.size ≤ _
  rw [List.size_toArray, Lib.repeatL_length]
  show 16777217 * 1 ≤ _
  omega
end Go.Proofs.YteglgcfbmjlnkaaGreatDoor
