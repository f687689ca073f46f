/-
  Package bitword: the table of operations, Name, Rank, Two, Find.
-/
import Derived.Test.YtehcpcpmcngnjaaDoorBase30
import Derived.Test.YtehcpcpmcngnjaaDoorPars
import Derived.Deep.WholeRow
set_option linter.unusedVariables false
set_option linter.unusedSimpArgs false
namespace Go.Proofs.YtehcpcpmcngnjaaDoor
open Go.RowKit Go.PlainAid

def tabCells : Array Value := #[.string ⟨#[]⟩, .int .i64 0, .bool false, .nilFunc, .string ⟨#[126]⟩, .int .i64 0, .bool false, .func (.func 18) #[] #[], .string ⟨#[45]⟩, .int .i64 0, .bool false, .func (.func 19) #[] #[], .string ⟨#[43]⟩, .int .i64 5, .bool false, .func (.func 20) #[] #[], .string ⟨#[45]⟩, .int .i64 5, .bool false, .func (.func 21) #[] #[], .string ⟨#[42]⟩, .int .i64 6, .bool false, .func (.func 22) #[] #[], .string ⟨#[47]⟩, .int .i64 6, .bool false, .func (.func 23) #[] #[], .string ⟨#[37]⟩, .int .i64 6, .bool false, .func (.func 24) #[] #[], .string ⟨#[38]⟩, .int .i64 2, .bool false, .func (.func 25) #[] #[], .string ⟨#[124]⟩, .int .i64 1, .bool false, .func (.func 26) #[] #[], .string ⟨#[94]⟩, .int .i64 1, .bool false, .func (.func 27) #[] #[], .string ⟨#[60, 60]⟩, .int .i64 4, .bool false, .func (.func 28) #[] #[], .string ⟨#[62, 62]⟩, .int .i64 4, .bool false, .func (.func 29) #[] #[], .string ⟨#[61, 61]⟩, .int .i64 3, .bool true, .func (.func 30) #[] #[], .string ⟨#[33, 61]⟩, .int .i64 3, .bool true, .func (.func 32) #[] #[], .string ⟨#[60]⟩, .int .i64 3, .bool true, .func (.func 33) #[] #[], .string ⟨#[60, 61]⟩, .int .i64 3, .bool true, .func (.func 34) #[] #[]]
set_option maxRecDepth 100000 in
set_option maxHeartbeats 4000000 in
theorem tableC (w : World) : Calls Tryd.prog 14 #[] w fun e w' => e = .returned (.agg tabCells) ∧ w' = w.alloc (.cells tabCells 42) := by
  go_enter Tryd.func14, Tryd.ntmps14
  go_wp2_with (refine wpList_store_row rfl 42 (.tmp 0) (.tmp 18) rfl w.heap.size tabCells rfl rfl 42 Tryd.zeroCells42 (heap_alloc_last _ _) (by kernel_rfl) (by kernel_rfl) (by kernel_rfl) ?_)
  rw [World.setRow_alloc_new]
  refine bodyPost_ret (results_cell_row Tryd.results14 _ _ w.heap.size 42 tabCells (0, 0) _ rfl (heap_alloc_last _ _) Tryd.underlying42 rfl (by kernel_rfl)) rfl ?_
  exact ⟨rfl, rfl⟩
theorem tab_name : ∀ k, k ≤ 16 → tabCells[k * 4]? = some (.string (str (nameO k))) := by
  intro k hk
  rcases (by omega : k = 0 ∨ k = 1 ∨ k = 2 ∨ k = 3 ∨ k = 4 ∨ k = 5 ∨ k = 6 ∨ k = 7 ∨ k = 8 ∨ k = 9 ∨ k = 10 ∨ k = 11 ∨ k = 12 ∨ k = 13 ∨ k = 14 ∨ k = 15 ∨ k = 16) with rfl | rfl | rfl | rfl | rfl | rfl | rfl | rfl | rfl | rfl | rfl | rfl | rfl | rfl | rfl | rfl | rfl <;> rfl
theorem tab_rank : ∀ k, k ≤ 16 → tabCells[k * 4 + 1]? = some (.int .i64 (rankO k : Int)) := by
  intro k hk
  rcases (by omega : k = 0 ∨ k = 1 ∨ k = 2 ∨ k = 3 ∨ k = 4 ∨ k = 5 ∨ k = 6 ∨ k = 7 ∨ k = 8 ∨ k = 9 ∨ k = 10 ∨ k = 11 ∨ k = 12 ∨ k = 13 ∨ k = 14 ∨ k = 15 ∨ k = 16) with rfl | rfl | rfl | rfl | rfl | rfl | rfl | rfl | rfl | rfl | rfl | rfl | rfl | rfl | rfl | rfl | rfl <;> rfl
set_option maxRecDepth 100000 in
set_option maxHeartbeats 4000000 in
theorem bnameC (k : Nat) (hk : k ≤ 16) (w : World) : Calls Tryd.prog 6 #[.int .u8 (k : Int)] w fun e w' => e = .returned (.string (str (nameO k))) ∧ Below w.heap.size w w' := by
  have e1 : decide ((17 : Int) ≤ (k : Int)) = false := by simp; omega
  have hk17 : (k : Int) < 17 := by omega
  have wk : IntKind.i64.wrap (k : Int) = (k : Int) := by rw [IntKind.wrap_i64]; omega
  go_enter Tryd.func6, Tryd.ntmps6
  go_wp2_with fail
  refine (tableC w).mono ?_
  rintro e w' ⟨rfl, rfl⟩
  have HB : Hid (∀ o, Below w.heap.size w ((w.alloc (.cells tabCells 42)).alloc o)) := fun o => balloc (balloc (Below.refl _ _) _) o
  generalize w.alloc (.cells tabCells 42) = w1 at HB ⊢
  have c0 : (w1.alloc (.cells tabCells 42)).cell? ⟨w1.heap.size, k * 4, none⟩ = some (.string (str (nameO k))) := by
    rw [(Bk.new w1 42 tabCells).cell]
    exact tab_name k hk
  go_wp2_with (refine wpList_store_row rfl 42 (.tmp 3) (.tmp 4) rfl w1.heap.size tabCells rfl rfl 42 Tryd.zeroCells42 (heap_alloc_last _ _) (by kernel_rfl) (by kernel_rfl) (by kernel_rfl) ?_; rw [World.setRow_alloc_new])
  go_ret
  exact ⟨rfl, HB.out _⟩
end Go.Proofs.YtehcpcpmcngnjaaDoor

