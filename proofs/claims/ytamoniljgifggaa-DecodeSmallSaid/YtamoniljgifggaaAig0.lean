/-
  Contracts of the small functions of package aig that only read.
-/
import Derived.Test.YtamoniljgifggaaRows
import Derived.Test.YtamoniljgifggaaWords
set_option linter.unusedVariables false
set_option linter.unusedSimpArgs false
namespace Go.Proofs.Ytamoniljgifggaa
open Go.RowKit

theorem none_nil (w : World) :
    Calls Try.prog 67 #[.pointer none] w fun e w' => e = .returned (.bool true) ∧ w = w' := by
  go_enter Try.func67, Try.ntmps67
  go_wp2
  go_ret
  exact ⟨rfl, rfl⟩

theorem none_some (g : Nat) (mp : Option Nat) (w : World) (hm : w.cell? ⟨g, 2, none⟩ = some (.map mp)) :
    Calls Try.prog 67 #[.pointer (some ⟨g, 0, none⟩)] w fun e w' => e = .returned (.bool mp.isNone) ∧ w = w' := by
  have hmn := fun w r => run_eql_map_nil (P := Try.prog) w 42 139 3 r Try.underlying42
  go_enter Try.func67, Try.ntmps67
  go_wp2
  go_ret
  exact ⟨rfl, rfl⟩

theorem len_nil (w : World) :
    Calls Try.prog 48 #[.pointer none] w fun e w' => e = .returned (.int .i64 0) ∧ w = w' := by
  go_enter Try.func48, Try.ntmps48
  go_wp2_with (go_at_call 67; refine (none_nil _).mono ?_; rintro e w' ⟨rfl, rfl⟩)
  go_ret
  exact ⟨rfl, rfl⟩

theorem len_some (g mb : Nat) (A : Option Addr) (n c : Nat) (w : World) (hm : w.cell? ⟨g, 2, none⟩ = some (.map (some mb))) (hn : w.cell? ⟨g, 1, none⟩ = some (.slice A n c)) :
    Calls Try.prog 48 #[.pointer (some ⟨g, 0, none⟩)] w fun e w' => e = .returned (.int .i64 n) ∧ w = w' := by
  go_enter Try.func48, Try.ntmps48
  go_wp2_with (go_at_call 67; refine (none_some _ _ _ hm).mono ?_; rintro e w' ⟨rfl, rfl⟩)
  go_ret
  exact ⟨rfl, rfl⟩

theorem right_some (g mb : Nat) (A : Option Addr) (n c : Nat) (r : Int) (w : World) (hm : w.cell? ⟨g, 2, none⟩ = some (.map (some mb))) (hn : w.cell? ⟨g, 1, none⟩ = some (.slice A n c)) (hr1 : -9223372036854775808 ≤ r) (hr2 : r ≤ 9223372036854775807) :
    Calls Try.prog 54 #[.pointer (some ⟨g, 0, none⟩), .int .i64 r] w fun e w' => e = .returned (.bool (decide (0 ≤ r ∧ r < 2 * n))) ∧ w = w' := by
  by_cases h0 : 0 ≤ r
  · go_enter Try.func54, Try.ntmps54
    go_wp2_with (go_at_call 67; refine (none_some _ _ _ hm).mono ?_; rintro e w' ⟨rfl, rfl⟩)
    go_ret
    exact ⟨ret_bool (by rw [decide_eq_decide]; omega), rfl⟩
  · have h1 : decide (0 ≤ r) = false := by simpa using h0
    go_enter Try.func54, Try.ntmps54
    go_wp2_with (go_at_call 67; refine (none_some _ _ _ hm).mono ?_; rintro e w' ⟨rfl, rfl⟩)
    go_ret
    exact ⟨ret_bool (by rw [eq_comm, decide_eq_false_iff_not]; omega), rfl⟩

theorem kind_some (g mb nb : Nat) (n c : Nat) (r : Int) (k : Int) (w : World) (hm : w.cell? ⟨g, 2, none⟩ = some (.map (some mb))) (hn : w.cell? ⟨g, 1, none⟩ = some (.slice (some ⟨nb, 0, none⟩) n c))
   (h0 : 0 ≤ r) (h1 : r < 2 * n) (h2 : r ≤ 9223372036854775807) (hk : w.cell? ⟨nb, (r / 2).toNat * 4, none⟩ = some (.int .u8 k)) :
    Calls Try.prog 52 #[.pointer (some ⟨g, 0, none⟩), .int .i64 r] w fun e w' => e = .returned (.int .u8 k) ∧ w = w' := by
  have h3 : decide (0 ≤ r ∧ r < 2 * n) = true := by simp; omega
  go_enter Try.func52, Try.ntmps52
  go_wp2_with (go_at_call 54; refine (right_some _ _ _ _ _ _ _ hm hn (by omega) (by omega)).mono ?_; rintro e w' ⟨rfl, rfl⟩)
  go_ret
  exact ⟨rfl, rfl⟩
end Go.Proofs.Ytamoniljgifggaa
