/-
  lratext.fits, over, Check.
-/
import Derived.Test.YteglgcfbmjlnkaaGreatDoorRight
set_option linter.unusedVariables false
set_option linter.unusedSimpArgs false
namespace Go.Proofs.YteglgcfbmjlnkaaGreatDoor
open Go.RowKit

def fitsB (s : Stp) (last : Int) : Bool := decide (last < s.id) || (s.del && (s.id == last))
set_option maxRecDepth 100000 in
theorem fitsC (del : Bool) (id : Int) (a b : Value) (A1 A2 : Option Addr) (n1 c1 n2 c2 : Nat) (last : Int) (lits hints : List Int) (w : World) :
    Calls Tryz.prog 33 #[.agg #[.bool del, .int .i64 id, .slice A1 n1 c1, .slice A2 n2 c2], .int .i64 last] w fun e w' => e = .returned (.bool (fitsB ⟨del, id, lits, hints⟩ last)) ∧ Below w.heap.size w w' := by
  have HB0 : Hid (Below w.heap.size w (w.alloc (.cells #[.bool del, .int .i64 id, .slice A1 n1 c1, .slice A2 n2 c2] 33))) := balloc (Below.refl _ _) _
  by_cases h : last < id
  · have e1 : decide (last < id) = true := by simpa using h
    have E : Hid (fitsB ⟨del, id, lits, hints⟩ last = true) := by show fitsB _ _ = true; unfold fitsB; dsimp only; rw [e1]; rfl
    clear h
    go_enter Tryz.func33, Tryz.ntmps33
    go_wp2
    go_ret
    exact ⟨ret_bool E.out.symm, HB0.out⟩
  · have e1 : decide (last < id) = false := by simpa using h
    cases del with
    | false =>
      have E : Hid (fitsB ⟨false, id, lits, hints⟩ last = false) := by show fitsB _ _ = false; unfold fitsB; dsimp only; rw [e1]; rfl
      clear h
      go_enter Tryz.func33, Tryz.ntmps33
      go_wp2
      go_ret
      exact ⟨ret_bool E.out.symm, HB0.out⟩
    | true =>
      have E : Hid (fitsB ⟨true, id, lits, hints⟩ last = (id == last)) := by show fitsB _ _ = _; unfold fitsB; dsimp only; rw [e1]; rfl
      clear h
      go_enter Tryz.func33, Tryz.ntmps33
      go_wp2
      go_ret
      exact ⟨ret_bool E.out.symm, HB0.out⟩

def overS (l : List UInt8) : Bool := l.isEmpty || (l == [99]) || Lib.hasPrefix l [99, 32]
theorem toList_data (s : ByteArray) : s.toList = s.data.toList := by
  rw [ByteArray.toList_eq]
theorem over_nil {l : List UInt8} (h : l = []) : overS l = true := by subst h; rfl
theorem over_c {l : List UInt8} (h : l = [99]) : overS l = true := by subst h; rfl
theorem over_not {l : List UInt8} (h1 : ¬ l = []) (h2 : ¬ l = [99]) : overS l = Lib.hasPrefix l [99, 32] := by
  unfold overS
  rw [show l.isEmpty = false by simpa using h1, show (l == [99]) = false by simpa using h2]
  rfl
set_option maxRecDepth 100000 in
theorem overC (s : ByteArray) (w : World) : Calls Tryz.prog 37 #[.string s] w fun e w' => e = .returned (.bool (overS s.data.toList)) ∧ w = w' := by
  by_cases h1 : s.toList = []
  · have E := Lib.hid (over_nil (toList_data s ▸ h1))
    go_enter Tryz.func37, Tryz.ntmps37
    go_wp2_with fail
    go_ret
    exact ⟨ret_bool E.out.symm, rfl⟩
  by_cases h2 : s.toList = [99]
  · have E := Lib.hid (over_c (toList_data s ▸ h2))
    go_enter Tryz.func37, Tryz.ntmps37
    go_wp2_with fail
    go_ret
    exact ⟨ret_bool E.out.symm, rfl⟩
  · have E := Lib.hid (over_not (toList_data s ▸ h1) (toList_data s ▸ h2))
    have e1 : s.toList.isEmpty = false := by simpa using h1
    have e2 : (s.toList == [99]) = false := by simpa using h2
    clear h1 h2
    go_enter Tryz.func37, Tryz.ntmps37
    go_wp2_with fail
    refine (Tryz.strings_HasPrefix s _ w).mono ?_
    rintro e w' ⟨rfl, rfl⟩
    go_wp2
    go_ret
    exact ⟨ret_bool E.out.symm, rfl⟩
end Go.Proofs.YteglgcfbmjlnkaaGreatDoor
