/-
  DimacsBack returns true, and its arguments read as before, for every two lists of lists of bytes and every string; the listed package variables start as the program's text lays them (the card ties them to it).
-/
import Derived.Test.YtkpcpclaadgnbaaGreatDoorBackL6
import Derived.Test.YtkpcpclaadgnbaaGreatDoorOpen6
import Derived.Test.YtkpcpclaadgnbaaGreatDoorCard7
import Derived.ChangeMaps5
import Derived.ChangeSame
import Derived.JoinedOf
import Derived.JoinedAt
import Derived.JoinedStill
import Derived.RowKit
import Derived.Below
import Derived.Carry
set_option linter.unusedVariables false
set_option linter.unusedSimpArgs false
namespace Go.Proofs.YtkpcpclaadgnbaaGreatDoor
open Go.ChangeShapes Go.WideShapes Go.ChangeAt Go.RowKit
open Go.ChangeMaps (open_string shut_string)

theorem laidOut : laidOutB Tryz.prog = true := by kernel_rfl
theorem backMet (os : Os) : laidMet Tryz.prog laid7 ((laidWorld os).forCall (fun _ _ => 0) ⟨#[], #[.slice none 0 0, .slice none 0 0, .string ⟨#[]⟩], []⟩).memory :=
  laidMet_of_run' 8 (by kernel_rfl) (by kernel_rfl)
theorem backRead (os : Os) {H : Type} (enc : TypeId × Value → H) : ∃ places, DataW.whole enc Tryz.prog ((laidWorld os).forCall (fun _ _ => 0) ⟨#[], #[.slice none 0 0, .slice none 0 0, .string ⟨#[]⟩], []⟩).memory Tryz.f5.params.toList Rows.dimacsBackSpec.vars false #[Value.slice none 0 0, Value.slice none 0 0, Value.string ⟨#[]⟩].toList 8 = some ([.nil, .nil, .lit (.string [])], [], places) :=
  ⟨[], by kernel_rfl⟩
set_option maxRecDepth 100000 in
theorem back_lifted (os : Os) (started : os.Started) (H : Type) (enc : TypeId × Value → H) (F : Stop.Interp) :
    ReturnsInHanded {} Tryz.checked os 5 .any ((OpenSpec.ofChange Rows.dimacsBackSpec).preRow enc Tryz.prog Tryz.f5 Rows.dimacsBackRow.domain false Rows.dimacsBackRow.laid) (((OpenSpec.ofChange Rows.dimacsBackSpec).at F).post enc Tryz.prog Tryz.f5 false true false false) := by
  obtain ⟨places, hx⟩ := backRead os enc
  refine returnsInHanded_of_row (C := Tryz.checked) (s := OpenSpec.ofChange Rows.dimacsBackSpec) ownD started (by kernel_rfl) Tryz.func5
    (witness_row_at (enc := enc) (C := Tryz.checked) false (laidWorld os) #[.slice none 0 0, .slice none 0 0, .string ⟨#[]⟩] rfl (by kernel_rfl) (by kernel_rfl) (by kernel_rfl)
      (OpenSpec.preRow_of_cond 8 hx (by kernel_rfl) (fun k hk => by cases hk) (by kernel_rfl) (backMet os))) ?_
  intro W base args ds gs before hval hW _ _ _ hL hSh _
  have hW' := hW
  obtain ⟨p, q, hA0, hV, rfl, hfz, hnd⟩ := hW
  have hA : DataW.TrodAll enc Tryz.prog W 0 (fun _ => true) true Tryz.f5.params.toList args.toList ds p := hA0
  rw [Tryz.params5] at hA hval
  obtain ⟨v0, v1, v2, d0, d1, d2, p0, p1, p2, rfl, rfl, rfl, h0, h1, h2⟩ := trodAll_three hA
  obtain ⟨rfl, rfl⟩ := trodVars_none hV
  clear hA0
  simp only [List.append_nil, List.append_assoc] at hW'
  have hlt : ∀ x ∈ p0 ++ (p1 ++ p2), x.block < W.heap.size := fun x hx => by simpa using hW'.lt x hx
  have h0k := h0
  have h1k := h1
  have h2k := h2
  obtain ⟨a1, len1, cap1, rfl⟩ := okWide_slice Tryz.underlying29 (hval 0 _ v0 rfl rfl)
  obtain ⟨a2, len2, cap2, rfl⟩ := okWide_slice Tryz.underlying29 (hval 1 _ v1 rfl rfl)
  obtain ⟨s, rfl, _, _, hsz⟩ := open_string Tryz.underlying9 (hval 2 9 v2 rfl rfl) h2
  obtain ⟨n0, hf0⟩ := h0
  have hf0' : DataW.trod enc Tryz.prog W 0 (fun _ => true) true n0 29 [.slice a1 len1 cap1] = some (d0, p0) := by simpa [Value.cells] using hf0
  obtain ⟨sv, L, hsv, hsm, hm, hc⟩ := u8ss_of hf0'
  rw [hsv] at hf0' h0k hW' ⊢
  obtain ⟨n1, hf1⟩ := h1
  have hf1' : DataW.trod enc Tryz.prog W 0 (fun _ => true) true n1 29 [.slice a2 len2 cap2] = some (d1, p1) := by simpa [Value.cells] using hf1
  obtain ⟨sv', L', hsv', hsm', hm', hc'⟩ := u8ss_of hf1'
  rw [hsv'] at hf1' h1k hW' ⊢
  have hL7 : laidMet Tryz.prog laid7 W := hL
  refine (mainBack6 sv.A sv.n sv.c L sv'.A sv'.n sv'.c L' s W (Lib.hid (vars_of hL7 hSh)) (Lib.hid hsm) (Lib.hid hsm') (by unfold maxLen at hm; omega) hc (by unfold maxLen at hm'; omega) hc').mono fun e W' ⟨he, hb⟩ => ?_
  subst he
  exact ⟨_, rfl, ⟨_, _, _, [], _, [], hW', trodAll_mk1 (shut_bool Tryz.underlying4 _), trodAll_mk3 (Below.trod laidOut (by kernel_rfl) (of_decide_eq_true (by kernel_rfl)) h0k hb (fun x hx => hlt x (List.mem_append_left _ hx))) (Below.trod laidOut (by kernel_rfl) (of_decide_eq_true (by kernel_rfl)) h1k hb (fun x hx => hlt x (List.mem_append_right _ (List.mem_append_left _ hx)))) (Below.trod laidOut (by kernel_rfl) (of_decide_eq_true (by kernel_rfl)) h2k hb (fun x hx => hlt x (List.mem_append_right _ (List.mem_append_right _ hx)))), rfl, hb.frame _, fun h => by cases h⟩⟩
theorem dimacsBack_said : Rows.DimacsBackSaid :=
  OpenClaim.holds_of_cond 5 Tryz.f5 rfl rfl rfl rfl rfl rfl rfl ⟨rfl, rfl, rfl, rfl, rfl⟩ rfl rfl rfl rfl rfl (by kernel_rfl) Tryz.func5 (by kernel_rfl)
    (of_decide_eq_true (by kernel_rfl)) (by unfold Func.isWrapper; first | (rw [if_pos (by decide +kernel)]; kernel_rfl) | (rw [if_neg (by decide +kernel)]; exact ⟨rfl, rfl⟩))
    (fun os started H enc _ F => by rw [OpenClaim.pre_eq_preRow]; exact back_lifted os started H enc F)
theorem back_plain (f : FuncId) (fn : Func) (hf : Tryz.pinned.checked.prog.funcNamed "salvor/salvorlaw06.DimacsBack" = some f) (hfn : Tryz.pinned.checked.prog.funcs[f]? = some fn) :
    true = Tryz.pinned.checked.prog.looks [] ∧ ∀ (j : Nat) t, fn.params[j]? = some t → Tryz.pinned.checked.prog.wantsStandIn t = false := by
  obtain rfl : f = 5 := Option.some.inj ((show Tryz.prog.funcNamed "salvor/salvorlaw06.DimacsBack" = some 5 by kernel_rfl).symm.trans hf) |>.symm
  obtain rfl : fn = Tryz.f5 := (Option.some.inj (Tryz.func5.symm.trans hfn)).symm
  refine ⟨by kernel_rfl, fun j t ht => ?_⟩
  rw [Tryz.params5] at ht
  have hm := Array.mem_of_getElem? ht
  have hor : t = 29 ∨ t = 9 := by simpa using hm
  rcases hor with rfl | rfl
  · exact (show Tryz.prog.wantsStandIn 29 = false by kernel_rfl)
  · exact (show Tryz.prog.wantsStandIn 9 = false by kernel_rfl)
/-- The card of DimacsBack. -/
theorem dimacsBack_holds : Rows.DimacsBackCardSaid :=
  Claim7.holds_tied_plain_at .later [] _ _ _ _ dimacsBack_said (fun _ h => by cases h) (by kernel_rfl) (fun _ h => by cases h) dimacsBack_row_tie rfl ⟨rfl, rfl⟩ (by kernel_rfl) rfl back_plain (by kernel_rfl)
#print axioms dimacsBack_holds
end Go.Proofs.YtkpcpclaadgnbaaGreatDoor
