/-
  DimacsWrong returns true, and its arguments read as before, for every list of lists of bytes, two bytes and every integer; the listed package variables start as the program's text lays them (the card ties them to it).
-/
import Derived.Test.YtkpcpclaadgnbaaGreatDoorWrongL6
import Derived.Test.YtkpcpclaadgnbaaGreatDoorOpen6
import Derived.Test.YtkpcpclaadgnbaaGreatDoorCard7
import Derived.ChangeMaps5
import Derived.ChangeSame
import Derived.JoinedOf
import Derived.JoinedAt
import Derived.JoinedStill
import Derived.RowKit
import Derived.Below
import Derived.Carry
set_option linter.unusedVariables false
set_option linter.unusedSimpArgs false
namespace Go.Proofs.YtkpcpclaadgnbaaGreatDoor
open Go.ChangeShapes Go.WideShapes Go.ChangeAt Go.RowKit
open Go.ChangeMaps (open_string shut_string)

theorem laidOut : laidOutB Tryz.prog = true := by kernel_rfl
theorem wrongMet (os : Os) : laidMet Tryz.prog laid7 ((laidWorld os).forCall (fun _ _ => 0) ⟨#[], #[.slice none 0 0, .int .u8 0, .int .u8 0, .int .i64 0], []⟩).memory :=
  laidMet_of_run' 8 (by kernel_rfl) (by kernel_rfl)
theorem wrongRead (os : Os) {H : Type} (enc : TypeId × Value → H) : ∃ places, DataW.whole enc Tryz.prog ((laidWorld os).forCall (fun _ _ => 0) ⟨#[], #[.slice none 0 0, .int .u8 0, .int .u8 0, .int .i64 0], []⟩).memory Tryz.f7.params.toList Rows.dimacsWrongSpec.vars false #[Value.slice none 0 0, Value.int .u8 0, Value.int .u8 0, Value.int .i64 0].toList 8 = some ([.nil, .lit (.int .u8 0), .lit (.int .u8 0), .lit (.int .i64 0)], [], places) :=
  ⟨[], by kernel_rfl⟩
set_option maxRecDepth 100000 in
theorem wrong_lifted (os : Os) (started : os.Started) (H : Type) (enc : TypeId × Value → H) (F : Stop.Interp) :
    ReturnsInHanded {} Tryz.checked os 7 .any ((OpenSpec.ofChange Rows.dimacsWrongSpec).preRow enc Tryz.prog Tryz.f7 Rows.dimacsWrongRow.domain false Rows.dimacsWrongRow.laid) (((OpenSpec.ofChange Rows.dimacsWrongSpec).at F).post enc Tryz.prog Tryz.f7 false true false false) := by
  obtain ⟨places, hx⟩ := wrongRead os enc
  refine returnsInHanded_of_row (C := Tryz.checked) (s := OpenSpec.ofChange Rows.dimacsWrongSpec) ownD started (by kernel_rfl) Tryz.func7
    (witness_row_at (enc := enc) (C := Tryz.checked) false (laidWorld os) #[.slice none 0 0, .int .u8 0, .int .u8 0, .int .i64 0] rfl (by kernel_rfl) (by kernel_rfl) (by kernel_rfl)
      (OpenSpec.preRow_of_cond 8 hx (by kernel_rfl) (fun k hk => by cases hk) (by kernel_rfl) (wrongMet os))) ?_
  intro W base args ds gs before hval hW _ _ _ hL hSh _
  have hW' := hW
  obtain ⟨p, q, hA0, hV, rfl, hfz, hnd⟩ := hW
  have hA : DataW.TrodAll enc Tryz.prog W 0 (fun _ => true) true Tryz.f7.params.toList args.toList ds p := hA0
  rw [Tryz.params7] at hA hval
  obtain ⟨v0, v1, v2, v3, d0, d1, d2, d3, p0, p1, p2, p3, rfl, rfl, rfl, h0, h1, h2, h3⟩ := trodAll_four hA
  obtain ⟨rfl, rfl⟩ := trodVars_none hV
  clear hA0
  simp only [List.append_nil, List.append_assoc] at hW'
  have hlt : ∀ x ∈ p0 ++ (p1 ++ (p2 ++ p3)), x.block < W.heap.size := fun x hx => by simpa using hW'.lt x hx
  have h0k := h0
  have h1k := h1
  have h2k := h2
  have h3k := h3
  obtain ⟨a1, len1, cap1, rfl⟩ := okWide_slice Tryz.underlying29 (hval 0 _ v0 rfl rfl)
  obtain ⟨m, rfl, _, _, hwf⟩ := open_int Tryz.underlying5 (hval 1 5 v1 rfl rfl) h1
  have hm8 := u8_of hwf
  obtain ⟨mn, rfl⟩ : ∃ mn : Nat, m = (mn : Int) := ⟨m.toNat, by omega⟩
  obtain ⟨k, rfl, _, _, hwf2⟩ := open_int Tryz.underlying5 (hval 2 5 v2 rfl rfl) h2
  have hk8 := u8_of hwf2
  obtain ⟨kn, rfl⟩ : ∃ kn : Nat, k = (kn : Int) := ⟨k.toNat, by omega⟩
  obtain ⟨z, rfl, _, _, hwf3⟩ := open_int Tryz.underlying3 (hval 3 3 v3 rfl rfl) h3
  have hzi : I64 z := by
    simp only [Lit.wf, Bool.and_eq_true, decide_eq_true_eq] at hwf3
    exact ⟨hwf3.1, hwf3.2⟩
  obtain ⟨n0, hf0⟩ := h0
  have hf0' : DataW.trod enc Tryz.prog W 0 (fun _ => true) true n0 29 [.slice a1 len1 cap1] = some (d0, p0) := by simpa [Value.cells] using hf0
  obtain ⟨sv, L, hsv, hsm, hm, hc⟩ := u8ss_of hf0'
  rw [hsv] at hf0' h0k hW' ⊢
  have hL7 : laidMet Tryz.prog laid7 W := hL
  refine (mainWrong6 sv.A sv.n sv.c L mn kn z W (Lib.hid (vars_of hL7 hSh)) (Lib.hid hsm) (by unfold maxLen at hm; omega) hc (by omega) (by omega) hzi).mono fun e W' ⟨he, hb⟩ => ?_
  subst he
  exact ⟨_, rfl, ⟨_, _, _, [], _, [], hW', trodAll_mk1 (shut_bool Tryz.underlying4 _), trodAll_mk4 (Below.trod laidOut (by kernel_rfl) (of_decide_eq_true (by kernel_rfl)) h0k hb (fun x hx => hlt x (List.mem_append_left _ hx))) (Below.trod laidOut (by kernel_rfl) (of_decide_eq_true (by kernel_rfl)) h1k hb (fun x hx => hlt x (List.mem_append_right _ (List.mem_append_left _ hx)))) (Below.trod laidOut (by kernel_rfl) (of_decide_eq_true (by kernel_rfl)) h2k hb (fun x hx => hlt x (List.mem_append_right _ (List.mem_append_right _ (List.mem_append_left _ hx))))) (Below.trod laidOut (by kernel_rfl) (of_decide_eq_true (by kernel_rfl)) h3k hb (fun x hx => hlt x (List.mem_append_right _ (List.mem_append_right _ (List.mem_append_right _ hx))))), rfl, hb.frame _, fun h => by cases h⟩⟩
theorem dimacsWrong_said : Rows.DimacsWrongSaid :=
  OpenClaim.holds_of_cond 7 Tryz.f7 rfl rfl rfl rfl rfl rfl rfl ⟨rfl, rfl, rfl, rfl, rfl⟩ rfl rfl rfl rfl rfl (by kernel_rfl) Tryz.func7 (by kernel_rfl)
    (of_decide_eq_true (by kernel_rfl)) (by unfold Func.isWrapper; first | (rw [if_pos (by decide +kernel)]; kernel_rfl) | (rw [if_neg (by decide +kernel)]; exact ⟨rfl, rfl⟩))
    (fun os started H enc _ F => by rw [OpenClaim.pre_eq_preRow]; exact wrong_lifted os started H enc F)
theorem wrong_plain (f : FuncId) (fn : Func) (hf : Tryz.pinned.checked.prog.funcNamed "salvor/salvorlaw06.DimacsWrong" = some f) (hfn : Tryz.pinned.checked.prog.funcs[f]? = some fn) :
    true = Tryz.pinned.checked.prog.looks [] ∧ ∀ (j : Nat) t, fn.params[j]? = some t → Tryz.pinned.checked.prog.wantsStandIn t = false := by
  obtain rfl : f = 7 := Option.some.inj ((show Tryz.prog.funcNamed "salvor/salvorlaw06.DimacsWrong" = some 7 by kernel_rfl).symm.trans hf) |>.symm
  obtain rfl : fn = Tryz.f7 := (Option.some.inj (Tryz.func7.symm.trans hfn)).symm
  refine ⟨by kernel_rfl, fun j t ht => ?_⟩
  rw [Tryz.params7] at ht
  have hm := Array.mem_of_getElem? ht
  have hor : t = 29 ∨ t = 5 ∨ t = 3 := by simpa using hm
  rcases hor with rfl | rfl | rfl
  · exact (show Tryz.prog.wantsStandIn 29 = false by kernel_rfl)
  · exact (show Tryz.prog.wantsStandIn 5 = false by kernel_rfl)
  · exact (show Tryz.prog.wantsStandIn 3 = false by kernel_rfl)
/-- The card of DimacsWrong. -/
theorem dimacsWrong_holds : Rows.DimacsWrongCardSaid :=
  Claim7.holds_tied_plain_at .later [] _ _ _ _ dimacsWrong_said (fun _ h => by cases h) (by kernel_rfl) (fun _ h => by cases h) dimacsWrong_row_tie rfl ⟨rfl, rfl⟩ (by kernel_rfl) rfl wrong_plain (by kernel_rfl)
#print axioms dimacsWrong_holds
end Go.Proofs.YtkpcpclaadgnbaaGreatDoor
