/-
  LratextWrong returns true, and its arguments read as before, for every list of small steps, every place, every kind of defect and every integer; the listed package variables start as the program's text lays them (the card ties them to it).
-/
import Derived.Test.YteglgcfbmjlnkaaDoorWrongL
import Derived.Test.YteglgcfbmjlnkaaDoorOpen7
import Derived.Test.YteglgcfbmjlnkaaDoorCard7
import Derived.ChangeMaps5
import Derived.ChangeSame
import Derived.JoinedOf
import Derived.JoinedAt
import Derived.JoinedStill
import Derived.RowKit
import Derived.Below
import Derived.Carry
set_option linter.unusedVariables false
set_option linter.unusedSimpArgs false
namespace Go.Proofs.YteglgcfbmjlnkaaDoor
open Go.ChangeShapes Go.WideShapes Go.ChangeAt Go.RowKit
open Go.ChangeMaps (open_string shut_string)

theorem i64_of {n : Int} (h : (Lit.int .i64 n).wf = true) : I64 n := by
  simp only [Lit.wf, Bool.and_eq_true, decide_eq_true_eq] at h
  exact ⟨h.1, h.2⟩
theorem laidOut : laidOutB Tryd.prog = true := by kernel_rfl
theorem wrongMet (os : Os) : laidMet Tryd.prog laid7 ((laidWorld os).forCall (fun _ _ => 0) ⟨#[], #[.slice none 0 0, .int .u8 0, .int .u8 0, .int .i64 0], []⟩).memory :=
  laidMet_of_run' 8 (by kernel_rfl) (by kernel_rfl)
theorem wrongRead (os : Os) {H : Type} (enc : TypeId × Value → H) : ∃ places, DataW.whole enc Tryd.prog ((laidWorld os).forCall (fun _ _ => 0) ⟨#[], #[.slice none 0 0, .int .u8 0, .int .u8 0, .int .i64 0], []⟩).memory Tryd.f6.params.toList Rows.lratextWrongSpec.vars false #[Value.slice none 0 0, Value.int .u8 0, Value.int .u8 0, Value.int .i64 0].toList 8 = some ([.nil, .lit (.int .u8 0), .lit (.int .u8 0), .lit (.int .i64 0)], [], places) :=
  ⟨[], by kernel_rfl⟩
set_option maxRecDepth 100000 in
theorem wrong_lifted (os : Os) (started : os.Started) (H : Type) (enc : TypeId × Value → H) (F : Stop.Interp) :
    ReturnsInHanded {} Tryd.checked os 6 .any ((OpenSpec.ofChange Rows.lratextWrongSpec).preRow enc Tryd.prog Tryd.f6 Rows.lratextWrongRow.domain false Rows.lratextWrongRow.laid) (((OpenSpec.ofChange Rows.lratextWrongSpec).at F).post enc Tryd.prog Tryd.f6 false true false false) := by
  obtain ⟨places, hx⟩ := wrongRead os enc
  refine returnsInHanded_of_row (C := Tryd.checked) (s := OpenSpec.ofChange Rows.lratextWrongSpec) ownD started (by kernel_rfl) Tryd.func6
    (witness_row_at (enc := enc) (C := Tryd.checked) false (laidWorld os) #[.slice none 0 0, .int .u8 0, .int .u8 0, .int .i64 0] rfl (by kernel_rfl) (by kernel_rfl) (by kernel_rfl)
      (OpenSpec.preRow_of_cond 8 hx (by kernel_rfl) (fun k hk => by cases hk) (by kernel_rfl) (wrongMet os))) ?_
  intro W base args ds gs before hval hW _ _ _ hL hSh _
  have hW' := hW
  obtain ⟨p, q, hA0, hV, rfl, hfz, hnd⟩ := hW
  have hA : DataW.TrodAll enc Tryd.prog W 0 (fun _ => true) true Tryd.f6.params.toList args.toList ds p := hA0
  rw [Tryd.params6] at hA hval
  obtain ⟨v0, v1, v2, v3, d0, d1, d2, d3, p0, p1, p2, p3, rfl, rfl, rfl, h0, h1, h2, h3⟩ := trodAll_four hA
  obtain ⟨rfl, rfl⟩ := trodVars_none hV
  clear hA0
  simp only [List.append_nil, List.append_assoc] at hW'
  have hlt : ∀ x ∈ p0 ++ (p1 ++ (p2 ++ p3)), x.block < W.heap.size := fun x hx => by simpa using hW'.lt x hx
  have h0k := h0
  have h1k := h1
  have h2k := h2
  have h3k := h3
  obtain ⟨a1, len1, cap1, rfl⟩ := okWide_slice Tryd.underlying24 (hval 0 _ v0 rfl rfl)
  obtain ⟨m, rfl, _, _, hwf⟩ := open_int Tryd.underlying5 (hval 1 5 v1 rfl rfl) h1
  have hm8 := u8_of hwf
  obtain ⟨mn, rfl⟩ : ∃ mn : Nat, m = (mn : Int) := ⟨m.toNat, by omega⟩
  obtain ⟨m', rfl, _, _, hwf'⟩ := open_int Tryd.underlying5 (hval 2 5 v2 rfl rfl) h2
  have hm8' := u8_of hwf'
  obtain ⟨mn', rfl⟩ : ∃ mn' : Nat, m' = (mn' : Int) := ⟨m'.toNat, by omega⟩
  obtain ⟨z, rfl, _, _, hwz⟩ := open_int Tryd.underlying3 (hval 3 3 v3 rfl rfl) h3
  have hz := i64_of hwz
  obtain ⟨n0, hf0⟩ := h0
  have hf0' : DataW.trod enc Tryd.prog W 0 (fun _ => true) true n0 24 [.slice a1 len1 cap1] = some (d0, p0) := by simpa [Value.cells] using hf0
  obtain ⟨sv, L, hsv, hsm, hm, hc⟩ := smls_of hf0'
  rw [hsv] at hf0' h0k hW' ⊢
  have hL7 : laidMet Tryd.prog laid7 W := hL
  refine (mainWrong sv.A sv.n sv.c L mn mn' z W (Lib.hid (vars_of hL7 hSh)) (Lib.hid hsm) (by unfold maxLen at hm; omega) hc (by omega) (by omega) (Lib.hid hz)).mono fun e W' ⟨he, hb⟩ => ?_
  subst he
  exact ⟨_, rfl, ⟨_, _, _, [], _, [], hW', trodAll_mk1 (shut_bool Tryd.underlying4 _), trodAll_mk4 (Below.trod laidOut (by kernel_rfl) (of_decide_eq_true (by kernel_rfl)) h0k hb (fun x hx => hlt x (List.mem_append_left _ hx))) (Below.trod laidOut (by kernel_rfl) (of_decide_eq_true (by kernel_rfl)) h1k hb (fun x hx => hlt x (List.mem_append_right _ (List.mem_append_left _ hx)))) (Below.trod laidOut (by kernel_rfl) (of_decide_eq_true (by kernel_rfl)) h2k hb (fun x hx => hlt x (List.mem_append_right _ (List.mem_append_right _ (List.mem_append_left _ hx))))) (Below.trod laidOut (by kernel_rfl) (of_decide_eq_true (by kernel_rfl)) h3k hb (fun x hx => hlt x (List.mem_append_right _ (List.mem_append_right _ (List.mem_append_right _ hx))))), rfl, hb.frame _, fun h => by cases h⟩⟩
theorem lratextWrong_said : Rows.LratextWrongSaid :=
  OpenClaim.holds_of_cond 6 Tryd.f6 rfl rfl rfl rfl rfl rfl rfl ⟨rfl, rfl, rfl, rfl, rfl⟩ rfl rfl rfl rfl rfl (by kernel_rfl) Tryd.func6 (by kernel_rfl)
    (of_decide_eq_true (by kernel_rfl)) (by unfold Func.isWrapper; first | (rw [if_pos (by decide +kernel)]; kernel_rfl) | (rw [if_neg (by decide +kernel)]; exact ⟨rfl, rfl⟩))
    (fun os started H enc _ F => by rw [OpenClaim.pre_eq_preRow]; exact wrong_lifted os started H enc F)
theorem wrong_plain (f : FuncId) (fn : Func) (hf : Tryd.pinned.checked.prog.funcNamed "salvor/salvorlaw07.LratextWrong" = some f) (hfn : Tryd.pinned.checked.prog.funcs[f]? = some fn) :
    true = Tryd.pinned.checked.prog.looks [] ∧ ∀ (j : Nat) t, fn.params[j]? = some t → Tryd.pinned.checked.prog.wantsStandIn t = false := by
  obtain rfl : f = 6 := Option.some.inj ((show Tryd.prog.funcNamed "salvor/salvorlaw07.LratextWrong" = some 6 by kernel_rfl).symm.trans hf) |>.symm
  obtain rfl : fn = Tryd.f6 := (Option.some.inj (Tryd.func6.symm.trans hfn)).symm
  refine ⟨by kernel_rfl, fun j t ht => ?_⟩
  rw [Tryd.params6] at ht
  have hm := Array.mem_of_getElem? ht
  have hor : t = 24 ∨ t = 5 ∨ t = 3 := by simpa using hm
  rcases hor with rfl | rfl | rfl
  · exact (show Tryd.prog.wantsStandIn 24 = false by kernel_rfl)
  · exact (show Tryd.prog.wantsStandIn 5 = false by kernel_rfl)
  · exact (show Tryd.prog.wantsStandIn 3 = false by kernel_rfl)
/-- The card of LratextWrong. -/
theorem lratextWrong_holds : Rows.LratextWrongCardSaid :=
  Claim7.holds_tied_plain_at .later [] _ _ _ _ lratextWrong_said (fun _ h => by cases h) (by kernel_rfl) (fun _ h => by cases h) lratextWrong_row_tie rfl ⟨rfl, rfl⟩ (by kernel_rfl) rfl wrong_plain (by kernel_rfl)
#print axioms lratextWrong_holds
end Go.Proofs.YteglgcfbmjlnkaaDoor
