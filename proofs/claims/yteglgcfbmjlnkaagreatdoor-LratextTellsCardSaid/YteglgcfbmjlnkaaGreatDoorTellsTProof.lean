/-
  LratextTells returns true, and its steps read as before, for every list of steps; the listed package variables start as the program's text lays them (the card ties them to it).
-/
import Derived.Test.YteglgcfbmjlnkaaGreatDoorTellsT
import Derived.Test.YteglgcfbmjlnkaaGreatDoorFewT
import Derived.Test.YteglgcfbmjlnkaaGreatDoorAwake7
import Derived.Test.YteglgcfbmjlnkaaGreatDoorCard7
import Derived.ChangeMaps5
import Derived.ChangeSame
import Derived.JoinedOf
import Derived.JoinedAt
import Derived.JoinedStill
import Derived.RowKit
import Derived.Below
import Derived.Carry
set_option linter.unusedVariables false
set_option linter.unusedSimpArgs false
namespace Go.Proofs.YteglgcfbmjlnkaaGreatDoor
open Go.ChangeShapes Go.WideShapes Go.ChangeAt Go.RowKit
open Go.ChangeMaps (open_string shut_string)

set_option maxRecDepth 100000 in
theorem mainTells (A : Option Addr) (n c : Nat) (L : List (StV × Stp)) (w : World) (hv : Hid (Vars w)) (h : Hid (StepsW w A n L)) (hn : n ≤ 17592186044416) (hc : n ≤ c) : Calls Tryz.prog 3 #[.slice A n c] w fun e w' => e = .returned (.bool true) ∧ Below w.heap.size w w' := by
  go_enter Tryz.func3, Tryz.ntmps3
  go_wp2_with fail
  refine (fewC A n c L w h hn hc).mono ?_
  rintro e w1 ⟨b, rfl, hfew, hb⟩
  have HB1 := Lib.hid hb
  have HV1 := Lib.hid (hv.out.below hb)
  have HF := Lib.hid hfew
  clear hb hfew
  cases b with
  | true =>
    obtain ⟨h1, h2⟩ := HF.out rfl
    have HS := Lib.hid ((h.out.at h1 h2).below HB1.out)
    have H2 := Lib.hid h2
    clear h2 HF
    go_wp2_with fail
    refine (tellsC A n c L w1 HV1 HS h1 H2).mono ?_
    rintro e w2 ⟨rfl, hb⟩
    have HB2 := Lib.hid (bthen HB1.out hb)
    clear hb
    go_wp2_with fail
    refine (awakeC w2 (Lib.hid (hv.out.below HB2.out))).mono ?_
    rintro e w3 ⟨rfl, hb⟩
    have HB3 := Lib.hid (bthen HB2.out hb)
    clear hb
    go_wp2
    go_ret
    exact ⟨rfl, HB3.out⟩
  | false =>
    clear HF
    go_wp2_with fail
    refine (awakeC w1 HV1).mono ?_
    rintro e w2 ⟨rfl, hb⟩
    have HB2 := Lib.hid (bthen HB1.out hb)
    clear hb
    go_wp2
    go_ret
    exact ⟨rfl, HB2.out⟩
theorem laidOut : laidOutB Tryz.prog = true := by kernel_rfl
theorem tellsMet (os : Os) : laidMet Tryz.prog laid7 ((laidWorld os).forCall (fun _ _ => 0) ⟨#[], #[.slice none 0 0], []⟩).memory :=
  laidMet_of_run' 8 (by kernel_rfl) (by kernel_rfl)
theorem tellsRead (os : Os) {H : Type} (enc : TypeId × Value → H) : ∃ places, DataW.whole enc Tryz.prog ((laidWorld os).forCall (fun _ _ => 0) ⟨#[], #[.slice none 0 0], []⟩).memory Tryz.f3.params.toList Rows.lratextTellsSpec.vars false #[Value.slice none 0 0].toList 8 = some ([.nil], [], places) :=
  ⟨[], by kernel_rfl⟩
set_option maxRecDepth 100000 in
theorem tells_lifted (os : Os) (started : os.Started) (H : Type) (enc : TypeId × Value → H) (F : Stop.Interp) :
    ReturnsInHanded {} Tryz.checked os 3 .any ((OpenSpec.ofChange Rows.lratextTellsSpec).preRow enc Tryz.prog Tryz.f3 Rows.lratextTellsRow.domain false Rows.lratextTellsRow.laid) (((OpenSpec.ofChange Rows.lratextTellsSpec).at F).post enc Tryz.prog Tryz.f3 false true false false) := by
  obtain ⟨places, hx⟩ := tellsRead os enc
  refine returnsInHanded_of_row (C := Tryz.checked) (s := OpenSpec.ofChange Rows.lratextTellsSpec) ownD started (by kernel_rfl) Tryz.func3
    (witness_row_at (enc := enc) (C := Tryz.checked) false (laidWorld os) #[.slice none 0 0] rfl (by kernel_rfl) (by kernel_rfl) (by kernel_rfl)
      (OpenSpec.preRow_of_cond 8 hx (by kernel_rfl) (fun k hk => by cases hk) (by kernel_rfl) (tellsMet os))) ?_
  intro W base args ds gs before hval hW _ _ hsz0 hL hSh _
  have hW' := hW
  obtain ⟨p, q, hA0, hV, rfl, hfz, hnd⟩ := hW
  have hA : DataW.TrodAll enc Tryz.prog W 0 (fun _ => true) true Tryz.f3.params.toList args.toList ds p := hA0
  rw [Tryz.params3] at hA hval
  obtain ⟨v0, vs0, d0, ds0, p0, q0, hargs, rfl, rfl, h0, r0⟩ := trodAll_cons hA
  obtain ⟨rfl, rfl, rfl⟩ := trodAll_nil r0
  obtain rfl : args = #[v0] := by cases args; simp_all
  obtain ⟨rfl, rfl⟩ := trodVars_none hV
  have hlt : ∀ x ∈ p0, x.block < W.heap.size := fun x hx => by simpa using hW'.lt x (by simpa using hx)
  have h0k := h0
  obtain ⟨a1, len1, cap1, rfl⟩ := okWide_slice Tryz.underlying22 (hval 0 _ v0 rfl rfl)
  clear hA0
  simp only [List.append_nil] at hW'
  obtain ⟨n0, hf0⟩ := h0
  have hf0' : DataW.trod enc Tryz.prog W 0 (fun _ => true) true n0 22 [.slice a1 len1 cap1] = some (d0, p0) := by simpa [Value.cells] using hf0
  have hsz1 : ∀ m ∈ d0.weights Tryz.prog 22, m ≤ reachBytes := fun m hm => by
    have h1 := List.all_eq_true.1 hsz0 m (DataW.weights_mem_each (j := 0) (t := 22) (d := d0) (by rw [Tryz.params3]; rfl) rfl m hm)
    simpa using h1
  obtain ⟨sv, L, hsv, hsm, hm, hc⟩ := stps_of hf0' hsz1
  rw [hsv] at hf0' h0k hW' ⊢
  have hL7 : laidMet Tryz.prog laid7 W := hL
  refine (mainTells sv.A sv.n sv.c L W (Lib.hid (vars_of hL7 hSh)) (Lib.hid hsm) hm hc).mono fun e W' ⟨he, hb⟩ => ?_
  subst he
  exact ⟨_, rfl, ⟨_, _, _, [], _, [], hW', trodAll_mk1 (shut_bool Tryz.underlying4 _), trodAll_mk1 (Below.trod laidOut (by kernel_rfl) (of_decide_eq_true (by kernel_rfl)) h0k hb hlt), rfl, hb.frame _, fun h => by cases h⟩⟩
theorem lratextTells_said : Rows.LratextTellsSaid :=
  OpenClaim.holds_of_cond 3 Tryz.f3 rfl rfl rfl rfl rfl rfl rfl ⟨rfl, rfl, rfl, rfl, rfl⟩ rfl rfl rfl rfl rfl (by kernel_rfl) Tryz.func3 (by kernel_rfl)
    (of_decide_eq_true (by kernel_rfl)) (by unfold Func.isWrapper; first | (rw [if_pos (by decide +kernel)]; kernel_rfl) | (rw [if_neg (by decide +kernel)]; exact ⟨rfl, rfl⟩))
    (fun os started H enc _ F => by rw [OpenClaim.pre_eq_preRow]; exact tells_lifted os started H enc F)
theorem tells_plain (f : FuncId) (fn : Func) (hf : Tryz.pinned.checked.prog.funcNamed "salvor/salvorlaw07.LratextTells" = some f) (hfn : Tryz.pinned.checked.prog.funcs[f]? = some fn) :
    true = Tryz.pinned.checked.prog.looks [] ∧ ∀ (j : Nat) t, fn.params[j]? = some t → Tryz.pinned.checked.prog.wantsStandIn t = false := by
  obtain rfl : f = 3 := Option.some.inj ((show Tryz.prog.funcNamed "salvor/salvorlaw07.LratextTells" = some 3 by kernel_rfl).symm.trans hf) |>.symm
  obtain rfl : fn = Tryz.f3 := (Option.some.inj (Tryz.func3.symm.trans hfn)).symm
  refine ⟨by kernel_rfl, fun j t ht => ?_⟩
  rw [Tryz.params3] at ht
  obtain rfl : t = 22 := by simpa using Array.mem_of_getElem? ht
  exact (show Tryz.prog.wantsStandIn 22 = false by kernel_rfl)
/-- The card of LratextTells. -/
theorem lratextTells_holds : Rows.LratextTellsCardSaid :=
  Claim7.holds_tied_plain_at .later [] _ _ _ _ lratextTells_said (fun _ h => by cases h) (by kernel_rfl) (fun _ h => by cases h) lratextTells_row_tie rfl ⟨rfl, rfl⟩ (by kernel_rfl) rfl tells_plain (by kernel_rfl)
#print axioms lratextTells_holds
end Go.Proofs.YteglgcfbmjlnkaaGreatDoor
