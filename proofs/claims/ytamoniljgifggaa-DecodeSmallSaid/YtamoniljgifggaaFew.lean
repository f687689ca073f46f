/-
  Contract of salvorlaw42.few.
-/
import Derived.Test.YtamoniljgifggaaBuild0
set_option linter.unusedVariables false
set_option linter.unusedSimpArgs false
namespace Go.Proofs.Ytamoniljgifggaa
open Go.RowKit

set_option maxHeartbeats 400000 in
set_option maxRecDepth 100000 in
theorem indexf_lists (A : Option Addr) (n c : Nat) (l : List SV) (g : Nat) (lb : Array Value) (p : SV → Bool) (w : World) (hr : Hid (Rd w A (l.map SV.val))) (hl : Hid (l.length = n)) (hn : n ≤ 1000000000)
    (hent' : Ent Try.prog g) (hp : Hid (PredOn Try.prog g lb SV.val p w l)) :
    Calls Try.prog 55 #[.slice A n c, .func (.func g) #[] lb] w fun e w' => ∃ k : Int, e = .returned (.int .i64 k) ∧ Hid ((0 ≤ k) = (l.any p = true)) ∧ -1 ≤ k ∧ k ≤ 1000000000 ∧ Below w.heap.size w w' := by
  have hent : ∀ (args : Array Value) (W : World), (callFunc g args).run Try.prog W = .ok (.enter g args) W := hent'
  clear hent'
  go_enter Try.func55, Try.ntmps55
  go_wp2
  go_loopw [8] (fun i wr => ∃ k : Nat, k ≤ n ∧ i = .int .i64 k ∧ Below w.heap.size w wr ∧ Hid ((l.take k).any p = false)) (fun i _ => n - (intOf i).toNat)
  case atStart => exact ⟨0, Nat.zero_le _, rfl, Below.refl _ _, rfl⟩
  case round =>
    obtain ⟨k, hk, rfl, hb, ht⟩ := hrel
    have HB := Lib.hid hb
    by_cases hlt : k < n
    · obtain ⟨b1, o1, x, rfl, hx, hc1⟩ := (hr.out.below hb).getm hl.out hlt
      have HX := Lib.hid hx
      have hcall := Lib.hid (hp.out x (List.mem_of_getElem? hx) wr hb)
      clear hx hb
      by_cases hpx : p x = true
      · rw [hpx] at hcall
        go_wp2_with fail
        refine hcall.out.mono ?_
        rintro e W' ⟨rfl, hb'⟩
        have HB' := Lib.hid hb'
        clear hb' hcall
        go_wp2
        go_ret
        refine ⟨k, rfl, ?_, by omega, by omega, bthen HB.out HB'.out⟩
        have h1 : l.any p = true := by rw [List.any_eq_true]; exact ⟨x, List.mem_of_getElem? HX.out, hpx⟩
        show (0 ≤ (k : Int)) = (l.any p = true)
        simp [h1]
      · have hpf : p x = false := by simpa using hpx
        clear hpx
        rw [hpf] at hcall
        go_wp2_with fail
        refine hcall.out.mono ?_
        rintro e W' ⟨rfl, hb'⟩
        have HB' := Lib.hid hb'
        clear hb' hcall
        go_wp2
        go_roundw
        case rel => exact ⟨k + 1, by omega, by go_num, bthen HB.out HB'.out, by show (l.take (k + 1)).any p = false; rw [take_snoc HX.out, List.any_append, ht.out]; simp [hpf]⟩
        case measure => simp [intOf]; omega
    · clear hb
      go_wp2
      go_ret
      refine ⟨-1, rfl, ?_, by omega, by omega, HB.out⟩
      have h1 : l.any p = false := by
        have h := ht.out
        rwa [List.take_of_length_le (by rw [hl.out]; omega)] at h
      show (0 ≤ (-1 : Int)) = (l.any p = true)
      simp [h1]

theorem containsf_lists (A : Option Addr) (n c : Nat) (l : List SV) (g : Nat) (lb : Array Value) (p : SV → Bool) (w : World) (hr : Hid (Rd w A (l.map SV.val))) (hl : Hid (l.length = n)) (hn : n ≤ 1000000000)
    (hent : Ent Try.prog g) (hp : Hid (PredOn Try.prog g lb SV.val p w l)) :
    Calls Try.prog 17 #[.slice A n c, .func (.func g) #[] lb] w fun e w' => e = .returned (.bool (l.any p)) ∧ Below w.heap.size w w' := by
  go_enter Try.func17, Try.ntmps17
  go_wp2_with fail
  refine (indexf_lists A n c l g lb p w hr hl hn hent hp).mono ?_
  rintro e w' ⟨k, rfl, hk, h1, h2, hb⟩
  have HB := Lib.hid hb
  clear hb
  go_wp2
  go_ret
  refine ⟨ret_bool ?_, HB.out⟩
  rw [Bool.eq_iff_iff, decide_eq_true_iff, hk.out]


theorem few1 (A : Option Addr) (n c : Nat) (w : World) : Calls Try.prog 18 #[.slice A n c] w fun e w' => e = .returned (.bool (decide (20 < n))) ∧ w = w' := by
  go_enter Try.func18, Try.ntmps18
  go_wp2
  go_ret
  exact ⟨ret_bool (by simp; omega), rfl⟩
def fewB (nA nW nO nK nC nR : Nat) (S : List SV) : Bool := decide (nA ≤ 40) && decide (nW ≤ 20) && decide (nO ≤ 20) && decide (nK ≤ 20) && decide (nC ≤ 20) && decide (nR ≤ 20) && !S.any fun s => decide (20 < s.n)
theorem ent_few1 : Ent Try.prog 18 := Ent.of Try.func18 (by kernel_rfl) (by kernel_rfl)
theorem few1_pred (w : World) (S : List SV) : PredOn Try.prog 18 #[] SV.val (fun s => decide (20 < s.n)) w S := by
  intro s _ W _
  refine (few1 s.A s.n s.c W).mono ?_
  rintro e w' ⟨rfl, rfl⟩
  exact ⟨rfl, Below.refl _ _⟩
theorem fewFalse {a b : Bool} (h : a = false) : Ending.returned (.bool false) = .returned (.bool (a && b)) := by rw [h]; rfl

set_option maxHeartbeats 2000000 in
set_option maxRecDepth 100000 in
theorem few (i : Nat) (AA AW AO AK AC AR : Option Addr) (nA nW nO nK nC nR cA cW cO cK cC cR : Nat) (req bey hol : Int) (S : List SV) (w : World) (hS : Hid (Rd w AW (S.map SV.val))) (hl : Hid (S.length = nW)) :
    Calls Try.prog 6 #[.agg #[.int .u8 i, .slice AA nA cA, .slice AW nW cW, .slice AO nO cO, .slice AK nK cK, .slice AC nC cC, .slice AR nR cR, .int .i64 req, .int .i64 bey, .int .i64 hol]] w fun e w' => e = .returned (.bool (fewB nA nW nO nK nC nR S)) ∧ Below w.heap.size w w' := by
  have hb0 : Below w.heap.size w (w.alloc (.cells #[.int .u8 i, .slice AA nA cA, .slice AW nW cW, .slice AO nO cO, .slice AK nK cK, .slice AC nC cC, .slice AR nR cR, .int .i64 req, .int .i64 bey, .int .i64 hol] 27)) := (Below.refl _ w).alloc (Nat.le_refl _) _
  have HB := Lib.hid hb0
  clear hb0
  by_cases h0 : nA ≤ 40
  rotate_left
  · have d0 : decide (nA ≤ 40) = false := by simpa using h0
    have e0 : decide ((nA : Int) ≤ 40) = false := by simp; omega
    have HF : Hid (fewB nA nW nO nK nC nR S = false) := by show _ = _; simp [fewB, d0]
    clear d0
    go_enter Try.func6, Try.ntmps6
    go_wp2
    go_ret
    exact ⟨ret_bool HF.out.symm, HB.out⟩
  have e0 : decide ((nA : Int) ≤ 40) = true := by simp; omega
  by_cases h1 : nW ≤ 20
  rotate_left
  · have d1 : decide (nW ≤ 20) = false := by simpa using h1
    have e1 : decide ((nW : Int) ≤ 20) = false := by simp; omega
    have HF : Hid (fewB nA nW nO nK nC nR S = false) := by show _ = _; simp [fewB, d1]
    clear d1
    go_enter Try.func6, Try.ntmps6
    go_wp2
    go_ret
    exact ⟨ret_bool HF.out.symm, HB.out⟩
  have e1 : decide ((nW : Int) ≤ 20) = true := by simp; omega
  by_cases h2 : nO ≤ 20
  rotate_left
  · have d2 : decide (nO ≤ 20) = false := by simpa using h2
    have e2 : decide ((nO : Int) ≤ 20) = false := by simp; omega
    have HF : Hid (fewB nA nW nO nK nC nR S = false) := by show _ = _; simp [fewB, d2]
    clear d2
    go_enter Try.func6, Try.ntmps6
    go_wp2
    go_ret
    exact ⟨ret_bool HF.out.symm, HB.out⟩
  have e2 : decide ((nO : Int) ≤ 20) = true := by simp; omega
  by_cases h3 : nK ≤ 20
  rotate_left
  · have d3 : decide (nK ≤ 20) = false := by simpa using h3
    have e3 : decide ((nK : Int) ≤ 20) = false := by simp; omega
    have HF : Hid (fewB nA nW nO nK nC nR S = false) := by show _ = _; simp [fewB, d3]
    clear d3
    go_enter Try.func6, Try.ntmps6
    go_wp2
    go_ret
    exact ⟨ret_bool HF.out.symm, HB.out⟩
  have e3 : decide ((nK : Int) ≤ 20) = true := by simp; omega
  by_cases h4 : nC ≤ 20
  rotate_left
  · have d4 : decide (nC ≤ 20) = false := by simpa using h4
    have e4 : decide ((nC : Int) ≤ 20) = false := by simp; omega
    have HF : Hid (fewB nA nW nO nK nC nR S = false) := by show _ = _; simp [fewB, d4]
    clear d4
    go_enter Try.func6, Try.ntmps6
    go_wp2
    go_ret
    exact ⟨ret_bool HF.out.symm, HB.out⟩
  have e4 : decide ((nC : Int) ≤ 20) = true := by simp; omega
  by_cases h5 : nR ≤ 20
  rotate_left
  · have d5 : decide (nR ≤ 20) = false := by simpa using h5
    have e5 : decide ((nR : Int) ≤ 20) = false := by simp; omega
    have HF : Hid (fewB nA nW nO nK nC nR S = false) := by show _ = _; simp [fewB, d5]
    clear d5
    go_enter Try.func6, Try.ntmps6
    go_wp2
    go_ret
    exact ⟨ret_bool HF.out.symm, HB.out⟩
  have e5 : decide ((nR : Int) ≤ 20) = true := by simp; omega
  have HV : Hid (fewB nA nW nO nK nC nR S = !(S.any fun s => decide (20 < s.n))) := by show _ = _; simp [fewB, h0, h1, h2, h3, h4, h5]
  go_enter Try.func6, Try.ntmps6
  go_wp2_with fail
  refine (containsf_lists AW nW cW S 18 #[] (fun s => decide (20 < s.n)) _ (Lib.hid (hS.out.below HB.out)) hl (by omega) ent_few1 (few1_pred _ S)).mono ?_
  rintro e w1 ⟨rfl, hb1⟩
  have HB1 := Lib.hid (bthen HB.out hb1)
  clear hb1
  generalize (S.any fun s => decide (20 < s.n)) = t at *
  go_wp2
  go_ret
  exact ⟨ret_bool HV.out.symm, HB1.out⟩
end Go.Proofs.Ytamoniljgifggaa
