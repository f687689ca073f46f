/-
  salvorlaw02.Made; what salvorlaw07.Made makes, as plain lists.
-/
import Derived.Test.YteglgcfbmjlnkaaDoorReadC
import Derived.Test.YteglgcfbmjlnkaaDoorEqualQ
set_option linter.unusedVariables false
set_option linter.unusedSimpArgs false
namespace Go.Proofs.YteglgcfbmjlnkaaDoor
open Go.RowKit

/-- A step in small numbers. -/
structure Sml where
  del : Bool
  more : Nat
  lits : List Nat
  hints : List Int
def litM (n : Nat) : Int := if n % 2 = 1 then -(1 + (n / 2 % 8 : Nat) : Int) else 1 + (n / 2 % 8 : Nat)
def hintM (del : Bool) (h : Int) : Int := if del then max h (-h) else h
def hintsM (del : Bool) (l : List Int) : List Int := ((l.take 10).map (hintM del)).filter (· ≠ 0)
def idM (x : Sml) (id : Int) : Int := id + (x.more % 5 : Nat) + (if x.del then 0 else 1)
def stpM (x : Sml) (id : Int) : Stp := ⟨x.del, idM x id, if x.del then [] else (x.lits.take 20).map litM, hintsM x.del x.hints⟩
def madeF (id : Int) : List Sml → List Stp
  | [] => []
  | x :: r => stpM x id :: madeF (idM x id) r
def madeS (l : List Sml) : List Stp := madeF 0 (l.take 40)
def lastM (id : Int) : List Sml → Int
  | [] => id
  | x :: r => lastM (idM x id) r
theorem idM_ge (x : Sml) (id : Int) : id ≤ idM x id ∧ idM x id ≤ id + 5 ∧ (x.del = false → id < idM x id) := by
  unfold idM
  cases x.del
  · refine ⟨?_, ?_, fun _ => ?_⟩ <;> simp <;> omega
  · refine ⟨?_, ?_, fun h => by cases h⟩ <;> simp <;> omega
theorem litM_right (n : Nat) : litB (litM n) = true := by
  have h : n / 2 % 8 < 8 := Nat.mod_lt _ (by omega)
  generalize hk : n / 2 % 8 = k at h
  unfold litM litB
  rw [hk]
  split
  · simp; omega
  · simp; omega
theorem stpM_right (x : Sml) (id : Int) (h0 : 0 ≤ id) (h1 : id ≤ 1000000) (hh : ∀ h ∈ x.hints, -128 ≤ h ∧ h ≤ 127) : rightS (stpM x id) = true := by
  obtain ⟨g1, g2, g3⟩ := idM_ge x id
  unfold rightS stpM clauseB
  simp only [Bool.and_eq_true, Bool.or_eq_true, Bool.not_eq_true', decide_eq_true_eq, List.any_eq_false, Bool.and_eq_false_iff, decide_eq_false_iff_not, beq_eq_false_iff_ne]
  refine ⟨⟨⟨⟨⟨by omega, by omega⟩, ?_⟩, ?_⟩, ?_, ?_⟩, ?_, ?_⟩
  · cases hd : x.del
    · right; have := g3 hd; omega
    · left; rfl
  · cases hd : x.del
    · left; rfl
    · right; simp
  · cases hd : x.del
    · simp; omega
    · simp
  · intro y hy
    cases hd : x.del
    · rw [hd] at hy
      simp only [Bool.false_eq_true, if_false] at hy
      obtain ⟨m, _, rfl⟩ := List.mem_map.1 hy
      rw [litM_right]; simp
    · rw [hd] at hy; simp at hy
  · unfold hintsM
    have := List.length_filter_le (fun x : Int => decide (x ≠ 0)) ((x.hints.take 10).map (hintM x.del))
    simp at this ⊢
    omega
  · intro y hy
    unfold hintsM at hy
    rw [List.mem_filter] at hy
    obtain ⟨hy, hy0⟩ := hy
    obtain ⟨h, hm, rfl⟩ := List.mem_map.1 hy
    have hb := hh h (List.mem_of_mem_take hm)
    have h0' : hintM x.del h ≠ 0 := by simpa using hy0
    unfold hintBad
    have hr : -128 ≤ hintM x.del h ∧ hintM x.del h ≤ 128 ∧ (x.del = true → 0 ≤ hintM x.del h) := by
      unfold hintM
      cases x.del
      · simp; omega
      · simp; omega
    rw [show (hintM x.del h == 0) = false by simpa using h0', decide_eq_false (show ¬ 1073741824 < hintM x.del h by omega), decide_eq_false (show ¬ hintM x.del h < -1073741824 by omega)]
    cases hd : x.del
    · simp
    · have := hr.2.2 hd
      rw [hd] at this
      rw [decide_eq_false (by omega)]; simp
theorem checkF_made : ∀ (xs : List Sml) (L : List (StV × Stp)) (id : Int) (i : Nat), 0 ≤ id → id + 5 * xs.length ≤ 1000000 → (∀ x ∈ xs, ∀ h ∈ x.hints, -128 ≤ h ∧ h ≤ 127) → L.map (·.2) = madeF id xs → checkF id i L = (-1, 0)
  | [], L, id, i, _, _, _, h => by
    have : L = [] := List.map_eq_nil_iff.1 h
    subst this; rfl
  | x :: xs, [], id, i, _, _, _, h => by simp [madeF] at h
  | x :: xs, p :: L, id, i, h0, h1, hh, h => by
    simp only [List.map_cons, madeF, List.cons.injEq] at h
    obtain ⟨h2, h3⟩ := h
    obtain ⟨g1, g2, g3⟩ := idM_ge x id
    have hr : rightS p.2 = true := by rw [h2]; exact stpM_right x id h0 (by simp at h1; omega) (hh x (by simp))
    have hid : p.2.id = idM x id := by rw [h2]; rfl
    have hdl : p.2.del = x.del := by rw [h2]; rfl
    have hf : fitsB p.2 id = true := by
      unfold fitsB
      rw [hid, hdl]
      cases hd : x.del
      · have := g3 hd; rw [decide_eq_true this]; rfl
      · by_cases he : idM x id = id
        · rw [he]; simp
        · rw [decide_eq_true (show id < idM x id by omega)]; rfl
    unfold checkF
    rw [hr, hf, hid]
    simp only [Bool.and_self, if_true]
    exact checkF_made xs L _ _ (by omega) (by simp at h1; omega) (fun y hy => hh y (by simp [hy])) h3
/-- The bytes that the program reckons a literal with. -/
theorem litM_steps (m : Nat) (hm : m ≤ 255) : ∃ r : Nat, r ≤ 7 ∧ m / 2 % 8 = r ∧ ∃ q : Nat, q ≤ 127 ∧ m / 2 = q ∧ q % 8 = r := ⟨m / 2 % 8, by omega, rfl, m / 2, by omega, rfl, rfl⟩
theorem litM_i64 (m : Nat) : I64 (litM m) := by
  unfold litM
  split
  · exact ⟨by omega, by omega⟩
  · exact ⟨by omega, by omega⟩
set_option maxRecDepth 100000 in
set_option maxHeartbeats 1000000 in
theorem made2C (A : Option Addr) (n c : Nat) (l : List Nat) (w : World) (h : Hid (Rd w A (l.map fun (m : Nat) => Value.int .u8 (m : Int)))) (hl : Hid (l.length = n)) (hb : Hid (∀ m ∈ l, m ≤ 255)) (hn : n ≤ 9223372036854775807) (hc : n ≤ c) :
    Calls Tryd.prog 29 #[.slice A n c] w fun e w' => ∃ A' n' c', e = .returned (.slice A' n' c') ∧ ((l.take 20).map litM).length = n' ∧ w'.ownsRow w.heap.size 50 1 (.slice A' n' c') n' (((l.take 20).map litM).map (Value.int .i64)) ∧ Below w.heap.size w w' := by
  obtain ⟨k0, hk0⟩ : ∃ k0, min n 20 = k0 := ⟨_, rfl⟩
  have hk20 : k0 ≤ 20 ∧ k0 ≤ n := by omega
  have hmin : min (n : Int) 20 = (k0 : Int) := by omega
  have HT : Hid (l.take 20 = l.take k0) := by
    show _ = _
    rcases Nat.lt_or_ge n 20 with h1 | h1
    · rw [List.take_of_length_le (by rw [hl.out]; omega), List.take_of_length_le (by rw [hl.out]; omega)]
    · rw [show k0 = 20 by omega]
  have hkc : (k0 : Int) ≤ (c : Int) := by omega
  have hkz : (0 : Int) ≤ (k0 : Int) := by omega
  go_enter Tryd.func29, Tryd.ntmps29
  go_wp2_with fail
  go_loopw [3, 13] (fun v3 v13 wr => ∃ (k : Nat) (A' : Option Addr) (c' : Nat), k ≤ k0 ∧ v13 = .int .i64 k ∧ v3 = .slice A' k c' ∧ Hid (wr.ownsRow w.heap.size 50 1 (.slice A' k c') k (((l.take k).map litM).map (Value.int .i64))) ∧ Hid (Below w.heap.size w wr)) (fun _ v13 _ => k0 - (intOf v13).toNat)
  case atStart => exact ⟨0, none, 0, Nat.zero_le _, rfl, rfl, World.ownsRow_nil _ _ _ _, Below.refl _ _⟩
  case round =>
    obtain ⟨k, A', c', hk, rfl, rfl, HO, HB⟩ := hrel
    have hki : ∀ b : Bool, decide (k < k0) = b → decide ((k : Int) < (k0 : Int)) = b := fun b hb => by rw [← hb]; exact decide_eq_decide.2 (by omega)
    by_cases hlt : k < k0
    · have e1 := hki true (decide_eq_true hlt)
      clear hki
      obtain ⟨b, off, m, rfl, hx, hcell⟩ := (h.out.below HB.out).getm hl.out (show k < n by omega)
      have hm := hb.out m (List.mem_of_getElem? hx)
      have HX := Lib.hid hx
      have hws : w.heap.size ≤ wr.heap.size := HB.out.size
      clear hx
      obtain ⟨r, hr7, hr1, q, hq, hq1, hqr⟩ := litM_steps m hm
      have d1 : (m : Int) / 2 = (q : Int) := by omega
      have d2 : (m : Int).tdiv 2 = (q : Int) := by rw [Int.tdiv_eq_ediv_of_nonneg (by omega)]; omega
      have w1 : IntKind.u8.wrap (q : Int) = (q : Int) := by rw [IntKind.wrap_u8]; omega
      have d3 : (q : Int) % 8 = (r : Int) := by omega
      have d4 : (q : Int).tmod 8 = (r : Int) := by rw [Int.tmod_eq_emod_of_nonneg (by omega)]; omega
      have w2 : IntKind.u8.wrap (1 + (r : Int)) = 1 + (r : Int) := by rw [IntKind.wrap_u8]; omega
      have w3 : IntKind.i64.wrap (1 + (r : Int)) = 1 + (r : Int) := by rw [IntKind.wrap_i64]; omega
      have w4 : IntKind.i64.wrap (-(1 + (r : Int))) = -(1 + (r : Int)) := by rw [IntKind.wrap_i64]; omega
      clear hq1 hqr
      rcases (by omega : m % 2 = 1 ∨ m % 2 = 0) with hpm | hpm
      · have hp1 : (m : Int).tmod 2 = 1 := by rw [Int.tmod_eq_emod_of_nonneg (by omega)]; omega
        have hp2 : (m : Int) % 2 = 1 := by omega
        have HV : Hid (litM m = -(1 + (r : Int))) := by show _ = _; unfold litM; rw [hr1, if_pos (by omega)]
        clear hr1 hpm
        go_wp2_with (at_builtin; refine wpList_app el_lit rfl (.tmp 27) (.tmp 29) rfl w.heap.size (.slice A' k c') k _ rfl (HO.out.alloc _) (some ⟨wr.heap.size, 0, none⟩) 1 1 [.int .i64 _] rfl (Rd.new _ #[_] _) rfl (by simp [Value.oneCell']) (by omega) (by simp; omega) ?_; intro A2 c2 w5 hown1 hgr1 hat1; have Ho1 := Lib.hid hown1; have Hg1 := Lib.hid hgr1; clear hown1 hgr1 hat1)
        go_roundw
        case rel =>
          refine ⟨k + 1, A2, c2, by omega, by go_num, rfl, ?_, own_stepA HB.out HO.out Hg1.out⟩
          show World.ownsRow _ _ _ _ _ _ _
          rw [take_snoc HX.out, List.map_append, List.map_append]
          simp only [List.map_cons, List.map_nil]
          rw [HV.out]
          first | exact Ho1.out | (have h9 := Ho1.out; exact 5)
        case measure => simp [intOf]; omega
      · have hp1 : (m : Int).tmod 2 = 0 := by rw [Int.tmod_eq_emod_of_nonneg (by omega)]; omega
        have hp2 : (m : Int) % 2 = 0 := by omega
        have HV : Hid (litM m = 1 + (r : Int)) := by show _ = _; unfold litM; rw [hr1, if_neg (by omega)]
        clear hr1 hpm
        go_wp2_with (at_builtin; refine wpList_app el_lit rfl (.tmp 27) (.tmp 29) rfl w.heap.size (.slice A' k c') k _ rfl (HO.out.alloc _) (some ⟨wr.heap.size, 0, none⟩) 1 1 [.int .i64 _] rfl (Rd.new _ #[_] _) rfl (by simp [Value.oneCell']) (by omega) (by simp; omega) ?_; intro A2 c2 w5 hown1 hgr1 hat1; have Ho1 := Lib.hid hown1; have Hg1 := Lib.hid hgr1; clear hown1 hgr1 hat1)
        go_roundw
        case rel =>
          refine ⟨k + 1, A2, c2, by omega, by go_num, rfl, ?_, own_stepA HB.out HO.out Hg1.out⟩
          show World.ownsRow _ _ _ _ _ _ _
          rw [take_snoc HX.out, List.map_append, List.map_append]
          simp only [List.map_cons, List.map_nil]
          rw [HV.out]
          first | exact Ho1.out | (have h9 := Ho1.out; exact 5)
        case measure => simp [intOf]; omega
    · obtain rfl : k = k0 := by omega
      have e1 := hki false (decide_eq_false hlt)
      clear hki
      have HO' := HO
      rw [← HT.out] at HO'
      go_wp2
      go_ret
      refine ⟨A', k, c', rfl, ?_, HO'.out, HB.out⟩
      rw [List.length_map, HT.out, List.length_take, hl.out]
      omega
end Go.Proofs.YteglgcfbmjlnkaaDoor
