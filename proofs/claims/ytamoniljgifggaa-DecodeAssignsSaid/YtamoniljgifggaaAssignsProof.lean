/-
  DecodeAssigns returns true for every input, and its arguments read behind the call as they read before. No conditions.
-/
import Derived.Test.YtamoniljgifggaaOpen
import Derived.Test.YtamoniljgifggaaMainA
import Derived.Test.YtamoniljgifggaaRows
import Derived.ChangeSame
import Derived.JoinedOf
import Derived.JoinedAt
import Derived.JoinedStill
import Derived.RowKit
import Derived.ProofKit
import Derived.Below
import Derived.Carry
set_option linter.unusedVariables false
set_option linter.unusedSimpArgs false
namespace Go.Proofs.Ytamoniljgifggaa
open Go.ChangeShapes Go.WideShapes Go.ChangeAt Go.RowKit Go.Deep

theorem ownA : ownKnob Try.prog.godebug = none := by kernel_rfl
theorem laidOutA : laidOutB Try.prog = true := by kernel_rfl
theorem u32_of {n : Int} (h : (Lit.int .u32 n).wf = true) : U32 n := by
  simp only [Lit.wf, Bool.and_eq_true, decide_eq_true_eq] at h
  exact ⟨h.1, h.2⟩
section
variable {H : Type} {enc : TypeId × Value → H} {w : World} {held : Bool}
theorem ints_ofB {n : Nat} {v : Value} {x : DataW H × List MemPlace} (h : DataW.trod enc Try.prog w 0 (fun _ => true) held n 25 [v] = some x) : ∃ (s : SV) (l : List Int), v = .slice s.A s.n s.c ∧ Rd w s.A (l.map (Value.int .i64)) ∧ l.length = s.n ∧ s.n ≤ maxLen := by
  rcases open_ints Try.underlying25 Try.underlying3 (by kernel_rfl) h with ⟨hcs, _⟩ | ⟨a, len, cap, zs, hcs, _, hl, hm, hz, _, hcell, hwz⟩
  · simp at hcs
    exact ⟨⟨none, 0, 0⟩, [], hcs, Rd.nil, rfl, Nat.zero_le _⟩
  · simp at hcs
    simp only [if_true] at hz
    refine ⟨⟨some a, len, cap⟩, zs.take len, hcs, rd_of (fun i u hu => ?_), by simp; omega, Nat.le_trans (by assumption) hm⟩
    rw [List.getElem?_map, List.getElem?_take] at hu
    split at hu
    · rename_i hi
      have hiz : i < zs.length := by omega
      rw [hcell i hiz, List.getD_eq_getElem?_getD, List.getElem?_eq_getElem hiz]
      rw [List.getElem?_eq_getElem hiz] at hu
      simpa using hu
    · simp at hu
theorem words_of {n : Nat} {v : Value} {x : DataW H × List MemPlace} (h : DataW.trod enc Try.prog w 0 (fun _ => true) held n 32 [v] = some x) : ∃ (s : SV) (l : List Int), v = .slice s.A s.n s.c ∧ Rd w s.A (l.map (Value.int .u32)) ∧ l.length = s.n ∧ (∀ u ∈ l, U32 u) ∧ s.n ≤ maxLen := by
  rcases open_ints Try.underlying32 Try.underlying39 (by kernel_rfl) h with ⟨hcs, _⟩ | ⟨a, len, cap, zs, hcs, _, hl, hm, hz, _, hcell, hwz⟩
  · simp at hcs
    exact ⟨⟨none, 0, 0⟩, [], hcs, Rd.nil, rfl, fun u hu => (by cases hu), Nat.zero_le _⟩
  · simp at hcs
    simp only [if_true] at hz
    refine ⟨⟨some a, len, cap⟩, zs.take len, hcs, rd_of (fun i u hu => ?_), by simp; omega, fun u hu => u32_of (hwz u (List.mem_of_mem_take hu)), Nat.le_trans (by assumption) hm⟩
    rw [List.getElem?_map, List.getElem?_take] at hu
    split at hu
    · rename_i hi
      have hiz : i < zs.length := by omega
      rw [hcell i hiz, List.getD_eq_getElem?_getD, List.getElem?_eq_getElem hiz]
      rw [List.getElem?_eq_getElem hiz] at hu
      simpa using hu
    · simp at hu
theorem trodAll_six {P : Program} {t1 t2 t3 t4 t5 t6 : TypeId} {args : Array Value} {ds : List (DataW H)} {ps : List MemPlace} {sp : Nat → Bool} {b : Nat} (h : DataW.TrodAll enc P w b sp held [t1, t2, t3, t4, t5, t6] args.toList ds ps) :
    ∃ v1 v2 v3 v4 v5 v6 d1 d2 d3 d4 d5 d6 p1 p2 p3 p4 p5 p6, args = #[v1, v2, v3, v4, v5, v6] ∧ ds = [d1, d2, d3, d4, d5, d6] ∧ ps = p1 ++ (p2 ++ (p3 ++ (p4 ++ (p5 ++ (p6 ++ []))))) ∧
      DataW.Trod enc P w b sp held t1 v1 d1 p1 ∧ DataW.Trod enc P w b sp held t2 v2 d2 p2 ∧ DataW.Trod enc P w b sp held t3 v3 d3 p3 ∧ DataW.Trod enc P w b sp held t4 v4 d4 p4 ∧ DataW.Trod enc P w b sp held t5 v5 d5 p5 ∧ DataW.Trod enc P w b sp held t6 v6 d6 p6 := by
  obtain ⟨v1, r1, d1, e1, p1, q1, h1, rfl, rfl, k1, h⟩ := trodAll_cons h
  obtain ⟨v2, r2, d2, e2, p2, q2, rfl, rfl, rfl, k2, h⟩ := trodAll_cons h
  obtain ⟨v3, r3, d3, e3, p3, q3, rfl, rfl, rfl, k3, h⟩ := trodAll_cons h
  obtain ⟨v4, r4, d4, e4, p4, q4, rfl, rfl, rfl, k4, h⟩ := trodAll_cons h
  obtain ⟨v5, r5, d5, e5, p5, q5, rfl, rfl, rfl, k5, h⟩ := trodAll_cons h
  obtain ⟨v6, r6, d6, e6, p6, q6, rfl, rfl, rfl, k6, h⟩ := trodAll_cons h
  obtain ⟨rfl, rfl, rfl⟩ := trodAll_nil h
  refine ⟨v1, v2, v3, v4, v5, v6, d1, d2, d3, d4, d5, d6, p1, p2, p3, p4, p5, p6, ?_, rfl, rfl, k1, k2, k3, k4, k5, k6⟩
  rw [← Array.toArray_toList (xs := args), h1]
end

set_option maxRecDepth 100000 in
theorem assigns_lifted (os : Os) (started : os.Started) (H : Type) (enc : TypeId × Value → H) :
    ReturnsInHanded {} Try.checked os 4 .any (Rows.decodeAssignsSpec.pre6 enc Try.prog Try.f4 Rows.decodeAssignsRow.domain false) (Rows.decodeAssignsSpec.post enc Try.prog Try.f4 false true false false) := by
  refine returnsInHanded_of_change (C := Try.checked) ownA started (by kernel_rfl) Try.func4
    (ChangeSpec.witness6 (enc := enc) (C := Try.checked) false ⟨#[], #[.agg #[.int .u8 0, .slice none 0 0, .slice none 0 0, .slice none 0 0, .slice none 0 0, .slice none 0 0, .slice none 0 0, .int .i64 0, .int .i64 0, .int .i64 0], .slice none 0 0, .int .i64 0, .slice none 0 0, .slice none 0 0, .slice none 0 0], []⟩ 8 (by kernel_rfl) (by kernel_rfl) (by kernel_rfl) (by kernel_rfl)) ?_
  intro W base args ds gs before hval0 hW _ _
  have hval : ∀ (j : Nat) t v, Try.f4.params[j]? = some t → args[j]? = some v → Value.okWide Try.prog W .any base t v := hval0
  have hW' := hW
  obtain ⟨p, q, hA0, hV, rfl, _, _⟩ := hW
  have hA : DataW.TrodAll enc Try.prog W 0 (fun _ => true) true Try.f4.params.toList args.toList ds p := hA0
  rw [Try.params4] at hA hval
  obtain ⟨v0, v1, v2, v3, v4, v5, d0, d1, d2, d3, d4, d5, p0, p1, p2, p3, p4, p5, rfl, rfl, rfl, h0, h1, h2, h3, h4, h5⟩ := trodAll_six hA
  obtain ⟨rfl, rfl⟩ := trodVars_none hV
  clear hA0 hval0
  simp only [List.append_nil] at hW'
  have hlt : ∀ x ∈ p0 ++ (p1 ++ (p2 ++ (p3 ++ (p4 ++ p5)))), x.block < W.heap.size := fun x hx => by simpa using hW'.lt x hx
  have hlt0 : ∀ x ∈ p0, x.block < W.heap.size := fun x hx => hlt x (by simp [hx])
  have hlt1 : ∀ x ∈ p1, x.block < W.heap.size := fun x hx => hlt x (by simp [hx])
  have hlt2 : ∀ x ∈ p2, x.block < W.heap.size := fun x hx => hlt x (by simp [hx])
  have hlt3 : ∀ x ∈ p3, x.block < W.heap.size := fun x hx => hlt x (by simp [hx])
  have hlt4 : ∀ x ∈ p4, x.block < W.heap.size := fun x hx => hlt x (by simp [hx])
  have hlt5 : ∀ x ∈ p5, x.block < W.heap.size := fun x hx => hlt x (by simp [hx])
  obtain ⟨cs, rfl, hsz⟩ := okWide_struct Try.underlying27 (hval 0 _ v0 rfl rfl)
  obtain ⟨a1, len1, cap1, rfl⟩ := okWide_slice Try.underlying32 (hval 1 _ v1 rfl rfl)
  obtain ⟨pt, hpv, _, _, hpt⟩ := open_int Try.underlying3 (hval 2 _ v2 rfl rfl) h2
  subst hpv
  obtain ⟨a3, len3, cap3, rfl⟩ := okWide_slice Try.underlying28 (hval 3 _ v3 rfl rfl)
  obtain ⟨a4, len4, cap4, rfl⟩ := okWide_slice Try.underlying25 (hval 4 _ v4 rfl rfl)
  obtain ⟨a5, len5, cap5, rfl⟩ := okWide_slice Try.underlying28 (hval 5 _ v5 rfl rfl)
  have h0k := h0
  have h1k := h1
  have h2k := h2
  have h3k := h3
  have h4k := h4
  have h5k := h5
  obtain ⟨m0, hf0⟩ := h0
  obtain ⟨m1, hf1⟩ := h1
  obtain ⟨m3, hf3⟩ := h3
  obtain ⟨m4, hf4⟩ := h4
  obtain ⟨m5, hf5⟩ := h5
  obtain ⟨v, r, hcs, hS, hSl, hraw⟩ := raw_of hf0
  have hf1' : DataW.trod enc Try.prog W 0 (fun _ => true) true m1 32 [.slice a1 len1 cap1] = some (d1, p1) := by simpa [Value.cells] using hf1
  have hf3' : DataW.trod enc Try.prog W 0 (fun _ => true) true m3 28 [.slice a3 len3 cap3] = some (d3, p3) := by simpa [Value.cells] using hf3
  have hf4' : DataW.trod enc Try.prog W 0 (fun _ => true) true m4 25 [.slice a4 len4 cap4] = some (d4, p4) := by simpa [Value.cells] using hf4
  have hf5' : DataW.trod enc Try.prog W 0 (fun _ => true) true m5 28 [.slice a5 len5 cap5] = some (d5, p5) := by simpa [Value.cells] using hf5
  obtain ⟨s1, l1, hsv1, hr1, hll1, hu1, hm1⟩ := words_of hf1'
  obtain ⟨s3, l3, hsv3, hr3, hll3, hm3⟩ := bools_of hf3'
  obtain ⟨s4, l4, hsv4, hr4, hll4, hm4⟩ := ints_ofB hf4'
  obtain ⟨s5, l5, hsv5, hr5, hll5, hm5⟩ := bools_of hf5'
  have hcs' : cs = #[.int .u8 r.inp, .slice v.A.A v.A.n v.A.c, .slice v.W.A v.W.n v.W.c, .slice v.O.A v.O.n v.O.c, .slice v.K.A v.K.n v.K.c, .slice v.C.A v.C.n v.C.c, .slice v.R.A v.R.n v.R.c, .int .i64 r.req, .int .i64 r.bey, .int .i64 r.hol] := by
    have h2 : cs.toList = _ := hcs
    rw [← Array.toArray_toList (xs := cs), h2]
  subst hcs'
  clear hf1 hf1' hf3 hf3' hf4 hf4' hf5 hf5' hf0
  rw [hsv1] at h1k hW' ⊢
  rw [hsv3] at h3k hW' ⊢
  rw [hsv4] at h4k hW' ⊢
  rw [hsv5] at h5k hW' ⊢
  unfold maxLen at hm1 hm3 hm4 hm5
  refine (mainAssigns v r s1.A s1.n s1.c l1 pt s3.A s3.n s3.c l3 s4.A s4.n s4.c l4 s5.A s5.n s5.c l5 W hS hSl hraw hr1 hll1 hu1 (by omega) (i64_of hpt) hr3 hll3 (by omega) hr4 hll4 (by omega) hr5 hll5 (by omega)).mono fun e W' ⟨he, hb⟩ => ?_
  subst he
  exact ⟨_, rfl, ⟨_, _, _, [], _, [], hW', trodAll_mk1 (shut_bool Try.underlying4 _), trodAll_cons_mk (Below.trod laidOutA (by kernel_rfl) (of_decide_eq_true (by kernel_rfl)) h0k hb hlt0) (trodAll_cons_mk (Below.trod laidOutA (by kernel_rfl) (of_decide_eq_true (by kernel_rfl)) h1k hb hlt1) (trodAll_cons_mk (Below.trod laidOutA (by kernel_rfl) (of_decide_eq_true (by kernel_rfl)) h2k hb hlt2) (trodAll_cons_mk (Below.trod laidOutA (by kernel_rfl) (of_decide_eq_true (by kernel_rfl)) h3k hb hlt3) (trodAll_mk2 (Below.trod laidOutA (by kernel_rfl) (of_decide_eq_true (by kernel_rfl)) h4k hb hlt4) (Below.trod laidOutA (by kernel_rfl) (of_decide_eq_true (by kernel_rfl)) h5k hb hlt5))))), rfl, hb.frame _, fun h => by cases h⟩⟩

theorem decodeAssigns_holds : Rows.DecodeAssignsSaid :=
  OpenClaim.holds_of_wide 4 Try.f4 rfl rfl rfl rfl rfl rfl rfl ⟨rfl, rfl, rfl, rfl, rfl⟩ rfl rfl rfl rfl rfl (by kernel_rfl) Try.func4 (by kernel_rfl)
    (of_decide_eq_true (by kernel_rfl)) (by unfold Func.isWrapper; rw [if_neg (by decide +kernel)]; exact ⟨rfl, rfl⟩)
    (fun os started H enc _ => assigns_lifted os started H enc)
#print axioms decodeAssigns_holds
end Go.Proofs.Ytamoniljgifggaa
