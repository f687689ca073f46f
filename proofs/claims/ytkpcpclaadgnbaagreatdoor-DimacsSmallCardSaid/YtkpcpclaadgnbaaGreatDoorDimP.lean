/-
  What is written is read back, and what is read is right: plain laws of formulas.
-/
import Derived.Test.YtkpcpclaadgnbaaGreatDoorDim
import Derived.Lib.ItoaLen
set_option linter.unusedVariables false
set_option linter.unusedSimpArgs false
namespace Go.Proofs.YtkpcpclaadgnbaaGreatDoor
open Go.Lib

def lnW (c : List Int) : List (List UInt8) := c.map itoa ++ [[48]]
theorem lnW_join : ∀ c : List Int, joinB 32 (lnW c) = lnS c
  | [] => rfl
  | l :: c => by
    show joinB 32 (itoa l :: lnW c) = _
    rw [joinB_cons _ _ _ (by simp [lnW]), lnW_join c]
    unfold lnS
    simp
theorem ln_split (c : List Int) : split (lnS c) [32] = lnW c := by
  rw [← lnW_join]
  refine split_join 32 _ (by simp [lnW]) (fun w hw => ?_)
  rcases List.mem_append.1 hw with h | h
  · obtain ⟨n, _, rfl⟩ := List.mem_map.1 h
    exact (itoa_free n).1
  · rw [List.mem_singleton.1 h]; decide
theorem lnW_ne (c : List Int) : ∀ w ∈ lnW c, w ≠ [] := by
  intro w hw
  rcases List.mem_append.1 hw with h | h
  · obtain ⟨n, _, rfl⟩ := List.mem_map.1 h
    exact itoa_ne n
  · rw [List.mem_singleton.1 h]; simp
theorem ln_words (c : List Int) : wordsL (lnS c) = lnW c := by
  unfold wordsL
  rw [ln_split, List.filter_eq_self]
  intro w hw
  have := lnW_ne c w hw
  cases w with
  | nil => exact absurd rfl this
  | cons a b => rfl
theorem ln_no (c : List Int) (b : UInt8) (h1 : ∀ n, b ∉ itoa n) (h2 : b ≠ 32) (h3 : b ≠ 48) : b ∉ lnS c := by
  intro h
  unfold lnS at h
  rcases List.mem_append.1 h with h | h
  · obtain ⟨n, _, hn⟩ := List.mem_flatMap.1 h
    rcases List.mem_append.1 hn with hn | hn
    · exact h1 n hn
    · exact h2 (List.mem_singleton.1 hn)
  · exact h3 (List.mem_singleton.1 h)
theorem ln_free (c : List Int) : (10 : UInt8) ∉ lnS c := ln_no c 10 (fun n => (itoa_free n).2.1) (by decide) (by decide)
theorem over_of {l : List UInt8} (h1 : ∃ b ∈ l, b ≠ 32) (h2 : (99 : UInt8) ∉ l) : overD l = false := by
  unfold overD
  obtain ⟨b, hb, hne⟩ := h1
  have e1 : l.all (· == 32) = false := by
    rw [List.all_eq_false]
    exact ⟨b, hb, by simpa using hne⟩
  have e2 : (l == [99]) = false := by
    cases h : (l == [99]) with
    | false => rfl
    | true =>
      have : l = [99] := by simpa using h
      rw [this] at h2
      simp at h2
  have e3 : hasPrefix l [99, 32] = false := by
    cases h : hasPrefix l [99, 32] with
    | false => rfl
    | true =>
      unfold hasPrefix at h
      obtain ⟨r, hr⟩ := List.isPrefixOf_iff_prefix.1 h
      rw [← hr] at h2
      simp at h2
  rw [e1, e2, e3]
  rfl
theorem ln_over (c : List Int) : overD (lnS c) = false :=
  over_of ⟨48, by unfold lnS; simp, by decide⟩ (ln_no c 99 (fun n => (itoa_free n).2.2.2) (by decide) (by decide))
theorem hd_over (v n : Int) : overD (hdS v n) = false := by
  have e1 : (hdS v n).all (· == 32) = false := by
    rw [List.all_eq_false]
    exact ⟨112, by unfold hdS; simp, by decide⟩
  have e2 : (hdS v n == [99]) = false := by
    cases h : (hdS v n == [99]) with
    | false => rfl
    | true =>
      have : hdS v n = [99] := by simpa using h
      unfold hdS at this
      simp at this
  have e3 : hasPrefix (hdS v n) [99, 32] = false := by
    unfold hasPrefix hdS
    simp [List.isPrefixOf]
  unfold overD
  rw [e1, e2, e3]
  rfl
theorem over_nilD : overD [] = true := rfl
theorem lit_in {v l : Int} (h : litIn v l = true) : litB l = true ∧ (l.natAbs : Int) ≤ v := by
  unfold litIn at h
  simpa using h
theorem step_lit {v : Int} {n : Nat} {st : Rs} {l : Int} (hl : litIn v l = true) (hn : st.cls.length ≠ n) (hc : st.c.length ≠ 4096) : stepW v n st (itoa l) = (0, ⟨st.cls, st.c ++ [l], true⟩) := by
  obtain ⟨h1, h2⟩ := lit_in hl
  unfold stepW
  rw [if_neg (itoa_not_zero h1), (litW_iff _ _).2 ⟨h1, rfl⟩]
  dsimp only
  rw [if_neg (by omega), if_neg hn, if_neg (fun h => hc h.2), if_neg (itoa_not_zero h1)]
theorem step_zero {v : Int} {n : Nat} {st : Rs} (hv : 0 ≤ v) (hn : st.cls.length ≠ n) : stepW v n st [48] = (0, ⟨st.cls ++ [st.c], [], false⟩) := by
  unfold stepW
  rw [if_pos rfl]
  dsimp only
  rw [if_neg (by simpa using hv), if_neg hn, if_neg (fun h => h.1 rfl), if_pos rfl]
theorem run_clause (v : Int) (n i : Nat) (hv : 0 ≤ v) (R : List (Nat × List UInt8)) : ∀ (c : List Int) (cls : List (List Int)) (c0 : List Int) (b : Bool), (∀ l ∈ c, litIn v l = true) → c0.length + c.length ≤ 4096 → cls.length ≠ n →
    runW v n ⟨cls, c0, b⟩ ((lnW c).map (fun w => (i, w)) ++ R) = runW v n ⟨cls ++ [c0 ++ c], [], false⟩ R
  | [], cls, c0, b, _, _, hn => by
    show runW v n ⟨cls, c0, b⟩ ((i, [48]) :: R) = _
    have h := step_zero (st := ⟨cls, c0, b⟩) hv hn
    rw [runW]
    dsimp only
    rw [h]
    dsimp only
    rw [if_pos rfl, List.append_nil]
  | l :: c, cls, c0, b, hr, hl, hn => by
    show runW v n ⟨cls, c0, b⟩ ((i, itoa l) :: ((lnW c).map (fun w => (i, w)) ++ R)) = _
    have h := step_lit (st := ⟨cls, c0, b⟩) (hr l (by simp)) hn (by simp only [List.length_cons] at hl; show c0.length ≠ 4096; omega)
    rw [runW]
    dsimp only
    rw [h]
    dsimp only
    rw [if_pos rfl, run_clause v n i hv R c cls (c0 ++ [l]) true (fun x hx => hr x (by simp [hx])) (by simp only [List.length_append, List.length_cons, List.length_nil] at hl ⊢; omega) hn]
    simp
/-- Right clauses of some variables. -/
def Good (v : Int) (cls : List (List Int)) : Prop := ∀ c ∈ cls, c.length ≤ 4096 ∧ ∀ l ∈ c, litIn v l = true
theorem run_lines (v : Int) (n : Nat) (hv : 0 ≤ v) : ∀ (cls pre : List (List Int)) (i : Nat), Good v cls → pre.length + cls.length ≤ n →
    runW v n ⟨pre, [], false⟩ (wordsD (cls.map lnS ++ [[]]) i) = (0, 0, ⟨pre ++ cls, [], false⟩)
  | [], pre, i, _, _ => by
    show runW v n ⟨pre, [], false⟩ ((if overD [] then [] else _) ++ wordsD [] (i + 1)) = _
    rw [if_pos over_nilD, List.append_nil]
    rfl
  | c :: cls, pre, i, hg, hl => by
    rw [List.map_cons, List.cons_append]
    unfold wordsD
    rw [if_neg (by rw [ln_over]; simp), ln_words]
    have hc := hg c (by simp)
    rw [run_clause v n (i + 1) hv _ c pre [] false hc.2 (by simpa using hc.1) (by simp only [List.length_cons] at hl; omega), List.nil_append]
    rw [run_lines v n hv cls (pre ++ [c]) (i + 1) (fun x hx => hg x (by simp [hx])) (by simp only [List.length_append, List.length_cons, List.length_nil] at hl ⊢; omega)]
    simp
theorem clause_parts {c : List Int} (h : clauseB c = true) : c.length ≤ 4096 ∧ ∀ l ∈ c, litB l = true := by
  unfold clauseB at h
  simp only [Bool.and_eq_true, decide_eq_true_eq, Bool.not_eq_true', List.any_eq_false] at h
  refine ⟨h.1, fun l hl => ?_⟩
  have := h.2 l hl
  simpa using this
theorem clause_mk {c : List Int} (h1 : c.length ≤ 4096) (h2 : ∀ l ∈ c, litB l = true) : clauseB c = true := by
  unfold clauseB
  simp only [Bool.and_eq_true, decide_eq_true_eq, Bool.not_eq_true', List.any_eq_false]
  exact ⟨h1, fun l hl => by rw [h2 l hl]; simp⟩
theorem checkG_ok {v : Int} : ∀ {cls : List (List Int)} {i : Nat}, checkG v i cls = (-1, 0) ↔ Good v cls
  | [], i => ⟨fun _ c h => (by cases h), fun _ => rfl⟩
  | c :: r, i => by
    unfold checkG
    constructor
    · intro h
      split at h
      · rename_i hc
        split at h
        · injection h with h1 h2
          cases h2
        · rename_i ha
          have hc' := clause_parts hc
          have ih := checkG_ok.1 h
          intro x hx
          rcases List.mem_cons.1 hx with rfl | hx
          · refine ⟨hc'.1, fun l hl => ?_⟩
            simp only [Bool.not_eq_true, List.any_eq_false, Bool.not_eq_true', Bool.not_eq_false] at ha
            have := ha l hl
            simpa using this
          · exact ih x hx
      · injection h with h1 h2
        cases h2
    · intro h
      have hc := h c (by simp)
      rw [if_pos (clause_mk hc.1 (fun l hl => (lit_in (hc.2 l hl)).1)), if_neg (by
        simp only [Bool.not_eq_true, List.any_eq_false, Bool.not_eq_true', Bool.not_eq_false]
        intro l hl
        rw [hc.2 l hl])]
      exact checkG_ok.2 (fun x hx => h x (by simp [hx]))
theorem checkD_ok {f : Fm} : checkD f = (-1, 0) ↔ (0 ≤ f.vars ∧ f.vars ≤ 1048576) ∧ f.cls.length ≤ 262144 ∧ Good f.vars f.cls := by
  unfold checkD
  constructor
  · intro h
    split at h
    · injection h with h1 h2; cases h2
    · split at h
      · injection h with h1 h2; cases h2
      · exact ⟨by omega, by omega, checkG_ok.1 h⟩
  · rintro ⟨h1, h2, h3⟩
    rw [if_neg (by omega), if_neg (by omega), checkG_ok.2 h3]
theorem tx_join : ∀ cls : List (List Int), joinB 10 (cls.map lnS ++ [[]]) = txS cls
  | [] => rfl
  | c :: cls => by
    rw [List.map_cons, List.cons_append, joinB_cons _ _ _ (by simp), tx_join cls]
    unfold txS
    simp
theorem text_join (f : Fm) : joinB 10 (hdS f.vars f.cls.length :: (f.cls.map lnS ++ [[]])) = textD f := by
  rw [joinB_cons _ _ _ (by simp), tx_join]
  rfl
theorem text_split (f : Fm) : split (textD f) [10] = hdS f.vars f.cls.length :: (f.cls.map lnS ++ [[]]) := by
  rw [← text_join]
  refine split_join 10 _ (by simp) (fun w hw => ?_)
  simp only [List.mem_cons, List.mem_append, List.mem_map, List.not_mem_nil, or_false] at hw
  rcases hw with rfl | ⟨c, _, rfl⟩ | rfl
  · exact hd_free _ _
  · exact ln_free c
  · simp
theorem readL_text {f : Fm} (h : checkD f = (-1, 0)) : readL (hdS f.vars f.cls.length :: (f.cls.map lnS ++ [[]])) = (f, 0, 0) := by
  obtain ⟨⟨h1, h2⟩, h3, h4⟩ := checkD_ok.1 h
  unfold readL
  unfold headD
  rw [if_neg (by rw [hd_over]; simp)]
  dsimp only
  rw [(parseH_iff _ _ _).2 ⟨hdOk_mk h1 h2 (by omega) (by omega), rfl⟩]
  dsimp only
  rw [Int.toNat_natCast]
  have hr := run_lines f.vars f.cls.length h1 f.cls [] 1 h4 (by simp)
  unfold zRs
  rw [hr]
  unfold endD
  rw [if_neg (by simp), if_neg (by simp)]
  rfl
theorem readD_text {f : Fm} (h : checkD f = (-1, 0)) (hl : (textD f).length ≤ 4194304) : readD (textD f) = (f, 0, 0) := by
  unfold readD
  rw [if_neg (by omega), text_split]
  exact readL_text h
/-! ### what is read is right -/
structure RsOk (v : Int) (n : Nat) (k : Nat) (st : Rs) : Prop where
  good : Good v st.cls
  cur : st.c.length ≤ 4096 ∧ ∀ l ∈ st.c, litIn v l = true
  few : st.cls.length ≤ n
  size : st.cls.length + (st.cls.map List.length).sum + st.c.length ≤ k
theorem rs_zero (v : Int) (n : Nat) : RsOk v n 0 zRs := ⟨fun c h => (by cases h), ⟨by simp [zRs], fun l h => (by cases h)⟩, Nat.zero_le _, by simp [zRs]⟩
theorem rs_step {v : Int} {n k : Nat} {st : Rs} (h : RsOk v n k st) {w : List UInt8} (h0 : (stepW v n st w).1 = 0) : RsOk v n (k + 1) (stepW v n st w).2 := by
  unfold stepW at h0 ⊢
  by_cases hw : w = [48]
  · rw [if_pos hw] at h0 ⊢
    dsimp only at h0 ⊢
    split at h0
    · exact absurd h0 (show ¬ ((62 : Int) = 0) by decide)
    · rename_i h1
      split at h0
      · exact absurd h0 (show ¬ ((63 : Int) = 0) by decide)
      · rename_i h2
        rw [if_neg h1, if_neg h2, if_neg (fun h => h.1 hw), if_pos hw]
        obtain ⟨g1, g2, g3, g4⟩ := h
        refine ⟨fun c hc => ?_, ⟨by simp, fun l hl => (by cases hl)⟩, by simp; omega, by simp; omega⟩
        rcases List.mem_append.1 hc with hc | hc
        · exact g1 c hc
        · rw [List.mem_singleton.1 hc]; exact g2
  · rw [if_neg hw] at h0 ⊢
    cases hl : litW w with
    | none => rw [hl] at h0; exact absurd h0 (show ¬ ((61 : Int) = 0) by decide)
    | some l =>
      rw [hl] at h0
      dsimp only at h0 ⊢
      split at h0
      · exact absurd h0 (show ¬ ((62 : Int) = 0) by decide)
      · rename_i h1
        split at h0
        · exact absurd h0 (show ¬ ((63 : Int) = 0) by decide)
        · rename_i h2
          split at h0
          · exact absurd h0 (show ¬ ((5 : Int) = 0) by decide)
          · rename_i h3
            rw [if_neg h1, if_neg h2, if_neg h3, if_neg hw]
            obtain ⟨g1, g2, g3, g4⟩ := h
            have hc : st.c.length ≠ 4096 := fun e => h3 ⟨hw, e⟩
            refine ⟨g1, ⟨by simp; omega, fun x hx => ?_⟩, g3, by simp; omega⟩
            rcases List.mem_append.1 hx with hx | hx
            · exact g2.2 x hx
            · rw [List.mem_singleton.1 hx]
              unfold litIn
              rw [((litW_iff _ _).1 hl).1]
              simp
              omega
theorem rs_run {v : Int} {n : Nat} : ∀ {W : List (Nat × List UInt8)} {k : Nat} {st : Rs}, RsOk v n k st → (runW v n st W).2.1 = 0 → RsOk v n (k + W.length) (runW v n st W).2.2
  | [], k, st, h, _ => h
  | p :: r, k, st, h, h0 => by
    unfold runW at h0 ⊢
    split at h0
    · rename_i h1
      rw [if_pos h1]
      have := rs_run (rs_step h h1) h0
      rw [List.length_cons, show k + (r.length + 1) = k + 1 + r.length by omega]
      exact this
    · rename_i h1
      exact absurd h0 h1
theorem joinB_sum (c : UInt8) : ∀ (l : List (List UInt8)), (l.map List.length).sum + l.length ≤ (joinB c l).length + 1
  | [] => by simp [joinB]
  | [w] => by simp [joinB]
  | w :: v :: r => by
    have ih := joinB_sum c (v :: r)
    rw [joinB_cons _ _ _ (by simp)]
    simp only [List.length_append, List.length_cons, List.map_cons, List.sum_cons] at ih ⊢
    omega
theorem split_sum (c : UInt8) (t : List UInt8) : ((split t [c]).map List.length).sum + (split t [c]).length ≤ t.length + 1 := by
  have h := joinB_sum c (split t [c])
  rwa [(split_spec c t).2.2] at h
theorem wordsL_len (l : List UInt8) : (wordsL l).length ≤ l.length + 1 := by
  unfold wordsL
  have h1 := split_sum 32 l
  have h2 := List.length_filter_le (fun w : List UInt8 => !w.isEmpty) (split l [32])
  omega
theorem wordsD_len : ∀ (ls : List (List UInt8)) (i : Nat), (wordsD ls i).length ≤ (ls.map List.length).sum + ls.length
  | [], _ => Nat.le_refl _
  | l :: r, i => by
    unfold wordsD
    have ih := wordsD_len r (i + 1)
    have h1 := wordsL_len l
    rw [List.length_append]
    simp only [List.map_cons, List.sum_cons, List.length_cons]
    split
    · simp only [List.length_nil]; omega
    · rw [List.length_map]; omega
theorem headD_sum : ∀ {ls : List (List UInt8)} {i h : Nat} {l : List UInt8} {r : List (List UInt8)}, headD i ls = some (h, l, r) → (r.map List.length).sum + r.length ≤ (ls.map List.length).sum + ls.length
  | [], _, _, _, _, h => by cases h
  | x :: ls, i, h, l, r, hh => by
    unfold headD at hh
    simp only [List.map_cons, List.sum_cons, List.length_cons]
    split at hh
    · have := headD_sum hh
      omega
    · injection hh with hh
      obtain ⟨_, hh⟩ := Prod.mk.inj hh
      obtain ⟨_, rfl⟩ := Prod.mk.inj hh
      omega
/-- What is read without an error is a right formula, and not greater than the text. -/
theorem readD_ok {t : List UInt8} {f : Fm} {i : Int} (h : readD t = (f, i, 0)) : i = 0 ∧ checkD f = (-1, 0) ∧ f.cls.length + (f.cls.map List.length).sum ≤ t.length + 1 := by
  unfold readD at h
  split at h
  · obtain ⟨_, h⟩ := Prod.mk.inj h
    obtain ⟨_, h⟩ := Prod.mk.inj h
    cases h
  · unfold readL at h
    split at h
    · obtain ⟨_, h⟩ := Prod.mk.inj h
      obtain ⟨_, h⟩ := Prod.mk.inj h
      cases h
    · rename_i hd l r hh
      split at h
      · obtain ⟨_, h⟩ := Prod.mk.inj h
        obtain ⟨_, h⟩ := Prod.mk.inj h
        cases h
      · rename_i v n hp
        have hok := hdOk_parts ((parseH_iff _ _ _).1 hp).1
        unfold endD at h
        split at h
        · rename_i h0
          obtain ⟨_, h⟩ := Prod.mk.inj h
          obtain ⟨_, h⟩ := Prod.mk.inj h
          exact absurd h h0
        · rename_i h0
          split at h
          · obtain ⟨_, h⟩ := Prod.mk.inj h
            obtain ⟨_, h⟩ := Prod.mk.inj h
            cases h
          · obtain ⟨hf, h⟩ := Prod.mk.inj h
            obtain ⟨hi, _⟩ := Prod.mk.inj h
            have hr := rs_run (rs_zero v n.toNat) (Classical.byContradiction h0 : (runW v n.toNat zRs (wordsD r (hd + 1))).2.1 = 0)
            subst hf
            obtain ⟨g1, g2, g3, g4⟩ := hr
            refine ⟨hi.symm, checkD_ok.2 ⟨⟨hok.1, hok.2.1⟩, Nat.le_trans g3 (by omega), g1⟩, ?_⟩
            have h1 := wordsD_len r (hd + 1)
            have h2 := headD_sum hh
            have h3 := split_sum 10 t
            dsimp only
            omega
theorem readD_err {t : List UInt8} (hl : t.length ≤ 4194304) {f : Fm} {i e : Int} (h : readD t = (f, i, e)) (he : e ≠ 0) : f = F0 ∧ 1 ≤ i := by
  have hrun : ∀ (v : Int) (n : Nat) (W : List (Nat × List UInt8)) (st : Rs), (∀ p ∈ W, 1 ≤ p.1) → (runW v n st W).2.1 ≠ 0 → 1 ≤ (runW v n st W).1 := by
    intro v n W
    induction W with
    | nil => intro st _ h; exact absurd rfl h
    | cons p r ih =>
      intro st hp h
      unfold runW at h ⊢
      split
      · rename_i h1
        rw [if_pos h1] at h
        exact ih _ (fun q hq => hp q (by simp [hq])) h
      · have := hp p (by simp)
        dsimp only
        omega
  have hw : ∀ (ls : List (List UInt8)) (i : Nat), ∀ p ∈ wordsD ls i, 1 ≤ p.1 := by
    intro ls
    induction ls with
    | nil => intro i p hp; cases hp
    | cons l r ih =>
      intro i p hp
      unfold wordsD at hp
      rcases List.mem_append.1 hp with hp | hp
      · split at hp
        · cases hp
        · obtain ⟨w, _, rfl⟩ := List.mem_map.1 hp
          show 1 ≤ i + 1
          omega
      · exact ih _ p hp
  unfold readD at h
  rw [if_neg (by omega)] at h
  unfold readL at h
  split at h
  · obtain ⟨h1, h⟩ := Prod.mk.inj h
    obtain ⟨h2, h⟩ := Prod.mk.inj h
    exact ⟨h1.symm, by omega⟩
  · split at h
    · obtain ⟨h1, h⟩ := Prod.mk.inj h
      obtain ⟨h2, h⟩ := Prod.mk.inj h
      exact ⟨h1.symm, by omega⟩
    · unfold endD at h
      split at h
      · rename_i h0
        obtain ⟨h1, h⟩ := Prod.mk.inj h
        obtain ⟨h2, h⟩ := Prod.mk.inj h
        refine ⟨h1.symm, ?_⟩
        rw [← h2]
        exact hrun _ _ _ _ (hw _ _) h0
      · split at h
        · obtain ⟨h1, h⟩ := Prod.mk.inj h
          obtain ⟨h2, h⟩ := Prod.mk.inj h
          exact ⟨h1.symm, by omega⟩
        · obtain ⟨_, h⟩ := Prod.mk.inj h
          obtain ⟨_, h⟩ := Prod.mk.inj h
          exact absurd h.symm he
theorem itoa_len (n : Int) (h : I64 n) : (itoa n).length ≤ 21 := itoa_length_le n h.1 h.2
/-- How long a text may be. -/
theorem ln_len {c : List Int} (h : ∀ l ∈ c, litB l = true) : (lnS c).length ≤ 22 * c.length + 1 := by
  unfold lnS
  induction c with
  | nil => simp
  | cons l c ih =>
    have h1 := ih (fun x hx => h x (by simp [hx]))
    have h2 := itoa_len l (lit_i64 (h l (by simp)))
    simp only [List.flatMap_cons, List.length_append, List.length_cons, List.length_nil] at h1 ⊢
    omega
theorem tx_len {cls : List (List Int)} (h : ∀ c ∈ cls, ∀ l ∈ c, litB l = true) : (txS cls).length ≤ 22 * (cls.map List.length).sum + 2 * cls.length := by
  unfold txS
  induction cls with
  | nil => simp
  | cons c cls ih =>
    have h1 := ih (fun x hx => h x (by simp [hx]))
    have h2 := ln_len (h c (by simp))
    simp only [List.flatMap_cons, List.length_append, List.length_cons, List.length_nil, List.map_cons, List.sum_cons] at h1 ⊢
    omega
theorem hd_len {v n : Int} (h1 : I64 v) (h2 : I64 n) : (hdS v n).length ≤ 50 := by
  unfold hdS
  have h3 := itoa_len v h1
  have h4 := itoa_len n h2
  simp only [List.length_append, List.length_cons, List.length_nil]
  omega
theorem text_len {f : Fm} (h : checkD f = (-1, 0)) : (textD f).length ≤ 60 + 22 * (f.cls.length + (f.cls.map List.length).sum) := by
  obtain ⟨h1, h2, h3⟩ := checkD_ok.1 h
  have h4 := tx_len (fun c hc l hl => (lit_in ((h3 c hc).2 l hl)).1)
  have h5 := hd_len (v := f.vars) (n := f.cls.length) ⟨by omega, by omega⟩ ⟨by omega, by omega⟩
  unfold textD
  simp only [List.length_append, List.length_cons]
  omega
end Go.Proofs.YtkpcpclaadgnbaaGreatDoor
