/-
  Texts whose header says another number of clauses, and a text whose last clause has no end. Plain lists.
-/
import Derived.Test.YtkpcpclaadgnbaaGreatDoorCanon6
set_option linter.unusedVariables false
set_option linter.unusedSimpArgs false
namespace Go.Proofs.YtkpcpclaadgnbaaGreatDoor
open Go.Lib

def txL (c : List Int) : List UInt8 := c.flatMap fun l => itoa l ++ [32]
theorem lnS_txL (c : List Int) : lnS c = txL c ++ [48] := rfl
theorem tx_joinR (t : List UInt8) : ∀ cls : List (List Int), joinB 10 (cls.map lnS ++ [t]) = txS cls ++ t
  | [] => rfl
  | c :: cls => by
    rw [List.map_cons, List.cons_append, joinB_cons _ _ _ (by simp), tx_joinR t cls]
    unfold txS
    simp
theorem text_joinR (v m : Int) (cls : List (List Int)) (t : List UInt8) : joinB 10 (hdS v m :: (cls.map lnS ++ [t])) = hdS v m ++ 10 :: (txS cls ++ t) := by
  rw [joinB_cons _ _ _ (by simp), tx_joinR]
theorem text_splitR (v m : Int) (cls : List (List Int)) (t : List UInt8) (ht : (10 : UInt8) ∉ t) : split (hdS v m ++ 10 :: (txS cls ++ t)) [10] = hdS v m :: (cls.map lnS ++ [t]) := by
  rw [← text_joinR]
  refine split_join 10 _ (by simp) (fun w hw => ?_)
  simp only [List.mem_cons, List.mem_append, List.mem_map, List.not_mem_nil, or_false] at hw
  rcases hw with rfl | ⟨c, _, rfl⟩ | rfl
  · exact hd_free _ _
  · exact ln_free c
  · exact ht
theorem readL_hd {v m : Int} (h : hdOk v m = true) (R : List (List UInt8)) : readL (hdS v m :: R) = endD v m.toNat (R.length + 1) (runW v m.toNat zRs (wordsD R 1)) := by
  unfold readL
  unfold headD
  rw [if_neg (by rw [hd_over]; simp)]
  dsimp only
  rw [(parseH_iff _ _ _).2 ⟨h, rfl⟩]
  rfl
theorem run_pre (v : Int) (n : Nat) (hv : 0 ≤ v) (R : List (List UInt8)) : ∀ (cls pre : List (List Int)) (i : Nat), Good v cls → pre.length + cls.length ≤ n →
    runW v n ⟨pre, [], false⟩ (wordsD (cls.map lnS ++ R) i) = runW v n ⟨pre ++ cls, [], false⟩ (wordsD R (i + cls.length))
  | [], pre, i, _, _ => by simp
  | c :: cls, pre, i, hg, hl => by
    rw [List.map_cons, List.cons_append]
    conv => lhs; unfold wordsD
    rw [if_neg (by rw [ln_over]; simp), ln_words]
    have hc := hg c (by simp)
    rw [run_clause v n (i + 1) hv _ c pre [] false hc.2 (by simpa using hc.1) (by simp only [List.length_cons] at hl; omega), List.nil_append]
    rw [run_pre v n hv R cls (pre ++ [c]) (i + 1) (fun x hx => hg x (by simp [hx])) (by simp only [List.length_append, List.length_cons, List.length_nil] at hl ⊢; omega)]
    simp only [List.append_assoc, List.singleton_append, List.length_cons]
    rw [show i + 1 + cls.length = i + (cls.length + 1) by omega]
theorem run_part (v : Int) (n i : Nat) : ∀ (c : List Int) (cls : List (List Int)) (c0 : List Int) (b : Bool), (∀ l ∈ c, litIn v l = true) → c0.length + c.length ≤ 4096 → cls.length ≠ n →
    ∃ b', runW v n ⟨cls, c0, b⟩ ((c.map itoa).map fun w => (i, w)) = (0, 0, ⟨cls, c0 ++ c, b'⟩)
  | [], cls, c0, b, _, _, _ => ⟨b, by simp [runW]⟩
  | l :: c, cls, c0, b, hr, hl, hn => by
    have h := step_lit (st := ⟨cls, c0, b⟩) (hr l (by simp)) hn (by simp only [List.length_cons] at hl; show c0.length ≠ 4096; omega)
    obtain ⟨b', hb⟩ := run_part v n i c cls (c0 ++ [l]) true (fun x hx => hr x (by simp [hx])) (by simp only [List.length_append, List.length_cons, List.length_nil] at hl ⊢; omega) hn
    refine ⟨b', ?_⟩
    show runW v n ⟨cls, c0, b⟩ ((i, itoa l) :: ((c.map itoa).map fun w => (i, w))) = _
    rw [runW]
    dsimp only
    rw [h]
    dsimp only
    rw [if_pos rfl, hb]
    simp
theorem txL_join : ∀ c : List Int, joinB 32 (c.map itoa ++ [[]]) = txL c
  | [] => rfl
  | l :: c => by
    rw [List.map_cons, List.cons_append, joinB_cons _ _ _ (by simp), txL_join c]
    unfold txL
    simp
theorem txL_words (c : List Int) : wordsL (txL c) = c.map itoa := by
  unfold wordsL
  rw [← txL_join, split_join 32 _ (by simp) (fun w hw => by
    rcases List.mem_append.1 hw with h | h
    · obtain ⟨n, _, rfl⟩ := List.mem_map.1 h
      exact (itoa_free n).1
    · simp at h
      subst h
      simp)]
  rw [List.filter_append]
  have h1 : (c.map itoa).filter (fun w : List UInt8 => !w.isEmpty) = c.map itoa := by
    rw [List.filter_eq_self]
    intro w hw
    have h2 := lnW_ne c w (List.mem_append_left _ hw)
    cases w with
    | nil => exact absurd rfl h2
    | cons _ _ => rfl
  rw [h1]
  simp
theorem txL_free (c : List Int) : (10 : UInt8) ∉ txL c := by
  intro h
  exact ln_free c (by rw [lnS_txL]; exact List.mem_append_left _ h)
theorem hdOk_of {f : Fm} (h : checkD f = (-1, 0)) (m : Nat) (hm : m ≤ 262144) : hdOk f.vars m = true := by
  obtain ⟨⟨h1, h2⟩, _⟩ := checkD_ok.1 h
  exact hdOk_mk h1 h2 (by omega) (by omega)
theorem more_len {f : Fm} (h : FmK f) (m : Nat) (hm : m ≤ 262144) (t : List UInt8) (ht : t.length ≤ (txS f.cls).length) : (hdS f.vars m ++ 10 :: t).length ≤ 200000 := by
  have h1 := hd_len (v := f.vars) (n := (m : Int)) (by obtain ⟨⟨h1, h2⟩, _⟩ := checkD_ok.1 h.ok; exact ⟨by omega, by omega⟩) ⟨by omega, by omega⟩
  have h2 := h.sz
  unfold textD at h2
  simp only [List.length_append, List.length_cons] at h2 ⊢
  omega
/-- A header that says one clause more. -/
theorem read_more {f : Fm} (h : FmK f) (hn : f.cls.length ≤ 1000) : readD (hdS f.vars ((f.cls.length : Int) + 1) ++ 10 :: txS f.cls) = (F0, (f.cls.length : Int) + 3, 63) := by
  have h1 := more_len h (f.cls.length + 1) (by omega) _ (Nat.le_refl _)
  have h0 := hdOk_of h.ok (f.cls.length + 1) (by omega)
  rw [show ((f.cls.length + 1 : Nat) : Int) = (f.cls.length : Int) + 1 by omega] at h0 h1
  obtain ⟨⟨hv, _⟩, _, hg⟩ := checkD_ok.1 h.ok
  unfold readD
  rw [if_neg (by omega)]
  have hs := text_splitR f.vars ((f.cls.length : Int) + 1) f.cls [] (by simp)
  rw [List.append_nil] at hs
  rw [hs, readL_hd h0, show ((f.cls.length : Int) + 1).toNat = f.cls.length + 1 by omega]
  unfold zRs
  rw [run_lines f.vars (f.cls.length + 1) hv f.cls [] 1 hg (by simp)]
  unfold endD
  rw [if_neg (by simp), if_pos (.inr (by simp))]
  simp only [List.length_append, List.length_map, List.length_cons, List.length_nil]
  rw [Prod.mk.injEq, Prod.mk.injEq]
  exact ⟨rfl, by omega, rfl⟩
/-- A header that says one clause fewer. -/
theorem read_less {f : Fm} (h : FmK f) (hn : f.cls.length ≤ 1000) (h0 : f.cls ≠ []) : readD (hdS f.vars ((f.cls.length : Int) - 1) ++ 10 :: txS f.cls) = (F0, (f.cls.length : Int) + 1, 63) := by
  obtain ⟨pre, c, hc⟩ : ∃ pre c, f.cls = pre ++ [c] := ⟨_, _, (List.dropLast_concat_getLast h0).symm⟩
  have hN : f.cls.length = pre.length + 1 := by rw [hc]; simp
  have h1 := more_len h pre.length (by omega) _ (Nat.le_refl _)
  have h2 := hdOk_of h.ok pre.length (by omega)
  rw [show (f.cls.length : Int) - 1 = (pre.length : Int) by omega]
  obtain ⟨⟨hv, _⟩, _, hg⟩ := checkD_ok.1 h.ok
  unfold readD
  rw [if_neg (by omega)]
  have hs := text_splitR f.vars (pre.length : Int) f.cls [] (by simp)
  rw [List.append_nil] at hs
  rw [hs, readL_hd h2, Int.toNat_natCast]
  have hr := run_pre f.vars pre.length hv [lnS c, []] pre [] 1 (fun x hx => hg x (by rw [hc]; exact List.mem_append_left _ hx)) (by simp)
  have he : f.cls.map lnS ++ [[]] = pre.map lnS ++ [lnS c, []] := by rw [hc]; simp
  rw [he]
  unfold zRs
  rw [hr, List.nil_append]
  have hw : ∃ w r, wordsD [lnS c, []] (1 + pre.length) = (1 + pre.length + 1, w) :: r ∧ (w = [48] ∨ ∃ l, litIn f.vars l = true ∧ w = itoa l) := by
    unfold wordsD
    rw [if_neg (by rw [ln_over]; simp), ln_words]
    cases hcc : c with
    | nil => exact ⟨[48], _, rfl, .inl rfl⟩
    | cons l c' => exact ⟨itoa l, _, rfl, .inr ⟨l, (hg c (by rw [hc]; simp)).2 l (by rw [hcc]; simp), rfl⟩⟩
  obtain ⟨w, r, hw, hk⟩ := hw
  rw [hw]
  have hst : stepW f.vars pre.length ⟨pre, [], false⟩ w = (63, ⟨pre, [], false⟩) := by
    unfold stepW
    rcases hk with rfl | ⟨l, hl, rfl⟩
    · rw [if_pos rfl]
      dsimp only
      rw [if_neg (by simpa using hv), if_pos rfl]
    · obtain ⟨q1, q2⟩ := lit_in hl
      rw [if_neg (itoa_not_zero q1), (litW_iff _ _).2 ⟨q1, rfl⟩]
      dsimp only
      rw [if_neg (by omega), if_pos rfl]
  rw [runW]
  dsimp only
  rw [hst]
  dsimp only
  rw [if_neg (by decide)]
  unfold endD
  dsimp only
  rw [if_pos (by decide)]
  rw [Prod.mk.injEq, Prod.mk.injEq]
  exact ⟨rfl, by omega, rfl⟩
theorem trimSuffix_app (x p : List UInt8) : trimSuffix (x ++ p) p = x := by
  unfold trimSuffix hasSuffix
  rw [if_pos (by rw [List.isSuffixOf_iff_suffix]; exact List.suffix_append x p)]
  rw [List.length_append, Nat.add_sub_cancel, List.take_left]
/-- The last clause without its end. -/
theorem read_trim {f : Fm} (h : FmK f) (hn : f.cls.length ≤ 1000) (h0 : f.cls ≠ []) : readD (trimSuffix (textD f) [48, 10]) = (F0, (f.cls.length : Int) + 2, 63) := by
  obtain ⟨pre, c, hc⟩ : ∃ pre c, f.cls = pre ++ [c] := ⟨_, _, (List.dropLast_concat_getLast h0).symm⟩
  have hN : f.cls.length = pre.length + 1 := by rw [hc]; simp
  have htx : txS f.cls = (txS pre ++ txL c) ++ [48, 10] := by
    rw [hc]
    unfold txS
    rw [List.flatMap_append]
    simp [lnS_txL]
  have ht : textD f = (hdS f.vars f.cls.length ++ 10 :: (txS pre ++ txL c)) ++ [48, 10] := by
    unfold textD
    rw [htx]
    simp
  rw [ht, trimSuffix_app]
  have h1 := more_len h f.cls.length (by omega) (txS pre ++ txL c) (by rw [htx]; simp)
  have h2 := hdOk_of h.ok f.cls.length (by omega)
  obtain ⟨⟨hv, _⟩, _, hg⟩ := checkD_ok.1 h.ok
  unfold readD
  rw [if_neg (by omega)]
  rw [text_splitR f.vars (f.cls.length : Int) pre (txL c) (txL_free c), readL_hd h2, Int.toNat_natCast]
  have hgc := hg c (by rw [hc]; simp)
  have hr := run_pre f.vars f.cls.length hv [txL c] pre [] 1 (fun x hx => hg x (by rw [hc]; exact List.mem_append_left _ hx)) (by simp; omega)
  unfold zRs
  rw [hr, List.nil_append]
  have hw : ∃ st : Rs, runW f.vars f.cls.length ⟨pre, [], false⟩ (wordsD [txL c] (1 + pre.length)) = (0, 0, st) ∧ st.cls.length = pre.length := by
    unfold wordsD
    by_cases ho : overD (txL c) = true
    · rw [if_pos ho]
      exact ⟨⟨pre, [], false⟩, rfl, rfl⟩
    · rw [if_neg ho, txL_words]
      obtain ⟨b', hb⟩ := run_part f.vars f.cls.length (1 + pre.length + 1) c pre [] false hgc.2 (by simpa using hgc.1) (by omega)
      refine ⟨⟨pre, [] ++ c, b'⟩, ?_, rfl⟩
      show runW _ _ _ (_ ++ []) = _
      rw [List.append_nil]
      exact hb
  obtain ⟨st, hst, hsl⟩ := hw
  rw [hst]
  unfold endD
  dsimp only
  rw [if_neg (by decide), if_pos (.inr (by omega))]
  simp only [List.length_append, List.length_map, List.length_cons, List.length_nil]
  rw [Prod.mk.injEq, Prod.mk.injEq]
  exact ⟨rfl, by omega, rfl⟩
theorem cut_text (f : Fm) : cut (textD f) [10] = (hdS f.vars f.cls.length, txS f.cls, true) := by
  unfold cut textD
  rw [index_one 10 _ _ (hd_free _ _), if_pos (by omega), Int.toNat_natCast, List.take_left]
  rw [show (hdS f.vars f.cls.length).length + [(10 : UInt8)].length = (hdS f.vars f.cls.length ++ [10]).length by simp]
  rw [show hdS f.vars f.cls.length ++ 10 :: txS f.cls = (hdS f.vars f.cls.length ++ [10]) ++ txS f.cls by simp, List.drop_left]
end Go.Proofs.YtkpcpclaadgnbaaGreatDoor
