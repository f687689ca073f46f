/-
  A text with a wrong word in front of a line, or with a wrong header. Plain lists.
-/
import Derived.Test.YtkpcpclaadgnbaaGreatDoorCountP
set_option linter.unusedVariables false
set_option linter.unusedSimpArgs false
namespace Go.Proofs.YtkpcpclaadgnbaaGreatDoor
open Go.Lib

/-- A word of the eight. -/
def wrW (q : Nat) (m : Int) : List UInt8 :=
  if q = 0 then [120] else if q = 1 then [48, 48] else if q = 2 then [45, 48] else if q = 3 then [43, 49] else if q = 4 then [49, 46] else if q = 5 then [57] else if q = 6 then [45, 57] else itoa m
def wrE (q : Nat) (m : Int) : Int := if q = 5 ∨ q = 6 ∨ (q = 7 ∧ m ≤ 1048576) then 62 else 61
def wrOk (w : List UInt8) (e : Int) : Prop := w ≠ [] ∧ (32 : UInt8) ∉ w ∧ (10 : UInt8) ∉ w ∧ (99 : UInt8) ∉ w ∧ w.length ≤ 30 ∧ w ≠ [48] ∧ ((litW w = none ∧ e = 61) ∨ ∃ l, litW w = some l ∧ 8 < (l.natAbs : Int) ∧ e = 62)
theorem wr_ok (q : Nat) (hq : q < 8) (m : Int) (hm : 9 ≤ m) (hm2 : I64 m) : wrOk (wrW q m) (wrE q m) := by
  obtain rfl | rfl | rfl | rfl | rfl | rfl | rfl | rfl : q = 0 ∨ q = 1 ∨ q = 2 ∨ q = 3 ∨ q = 4 ∨ q = 5 ∨ q = 6 ∨ q = 7 := by omega
  · show wrOk [120] 61
    exact ⟨by decide, by decide, by decide, by decide, by decide, by decide, .inl ⟨by decide +kernel, rfl⟩⟩
  · show wrOk [48, 48] 61
    exact ⟨by decide, by decide, by decide, by decide, by decide, by decide, .inl ⟨by decide +kernel, rfl⟩⟩
  · show wrOk [45, 48] 61
    exact ⟨by decide, by decide, by decide, by decide, by decide, by decide, .inl ⟨by decide +kernel, rfl⟩⟩
  · show wrOk [43, 49] 61
    exact ⟨by decide, by decide, by decide, by decide, by decide, by decide, .inl ⟨by decide +kernel, rfl⟩⟩
  · show wrOk [49, 46] 61
    exact ⟨by decide, by decide, by decide, by decide, by decide, by decide, .inl ⟨by decide +kernel, rfl⟩⟩
  · show wrOk [57] 62
    exact ⟨by decide, by decide, by decide, by decide, by decide, by decide, .inr ⟨9, by decide +kernel, by decide, rfl⟩⟩
  · show wrOk [45, 57] 62
    exact ⟨by decide, by decide, by decide, by decide, by decide, by decide, .inr ⟨-9, by decide +kernel, by decide, rfl⟩⟩
  · have hf := itoa_free m
    have hl := itoa_len m hm2
    have h0 : itoa m ≠ [48] := by
      rw [← itoa_zero]
      exact fun e => by have := itoa_inj e; omega
    have hw : wrW 7 m = itoa m := rfl
    rw [hw]
    refine ⟨itoa_ne m, hf.1, hf.2.1, hf.2.2.2, by omega, h0, ?_⟩
    by_cases hb : m ≤ 1048576
    · refine .inr ⟨m, (litW_iff _ _).2 ⟨lit_mk (by omega) (by omega) hb, rfl⟩, by omega, ?_⟩
      unfold wrE
      rw [if_pos (.inr (.inr ⟨rfl, hb⟩))]
    · refine .inl ⟨?_, ?_⟩
      · cases hl : litW (itoa m) with
        | none => rfl
        | some l =>
          obtain ⟨h1, h2⟩ := (litW_iff _ _).1 hl
          have := itoa_inj h2
          subst this
          exact absurd (lit_parts h1).2.2 hb
      · unfold wrE
        rw [if_neg (by omega)]
/-- The line that holds the word. -/
def wrL (w ln : List UInt8) : List UInt8 := if ln = [] then w else w ++ 32 :: ln
theorem trim_none (s : List UInt8) (c : UInt8) (h : ∀ x, s ≠ x ++ [c]) : trimSuffix s [c] = s := by
  unfold trimSuffix hasSuffix
  rw [if_neg]
  rw [List.isSuffixOf_iff_suffix]
  rintro ⟨t, ht⟩
  exact h t ht.symm
theorem wr_trim (w ln : List UInt8) (h : ln = [] ∨ ∃ x, ln = x ++ [48]) : trimSuffix (w ++ 32 :: ln) [32] = wrL w ln := by
  rcases h with rfl | ⟨x, rfl⟩
  · have := trimSuffix_app w [32]
    rw [this]
    rfl
  · rw [trim_none]
    · unfold wrL
      rw [if_neg (by simp)]
    · intro y hy
      have h1 := congrArg List.reverse hy
      simp at h1
theorem wr_words {w ln : List UInt8} {e : Int} (h : wrOk w e) : ∃ r, wordsL (wrL w ln) = w :: r := by
  obtain ⟨h1, h2, _⟩ := h
  have hne : (!w.isEmpty) = true := by
    cases w with
    | nil => exact absurd rfl h1
    | cons _ _ => rfl
  unfold wrL wordsL
  split
  · rw [split_none 32 w h2]
    exact ⟨[], by rw [List.filter_cons, if_pos hne]; rfl⟩
  · have hj : w ++ 32 :: ln = joinB 32 (w :: split ln [32]) := by
      rw [joinB_cons _ _ _ (split_spec 32 ln).1, (split_spec 32 ln).2.2]
    rw [hj, split_join 32 _ (by simp) (fun v hv => by
      rcases List.mem_cons.1 hv with rfl | hv
      · exact h2
      · exact (split_spec 32 ln).2.1 v hv), List.filter_cons, if_pos hne]
    exact ⟨_, rfl⟩
theorem wr_over {w ln : List UInt8} {e : Int} (h : wrOk w e) (hl : (99 : UInt8) ∉ ln) : overD (wrL w ln) = false := by
  obtain ⟨h1, h2, _, h3, _⟩ := h
  obtain ⟨b, w', rfl⟩ := List.exists_cons_of_ne_nil h1
  refine over_of ⟨b, ?_, fun e => h2 (by rw [e]; simp)⟩ ?_
  · unfold wrL
    split <;> simp
  · unfold wrL
    split
    · exact h3
    · intro hc
      rcases List.mem_append.1 hc with hc | hc
      · exact h3 hc
      · rcases List.mem_cons.1 hc with hc | hc
        · revert hc; decide
        · exact hl hc
theorem wr_step {w : List UInt8} {e : Int} (h : wrOk w e) (n : Nat) (st : Rs) : stepW 8 n st w = (e, st) := by
  obtain ⟨_, _, _, _, _, h0, h⟩ := h
  unfold stepW
  rw [if_neg h0]
  rcases h with ⟨h1, rfl⟩ | ⟨l, h1, h2, rfl⟩
  · rw [h1]
  · rw [h1]
    dsimp only
    rw [if_pos h2]
theorem wr_ne {w : List UInt8} {e : Int} (h : wrOk w e) : e ≠ 0 := by
  rcases h.2.2.2.2.2.2 with ⟨_, rfl⟩ | ⟨_, _, _, rfl⟩ <;> decide
/-- The lines of a text, one of them spoilt. -/
theorem lines_wrong {f : Fm} (hk : FmK f) (h8 : f.vars = 8) (hn : f.cls.length ≤ 1000) {w : List UInt8} {e : Int} (hw : wrOk w e) (i : Nat) (h1 : 1 ≤ i) (ln : List UInt8) (hi : (hdS f.vars f.cls.length :: (f.cls.map lnS ++ [[]]))[i]? = some ln) :
    readL ((hdS f.vars f.cls.length :: (f.cls.map lnS ++ [[]])).set i (wrL w ln)) = (F0, (i : Int) + 1, e) := by
  obtain ⟨j, rfl⟩ : ∃ j, i = j + 1 := ⟨i - 1, by omega⟩
  rw [List.getElem?_cons_succ] at hi
  rw [List.set_cons_succ]
  have h2 := hdOk_of hk.ok f.cls.length (by omega)
  obtain ⟨⟨hv, _⟩, _, hg⟩ := checkD_ok.1 hk.ok
  rw [readL_hd h2, Int.toNat_natCast]
  have hjl : j < (f.cls.map lnS ++ [[]]).length := (List.getElem?_eq_some_iff.1 hi).1
  have hjl' : j ≤ f.cls.length := by simp at hjl; omega
  have hset : (f.cls.map lnS ++ [[]]).set j (wrL w ln) = (f.cls.take j).map lnS ++ (wrL w ln :: (f.cls.map lnS ++ [[]]).drop (j + 1)) := by
    rw [List.set_eq_take_append_cons_drop, if_pos hjl]
    congr 1
    rw [List.take_append_of_le_length (by rw [List.length_map]; exact hjl'), List.map_take]
  have h99 : (99 : UInt8) ∉ ln := by
    have hm := List.mem_of_getElem? hi
    rcases List.mem_append.1 hm with hm | hm
    · obtain ⟨c, _, rfl⟩ := List.mem_map.1 hm
      exact ln_no c 99 (fun n => (itoa_free n).2.2.2) (by decide) (by decide)
    · simp at hm
      subst hm
      simp
  rw [hset]
  unfold zRs
  have hr := run_pre f.vars f.cls.length hv (wrL w ln :: (f.cls.map lnS ++ [[]]).drop (j + 1)) (f.cls.take j) [] 1 (fun x hx => hg x (List.mem_of_mem_take hx)) (by rw [List.length_take]; simp; omega)
  rw [hr, List.nil_append, List.length_take, Nat.min_eq_left hjl']
  obtain ⟨r, hwd⟩ := wr_words (ln := ln) hw
  unfold wordsD
  rw [if_neg (by rw [wr_over hw h99]; simp), hwd, h8]
  rw [List.map_cons, List.cons_append, runW]
  dsimp only
  rw [wr_step hw]
  dsimp only
  rw [if_neg (wr_ne hw)]
  unfold endD
  dsimp only
  rw [if_pos (wr_ne hw)]
  rw [Prod.mk.injEq, Prod.mk.injEq]
  exact ⟨rfl, by omega, rfl⟩
theorem line_end {f : Fm} {i : Nat} {ln : List UInt8} (h1 : 1 ≤ i) (hi : (hdS f.vars f.cls.length :: (f.cls.map lnS ++ [[]]))[i]? = some ln) : (ln = [] ∨ ∃ x, ln = x ++ [48]) ∧ (10 : UInt8) ∉ ln := by
  obtain ⟨j, rfl⟩ : ∃ j, i = j + 1 := ⟨i - 1, by omega⟩
  rw [List.getElem?_cons_succ] at hi
  have hm := List.mem_of_getElem? hi
  rcases List.mem_append.1 hm with hm | hm
  · obtain ⟨c, _, rfl⟩ := List.mem_map.1 hm
    exact ⟨.inr ⟨_, rfl⟩, ln_free c⟩
  · simp at hm
    subst hm
    exact ⟨.inl rfl, by simp⟩
/-- The six headers that are none. -/
def badH : List (List UInt8) := [[112, 32, 99, 110, 102, 32, 56], [99, 110, 102, 32, 56, 32, 49], [112, 32, 99, 110, 102, 32, 56, 32, 45, 49], [112, 32, 99, 110, 102, 32, 56, 32, 49, 32], [80, 32, 99, 110, 102, 32, 56, 32, 49], [112, 32, 99, 110, 102, 32, 48, 56, 32, 49]]
theorem bad_head : ∀ h ∈ badH, overD h = false ∧ parseH h = none ∧ (10 : UInt8) ∉ h ∧ h.length ≤ 30 := by decide +kernel
theorem readL_bad {h : List UInt8} (hh : h ∈ badH) (R : List (List UInt8)) : readL (h :: R) = (F0, 1, 60) := by
  obtain ⟨h1, h2, _⟩ := bad_head h hh
  unfold readL
  unfold headD
  rw [if_neg (by rw [h1]; simp)]
  dsimp only
  rw [h2]
  rfl
theorem split_join10 {l : List (List UInt8)} (hne : l ≠ []) (h : ∀ w ∈ l, (10 : UInt8) ∉ w) (hlen : (joinB 10 l).length ≤ 4194304) : readD (joinB 10 l) = readL l := by
  unfold readD
  rw [if_neg (by omega), split_join 10 l hne h]
end Go.Proofs.YtkpcpclaadgnbaaGreatDoor
