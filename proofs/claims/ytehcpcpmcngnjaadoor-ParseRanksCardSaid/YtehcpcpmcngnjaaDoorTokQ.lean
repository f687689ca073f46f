/-
  Blanks, remarks and signs: what strings.IndexByte tells of them. No program in sight.
-/
import Derived.Test.YtehcpcpmcngnjaaDoorTokP
import Derived.Lib.Bytealg
set_option linter.unusedVariables false
set_option linter.unusedSimpArgs false
namespace Go.Proofs.YtehcpcpmcngnjaaDoor

theorem ix_rem : ∀ l : List UInt8, (Lib.indexByte l 10 = -1 ∧ skipG true l = l.length) ∨ (∃ n : Nat, Lib.indexByte l 10 = (n : Int) ∧ n < l.length ∧ skipG true l = n + skipG false (l.drop n))
  | [] => .inl ⟨rfl, rfl⟩
  | c :: r => by
    by_cases hc : c = 10
    · subst hc
      refine .inr ⟨0, rfl, by simp, ?_⟩
      simp [skipG, blankB]
    · have e1 : (c == 10) = false := by simpa using hc
      have e2 : decide (c.toNat ≠ 10) = true := by
        simp only [ne_eq, decide_not, Bool.not_eq_true', decide_eq_false_iff_not]
        intro h
        exact hc (UInt8.toNat_inj.1 h)
      rcases ix_rem r with ⟨h1, h2⟩ | ⟨n, h1, h2, h3⟩
      · refine .inl ⟨?_, ?_⟩
        · simp only [Lib.indexByte, e1, h1]; rfl
        · simp only [skipG, e2, h2, List.length_cons]; omega
      · refine .inr ⟨n + 1, ?_, by simpa using h2, ?_⟩
        · have e3 : ((n : Int) == -1) = false := beq_false_of_ne (by omega)
          simp only [Lib.indexByte, e1, h1, e3]
          rfl
        · simp only [skipG, e2, h3, List.drop_succ_cons]; omega
theorem ix_has (l : List UInt8) (c : UInt8) : decide (0 ≤ Lib.indexByte l c) = l.contains c := by
  induction l with
  | nil => rfl
  | cons b r ih =>
    rw [List.contains_cons, ← ih]
    have hg := Lib.indexByte_ge r c
    by_cases hb : b = c
    · subst hb
      simp [Lib.indexByte]
    · have e1 : (b == c) = false := by simpa using hb
      have e2 : (c == b) = false := by simpa using fun h => hb h.symm
      rw [e2]
      by_cases h1 : Lib.indexByte r c = -1
      · simp [Lib.indexByte, e1, h1]
      · have e3 : (Lib.indexByte r c == -1) = false := by simpa using h1
        simp only [Lib.indexByte, e1, e3, Bool.false_or]
        congr 1
        simp
        omega
/-- What the blanks come to from a place on. -/
def skAt (t : List UInt8) (a : Nat) : Nat := a + skipG false (t.drop a)
theorem skAt_blank {t : List UInt8} {a : Nat} {c : UInt8} (h : t[a]? = some c) (h1 : c.toNat ≠ 35) (h2 : blankB c = true) : skAt t a = skAt t (a + 1) := by
  unfold skAt
  obtain ⟨hk', he⟩ := List.getElem?_eq_some_iff.1 h
  rw [List.drop_eq_getElem_cons hk', he]
  simp only [skipG, if_neg h1, if_pos h2]
  omega
theorem skAt_stop {t : List UInt8} {a : Nat} {c : UInt8} (h : t[a]? = some c) (h1 : c.toNat ≠ 35) (h2 : blankB c = false) : skAt t a = a := by
  unfold skAt
  obtain ⟨hk', he⟩ := List.getElem?_eq_some_iff.1 h
  rw [List.drop_eq_getElem_cons hk', he]
  simp [skipG, if_neg h1, h2]
theorem skAt_end {t : List UInt8} {a : Nat} (h : t.length ≤ a) : skAt t a = a := by
  unfold skAt
  rw [List.drop_eq_nil_of_le h]
  rfl
theorem skAt_rem {t : List UInt8} {a : Nat} {c : UInt8} (h : t[a]? = some c) (h1 : c.toNat = 35) : (Lib.indexByte (t.drop a) 10 = -1 ∧ skAt t a = t.length) ∨ (∃ n : Nat, Lib.indexByte (t.drop a) 10 = (n : Int) ∧ 1 ≤ n ∧ a + n < t.length ∧ skAt t a = skAt t (a + n)) := by
  obtain ⟨hk', he⟩ := List.getElem?_eq_some_iff.1 h
  have hd : t.drop a = c :: t.drop (a + 1) := by rw [List.drop_eq_getElem_cons hk', he]
  have hs : skAt t a = a + (1 + skipG true (t.drop (a + 1))) := by
    unfold skAt
    rw [hd]
    simp only [skipG, if_pos h1]
  have hne : c ≠ 10 := by rintro rfl; revert h1; decide
  have hb : skipG true (t.drop a) = 1 + skipG true (t.drop (a + 1)) := by
    have e2 : decide (c.toNat ≠ 10) = true := by rw [h1]; rfl
    rw [hd]
    simp only [skipG, e2]
  rw [hs, ← hb]
  rcases ix_rem (t.drop a) with ⟨h3, h4⟩ | ⟨n, h3, h4, h5⟩
  · exact .inl ⟨h3, by rw [h4, List.length_drop]; omega⟩
  · refine .inr ⟨n, h3, ?_, by rw [List.length_drop] at h4; omega, ?_⟩
    · rcases Nat.eq_zero_or_pos n with h0 | h0
      · subst h0
        exfalso
        rw [hd] at h3
        have e1 : (c == 10) = false := by simpa using hne
        simp only [Lib.indexByte, e1] at h3
        have hg := Lib.indexByte_ge (t.drop (a + 1)) 10
        by_cases h1 : Lib.indexByte (t.drop (a + 1)) 10 = -1
        · simp [h1] at h3
        · have e3 : (Lib.indexByte (t.drop (a + 1)) 10 == -1) = false := by simpa using h1
          simp only [e3] at h3
          simp at h3
          omega
      · exact h0
    · unfold skAt
      rw [h5, List.drop_drop]
      omega
theorem skAt_le {t : List UInt8} {a : Nat} (h : a ≤ t.length) : a ≤ skAt t a ∧ skAt t a ≤ t.length := by
  have := skipG_le false (t.drop a)
  rw [List.length_drop] at this
  unfold skAt
  omega
/-- What digits come to from a place on. -/
def dgAt (t : List UInt8) (a : Nat) : Nat := a + digsT (t.drop a)
theorem dgAt_hit {t : List UInt8} {a : Nat} {c : UInt8} (h : t[a]? = some c) (h1 : digitB c = true) : dgAt t a = dgAt t (a + 1) := by
  obtain ⟨hk', he⟩ := List.getElem?_eq_some_iff.1 h
  unfold dgAt
  rw [List.drop_eq_getElem_cons hk', he]
  simp only [digsT, if_pos h1]
  omega
theorem dgAt_stop {t : List UInt8} {a : Nat} {c : UInt8} (h : t[a]? = some c) (h1 : digitB c = false) : dgAt t a = a := by
  obtain ⟨hk', he⟩ := List.getElem?_eq_some_iff.1 h
  unfold dgAt
  rw [List.drop_eq_getElem_cons hk', he]
  simp [digsT, h1]
theorem dgAt_end {t : List UInt8} {a : Nat} (h : t.length ≤ a) : dgAt t a = a := by
  unfold dgAt
  rw [List.drop_eq_nil_of_le h]
  rfl
theorem dgAt_le {t : List UInt8} {a : Nat} (h : a ≤ t.length) : a ≤ dgAt t a ∧ dgAt t a ≤ t.length := by
  have := digsT_le (t.drop a)
  rw [List.length_drop] at this
  unfold dgAt
  omega
/-- What the bytes that go on with a word come to from a place on. -/
def ptAt (t : List UInt8) (a : Nat) : Nat := a + partsT (t.drop a)
theorem ptAt_hit {t : List UInt8} {a : Nat} {c : UInt8} (h : t[a]? = some c) (h1 : partB c = true) : ptAt t a = ptAt t (a + 1) := by
  obtain ⟨hk', he⟩ := List.getElem?_eq_some_iff.1 h
  unfold ptAt
  rw [List.drop_eq_getElem_cons hk', he]
  simp only [partsT, if_pos h1]
  omega
theorem ptAt_stop {t : List UInt8} {a : Nat} {c : UInt8} (h : t[a]? = some c) (h1 : partB c = false) : ptAt t a = a := by
  obtain ⟨hk', he⟩ := List.getElem?_eq_some_iff.1 h
  unfold ptAt
  rw [List.drop_eq_getElem_cons hk', he]
  simp [partsT, h1]
theorem ptAt_end {t : List UInt8} {a : Nat} (h : t.length ≤ a) : ptAt t a = a := by
  unfold ptAt
  rw [List.drop_eq_nil_of_le h]
  rfl
theorem ptAt_le {t : List UInt8} {a : Nat} (h : a ≤ t.length) : a ≤ ptAt t a ∧ ptAt t a ≤ t.length := by
  have := partsT_le (t.drop a)
  rw [List.length_drop] at this
  unfold ptAt
  omega
/-- The token at a place with a byte: kind and end (kind 0: none, the end is the place). -/
def tkAt (t : List UInt8) (a : Nat) : Nat × Nat := ((tokT (t.drop a)).1, a + (tokT (t.drop a)).2)
theorem tkAt_word {t : List UInt8} {a : Nat} {c : UInt8} (h : t[a]? = some c) (h1 : letterB c = true) : tkAt t a = (1, ptAt t (a + 1)) := by
  obtain ⟨hk', he⟩ := List.getElem?_eq_some_iff.1 h
  unfold tkAt ptAt
  rw [List.drop_eq_getElem_cons hk', he]
  simp only [tokT, if_pos h1]
  rw [Nat.add_assoc]
theorem tkAt_num {t : List UInt8} {a : Nat} {c : UInt8} (h : t[a]? = some c) (h1 : letterB c = false) (h2 : digitB c = true) (d : Nat) (hd : dgAt t a = d) (h3 : t.length ≤ d + 1) : tkAt t a = (2, d) := by
  obtain ⟨hk', he⟩ := List.getElem?_eq_some_iff.1 h
  subst hd
  unfold dgAt at h3 ⊢
  have hl := List.length_drop (i := a + digsT (t.drop a)) (l := t)
  have hdd : (t.drop a).drop (digsT (t.drop a)) = t.drop (a + digsT (t.drop a)) := by rw [List.drop_drop]
  unfold tkAt
  rw [List.drop_eq_getElem_cons hk', he] at hdd hl h3 ⊢
  simp only [tokT, h1, if_pos h2]
  rw [hdd]
  cases hx : t.drop (a + digsT (c :: t.drop (a + 1))) with
  | nil => simp
  | cons x r =>
    cases r with
    | nil => simp
    | cons y r =>
      rw [hx] at hl
      simp at hl
      omega
theorem tkAt_digs {t : List UInt8} {a : Nat} {c : UInt8} (h : t[a]? = some c) (h1 : letterB c = false) (h2 : digitB c = true) (d : Nat) (hd : dgAt t a = d) {x y : UInt8} (h3 : t[d]? = some x) (h4 : t[d + 1]? = some y) :
    tkAt t a = if x.toNat = 58 ∧ digitB y = true then (3, dgAt t (d + 1)) else (2, d) := by
  obtain ⟨hk', he⟩ := List.getElem?_eq_some_iff.1 h
  obtain ⟨hk3, he3⟩ := List.getElem?_eq_some_iff.1 h3
  obtain ⟨hk4, he4⟩ := List.getElem?_eq_some_iff.1 h4
  have hdd : (t.drop a).drop (digsT (t.drop a)) = x :: y :: t.drop (d + 1 + 1) := by
    rw [List.drop_drop]
    show t.drop (dgAt t a) = _
    rw [hd, List.drop_eq_getElem_cons hk3, he3, List.drop_eq_getElem_cons hk4, he4]
  have hd2 : t.drop (d + 1) = y :: t.drop (d + 1 + 1) := by rw [List.drop_eq_getElem_cons hk4, he4]
  have hd3 : dgAt t (d + 1) = d + 1 + digsT (y :: t.drop (d + 1 + 1)) := by unfold dgAt; rw [hd2]
  rw [hd3]
  unfold dgAt at hd
  unfold tkAt
  rw [List.drop_eq_getElem_cons hk', he] at hdd hd ⊢
  simp only [tokT, h1, if_pos h2, hdd]
  by_cases hc : x.toNat = 58 ∧ digitB y = true
  · simp only [if_pos hc, Bool.false_eq_true, if_false]
    congr 1
    omega
  · simp only [if_neg hc, Bool.false_eq_true, if_false]
    congr 1
theorem tkAt_sign {t : List UInt8} {a : Nat} {c : UInt8} (h : t[a]? = some c) (h1 : letterB c = false) (h2 : digitB c = false) (n : Nat) (hn : signT (t.drop a) = n) : tkAt t a = if 0 < n then (4, a + n) else (0, a) := by
  obtain ⟨hk', he⟩ := List.getElem?_eq_some_iff.1 h
  subst hn
  unfold tkAt
  rw [List.drop_eq_getElem_cons hk', he]
  simp only [tokT, h1, h2]
  by_cases hs : 0 < signT (c :: t.drop (a + 1))
  · simp [hs]
  · simp [hs]
theorem nextT_end {t : List UInt8} {a b : Nat} (h : skAt t a = b) (hb : b = t.length) : nextT t a = (0, b, b, false) := by
  unfold skAt at h
  unfold nextT
  rw [h]
  simp only [if_pos hb]
theorem nextT_tok {t : List UInt8} {a b : Nat} (h : skAt t a = b) (hb : b < t.length) (k e : Nat) (hk : tkAt t b = (k, e)) : nextT t a = if k = 0 then (0, b, b, true) else (k, b, e, false) := by
  unfold skAt at h
  unfold tkAt at hk
  injection hk with h1 h2
  unfold nextT
  rw [h]
  simp only [if_neg (show ¬ b = t.length by omega), h1, h2]
end Go.Proofs.YtehcpcpmcngnjaaDoor
