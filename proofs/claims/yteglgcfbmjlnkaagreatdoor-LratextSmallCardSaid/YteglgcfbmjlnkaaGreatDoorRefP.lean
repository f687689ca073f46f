/-
  What the reference computes, as plain lists: a number, a list of numbers, a line. No program in sight.
-/
import Derived.Test.YteglgcfbmjlnkaaGreatDoorLrat
set_option linter.unusedVariables false
set_option linter.unusedSimpArgs false
namespace Go.Proofs.YteglgcfbmjlnkaaGreatDoor
open Go.Lib

/-- Digits, at most f of them: what they spell behind acc, and how many they are. -/
def numL : Nat → Nat → List UInt8 → Nat × Nat
  | 0, acc, _ => (acc, 0)
  | _ + 1, acc, [] => (acc, 0)
  | f + 1, acc, c :: r => if 48 ≤ c.toNat ∧ c.toNat ≤ 57 then ((numL f (acc * 10 + (c.toNat - 48)) r).1, (numL f (acc * 10 + (c.toNat - 48)) r).2 + 1) else (acc, 0)
/-- The digits of a text behind its sign. -/
def tailQ (s : List UInt8) : List UInt8 := if s.head? = some 45 then s.tail else s
def badQ (sg : Bool) (t : List UInt8) (k : Nat) : Bool := decide (k = 0) || (decide (t.head? = some 48) && (decide (1 < k) || sg)) || (decide (k < t.length) && decide (t[k]? ≠ some 32))
def numQ (s : List UInt8) : Int × Nat :=
  if badQ (decide (s.head? = some 45)) (tailQ s) (numL 11 0 (tailQ s)).2 then (0, 0)
  else if s.head? = some 45 then (-((numL 11 0 (tailQ s)).1 : Int), (numL 11 0 (tailQ s)).2 + 1) else (((numL 11 0 (tailQ s)).1 : Int), (numL 11 0 (tailQ s)).2)

theorem numL_spec : ∀ (f acc : Nat) (l : List UInt8), ∃ ds rest, l = ds ++ rest ∧ (∀ c ∈ ds, DigB c) ∧ numL f acc l = (valD acc ds, ds.length) ∧ ds.length ≤ f ∧ (ds.length = f ∨ rest = [] ∨ ∃ c r, rest = c :: r ∧ ¬ DigB c)
  | 0, acc, l => ⟨[], l, rfl, by simp, rfl, Nat.le_refl _, .inl rfl⟩
  | f + 1, acc, [] => ⟨[], [], rfl, by simp, rfl, by simp, .inr (.inl rfl)⟩
  | f + 1, acc, c :: r => by
    by_cases h : 48 ≤ c.toNat ∧ c.toNat ≤ 57
    · obtain ⟨ds, rest, h1, h2, h3, h4, h5⟩ := numL_spec f (acc * 10 + (c.toNat - 48)) r
      refine ⟨c :: ds, rest, by rw [h1]; rfl, ?_, ?_, by simp; omega, ?_⟩
      · intro x hx
        rcases List.mem_cons.1 hx with rfl | hx
        · exact h
        · exact h2 x hx
      · unfold numL
        rw [if_pos h, h3, valD_cons]
        rfl
      · rcases h5 with h5 | h5
        · left; simp; omega
        · exact .inr h5
    · exact ⟨[], c :: r, rfl, by simp, by unfold numL; rw [if_neg h]; rfl, by simp, .inr (.inr ⟨c, r, rfl, h⟩)⟩
theorem numL_digs : ∀ (ds rest : List UInt8) (f acc : Nat), (∀ c ∈ ds, DigB c) → ds.length ≤ f → (rest = [] ∨ ∃ c r, rest = c :: r ∧ ¬ DigB c) → numL f acc (ds ++ rest) = (valD acc ds, ds.length)
  | [], rest, f, acc, _, _, hr => by
    cases f with
    | zero => rfl
    | succ f =>
      rcases hr with rfl | ⟨c, r, rfl, hc⟩
      · rfl
      · show numL (f + 1) acc (c :: r) = _
        unfold numL
        rw [if_neg (show ¬ (48 ≤ c.toNat ∧ c.toNat ≤ 57) from hc)]
        rfl
  | c :: ds, rest, f, acc, hd, hl, hr => by
    cases f with
    | zero => simp at hl
    | succ f =>
      show numL (f + 1) acc (c :: (ds ++ rest)) = _
      have hc : DigB c := hd c (by simp)
      unfold numL
      rw [if_pos (show 48 ≤ c.toNat ∧ c.toNat ≤ 57 from hc), numL_digs ds rest f _ (fun x hx => hd x (by simp [hx])) (by simp at hl; omega) hr, valD_cons]
      rfl
theorem dec_len : ∀ (k u : Nat), u < 10 ^ (k + 1) → (decDigits u).length ≤ k + 1 := by
  intro k
  induction k with
  | zero => intro u h; rw [decDigits_small (by simpa using h)]; simp
  | succ k ih =>
    intro u h
    by_cases h0 : u < 10
    · rw [decDigits_small h0]; simp
    · rw [decDigits_big (by omega)]
      have := ih (u / 10) (by rw [Nat.pow_succ] at h; omega)
      simp
      exact this
/-- Where a numeral may end. -/
def EndQ (rest : List UInt8) : Prop := rest = [] ∨ ∃ r, rest = 32 :: r
theorem EndQ.not_dig {rest : List UInt8} (h : EndQ rest) : rest = [] ∨ ∃ c r, rest = c :: r ∧ ¬ DigB c := by
  rcases h with h | ⟨r, h⟩
  · exact .inl h
  · exact .inr ⟨32, r, h, by decide⟩
theorem endQ_at {rest : List UInt8} (p : List UInt8) : EndQ rest ↔ ¬ (p.length < (p ++ rest).length ∧ (p ++ rest)[p.length]? ≠ some 32) := by
  rw [List.getElem?_append_right (Nat.le_refl _), Nat.sub_self, List.length_append]
  cases rest with
  | nil => simp [EndQ]
  | cons c r => simp [EndQ]
theorem numQ_itoa {n : Int} (hn : -1073741824 ≤ n) (hn' : n ≤ 1073741824) {rest : List UInt8} (hr : EndQ rest) : numQ (itoa n ++ rest) = (n, (itoa n).length) := by
  by_cases h : n < 0
  · have he := itoa_neg' h
    have hl : (decDigits n.natAbs).length ≤ 11 := by
      have := dec_len 9 n.natAbs (by omega)
      omega
    have ht : tailQ (itoa n ++ rest) = decDigits n.natAbs ++ rest := by rw [he]; rfl
    have hh : (itoa n ++ rest).head? = some 45 := by rw [he]; rfl
    have hq := numL_digs (decDigits n.natAbs) rest 11 0 (decDigits_dig _) hl hr.not_dig
    have hE := (endQ_at (decDigits n.natAbs)).1 hr
    have hpos : (decDigits n.natAbs).length ≠ 0 := fun h0 => decDigits_ne _ (List.eq_nil_of_length_eq_zero h0)
    have h48 : ¬ (decDigits n.natAbs ++ rest).head? = some 48 := by
      cases hd : decDigits n.natAbs with
      | nil => exact absurd hd (decDigits_ne _)
      | cons c t =>
        intro h0
        have h0' : c = 48 := by simpa using h0
        have := (decDigits_head hd (by rw [h0']; rfl)).1
        omega
    have hbad : badQ (decide ((itoa n ++ rest).head? = some 45)) (tailQ (itoa n ++ rest)) (numL 11 0 (tailQ (itoa n ++ rest))).2 = false := by
      rw [ht, hq]
      unfold badQ
      simp only [Bool.or_eq_false_iff, Bool.and_eq_false_iff, decide_eq_false_iff_not]
      exact ⟨⟨hpos, .inl h48⟩, Decidable.not_and_iff_or_not.1 hE⟩
    unfold numQ
    rw [hbad, if_neg (by simp), if_pos hh, ht, hq, decDigits_val, he]
    simp only [List.length_cons, Prod.mk.injEq, and_true]
    omega
  · have he := itoa_pos' (n := n) (by omega)
    have hl : (decDigits n.toNat).length ≤ 11 := by
      have := dec_len 9 n.toNat (by omega)
      omega
    have h45 : ¬ (itoa n ++ rest).head? = some 45 := by
      rw [he]
      cases hd : decDigits n.toNat with
      | nil => exact absurd hd (decDigits_ne _)
      | cons c t =>
        intro h0
        have h0' : c = 45 := by simpa using h0
        have := decDigits_dig n.toNat c (by rw [hd]; simp)
        rw [h0'] at this
        revert this
        decide
    have ht : tailQ (itoa n ++ rest) = decDigits n.toNat ++ rest := by unfold tailQ; rw [if_neg h45, he]
    have hq := numL_digs (decDigits n.toNat) rest 11 0 (decDigits_dig _) hl hr.not_dig
    have hE := (endQ_at (decDigits n.toNat)).1 hr
    have hpos : (decDigits n.toNat).length ≠ 0 := fun h0 => decDigits_ne _ (List.eq_nil_of_length_eq_zero h0)
    have h48 : (decDigits n.toNat ++ rest).head? = some 48 → ¬ 1 < (decDigits n.toNat).length := by
      cases hd : decDigits n.toNat with
      | nil => exact absurd hd (decDigits_ne _)
      | cons c t =>
        intro h0
        have h0' : c = 48 := by simpa using h0
        have := (decDigits_head hd (by rw [h0']; rfl)).2
        rw [this]
        simp
    have hbad : badQ (decide ((itoa n ++ rest).head? = some 45)) (tailQ (itoa n ++ rest)) (numL 11 0 (tailQ (itoa n ++ rest))).2 = false := by
      rw [ht, hq]
      unfold badQ
      simp only [Bool.or_eq_false_iff, Bool.and_eq_false_iff, decide_eq_false_iff_not]
      refine ⟨⟨hpos, ?_⟩, Decidable.not_and_iff_or_not.1 hE⟩
      by_cases h0 : (decDigits n.toNat ++ rest).head? = some 48
      · exact .inr ⟨h48 h0, h45⟩
      · exact .inl h0
    unfold numQ
    rw [hbad, if_neg (by simp), if_neg h45, ht, hq, decDigits_val, he]
    simp only [Prod.mk.injEq, and_true]
    omega
theorem numQ_some {s : List UInt8} {n : Int} {k : Nat} (h : numQ s = (n, k)) (hk : k ≠ 0) : ∃ rest, s = itoa n ++ rest ∧ k = (itoa n).length ∧ EndQ rest := by
  obtain ⟨ds, rest, h1, h2, h3, h4, h5⟩ := numL_spec 11 0 (tailQ s)
  cases hb : badQ (decide (s.head? = some 45)) (tailQ s) (numL 11 0 (tailQ s)).2 with
  | true =>
    unfold numQ at h
    rw [hb, if_pos rfl] at h
    injection h with _ h
    exact absurd h.symm hk
  | false =>
    unfold numQ at h
    rw [hb, if_neg (by simp), h3] at h
    rw [h3] at hb
    unfold badQ at hb
    simp only [Bool.or_eq_false_iff, Bool.and_eq_false_iff, decide_eq_false_iff_not] at hb
    obtain ⟨⟨b1, b2⟩, b3⟩ := hb
    have hE : EndQ rest := (endQ_at ds).2 (fun hc => by
      rw [← h1] at hc
      rcases b3 with b3 | b3
      · exact b3 hc.1
      · exact b3 hc.2)
    have hne : ds ≠ [] := fun e => b1 (by rw [e]; rfl)
    have hz : ∀ c r, ds = c :: r → c.toNat = 48 → r = [] ∧ ¬ s.head? = some 45 := by
      intro c r he h0
      have hc : c = 48 := UInt8.toNat_inj.1 (by rw [h0]; rfl)
      have hh : (tailQ s).head? = some 48 := by rw [h1, he, hc]; rfl
      rcases b2 with b2 | b2
      · exact absurd hh b2
      · refine ⟨?_, by simpa using b2.2⟩
        rw [he] at b2
        have := b2.1
        simp at this
        exact this
    have hdec := decDigits_of ds h2 hne (fun c r he h0 => (hz c r he h0).1)
    by_cases hs : s.head? = some 45
    · rw [if_pos hs] at h
      obtain ⟨rfl, rfl⟩ := Prod.mk.inj h
      have hs' : s = 45 :: tailQ s := by
        unfold tailQ
        rw [if_pos hs]
        cases s with
        | nil => simp at hs
        | cons c r => simp at hs; rw [hs]; rfl
      have hpos : 0 < valD 0 ds := by
        rcases Nat.eq_zero_or_pos (valD 0 ds) with h0 | h0
        · exfalso
          rw [h0, decDigits_small (by omega)] at hdec
          have := hz 48 [] (by rw [← hdec]; rfl) rfl
          exact this.2 hs
        · exact h0
      have he : itoa (-(valD 0 ds : Int)) = 45 :: ds := by
        rw [itoa_neg' (by omega)]
        rw [show (-(valD 0 ds : Int)).natAbs = valD 0 ds by omega, hdec]
      refine ⟨rest, ?_, by rw [he]; simp, hE⟩
      rw [he, hs', h1]
      rfl
    · rw [if_neg hs] at h
      obtain ⟨rfl, rfl⟩ := Prod.mk.inj h
      have hs' : s = tailQ s := by unfold tailQ; rw [if_neg hs]
      have he : itoa (valD 0 ds : Int) = ds := by
        rw [itoa_pos' (by omega), show ((valD 0 ds : Nat) : Int).toNat = valD 0 ds by omega, hdec]
      exact ⟨rest, by rw [he]; rw [hs', h1], by rw [he], hE⟩
theorem numQ_le (s : List UInt8) : (numQ s).2 ≤ s.length := by
  rcases Nat.eq_zero_or_pos (numQ s).2 with h | h
  · omega
  · obtain ⟨rest, h1, h2, _⟩ := numQ_some (s := s) (n := (numQ s).1) (k := (numQ s).2) rfl (by omega)
    have := congrArg List.length h1
    rw [List.length_append] at this
    omega

/-! ### Lists of numbers -/
def listF : Nat → List Int → Nat → List UInt8 → List Int × Nat
  | 0, _, _, _ => ([], 0)
  | f + 1, acc, at', u => if u = [] then ([], 0) else if (numQ u).2 = 0 then ([], 0) else if (numQ u).1 = 0 then (acc, at' + (numQ u).2) else listF f (acc ++ [(numQ u).1]) (at' + (numQ u).2 + 1) (u.drop ((numQ u).2 + 1))
def listQ (s : List UInt8) : List Int × Nat := listF (s.length + 1) [] 0 s
/-- Numbers, a space behind each. -/
def flat (l : List Int) : List UInt8 := l.flatMap fun n => itoa n ++ [32]
theorem flat_cons (n : Int) (l : List Int) : flat (n :: l) = itoa n ++ 32 :: flat l := by unfold flat; simp
theorem flat_sp (l : List Int) : 32 :: flat l = l.flatMap sp ++ [32] := by
  induction l with
  | nil => rfl
  | cons n l ih =>
    rw [flat_cons, List.flatMap_cons, List.append_assoc, ← ih]
    rfl
theorem flat_len' (l : List Int) : l.length ≤ (flat l).length := by
  induction l with
  | nil => exact Nat.zero_le _
  | cons n l ih => rw [flat_cons]; simp only [List.length_append, List.length_cons]; omega
theorem listF_full : ∀ (l : List Int) (f : Nat) (acc : List Int) (at' : Nat) (rest : List UInt8), (∀ n ∈ l, n ≠ 0 ∧ -1073741824 ≤ n ∧ n ≤ 1073741824) → l.length < f → EndQ rest → listF f acc at' (flat l ++ 48 :: rest) = (acc ++ l, at' + (flat l).length + 1)
  | [], f, acc, at', rest, _, hf, hr => by
    cases f with
    | zero => omega
    | succ f =>
      have h := numQ_itoa (n := 0) (by omega) (by omega) hr
      rw [itoa_zero] at h
      have h' : numQ (48 :: rest) = (0, 1) := h
      show listF (f + 1) acc at' (48 :: rest) = _
      unfold listF
      rw [h', if_neg (by simp), if_neg (by simp), if_pos rfl]
      simp [flat]
  | n :: l, f, acc, at', rest, hn, hf, hr => by
    cases f with
    | zero => omega
    | succ f =>
      obtain ⟨h0, h1, h2⟩ := hn n (by simp)
      have he : flat (n :: l) ++ 48 :: rest = itoa n ++ (32 :: (flat l ++ 48 :: rest)) := by rw [flat_cons]; simp
      have h := numQ_itoa (n := n) h1 h2 (rest := 32 :: (flat l ++ 48 :: rest)) (.inr ⟨_, rfl⟩)
      rw [he]
      unfold listF
      rw [h, if_neg (by simp [itoa_ne]), if_neg (by simp [itoa_ne]), if_neg h0]
      have hd : (itoa n ++ 32 :: (flat l ++ 48 :: rest)).drop ((itoa n).length + 1) = flat l ++ 48 :: rest := by
        rw [List.drop_append, List.drop_eq_nil_of_le (by omega), List.nil_append, show (itoa n).length + 1 - (itoa n).length = 1 by omega]
        rfl
      simp only
      rw [hd, listF_full l f _ _ rest (fun m hm => hn m (by simp [hm])) (by simp at hf; omega) hr, flat_cons]
      simp
      omega
theorem listF_some : ∀ (f : Nat) (acc : List Int) (at' : Nat) (u : List UInt8) (l : List Int) (m : Nat), listF f acc at' u = (l, m) → m ≠ 0 → ∃ l' rest, l = acc ++ l' ∧ u = flat l' ++ 48 :: rest ∧ m = at' + (flat l').length + 1 ∧ EndQ rest
  | 0, _, _, _, l, m, h, hm => by
    unfold listF at h
    injection h with _ h
    exact absurd h.symm hm
  | f + 1, acc, at', u, l, m, h, hm => by
    unfold listF at h
    by_cases hu : u = []
    · rw [if_pos hu] at h
      injection h with _ h
      exact absurd h.symm hm
    rw [if_neg hu] at h
    by_cases hk : (numQ u).2 = 0
    · rw [if_pos hk] at h
      injection h with _ h
      exact absurd h.symm hm
    rw [if_neg hk] at h
    obtain ⟨rest, h1, h2, h3⟩ := numQ_some (s := u) (n := (numQ u).1) (k := (numQ u).2) rfl hk
    by_cases hn : (numQ u).1 = 0
    · rw [if_pos hn] at h
      obtain ⟨rfl, rfl⟩ := Prod.mk.inj h
      rw [hn, itoa_zero] at h1 h2
      exact ⟨[], rest, by simp, by rw [h1]; rfl, by rw [h2]; simp [flat], h3⟩
    · rw [if_neg hn] at h
      obtain ⟨l', rest', e1, e2, e3, e4⟩ := listF_some f _ _ _ l m h hm
      have hd : u.drop ((numQ u).2 + 1) = rest.drop 1 := by
        rw [h2]
        rw [h1]
        rw [List.drop_append, List.drop_eq_nil_of_le (by rw [← h1]; omega), List.nil_append, ← h1, show (itoa (numQ u).1).length + 1 - (itoa (numQ u).1).length = 1 by omega]
      rw [hd] at e2
      have hr : rest = 32 :: rest.drop 1 := by
        rcases h3 with rfl | ⟨r, rfl⟩
        · simp at e2
        · rfl
      refine ⟨(numQ u).1 :: l', rest', by rw [e1]; simp, ?_, ?_, e4⟩
      · exact (h1.trans (congrArg (itoa (numQ u).1 ++ ·) (hr.trans (congrArg (32 :: ·) e2)))).trans (by rw [flat_cons]; simp)
      · rw [e3, h2, flat_cons]
        simp
        omega
theorem listQ_full {l : List Int} {rest : List UInt8} (h : ∀ n ∈ l, n ≠ 0 ∧ -1073741824 ≤ n ∧ n ≤ 1073741824) (hr : EndQ rest) : listQ (flat l ++ 48 :: rest) = (l, (flat l).length + 1) := by
  unfold listQ
  rw [listF_full l _ [] 0 rest h (by have := flat_len' l; simp only [List.length_append, List.length_cons]; omega) hr]
  simp
theorem listQ_some {u : List UInt8} {l : List Int} {m : Nat} (h : listQ u = (l, m)) (hm : m ≠ 0) : ∃ rest, u = flat l ++ 48 :: rest ∧ m = (flat l).length + 1 ∧ EndQ rest := by
  obtain ⟨l', rest, h1, h2, h3, h4⟩ := listF_some _ _ _ _ _ _ h hm
  rw [List.nil_append] at h1
  subst h1
  exact ⟨rest, h2, by omega, h4⟩

/-! ### A line -/
def hintsQ (id : Int) (del : Bool) (lits : List Int) (u : List UInt8) : Option Stp :=
  if (listQ u).2 = 0 ∨ (listQ u).2 < u.length then none else if rightS ⟨del, id, lits, (listQ u).1⟩ then some ⟨del, id, lits, (listQ u).1⟩ else none
def delQ (u : List UInt8) : Prop := u.head? = some 100 ∧ u[1]? = some 32
instance (u : List UInt8) : Decidable (delQ u) := by unfold delQ; exact inferInstance
def restQ (id : Int) (u : List UInt8) : Option Stp :=
  if delQ u then hintsQ id true [] (u.drop 2)
  else if (listQ u).2 = 0 ∨ (listQ u).2 = u.length then none else hintsQ id false (listQ u).1 (u.drop ((listQ u).2 + 1))
/-- What the reference's Parse returns. -/
def parseQ (s : List UInt8) : Option Stp := if (numQ s).2 = 0 ∨ (numQ s).2 = s.length then none else restQ (numQ s).1 (s.drop ((numQ s).2 + 1))

theorem endQ_not {rest p : List UInt8} (h : EndQ rest) (hl : p.length ≠ (p ++ rest).length) : ∃ r, rest = 32 :: r := by
  rcases h with rfl | h
  · simp at hl
  · exact h
theorem drop_mid (p r : List UInt8) (c : UInt8) : (p ++ c :: r).drop (p.length + 1) = r := by
  rw [List.drop_append, List.drop_eq_nil_of_le (by omega), List.nil_append, show p.length + 1 - p.length = 1 by omega]
  rfl
theorem hintsQ_some {id : Int} {del : Bool} {lits : List Int} {u : List UInt8} {s : Stp} (h : hintsQ id del lits u = some s) : s.del = del ∧ s.id = id ∧ s.lits = lits ∧ rightS s = true ∧ u = flat s.hints ++ [48] := by
  unfold hintsQ at h
  by_cases hc : (listQ u).2 = 0 ∨ (listQ u).2 < u.length
  · rw [if_pos hc] at h; cases h
  rw [if_neg hc] at h
  cases hr : rightS ⟨del, id, lits, (listQ u).1⟩ with
  | false => rw [hr] at h; simp at h
  | true =>
    rw [hr, if_pos rfl] at h
    injection h with h
    subst h
    obtain ⟨rest, h1, h2, h3⟩ := listQ_some (u := u) (l := (listQ u).1) (m := (listQ u).2) rfl (fun e => hc (.inl e))
    refine ⟨rfl, rfl, rfl, hr, ?_⟩
    dsimp only
    rcases h3 with rfl | ⟨r, rfl⟩
    · exact h1
    · exfalso
      have := congrArg List.length h1
      simp only [List.length_append, List.length_cons] at this
      exact hc (.inr (by omega))
theorem hintsQ_full {s : Stp} (hr : rightS s = true) : hintsQ s.id s.del s.lits (flat s.hints ++ [48]) = some s := by
  obtain ⟨_, _, _, _, _, h5⟩ := right_parts hr
  have h := listQ_full (l := s.hints) (rest := []) (fun n hn => ⟨(h5 n hn).1, (h5 n hn).2.1, (h5 n hn).2.2.1⟩) (.inl rfl)
  unfold hintsQ
  rw [h]
  have hs : (⟨s.del, s.id, s.lits, s.hints⟩ : Stp) = s := by cases s; rfl
  simp only [hs]
  rw [if_neg (by simp), hr, if_pos rfl]
theorem line_flat (s : Stp) : lineS s = itoa s.id ++ 32 :: ((if s.del then [100, 32] else flat s.lits ++ 48 :: [32]) ++ (flat s.hints ++ [48])) := by
  have h := flat_sp s.hints
  unfold lineS
  cases hd : s.del with
  | true =>
    simp only [if_true, List.append_assoc]
    congr 1
    have : s.hints.flatMap sp ++ [32, 48] = (s.hints.flatMap sp ++ [32]) ++ [48] := by simp
    rw [this, ← h]
    simp
  | false =>
    have h2 := flat_sp s.lits
    simp only [Bool.false_eq_true, if_false, List.append_assoc]
    congr 1
    have e1 : s.hints.flatMap sp ++ [32, 48] = (s.hints.flatMap sp ++ [32]) ++ [48] := by simp
    have e2 : s.lits.flatMap sp ++ ([32, 48] ++ (s.hints.flatMap sp ++ [32, 48])) = (s.lits.flatMap sp ++ [32]) ++ (48 :: (s.hints.flatMap sp ++ [32, 48])) := by simp
    rw [e2, e1, ← h, ← h2]
    simp
theorem flat_head (l : List Int) (r : List UInt8) : (flat l ++ 48 :: r).head? ≠ some 100 := by
  cases l with
  | nil => simp [flat]
  | cons n l =>
    rw [flat_cons]
    intro h
    cases hd : itoa n with
    | nil => exact itoa_ne n hd
    | cons c t =>
      rw [hd] at h
      have h' : c = 100 := by simpa using h
      exact (itoa_free n).2.2.1 (by rw [hd, h']; simp)
theorem parseQ_iff (t : List UInt8) (s : Stp) : parseQ t = some s ↔ rightS s = true ∧ lineS s = t := by
  constructor
  · intro h
    unfold parseQ at h
    by_cases hc : (numQ t).2 = 0 ∨ (numQ t).2 = t.length
    · rw [if_pos hc] at h; cases h
    rw [if_neg hc] at h
    obtain ⟨rest, h1, h2, h3⟩ := numQ_some (s := t) (n := (numQ t).1) (k := (numQ t).2) rfl (fun e => hc (.inl e))
    generalize (numQ t).1 = id at *
    generalize (numQ t).2 = k at *
    subst h1
    subst h2
    obtain ⟨r, rfl⟩ := endQ_not h3 (fun e => hc (.inr e))
    rw [drop_mid] at h
    unfold restQ at h
    by_cases hd : delQ r
    · rw [if_pos hd] at h
      obtain ⟨e1, e2, e3, e4, e5⟩ := hintsQ_some h
      refine ⟨e4, ?_⟩
      have hr : r = [100, 32] ++ r.drop 2 := by
        obtain ⟨d1, d2⟩ := hd
        match r, d1, d2 with
        | [], d1, _ => simp at d1
        | [c], _, d2 => simp at d2
        | a :: b :: q, d1, d2 =>
          have : a = 100 := by simpa using d1
          have : b = 32 := by simpa using d2
          subst_vars
          rfl
      rw [line_flat, e1, e2, if_pos rfl, ← e5, ← hr]
    · rw [if_neg hd] at h
      by_cases hc2 : (listQ r).2 = 0 ∨ (listQ r).2 = r.length
      · rw [if_pos hc2] at h; cases h
      rw [if_neg hc2] at h
      obtain ⟨e1, e2, e3, e4, e5⟩ := hintsQ_some h
      obtain ⟨rest2, g1, g2, g3⟩ := listQ_some (u := r) (l := (listQ r).1) (m := (listQ r).2) rfl (fun e => hc2 (.inl e))
      refine ⟨e4, ?_⟩
      have hr2 : ∃ q, rest2 = 32 :: q := by
        rcases g3 with rfl | g3
        · exfalso
          have := congrArg List.length g1
          simp only [List.length_append, List.length_cons, List.length_nil] at this
          exact hc2 (.inr (by omega))
        · exact g3
      obtain ⟨q, rfl⟩ := hr2
      rw [g2] at e5
      have hq : r.drop ((flat (listQ r).1).length + 1 + 1) = q := by
        have : r = (flat (listQ r).1 ++ [48]) ++ 32 :: q := g1.trans (by simp)
        have h2 := drop_mid (flat (listQ r).1 ++ [48]) q 32
        rw [← this] at h2
        simpa using h2
      rw [hq] at e5
      rw [line_flat, e1, e2, if_neg (by simp), e3, ← e5]
      have : (flat (listQ r).1 ++ [48, 32] ++ q) = r := by
        rw [List.append_assoc]
        exact g1.symm
      rw [this]
  · rintro ⟨hr, rfl⟩
    obtain ⟨h1, h2, h3, ⟨_, h4⟩, _, h5⟩ := right_parts hr
    have hF := hintsQ_full hr
    rw [line_flat]
    unfold parseQ
    rw [numQ_itoa (n := s.id) (by omega) (by omega) (.inr ⟨_, rfl⟩)]
    simp only
    rw [if_neg (by
      have := itoa_ne s.id
      have h0 : (itoa s.id).length ≠ 0 := fun e => this (List.eq_nil_of_length_eq_zero e)
      simp only [List.length_append, List.length_cons]
      omega), drop_mid]
    unfold restQ
    cases hd : s.del with
    | true =>
      rw [if_pos rfl, if_pos (show delQ _ from ⟨rfl, rfl⟩)]
      rw [hd, h3 hd] at hF
      exact hF
    | false =>
      have hnd : ¬ delQ ((if false = true then [100, 32] else flat s.lits ++ 48 :: [32]) ++ (flat s.hints ++ [48])) := by
        rw [if_neg (by simp), List.append_assoc]
        exact fun h => flat_head s.lits _ h.1
      have hu : ((if false = true then [100, 32] else flat s.lits ++ 48 :: [32]) ++ (flat s.hints ++ [48])) = flat s.lits ++ 48 :: 32 :: (flat s.hints ++ [48]) := by
        rw [if_neg (by simp), List.append_assoc]
        rfl
      rw [hu] at hnd ⊢
      rw [if_neg hnd, listQ_full (l := s.lits) (fun n hn => ⟨(h4 n hn).1, by have := (h4 n hn).2.1; omega, by have := (h4 n hn).2.2; omega⟩) (.inr ⟨_, rfl⟩)]
      simp only
      rw [if_neg (by simp only [List.length_append, List.length_cons]; omega)]
      have hq : (flat s.lits ++ 48 :: 32 :: (flat s.hints ++ [48])).drop ((flat s.lits).length + 1 + 1) = flat s.hints ++ [48] := by
        have h2 := drop_mid (flat s.lits ++ [48]) (flat s.hints ++ [48]) 32
        simpa using h2
      rw [hq]
      rw [hd] at hF
      exact hF
theorem parse_same (t : List UInt8) : parseQ t = parseS t := by
  apply Option.ext
  intro s
  rw [parseQ_iff, parseS_iff]
end Go.Proofs.YteglgcfbmjlnkaaGreatDoor
