/-
  What the reference's small functions compute, as plain lists: numbers, literals, lines that are passed over, headers. No program in sight.
-/
import Derived.Test.YtkpcpclaadgnbaaGreatDoorLitP
import Derived.Test.YtkpcpclaadgnbaaGreatDoorDimP
set_option linter.unusedVariables false
set_option linter.unusedSimpArgs false
namespace Go.Proofs.YtkpcpclaadgnbaaGreatDoor
open Go.Lib

def digG : Nat → List UInt8 → Option Nat
  | acc, [] => some acc
  | acc, c :: r => if 48 ≤ c.toNat ∧ c.toNat ≤ 57 then digG (acc * 10 + (c.toNat - 48)) r else none
theorem digG_some : ∀ (l : List UInt8) (acc n : Nat), digG acc l = some n ↔ (∀ c ∈ l, DigB c) ∧ valD acc l = n
  | [], acc, n => by simp [digG, valD_nil]
  | c :: r, acc, n => by
    unfold digG
    split
    · rename_i h
      rw [digG_some r, valD_cons]
      constructor
      · rintro ⟨h1, h2⟩
        refine ⟨fun x hx => ?_, h2⟩
        rcases List.mem_cons.1 hx with rfl | hx
        · exact h
        · exact h1 x hx
      · rintro ⟨h1, h2⟩
        exact ⟨fun x hx => h1 x (List.mem_cons_of_mem _ hx), h2⟩
    · rename_i h
      constructor
      · intro h1; cases h1
      · rintro ⟨h1, _⟩
        exact absurd (h1 c (by simp)) h
theorem dec_len6 : ∀ (k u : Nat), u < 10 ^ (k + 1) → (decDigits u).length ≤ k + 1 := by
  intro k
  induction k with
  | zero => intro u h; rw [decDigits_small (by simpa using h)]; simp
  | succ k ih =>
    intro u h
    by_cases h0 : u < 10
    · rw [decDigits_small h0]; simp
    · rw [decDigits_big (by omega)]
      have := ih (u / 10) (by rw [Nat.pow_succ] at h; omega)
      simp
      exact this
def numG (s : List UInt8) : Int := if s.length < 1 ∨ 8 < s.length ∨ (s.head? = some 48 ∧ 1 < s.length) then -1 else match digG 0 s with
  | some n => (n : Int)
  | none => -1
theorem numG_iff (s : List UInt8) (v : Int) (h0 : 0 ≤ v) (h1 : v ≤ 1048576) : numG s = v ↔ itoa v = s := by
  constructor
  · intro h
    unfold numG at h
    split at h
    · omega
    · rename_i hc
      split at h
      · rename_i n hn
        obtain ⟨hd, hv⟩ := (digG_some s 0 n).1 hn
        have hof := decDigits_of s hd (fun e => hc (.inl (by rw [e]; simp))) (fun c r he hz => by
          cases r with
          | nil => rfl
          | cons d r' =>
            exfalso
            apply hc
            refine .inr (.inr ⟨?_, by rw [he]; simp⟩)
            rw [he]
            show some c = some 48
            rw [UInt8.toNat_inj.1 (show c.toNat = (48 : UInt8).toNat from hz)])
        rw [itoa_pos' h0, ← hof, hv]
        congr 1
        omega
      · omega
  · intro h
    have hs : s = decDigits v.toNat := by rw [← h, itoa_pos' h0]
    have hl := dec_len6 6 v.toNat (by omega)
    have hne := decDigits_ne v.toNat
    have hpos : (decDigits v.toNat).length ≠ 0 := fun h0 => hne (List.eq_nil_of_length_eq_zero h0)
    have h48 : (decDigits v.toNat).head? = some 48 → ¬ 1 < (decDigits v.toNat).length := by
      cases hd : decDigits v.toNat with
      | nil => exact absurd hd hne
      | cons c t =>
        intro h0
        have h0' : c = 48 := by simpa using h0
        have := (decDigits_head hd (by rw [h0']; rfl)).2
        rw [this]
        simp
    unfold numG
    rw [hs, if_neg (by
      rintro (h | h | ⟨h, h'⟩)
      · omega
      · omega
      · exact h48 h h'), (digG_some _ 0 v.toNat).2 ⟨decDigits_dig _, decDigits_val _⟩]
    dsimp only
    omega
def tailQ (s : List UInt8) : List UInt8 := if s.head? = some 45 then s.tail else s
def readQ (s : List UInt8) : Int := if (tailQ s).length < 1 ∨ 7 < (tailQ s).length ∨ (tailQ s).head? = some 48 then 0 else match digG 0 (tailQ s) with
  | none => 0
  | some n => if litB (n : Int) then (if s.head? = some 45 then -(n : Int) else (n : Int)) else 0
theorem dec_head (u : Nat) (h : 1 ≤ u) : (decDigits u).head? ≠ some 48 ∧ (decDigits u).head? ≠ some 45 := by
  cases hd : decDigits u with
  | nil => exact absurd hd (decDigits_ne _)
  | cons c t =>
    refine ⟨fun h0 => ?_, fun h0 => ?_⟩
    · have h0' : c = 48 := by simpa using h0
      have := (decDigits_head hd (by rw [h0']; rfl)).1
      omega
    · have h0' : c = 45 := by simpa using h0
      have := decDigits_dig u c (by rw [hd]; simp)
      rw [h0'] at this
      revert this
      decide
theorem readQ_some {s : List UInt8} {l : Int} (hl : litB l = true) (h : itoa l = s) : readQ s = l := by
  obtain ⟨h0, h1, h2⟩ := lit_parts hl
  have hlen := dec_len6 6 l.natAbs (by omega)
  have hpos : (decDigits l.natAbs).length ≠ 0 := fun h0 => decDigits_ne _ (List.eq_nil_of_length_eq_zero h0)
  have hh := dec_head l.natAbs (by omega)
  have hdig := (digG_some _ 0 l.natAbs).2 ⟨decDigits_dig _, decDigits_val _⟩
  have hlb : litB (l.natAbs : Int) = true := lit_mk (by omega) (by omega) (by omega)
  by_cases hn : l < 0
  · have hs : s = 45 :: decDigits l.natAbs := by rw [← h, itoa_neg' hn]
    have ht : tailQ s = decDigits l.natAbs := by rw [hs]; rfl
    unfold readQ
    rw [ht, if_neg (by
      rintro (h | h | h)
      · omega
      · omega
      · exact hh.1 h), hdig]
    dsimp only
    rw [if_pos hlb, if_pos (by rw [hs]; rfl)]
    omega
  · have hs : s = decDigits l.natAbs := by rw [← h, itoa_pos' (by omega)]; congr 1; omega
    have ht : tailQ s = decDigits l.natAbs := by
      unfold tailQ
      rw [hs, if_neg hh.2]
    unfold readQ
    rw [ht, if_neg (by
      rintro (h | h | h)
      · omega
      · omega
      · exact hh.1 h), hdig]
    dsimp only
    rw [if_pos hlb, if_neg (by rw [hs]; exact hh.2)]
    omega
theorem readQ_lit (s : List UInt8) : readQ s = (match litW s with | some l => l | none => 0) := by
  cases hw : litW s with
  | some l =>
    obtain ⟨h1, h2⟩ := (litW_iff _ _).1 hw
    exact readQ_some h1 h2
  | none =>
    show readQ s = 0
    refine Classical.byContradiction fun hne => ?_
    have hex : ∃ l, litB l = true ∧ itoa l = s := by
      unfold readQ at hne
      split at hne
      · exact absurd rfl hne
      · rename_i hc
        split at hne
        · exact absurd rfl hne
        · rename_i n hn
          split at hne
          · rename_i hlb
            obtain ⟨hd, hv⟩ := (digG_some _ 0 n).1 hn
            obtain ⟨p1, p2, p3⟩ := lit_parts hlb
            have hof := decDigits_of (tailQ s) hd (fun e => hc (.inl (by rw [e]; simp))) (fun c r he hz => by
              exfalso
              apply hc
              refine .inr (.inr ?_)
              rw [he]
              show some c = some 48
              rw [UInt8.toNat_inj.1 (show c.toNat = (48 : UInt8).toNat from hz)])
            rw [hv] at hof
            by_cases hs : s.head? = some 45
            · refine ⟨-(n : Int), lit_mk (by omega) (by omega) (by omega), ?_⟩
              rw [itoa_neg' (by omega), show (-(n : Int)).natAbs = n by omega, hof]
              unfold tailQ
              rw [if_pos hs]
              cases s with
              | nil => simp at hs
              | cons c r =>
                have : c = 45 := by simpa using hs
                rw [this]
                rfl
            · refine ⟨(n : Int), hlb, ?_⟩
              rw [itoa_pos' (by omega), show ((n : Int)).toNat = n by omega, hof]
              unfold tailQ
              rw [if_neg hs]
          · exact absurd rfl hne
    obtain ⟨l, h1, h2⟩ := hex
    rw [(litW_iff s l).2 ⟨h1, h2⟩] at hw
    cases hw
/-- A line that is passed over, as the reference says it. -/
theorem overD_c (s : List UInt8) (h : s[0]? = some 99 ∧ (s.length = 1 ∨ s[1]? = some 32)) : overD s = true := by
  obtain ⟨h0, h1⟩ := h
  match s, h0, h1 with
  | [c], h0, _ =>
    have : c = 99 := by simpa using h0
    rw [this]
    rfl
  | c :: d :: r, h0, h1 =>
    have : c = 99 := by simpa using h0
    have h2 : d = 32 := by
      rcases h1 with h1 | h1
      · simp at h1
      · simpa using h1
    rw [this, h2]
    unfold overD hasPrefix
    simp [List.isPrefixOf]
theorem overD_n (s : List UInt8) (h : ¬ (s[0]? = some 99 ∧ (s.length = 1 ∨ s[1]? = some 32))) : overD s = s.all (· == 32) := by
  have e2 : (s == [99]) = false := by
    cases hq : (s == [99]) with
    | false => rfl
    | true =>
      have : s = [99] := by simpa using hq
      exact absurd ⟨by rw [this]; rfl, .inl (by rw [this]; rfl)⟩ h
  have e3 : hasPrefix s [99, 32] = false := by
    cases hq : hasPrefix s [99, 32] with
    | false => rfl
    | true =>
      unfold hasPrefix at hq
      obtain ⟨r, hr⟩ := List.isPrefixOf_iff_prefix.1 hq
      exact absurd ⟨by rw [← hr]; rfl, .inr (by rw [← hr]; rfl)⟩ h
  unfold overD
  rw [e2, e3]
  simp
/-! ### headers -/
def pcnf : List UInt8 := [112, 32, 99, 110, 102, 32]
theorem hdS_pcnf (v n : Int) : hdS v n = pcnf ++ (itoa v ++ 32 :: itoa n) := by
  unfold hdS pcnf
  simp
theorem parseH_short {t : List UInt8} (h : t.length < 9 ∨ t.take 6 ≠ pcnf) : parseH t = none := by
  cases hp : parseH t with
  | none => rfl
  | some p =>
    obtain ⟨v, n⟩ := p
    obtain ⟨_, ht⟩ := (parseH_iff t v n).1 hp
    exfalso
    rw [hdS_pcnf] at ht
    rcases h with h | h
    · have h1 : (itoa v).length ≠ 0 := fun e => itoa_ne v (List.eq_nil_of_length_eq_zero e)
      have h2 : (itoa n).length ≠ 0 := fun e => itoa_ne n (List.eq_nil_of_length_eq_zero e)
      rw [← ht] at h
      unfold pcnf at h
      simp only [List.length_append, List.length_cons, List.length_nil] at h
      omega
    · exact h (by rw [← ht]; rfl)
theorem parseH_nosp {t : List UInt8} (h : (32 : UInt8) ∉ t.drop 6) : parseH t = none := by
  cases hp : parseH t with
  | none => rfl
  | some p =>
    obtain ⟨v, n⟩ := p
    obtain ⟨_, ht⟩ := (parseH_iff t v n).1 hp
    exfalso
    rw [hdS_pcnf] at ht
    apply h
    rw [← ht]
    show 32 ∈ itoa v ++ 32 :: itoa n
    simp
theorem parseH_parts {t a b : List UInt8} (ht : t = pcnf ++ (a ++ 32 :: b)) (ha : (32 : UInt8) ∉ a) : parseH t = if hdOk (numG a) (numG b) = true then some (numG a, numG b) else none := by
  by_cases hc : hdOk (numG a) (numG b) = true
  · rw [if_pos hc]
    obtain ⟨h1, h2, h3, h4⟩ := hdOk_parts hc
    refine (parseH_iff _ _ _).2 ⟨hc, ?_⟩
    rw [hdS_pcnf, (numG_iff a _ h1 h2).1 rfl, (numG_iff b _ h3 (by omega)).1 rfl, ht]
  · rw [if_neg hc]
    cases hp : parseH t with
    | none => rfl
    | some p =>
      obtain ⟨v, n⟩ := p
      obtain ⟨hok, hs⟩ := (parseH_iff t v n).1 hp
      obtain ⟨h1, h2, h3, h4⟩ := hdOk_parts hok
      exfalso
      rw [hdS_pcnf, ht] at hs
      have hs' := List.append_cancel_left hs
      have hsp : split (itoa v ++ 32 :: itoa n) [32] = split (a ++ 32 :: b) [32] := by rw [hs']
      rw [split_cons 32 _ _ (itoa_free v).1, split_cons 32 _ _ ha] at hsp
      have e1 : itoa v = a := (List.cons.inj hsp).1
      rw [e1] at hs'
      have e2 : itoa n = b := (List.cons.inj (List.append_cancel_left hs')).2
      apply hc
      rw [(numG_iff a v h1 h2).2 e1, (numG_iff b n h3 (by omega)).2 e2]
      exact hok
def headT (t : List UInt8) : Int × Int × Bool := match parseH t with
  | some (v, n) => (v, n, true)
  | none => (0, 0, false)
/-! ### pieces -/
/-- The first pieces of a split, and where the last one begins. -/
structure PcI (c : UInt8) (l : List UInt8) (fr i : Nat) (P : List (List UInt8)) : Prop where
  lo : fr ≤ i
  hi : i ≤ l.length
  eq : split l [c] = P ++ split (l.drop fr) [c]
  no : c ∉ (l.drop fr).take (i - fr)
theorem PcI.start (c : UInt8) (l : List UInt8) : PcI c l 0 0 [] := ⟨Nat.le_refl _, Nat.zero_le _, rfl, by simp⟩
theorem PcI.skip {c : UInt8} {l : List UInt8} {fr i : Nat} {P : List (List UInt8)} (h : PcI c l fr i P) {b : UInt8} (hb : l[i]? = some b) (hne : b ≠ c) : PcI c l fr (i + 1) P := by
  have hlt := (List.getElem?_eq_some_iff.1 hb).1
  have hlo := h.lo
  refine ⟨by omega, hlt, h.eq, ?_⟩
  rw [show i + 1 - fr = (i - fr) + 1 by omega, List.take_add_one, List.getElem?_drop, show fr + (i - fr) = i by omega, hb]
  intro hm
  rcases List.mem_append.1 hm with hm | hm
  · exact h.no hm
  · simp at hm
    exact hne hm.symm
theorem PcI.piece {c : UInt8} {l : List UInt8} {fr i : Nat} {P : List (List UInt8)} (h : PcI c l fr i P) (hb : l[i]? = some c) : PcI c l (i + 1) (i + 1) (P ++ [(l.drop fr).take (i - fr)]) := by
  have hlt := (List.getElem?_eq_some_iff.1 hb).1
  have hlo := h.lo
  refine ⟨Nat.le_refl _, hlt, ?_, by simp⟩
  have hd : l.drop fr = (l.drop fr).take (i - fr) ++ c :: l.drop (i + 1) := by
    have h1 : (l.drop fr).drop (i - fr) = c :: l.drop (i + 1) := by
      rw [List.drop_drop, show fr + (i - fr) = i by omega]
      obtain ⟨hk', he⟩ := List.getElem?_eq_some_iff.1 hb
      rw [← he, List.drop_eq_getElem_cons hk']
    rw [← h1, List.take_append_drop]
  rw [h.eq]
  conv => lhs; rw [hd]
  rw [split_cons c _ _ h.no, List.append_assoc]
  rfl
theorem PcI.last {c : UInt8} {l : List UInt8} {fr : Nat} {P : List (List UInt8)} (h : PcI c l fr l.length P) : split l [c] = P ++ [l.drop fr] := by
  have hn := h.no
  rw [List.take_of_length_le (by rw [List.length_drop]; exact Nat.le_refl _)] at hn
  rw [h.eq, split_none c _ hn]
theorem PcI.len {c : UInt8} {l : List UInt8} {fr i : Nat} {P : List (List UInt8)} (h : PcI c l fr i P) : P.length + (P.map List.length).sum ≤ l.length + 1 := by
  have h1 := split_sum c l
  rw [h.eq] at h1
  simp only [List.map_append, List.sum_append, List.length_append] at h1
  omega
end Go.Proofs.YtkpcpclaadgnbaaGreatDoor
