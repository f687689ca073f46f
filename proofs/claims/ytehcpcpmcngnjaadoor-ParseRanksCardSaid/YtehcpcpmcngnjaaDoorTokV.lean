/-
  The walks of package tokens: Text, Value, Parts.
-/
import Derived.Test.YtehcpcpmcngnjaaDoorTokN
import Derived.Test.YtehcpcpmcngnjaaDoorVars30
set_option linter.unusedVariables false
set_option linter.unusedSimpArgs false
namespace Go.Proofs.YtehcpcpmcngnjaaDoor
open Go.RowKit Go.PlainAid

theorem ret_str {a b : ByteArray} (h : a = b) : Ending.returned (.string a) = .returned (.string b) := by rw [h]
set_option maxRecDepth 100000 in
theorem textTC (t : List UInt8) (k a b : Nat) (w : World) (hab : a ≤ b) (hb : b ≤ t.length) (ht : t.length ≤ 100000000) :
    Calls Tryd.prog 52 #[.string (str t), tokV k a b] w fun e w' => e = .returned (.string (str (cutB t a b))) ∧ Below w.heap.size w w' := by
  have hsz := str_size t
  have e1 : decide ((a : Int) < 0) = false := by simp
  have e2 : decide ((b : Int) < (a : Int)) = false := by simp; omega
  have e3 : decide ((t.length : Int) < (b : Int)) = false := by simp; omega
  have hx : (str t).extract a b = str (cutB t a b) := ext_str (str t) a b
  have e3' : decide (((str t).size : Int) < (b : Int)) = false := by rw [hsz]; exact e3
  have hbi : (b : Int) ≤ ((str t).size : Int) := by omega
  have hbn : b ≤ (str t).size := by omega
  have habi : (a : Int) ≤ (b : Int) := by omega
  clear hsz e3
  unfold tokV
  go_enter Tryd.func52, Tryd.ntmps52
  go_wp2_with fail
  go_ret
  exact ⟨rfl, balloc (Below.refl _ _) _⟩
/-! ### Value -/
theorem digsT_all : ∀ (l : List UInt8) (k : Nat) (c : UInt8), digsT l = l.length → l[k]? = some c → digitB c = true
  | [], k, c, _, h => by simp at h
  | d :: r, k, c, hd, h => by
    unfold digsT at hd
    cases hb : digitB d with
    | false => rw [hb] at hd; simp at hd
    | true =>
      rw [hb, if_pos rfl] at hd
      cases k with
      | zero => simp at h; rw [← h]; exact hb
      | succ k => exact digsT_all r k c (by simpa using hd) (by simpa using h)
theorem valF_cons (n : Nat) (c : UInt8) (r : List UInt8) : valF n (c :: r) = if 1000000000 < 10 * n + (c.toNat - 48) then (0, 281) else valF (10 * n + (c.toNat - 48)) r := rfl
def valV (q : Nat × Nat) : Value := .tuple #[.int .i64 (q.1 : Int), .int .i64 (q.2 : Int)]
theorem ret_val {q q' : Nat × Nat} (h : q = q') : Ending.returned (.tuple #[.int .i64 (q.1 : Int), .int .i64 (q.2 : Int)]) = .returned (valV q') := by rw [h]; rfl
theorem valT_le (t : List UInt8) : (valT t).1 ≤ 1000000000 := by
  have : ∀ (l : List UInt8) (n : Nat), n ≤ 1000000000 → (valF n l).1 ≤ 1000000000 := by
    intro l
    induction l with
    | nil => intro n hn; exact hn
    | cons c r ih =>
      intro n hn
      rw [valF_cons]
      split
      · omega
      · exact ih _ (by omega)
  unfold valT
  split
  · exact Nat.zero_le _
  · exact this _ _ (by omega)
set_option maxRecDepth 100000 in
set_option maxHeartbeats 1000000 in
theorem valueC (s : ByteArray) (w : World) (hs : s.size ≤ 100000000) :
    Calls Tryd.prog 71 #[.string s] w fun e w' => e = .returned (valV (valT s.data.toList)) ∧ w = w' := by
  have hdl := data_len s
  by_cases h0 : s.data.toList = []
  · have e0 : s.toList.isEmpty = true := by rw [toList_data, h0]; rfl
    have E : Hid ((0, 280) = valT s.data.toList) := by show _ = _; unfold valT; rw [if_pos (.inl h0)]
    clear h0
    go_enter Tryd.func71, Tryd.ntmps71
    go_wp2_with fail
    go_ret2
    exact ⟨ret_val (q := (0, 280)) E.out, rfl⟩
  · have hne : ¬ s.toList = [] := by rw [toList_data]; exact h0
    have e0 : s.toList.isEmpty = false := by simpa using hne
    have e0' : (s.toList == []) = false := by simpa using hne
    have hle := dgAt_le (t := s.data.toList) (a := 0) (Nat.zero_le _)
    have hd0 : dgAt s.data.toList 0 = digsT s.data.toList := by unfold dgAt; rw [List.drop_zero, Nat.zero_add]
    rw [hd0, data_len] at hle
    obtain ⟨d, hd⟩ : ∃ d, digsT s.data.toList = d := ⟨_, rfl⟩
    have HG : Hid (∀ w, Calls Tryd.prog 66 #[.string s, .int .i64 0] w fun e w' => e = .returned (.int .i64 (d : Int)) ∧ w = w') := fun w => by
      have h1 := digitsC s 0 w (Nat.zero_le _) hs
      rw [hd0, hd] at h1
      exact h1
    rw [hd] at hle
    clear hd0
    by_cases hlt : d < s.size
    · have e1 : decide ((d : Int) < (s.size : Int)) = true := by simp; omega
      have E : Hid ((0, 280) = valT s.data.toList) := by show _ = _; unfold valT; rw [if_pos (.inr (by omega))]
      clear h0 hne hd hdl
      go_enter Tryd.func71, Tryd.ntmps71
      go_wp2_with fail
      refine (HG.out _).mono ?_
      rintro e w' ⟨rfl, rfl⟩
      go_wp2_with fail
      go_ret2
      exact ⟨ret_val (q := (0, 280)) E.out, rfl⟩
    · have e1 : decide ((d : Int) < (s.size : Int)) = false := by simp; omega
      have HA : Hid (∀ (k : Nat) (c : UInt8), s.data.toList[k]? = some c → digitB c = true) := fun k c hc => digsT_all _ k c (by omega) hc
      have E : Hid (valF 0 s.data.toList = valT s.data.toList) := by show _ = _; unfold valT; rw [if_neg (fun h => h.elim h0 (fun h => by omega))]
      clear h0 hne hd hdl
      go_enter Tryd.func71, Tryd.ntmps71
      go_wp2_with fail
      refine (HG.out _).mono ?_
      rintro e w' ⟨rfl, rfl⟩
      go_wp2_with fail
      go_loopw [4, 17] (fun v4 v17 wr => ∃ k n : Nat, v17 = .int .i64 k ∧ v4 = .int .i64 n ∧ k ≤ s.size ∧ n ≤ 1000000000 ∧ Hid (valF n (s.data.toList.drop k) = valT s.data.toList) ∧ w = wr) (fun _ v17 _ => s.size - (intOf v17).toNat)
      case atStart => exact ⟨0, 0, rfl, rfl, Nat.zero_le _, Nat.zero_le _, E, rfl⟩
      case round =>
        obtain ⟨k, n, rfl, rfl, hk, hn, HK, rfl⟩ := hrel
        clear E
        by_cases hlt : k < s.size
        · have e2 : decide ((k : Int) < (s.size : Int)) = true := by simp; omega
          have hki : (k : Int) < (s.size : Int) := by omega
          obtain ⟨c, hc, hbc⟩ := bt_get hlt
          have hg := get_bt s k hlt
          have hdc := HA.out k c hc
          have hK := HK.out
          rw [drop_at hc, valF_cons] at hK
          unfold digitB at hdc
          simp only [Bool.and_eq_true, decide_eq_true_eq] at hdc
          obtain ⟨d, hd⟩ : ∃ d, c.toNat - 48 = d := ⟨_, rfl⟩
          have w1 : IntKind.u8.wrap (bt s k - 48) = (d : Int) := by rw [hbc, IntKind.wrap_u8]; omega
          have w1' : IntKind.u8.wrap ((c.toNat : Int) - 48) = (d : Int) := by rw [IntKind.wrap_u8]; omega
          have w2 : IntKind.i64.wrap (d : Int) = (d : Int) := by rw [IntKind.wrap_i64]; omega
          have w3 : IntKind.i64.wrap (10 * (n : Int)) = 10 * (n : Int) := by rw [IntKind.wrap_i64]; omega
          have w4 : IntKind.i64.wrap (10 * (n : Int) + (d : Int)) = ((10 * n + d : Nat) : Int) := by rw [IntKind.wrap_i64]; omega
          rw [hd] at hK
          have hd9 : d ≤ 9 := by omega
          obtain ⟨m, hm⟩ : ∃ m, 10 * n + d = m := ⟨_, rfl⟩
          rw [hm] at hK w4
          have hm2 : m ≤ 100000000000 := by omega
          clear hc hdc hd hm
          by_cases hbig : 1000000000 < m
          · have e3 : decide ((1000000000 : Int) < (m : Int)) = true := by simp; omega
            rw [if_pos hbig] at hK
            have E2 : Hid ((0, 281) = valT s.data.toList) := hK
            clear hK
            go_wp2_with fail
            go_ret2
            exact ⟨ret_val (q := (0, 281)) E2.out, rfl⟩
          · have e3 : decide ((1000000000 : Int) < (m : Int)) = false := by simp; omega
            rw [if_neg hbig] at hK
            have HK2 := Lib.hid hK
            clear hK
            go_wp2_with fail
            go_roundw
            case rel => exact ⟨k + 1, m, by go_num, rfl, by omega, by omega, HK2, trivial⟩
            case measure => simp [intOf]; omega
        · have e2 : decide ((k : Int) < (s.size : Int)) = false := by simp; omega
          have hK := HK.out
          rw [List.drop_eq_nil_of_le (by rw [data_len]; omega)] at hK
          have E2 : Hid ((n, 0) = valT s.data.toList) := hK
          clear hK
          go_wp2_with fail
          go_ret2
          exact ⟨ret_val (q := (n, 0)) E2.out, rfl⟩
/-! ### Parts -/
def litV (q : Nat × Nat × Nat) : Value := .tuple #[.int .i64 (q.1 : Int), .int .i64 (q.2.1 : Int), .int .i64 (q.2.2 : Int)]
theorem ret_lit {q q' : Nat × Nat × Nat} (h : q = q') : Ending.returned (.tuple #[.int .i64 (q.1 : Int), .int .i64 (q.2.1 : Int), .int .i64 (q.2.2 : Int)]) = .returned (litV q') := by rw [h]; rfl
theorem valT_err (t : List UInt8) : (valT t).2 = 0 ∨ (valT t).2 = 280 ∨ (valT t).2 = 281 := by
  have : ∀ (l : List UInt8) (n : Nat), (valF n l).2 = 0 ∨ (valF n l).2 = 281 := by
    intro l
    induction l with
    | nil => intro n; exact .inl rfl
    | cons c r ih =>
      intro n
      rw [valF_cons]
      split
      · exact .inr rfl
      · exact ih _
  unfold valT
  split
  · exact .inr (.inl rfl)
  · rcases this t 0 with h | h
    · exact .inl h
    · exact .inr (.inr h)
theorem litT_le (t : List UInt8) : (litT t).1 ≤ 1000000000 ∧ (litT t).2.1 ≤ 1000000000 := by
  unfold litT
  split
  · exact ⟨Nat.zero_le _, Nat.zero_le _⟩
  · split
    · exact ⟨Nat.zero_le _, Nat.zero_le _⟩
    · exact ⟨valT_le _, valT_le _⟩
set_option maxRecDepth 100000 in
set_option maxHeartbeats 1000000 in
theorem partsC (s : ByteArray) (w : World) (hs : s.size ≤ 100000000) (hv : Hid (Vars w)) :
    Calls Tryd.prog 68 #[.string s] w fun e w' => e = .returned (litV (litT s.data.toList)) ∧ Below w.heap.size w w' := by
  have hdl := data_len s
  have hC := cutC s w hs hv
  have hlen := cut1_len 58 s.data.toList
  have hL : litT s.data.toList = if (cut1 58 s.data.toList).2.2 = false ∨ (valT (cut1 58 s.data.toList).1).2 = 280 ∨ (valT (cut1 58 s.data.toList).2.1).2 = 280 then (0, 0, 280)
    else if (valT (cut1 58 s.data.toList).1).2 ≠ 0 ∨ (valT (cut1 58 s.data.toList).2.1).2 ≠ 0 then (0, 0, 281)
    else ((valT (cut1 58 s.data.toList).1).1, (valT (cut1 58 s.data.toList).2.1).1, 0) := rfl
  obtain ⟨⟨p, q, t⟩, hq⟩ : ∃ q, cut1 58 s.data.toList = q := ⟨_, rfl⟩
  rw [hq] at hC hlen hL
  have hp1 := valueC (str p)
  have hq1 := valueC (str q)
  obtain ⟨⟨n, e⟩, he⟩ : ∃ r, valT p = r := ⟨_, rfl⟩
  obtain ⟨⟨m, f⟩, hf⟩ : ∃ r, valT q = r := ⟨_, rfl⟩
  have ee := valT_err p
  have fe := valT_err q
  have HP : Hid (∀ w, Calls Tryd.prog 71 #[.string (str p)] w fun e' w' => e' = .returned (.tuple #[.int .i64 (n : Int), .int .i64 (e : Int)]) ∧ w = w') := fun w => by
    have h1 := hp1 w (by rw [str_size]; have := hlen.1; dsimp only at this; omega)
    rw [str_data, he] at h1
    exact h1
  have HQ : Hid (∀ w, Calls Tryd.prog 71 #[.string (str q)] w fun e' w' => e' = .returned (.tuple #[.int .i64 (m : Int), .int .i64 (f : Int)]) ∧ w = w') := fun w => by
    have h1 := hq1 w (by rw [str_size]; have := hlen.2; dsimp only at this; omega)
    rw [str_data, hf] at h1
    exact h1
  rw [he] at ee
  rw [hf] at fe
  dsimp only at ee fe hC hL
  rw [he, hf] at hL
  have HC := Lib.hid hC
  have HL := Lib.hid hL
  clear hp1 hq1 he hf hq hlen hL hC hdl
  have pre : ∀ (Z : Nat × Nat × Nat), litT s.data.toList = Z → Hid (Z = litT s.data.toList) := fun Z h => h.symm
  cases t with
  | false =>
    have E := pre (0, 0, 280) (by rw [HL.out, if_pos (.inl rfl)])
    clear ee fe
    go_enter Tryd.func68, Tryd.ntmps68
    go_wp2_with fail
    refine HC.out.mono ?_
    rintro e w1 ⟨rfl, hb⟩
    have HB := Lib.hid hb
    clear hb
    go_wp2_with fail
    refine (HP.out _).mono ?_
    rintro e w' ⟨rfl, rfl⟩
    go_wp2_with fail
    refine (HQ.out _).mono ?_
    rintro e w' ⟨rfl, rfl⟩
    go_wp2_with fail
    go_ret3
    exact ⟨ret_lit (q := (0, 0, 280)) E.out, HB.out⟩
  | true =>
    by_cases h1 : e = 280
    · subst h1
      have E := pre (0, 0, 280) (by rw [HL.out, if_pos (.inr (.inl rfl))])
      clear ee fe
      go_enter Tryd.func68, Tryd.ntmps68
      go_wp2_with fail
      refine HC.out.mono ?_
      rintro e w1 ⟨rfl, hb⟩
      have HB := Lib.hid hb
      clear hb
      go_wp2_with fail
      refine (HP.out _).mono ?_
      rintro e w' ⟨rfl, rfl⟩
      go_wp2_with fail
      refine (HQ.out _).mono ?_
      rintro e w' ⟨rfl, rfl⟩
      go_wp2_with fail
      go_ret3
      exact ⟨ret_lit (q := (0, 0, 280)) E.out, HB.out⟩
    · have e1 : ((e : Int) == 280) = false := by simp; omega
      by_cases h2 : f = 280
      · subst h2
        have E := pre (0, 0, 280) (by rw [HL.out, if_pos (.inr (.inr rfl))])
        clear ee fe
        go_enter Tryd.func68, Tryd.ntmps68
        go_wp2_with fail
        refine HC.out.mono ?_
        rintro e w1 ⟨rfl, hb⟩
        have HB := Lib.hid hb
        clear hb
        go_wp2_with fail
        refine (HP.out _).mono ?_
        rintro e w' ⟨rfl, rfl⟩
        go_wp2_with fail
        refine (HQ.out _).mono ?_
        rintro e w' ⟨rfl, rfl⟩
        go_wp2_with fail
        go_ret3
        exact ⟨ret_lit (q := (0, 0, 280)) E.out, HB.out⟩
      · have e2 : ((f : Int) == 280) = false := by simp; omega
        by_cases h3 : e = 0
        · subst h3
          by_cases h4 : f = 0
          · subst h4
            have E := pre (n, m, 0) (by rw [HL.out, if_neg (by rintro (h | h | h) <;> cases h), if_neg (by rintro (h | h) <;> exact h rfl)])
            clear ee fe
            go_enter Tryd.func68, Tryd.ntmps68
            go_wp2_with fail
            refine HC.out.mono ?_
            rintro e w1 ⟨rfl, hb⟩
            have HB := Lib.hid hb
            clear hb
            go_wp2_with fail
            refine (HP.out _).mono ?_
            rintro e w' ⟨rfl, rfl⟩
            go_wp2_with fail
            refine (HQ.out _).mono ?_
            rintro e w' ⟨rfl, rfl⟩
            go_wp2_with fail
            go_ret3
            exact ⟨ret_lit (q := (n, m, 0)) E.out, HB.out⟩
          · have e4 : ((f : Int) != 0) = true := by simp; omega
            have e5 : ((f : Int) == 0) = false := by simp; omega
            have E := pre (0, 0, 281) (by rw [HL.out, if_neg (by rintro (h | h | h) <;> first | exact h2 h | cases h), if_pos (.inr h4)])
            clear ee fe
            go_enter Tryd.func68, Tryd.ntmps68
            go_wp2_with fail
            refine HC.out.mono ?_
            rintro e w1 ⟨rfl, hb⟩
            have HB := Lib.hid hb
            clear hb
            go_wp2_with fail
            refine (HP.out _).mono ?_
            rintro e w' ⟨rfl, rfl⟩
            go_wp2_with fail
            refine (HQ.out _).mono ?_
            rintro e w' ⟨rfl, rfl⟩
            go_wp2_with fail
            go_ret3
            exact ⟨ret_lit (q := (0, 0, 281)) E.out, HB.out⟩
        · have e4 : ((e : Int) != 0) = true := by simp; omega
          have e5 : ((e : Int) == 0) = false := by simp; omega
          have E := pre (0, 0, 281) (by rw [HL.out, if_neg (by rintro (h | h | h) <;> first | exact h1 h | exact h2 h | cases h), if_pos (.inl h3)])
          clear ee fe
          go_enter Tryd.func68, Tryd.ntmps68
          go_wp2_with fail
          refine HC.out.mono ?_
          rintro e w1 ⟨rfl, hb⟩
          have HB := Lib.hid hb
          clear hb
          go_wp2_with fail
          refine (HP.out _).mono ?_
          rintro e w' ⟨rfl, rfl⟩
          go_wp2_with fail
          refine (HQ.out _).mono ?_
          rintro e w' ⟨rfl, rfl⟩
          go_wp2_with fail
          go_ret3
          exact ⟨ret_lit (q := (0, 0, 281)) E.out, HB.out⟩
end Go.Proofs.YtehcpcpmcngnjaaDoor
