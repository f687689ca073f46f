/-
  The parser's methods name, number, enter, open, shut.
-/
import Derived.Test.YtehcpcpmcngnjaaDoorPrM
set_option linter.unusedVariables false
set_option linter.unusedSimpArgs false
namespace Go.Proofs.YtehcpcpmcngnjaaDoor
open Go.RowKit Go.PlainAid

set_option maxRecDepth 100000 in
set_option maxHeartbeats 1000000 in
theorem nameC (p : Nat) (E : Env) (T : TV) (Q : SV) (s : PSt) (w : World) (h : Hid (Ps w p E T Q s)) :
    Calls Tryd.prog 70 #[.pointer (some ⟨p, 0, none⟩)] w fun x w' => x = .returned (.string (str (nameP E s))) ∧ PP w p E T Q (nameS E s) w' := by
  have htok := h.out.tok
  have hB : nameB E s = (decide ((nextP E s).kind = 1) && !resvB (nextP E s).text) := rfl
  have hP : nameP E s = if nameB E s then (nextP E s).text else [] := rfl
  have hS : nameS E s = if nameB E s then stepP s else wrongP E s 300 := rfl
  have HN := Lib.hid (nextC p E T Q s w h)
  obtain ⟨⟨tk, tt, ta, tf⟩, ht⟩ : ∃ t, nextP E s = t := ⟨_, rfl⟩
  rw [ht] at HN htok hB hP
  dsimp only [nxV, tokV] at HN htok hB hP
  clear ht
  by_cases hk : tk = 1
  · have e1 : ((tk : Int) != 1) = false := by simp; omega
    have hkn : tk ≠ 0 := by omega
    cases hr : resvB tt with
    | true =>
      have E0 : nameB E s = false := by rw [hB, hr]; simp
      rw [E0] at hP hS
      have E1 : Hid (nameP E s = []) := hP
      have E2 : Hid (nameS E s = wrongP E s 300) := hS
      have HR := Lib.hid fun w (hv : Hid (Vars w)) => hr ▸ resvC tt w hv
      clear hB hP hS hr E0 htok
      go_enter Tryd.func70, Tryd.ntmps70
      go_wp2_with fail
      refine HN.out.mono ?_
      rintro x w1 ⟨rfl, hb⟩
      have HB1 : Hid (∀ o, Below w.heap.size w (w1.alloc o)) := fun o => balloc hb o
      have HP1 : Hid (∀ o, Ps (w1.alloc o) p E T Q s) := fun o => h.out.below (HB1.out o)
      clear hb
      go_wp2_with fail
      refine (HR.out _ (Lib.hid (HP1.out _).vr)).mono ?_
      rintro x w2 ⟨rfl, hb⟩
      have HP2 := Lib.hid ((HP1.out _).below hb)
      have HB2 := Lib.hid (bthen (HB1.out _) hb)
      clear hb
      go_wp2_with fail
      refine (wrongC p E T Q s 300 w2 HP2).mono ?_
      rintro x w3 ⟨⟨v, rfl⟩, hp⟩
      have HPP := Lib.hid (PP.after HB2.out hp)
      clear hp
      go_wp2_with fail
      go_ret
      rw [E1.out, E2.out]
      exact ⟨rfl, HPP.out⟩
    | false =>
      have E0 : nameB E s = true := by rw [hB, hr, hk]; rfl
      rw [E0] at hP hS
      have E1 : Hid (nameP E s = tt) := hP
      have E2 : Hid (nameS E s = { s with n := s.n + 1 }) := hS
      have HR := Lib.hid fun w (hv : Hid (Vars w)) => hr ▸ resvC tt w hv
      obtain ⟨t1, t2, _⟩ := htok (.inl hkn)
      have hT := h.out.ok.few
      have wn : IntKind.i64.wrap ((s.n : Int) + 1) = ((s.n + 1 : Nat) : Int) := by rw [IntKind.wrap_i64]; omega
      clear hB hP hS hr E0 htok
      go_enter Tryd.func70, Tryd.ntmps70
      go_wp2_with fail
      refine HN.out.mono ?_
      rintro x w1 ⟨rfl, hb⟩
      have HB1 : Hid (∀ o, Below w.heap.size w (w1.alloc o)) := fun o => balloc hb o
      have HP1 : Hid (∀ o, Ps (w1.alloc o) p E T Q s) := fun o => h.out.below (HB1.out o)
      clear hb
      go_wp2_with fail
      refine (HR.out _ (Lib.hid (HP1.out _).vr)).mono ?_
      rintro x w2 ⟨rfl, hb⟩
      have HP2 := Lib.hid ((HP1.out _).below hb)
      have HB2 := Lib.hid (bthen (HB1.out _) hb)
      clear hb
      obtain ⟨y0, y1, y2, y3, y4, y5, y6⟩ := HP2.out.cells
      have z2 := HP2.out.frozens 2
      go_wp2_with fail
      go_ret
      rw [E1.out, E2.out]
      exact ⟨rfl, PP.after HB2.out (HP2.out.setN (s.n + 1) t2)⟩
  · have e1 : ((tk : Int) != 1) = true := by simp; omega
    have E0 : nameB E s = false := by rw [hB]; simp [hk]
    rw [E0] at hP hS
    have E1 : Hid (nameP E s = []) := hP
    have E2 : Hid (nameS E s = wrongP E s 300) := hS
    clear hB hP hS E0 htok
    go_enter Tryd.func70, Tryd.ntmps70
    go_wp2_with fail
    refine HN.out.mono ?_
    rintro x w1 ⟨rfl, hb⟩
    have HB1 : Hid (∀ o, Below w.heap.size w (w1.alloc o)) := fun o => balloc hb o
    have HP1 : Hid (∀ o, Ps (w1.alloc o) p E T Q s) := fun o => h.out.below (HB1.out o)
    clear hb
    go_wp2_with fail
    refine (wrongC p E T Q s 300 _ (Lib.hid (HP1.out _))).mono ?_
    rintro x w3 ⟨⟨v, rfl⟩, hp⟩
    have HPP := Lib.hid (PP.after (HB1.out _) hp)
    clear hp
    go_wp2_with fail
    go_ret
    rw [E1.out, E2.out]
    exact ⟨rfl, HPP.out⟩
set_option maxRecDepth 100000 in
set_option maxHeartbeats 1000000 in
theorem numC (p : Nat) (E : Env) (T : TV) (Q : SV) (s : PSt) (w : World) (h : Hid (Ps w p E T Q s)) :
    Calls Tryd.prog 60 #[.pointer (some ⟨p, 0, none⟩)] w fun x w' => x = .returned (.int .i64 ((numP E s).1 : Int)) ∧ PP w p E T Q (numP E s).2 w' := by
  have htok := h.out.tok
  have hle := h.out.nextLe
  have hP : numP E s = if (nextP E s).kind = 2 then (if (valT (nextP E s).text).2 = 0 then ((valT (nextP E s).text).1, stepP s) else (0, wrongP E s 302)) else (0, wrongP E s 300) := rfl
  have HN := Lib.hid (nextC p E T Q s w h)
  obtain ⟨⟨tk, tt, ta, tf⟩, ht⟩ : ∃ t, nextP E s = t := ⟨_, rfl⟩
  rw [ht] at HN htok hP hle
  dsimp only [nxV, tokV] at HN htok hP hle
  clear ht
  by_cases hk : tk = 2
  · have e1 : ((tk : Int) != 2) = false := by simp; omega
    have hkn : tk ≠ 0 := by omega
    rw [if_pos hk] at hP
    obtain ⟨⟨n, er⟩, hv⟩ : ∃ q, valT tt = q := ⟨_, rfl⟩
    have HV : Hid (∀ w, Calls Tryd.prog 71 #[.string (str tt)] w fun e w' => e = .returned (.tuple #[.int .i64 (n : Int), .int .i64 (er : Int)]) ∧ w = w') := fun w => by
      have h1 := valueC (str tt) w (by rw [str_size]; have := hle.2.2; omega)
      rw [str_data, hv] at h1
      exact h1
    rw [hv] at hP
    dsimp only at hP
    clear hv
    by_cases her : er = 0
    · have e2 : ((er : Int) != 0) = false := by simp; omega
      rw [if_pos her] at hP
      have E1 : Hid (numP E s = (n, { s with n := s.n + 1 })) := hP
      obtain ⟨t1, t2, _⟩ := htok (.inl hkn)
      have hT := h.out.ok.few
      have wn : IntKind.i64.wrap ((s.n : Int) + 1) = ((s.n + 1 : Nat) : Int) := by rw [IntKind.wrap_i64]; omega
      clear hP htok hle
      go_enter Tryd.func60, Tryd.ntmps60
      go_wp2_with fail
      refine HN.out.mono ?_
      rintro x w1 ⟨rfl, hb⟩
      have HB1 : Hid (∀ o, Below w.heap.size w (w1.alloc o)) := fun o => balloc hb o
      have HP0 := Lib.hid (h.out.below hb)
      have HB0 := Lib.hid hb
      clear hb
      obtain ⟨y0, y1, y2, y3, y4, y5, y6⟩ := HP0.out.cells
      have z2 := HP0.out.frozens 2
      have hpl := HP0.out.lt
      go_wp2_with fail
      refine (HV.out _).mono ?_
      rintro x w2 ⟨rfl, rfl⟩
      go_wp2_with fail
      go_ret
      rw [E1.out]
      exact ⟨rfl, (PP.after HB0.out (HP0.out.setN (s.n + 1) t2)).then pokeB⟩
    · have e2 : ((er : Int) != 0) = true := by simp; omega
      rw [if_neg her] at hP
      have E1 : Hid (numP E s = (0, wrongP E s 302)) := hP
      clear hP htok hle
      go_enter Tryd.func60, Tryd.ntmps60
      go_wp2_with fail
      refine HN.out.mono ?_
      rintro x w1 ⟨rfl, hb⟩
      have HB1 : Hid (∀ o, Below w.heap.size w (w1.alloc o)) := fun o => balloc hb o
      have HP1 : Hid (∀ o, Ps (w1.alloc o) p E T Q s) := fun o => h.out.below (HB1.out o)
      clear hb
      go_wp2_with fail
      refine (HV.out _).mono ?_
      rintro x w2 ⟨rfl, rfl⟩
      go_wp2_with fail
      refine (wrongC p E T Q s 302 _ (Lib.hid (HP1.out _))).mono ?_
      rintro x w3 ⟨⟨v, rfl⟩, hp⟩
      have HPP := Lib.hid (PP.after (HB1.out _) hp)
      clear hp
      go_wp2_with fail
      go_ret
      rw [E1.out]
      exact ⟨rfl, HPP.out⟩
  · have e1 : ((tk : Int) != 2) = true := by simp; omega
    rw [if_neg hk] at hP
    have E1 : Hid (numP E s = (0, wrongP E s 300)) := hP
    clear hP htok hle
    go_enter Tryd.func60, Tryd.ntmps60
    go_wp2_with fail
    refine HN.out.mono ?_
    rintro x w1 ⟨rfl, hb⟩
    have HB1 : Hid (∀ o, Below w.heap.size w (w1.alloc o)) := fun o => balloc hb o
    have HP1 : Hid (∀ o, Ps (w1.alloc o) p E T Q s) := fun o => h.out.below (HB1.out o)
    clear hb
    go_wp2_with fail
    refine (wrongC p E T Q s 300 _ (Lib.hid (HP1.out _))).mono ?_
    rintro x w3 ⟨⟨v, rfl⟩, hp⟩
    have HPP := Lib.hid (PP.after (HB1.out _) hp)
    clear hp
    go_wp2_with fail
    go_ret
    rw [E1.out]
    exact ⟨rfl, HPP.out⟩
theorem numP_le (E : Env) (s : PSt) : (numP E s).1 ≤ 1000000000 := by
  unfold numP
  split
  · split
    · exact valT_le _
    · exact Nat.zero_le _
  · exact Nat.zero_le _
set_option maxRecDepth 100000 in
set_option maxHeartbeats 1000000 in
theorem enterC (p : Nat) (E : Env) (T : TV) (Q : SV) (s : PSt) (u : List UInt8) (w : World) (h : Hid (Ps w p E T Q s)) (hd : okP s = true) :
    Calls Tryd.prog 46 #[.pointer (some ⟨p, 0, none⟩), .string (str u)] w fun x w' => x = .returned (.bool (entB E s u)) ∧ PP w p E T Q (entS E s u) w' := by
  have hle := h.out.nextLe
  have htok := h.out.tok
  have hB : entB E s u = (decide ((nextP E s).text = u) && decide ((nextP E s).text ≠ [])) := rfl
  have hS : entS E s u = if entB E s u then (if 200 ≤ s.deep then wrongP E s 301 else deepP (stepP s) 1) else s := rfl
  have hbn := str_bne (nextP E s).text u
  have hbq := str_beq (nextP E s).text u
  have HN := Lib.hid (nextC p E T Q s w h)
  obtain ⟨⟨tk, tt, ta, tf⟩, ht⟩ : ∃ t, nextP E s = t := ⟨_, rfl⟩
  rw [ht] at HN hle htok hB hbn hbq
  dsimp only [nxV, tokV] at HN hle htok hB hbn hbq
  clear ht
  unfold okP at hd
  simp only [Bool.and_eq_true, decide_eq_true_eq] at hd
  by_cases hu : tt = u
  · have e2 : ((str tt).toList != (str u).toList) = false := by rw [hbn, decide_eq_true hu]; rfl
    have e3 : ((str tt).toList == (str u).toList) = true := by rw [hbq, decide_eq_true hu]
    by_cases h0 : tt = []
    · have e4 : (str tt).toList.isEmpty = true := by rw [toList_data, str_data, h0]; rfl
      have e5 : ((str tt).toList == []) = true := by rw [toList_data, str_data, h0]; rfl
      have E1 : Hid (entB E s u = false) := by show _ = _; rw [hB]; simp [h0]
      have E2 : Hid (entS E s u = s) := by show _ = _; rw [hS, E1.out]; rfl
      clear hB hS htok hbn hbq h0 hu
      go_enter Tryd.func46, Tryd.ntmps46
      go_wp2_with fail
      refine HN.out.mono ?_
      rintro x w1 ⟨rfl, hb⟩
      have HB1 := Lib.hid hb
      clear hb
      go_wp2_with fail
      go_ret
      rw [E1.out, E2.out]
      exact ⟨rfl, PP.below h.out (balloc HB1.out _)⟩
    · have e4 : (str tt).toList.isEmpty = false := by rw [toList_data, str_data]; simpa using h0
      have e5 : ((str tt).toList == []) = false := by rw [toList_data, str_data]; simpa using h0
      have E1 : Hid (entB E s u = true) := by show _ = _; rw [hB]; simp [h0, hu]; rw [← hu]; exact h0
      obtain ⟨t1, t2, _⟩ := htok (.inr h0)
      have hT := h.out.ok.few
      by_cases hdp : 200 ≤ s.deep
      · have e6 : decide ((200 : Int) ≤ s.deep) = true := by simpa using hdp
        have E2 : Hid (entS E s u = wrongP E s 301) := by show _ = _; rw [hS, E1.out, if_pos rfl, if_pos hdp]
        clear hB hS htok hbn hbq h0 hu
        go_enter Tryd.func46, Tryd.ntmps46
        go_wp2_with fail
        refine HN.out.mono ?_
        rintro x w1 ⟨rfl, hb⟩
        have HB1 : Hid (∀ o, Below w.heap.size w (w1.alloc o)) := fun o => balloc hb o
        have HP1 : Hid (∀ o, Ps (w1.alloc o) p E T Q s) := fun o => h.out.below (HB1.out o)
        have HP0 := Lib.hid (h.out.below hb)
        clear hb
        obtain ⟨y0, y1, y2, y3, y4, y5, y6⟩ := HP0.out.cells
        have hpl := HP0.out.lt
        go_wp2_with fail
        refine (wrongC p E T Q s 301 _ (Lib.hid (HP1.out _))).mono ?_
        rintro x w3 ⟨⟨v, rfl⟩, hp⟩
        have HPP := Lib.hid (PP.after (HB1.out _) hp)
        clear hp
        go_wp2_with fail
        go_ret
        rw [E1.out, E2.out]
        exact ⟨rfl, HPP.out⟩
      · have e6 : decide ((200 : Int) ≤ s.deep) = false := by simpa using hdp
        have E2 : Hid (entS E s u = { s with n := s.n + 1, deep := s.deep + 1 }) := by show _ = _; rw [hS, E1.out, if_pos rfl, if_neg hdp]; rfl
        have wn : IntKind.i64.wrap ((s.n : Int) + 1) = ((s.n + 1 : Nat) : Int) := by rw [IntKind.wrap_i64]; omega
        have wd : IntKind.i64.wrap (s.deep + 1) = s.deep + 1 := by rw [IntKind.wrap_i64]; omega
        clear hB hS htok hbn hbq h0 hu
        go_enter Tryd.func46, Tryd.ntmps46
        go_wp2_with fail
        refine HN.out.mono ?_
        rintro x w1 ⟨rfl, hb⟩
        have HP0 := Lib.hid (h.out.below hb)
        have HB0 := Lib.hid hb
        clear hb
        obtain ⟨y0, y1, y2, y3, y4, y5, y6⟩ := HP0.out.cells
        have z2 := HP0.out.frozens 2
        have z3 := HP0.out.frozens 3
        have hpl := HP0.out.lt
        go_wp2_with fail
        go_ret
        rw [E1.out, E2.out]
        have h1 := HP0.out.setN (s.n + 1) t2
        exact ⟨rfl, (PP.after HB0.out (h1.trans (h1.ps.setDeep (s.deep + 1)))).then pokeB⟩
  · have e2 : ((str tt).toList != (str u).toList) = true := by rw [hbn, decide_eq_false hu]; rfl
    have e3 : ((str tt).toList == (str u).toList) = false := by rw [hbq, decide_eq_false hu]
    have E1 : Hid (entB E s u = false) := by show _ = _; rw [hB]; simp [hu]
    have E2 : Hid (entS E s u = s) := by show _ = _; rw [hS, E1.out]; rfl
    clear hB hS htok hbn hbq hu
    go_enter Tryd.func46, Tryd.ntmps46
    go_wp2_with fail
    refine HN.out.mono ?_
    rintro x w1 ⟨rfl, hb⟩
    have HB1 := Lib.hid hb
    clear hb
    go_wp2_with fail
    go_ret
    rw [E1.out, E2.out]
    exact ⟨rfl, PP.below h.out (balloc HB1.out _)⟩
theorem wrongP_deep (E : Env) (s : PSt) (e : Nat) : (wrongP E s e).deep = s.deep := by unfold wrongP; split <;> rfl
theorem mustP_deep (E : Env) (s : PSt) (u : List UInt8) : (mustP E s u).deep = s.deep := by
  unfold mustP
  split
  · rfl
  · exact wrongP_deep _ _ _
set_option maxRecDepth 100000 in
set_option maxHeartbeats 1000000 in
theorem openC (p : Nat) (E : Env) (T : TV) (Q : SV) (s : PSt) (u : List UInt8) (w : World) (h : Hid (Ps w p E T Q s)) (hd : okP s = true) :
    Calls Tryd.prog 58 #[.pointer (some ⟨p, 0, none⟩), .string (str u)] w fun x w' => (∃ v, x = .returned v) ∧ PP w p E T Q (openP E s u) w' := by
  have hO : openP E s u = if entB E s u then entS E s u else deepP (wrongP E s 300) 1 := rfl
  have hS : entS E s u = if entB E s u then (if 200 ≤ s.deep then wrongP E s 301 else deepP (stepP s) 1) else s := rfl
  have HE := Lib.hid (enterC p E T Q s u w h hd)
  unfold okP at hd
  simp only [Bool.and_eq_true, decide_eq_true_eq] at hd
  cases hb : entB E s u with
  | true =>
    rw [hb] at hO HE
    rw [if_pos rfl] at hO
    rw [← hO] at HE
    clear hO hS hb
    go_enter Tryd.func58, Tryd.ntmps58
    go_wp2_with fail
    refine HE.out.mono ?_
    rintro x w1 ⟨rfl, hp⟩
    have HP := Lib.hid hp
    clear hp
    go_wp2_with fail
    go_end0
    exact ⟨⟨_, rfl⟩, HP.out⟩
  | false =>
    rw [hb] at hO hS HE
    rw [if_neg (by simp)] at hO hS
    rw [hS] at HE
    have HO := Lib.hid hO
    have wd : IntKind.i64.wrap (s.deep + 1) = s.deep + 1 := by rw [IntKind.wrap_i64]; omega
    clear hO hS hb
    go_enter Tryd.func58, Tryd.ntmps58
    go_wp2_with fail
    refine HE.out.mono ?_
    rintro x w1 ⟨rfl, hp⟩
    have HP := Lib.hid hp
    have HW := Lib.hid (wrongC p E T Q s 300 w1 (Lib.hid hp.ps))
    clear hp
    go_wp2_with fail
    refine HW.out.mono ?_
    rintro x w2 ⟨⟨v, rfl⟩, hp⟩
    have HP2 := Lib.hid (HP.out.trans hp)
    clear hp
    obtain ⟨y0, y1, y2, y3, y4, y5, y6⟩ := HP2.out.ps.cells
    rw [wrongP_deep] at y3
    have z3 := HP2.out.ps.frozens 3
    go_wp2_with fail
    go_end0
    rw [HO.out]
    refine ⟨⟨_, rfl⟩, HP2.out.trans ?_⟩
    have h1 := HP2.out.ps.setDeep (s.deep + 1)
    unfold deepP
    rw [wrongP_deep]
    exact h1
set_option maxRecDepth 100000 in
set_option maxHeartbeats 1000000 in
theorem shutC (p : Nat) (E : Env) (T : TV) (Q : SV) (s : PSt) (u : List UInt8) (w : World) (h : Hid (Ps w p E T Q s)) (hd : okP s = true) :
    Calls Tryd.prog 75 #[.pointer (some ⟨p, 0, none⟩), .string (str u)] w fun x w' => (∃ v, x = .returned v) ∧ PP w p E T Q (shutP E s u) w' := by
  unfold okP at hd
  simp only [Bool.and_eq_true, decide_eq_true_eq] at hd
  have wd : IntKind.i64.wrap (s.deep - 1) = s.deep - 1 := by rw [IntKind.wrap_i64]; omega
  have HM := Lib.hid (mustC p E T Q s u w h)
  go_enter Tryd.func75, Tryd.ntmps75
  go_wp2_with fail
  refine HM.out.mono ?_
  rintro x w1 ⟨⟨v, rfl⟩, hp⟩
  have HP := Lib.hid hp
  clear hp
  obtain ⟨y0, y1, y2, y3, y4, y5, y6⟩ := HP.out.ps.cells
  rw [mustP_deep] at y3
  have z3 := HP.out.ps.frozens 3
  go_wp2_with fail
  go_end0
  refine ⟨⟨_, rfl⟩, HP.out.trans ?_⟩
  have h1 := HP.out.ps.setDeep (s.deep - 1)
  unfold shutP deepP
  rw [mustP_deep]
  exact h1
end Go.Proofs.YtehcpcpmcngnjaaDoor
