/-
  The parser's small methods: wrong, is, must, name, number, enter, open, shut.
-/
import Derived.Test.YtehcpcpmcngnjaaDoorPrN
set_option linter.unusedVariables false
set_option linter.unusedSimpArgs false
namespace Go.Proofs.YtehcpcpmcngnjaaDoor
open Go.RowKit Go.PlainAid

/-- What a method leaves: the parser in another state, all else as it was. -/
structure PP (w : World) (p : Nat) (E : Env) (T : TV) (Q : SV) (s : PSt) (w' : World) : Prop where
  ps : Ps w' p E T Q s
  fr : Fr (fun k => k = p) w w'
section
variable {w w1 w' : World} {p : Nat} {E : Env} {T : TV} {Q : SV} {s s1 s' : PSt}
theorem PP.below (h : Ps w p E T Q s) (hb : Below w.heap.size w w') : PP w p E T Q s w' := ⟨h.below hb, Fr.of_below hb⟩
theorem PP.after (hb : Below w.heap.size w w1) (h : PP w1 p E T Q s w') : PP w p E T Q s w' := ⟨h.ps, (Fr.of_below hb).trans h.fr⟩
theorem PP.trans (h : PP w p E T Q s1 w1) (k : PP w1 p E T Q s w') : PP w p E T Q s w' := ⟨k.ps, h.fr.trans k.fr⟩
theorem PP.then (h : PP w p E T Q s w1) (hb : Below w1.heap.size w1 w') : PP w p E T Q s w' := ⟨h.ps.below hb, h.fr.trans (Fr.of_below hb)⟩
theorem Ps.setN (h : Ps w p E T Q s) (n : Nat) (hn : n ≤ T.n) : PP w p E T Q { s with n := n } (w.setCell ⟨p, 2, none⟩ (.int .i64 (n : Int))) := by
  have hf : Fr (fun k => k = p) w (w.setCell ⟨p, 2, none⟩ (.int .i64 (n : Int))) := (Fr.refl (fun k => k = p) w).setCell (p := ⟨p, 2, none⟩) (.inl rfl) _
  exact ⟨h.put hf (h.bk.put 2 _) hn, hf⟩
theorem Ps.setDeep (h : Ps w p E T Q s) (d : Int) : PP w p E T Q { s with deep := d } (w.setCell ⟨p, 3, none⟩ (.int .i64 d)) := by
  have hf : Fr (fun k => k = p) w (w.setCell ⟨p, 3, none⟩ (.int .i64 d)) := (Fr.refl (fun k => k = p) w).setCell (p := ⟨p, 3, none⟩) (.inl rfl) _
  exact ⟨h.put hf (h.bk.put 3 _) h.n, hf⟩
theorem Ps.setErr (h : Ps w p E T Q s) (a e : Nat) : PP w p E T Q { s with fail := a, e := e } ((w.setCell ⟨p, 5, none⟩ (.int .i64 (a : Int))).setCell ⟨p, 6, none⟩ (.int .i64 (e : Int))) := by
  have hf : Fr (fun k => k = p) w ((w.setCell ⟨p, 5, none⟩ (.int .i64 (a : Int))).setCell ⟨p, 6, none⟩ (.int .i64 (e : Int))) := ((Fr.refl (fun k => k = p) w).setCell (p := ⟨p, 5, none⟩) (.inl rfl) _).setCell (p := ⟨p, 6, none⟩) (.inl rfl) _
  exact ⟨h.put hf ((h.bk.put 5 _).put 6 _) h.n, hf⟩
theorem Ps.frozens (h : Ps w p E T Q s) (i : Nat) : w.frozen? ⟨p, i, none⟩ = false := h.bk.frozen i
/-- The token next, where there is one. -/
theorem Ps.tok (h : Ps w p E T Q s) (hk : (nextP E s).kind ≠ 0 ∨ (nextP E s).text ≠ []) : s.e = 0 ∧ s.n < T.n ∧ TkOk E.text (nextP E s) := by
  unfold nextP at hk ⊢
  by_cases he : s.e = 0
  · rw [if_neg (fun h => h he)] at hk ⊢
    cases ht : E.toks[s.n]? with
    | none => rw [ht] at hk; simp at hk
    | some t =>
      obtain ⟨h1, _⟩ := List.getElem?_eq_some_iff.1 ht
      exact ⟨he, by have := h.ok.len; omega, h.ok.tok _ _ ht⟩
  · rw [if_pos he] at hk
    simp at hk
theorem Ps.nextLe (h : Ps w p E T Q s) : (nextP E s).at' ≤ 65536 ∧ (nextP E s).kind ≤ 4 ∧ (nextP E s).text.length ≤ 65536 := by
  have hs := h.ok.small
  by_cases hk : (nextP E s).kind ≠ 0
  · obtain ⟨_, _, h3⟩ := h.tok (.inl hk)
    have h4 := h3.a
    have h5 := h3.f
    refine ⟨by omega, h3.k4, ?_⟩
    rw [h3.t]
    unfold cutB
    rw [List.length_take, List.length_drop]
    omega
  · have h0 : (nextP E s).text = [] := by
      by_cases ht : (nextP E s).text = []
      · exact ht
      · obtain ⟨_, _, h3⟩ := h.tok (.inr ht)
        have := h3.k1
        omega
    refine ⟨?_, by omega, by rw [h0]; exact Nat.zero_le _⟩
    unfold nextP at hk ⊢
    split
    · exact hs
    · rename_i he
      rw [if_neg he] at hk
      cases ht : E.toks[s.n]? with
      | none => exact hs
      | some t =>
        rw [ht] at hk
        have := (h.ok.tok _ _ ht).k1
        simp at hk
        omega
end
theorem pokeB {w : World} {o : Obj} : Below w.heap.size w (w.alloc o) := balloc (Below.refl _ _) _
set_option maxRecDepth 100000 in
set_option maxHeartbeats 1000000 in
theorem wrongC (p : Nat) (E : Env) (T : TV) (Q : SV) (s : PSt) (e : Nat) (w : World) (h : Hid (Ps w p E T Q s)) :
    Calls Tryd.prog 40 #[.pointer (some ⟨p, 0, none⟩), .int .i64 (e : Int)] w fun x w' => (∃ v, x = .returned v) ∧ PP w p E T Q (wrongP E s e) w' := by
  obtain ⟨y0, y1, y2, y3, y4, y5, y6⟩ := h.out.cells
  by_cases h0 : s.e = 0
  · have e1 : ((s.e : Int) == 0) = true := by simp; omega
    have E1 : Hid (wrongP E s e = { s with fail := (nextP E s).at', e := e }) := by show _ = _; unfold wrongP; rw [if_pos h0]
    obtain ⟨⟨tk, tt, ta, tf⟩, ht⟩ : ∃ t, nextP E s = t := ⟨_, rfl⟩
    have HN := Lib.hid (nextC p E T Q s w h)
    rw [ht] at HN E1
    dsimp only [nxV, tokV] at HN E1
    clear ht h0
    go_enter Tryd.func40, Tryd.ntmps40
    go_wp2_with fail
    refine HN.out.mono ?_
    rintro x w1 ⟨rfl, hb⟩
    have HP1 := Lib.hid (h.out.below hb)
    have HB1 := Lib.hid hb
    clear hb y0 y1 y2 y3 y4 y5 y6
    obtain ⟨y0, y1, y2, y3, y4, y5, y6⟩ := HP1.out.cells
    have z5 := HP1.out.frozens 5
    have z6 := HP1.out.frozens 6
    have hpl : p < w1.heap.size := HP1.out.lt
    go_wp2_with fail
    go_end0
    refine ⟨⟨_, rfl⟩, ?_⟩
    rw [E1.out]
    exact (PP.after HB1.out (HP1.out.setErr ta e)).then pokeB
  · have e1 : ((s.e : Int) == 0) = false := by simp; omega
    have E1 : Hid (wrongP E s e = s) := by show _ = _; unfold wrongP; rw [if_neg h0]
    clear h0
    go_enter Tryd.func40, Tryd.ntmps40
    go_wp2_with fail
    go_end0
    refine ⟨⟨_, rfl⟩, ?_⟩
    rw [E1.out]
    exact PP.below h.out (Below.refl _ _)
set_option maxRecDepth 100000 in
set_option maxHeartbeats 1000000 in
theorem isC (p : Nat) (E : Env) (T : TV) (Q : SV) (s : PSt) (u : List UInt8) (w : World) (h : Hid (Ps w p E T Q s)) :
    Calls Tryd.prog 55 #[.pointer (some ⟨p, 0, none⟩), .string (str u)] w fun x w' => x = .returned (.bool (isP E s u)) ∧ PP w p E T Q (isS E s u) w' := by
  have hle := h.out.nextLe
  have htok := h.out.tok
  have hIP : isP E s u = (decide ((nextP E s).kind ≠ 0) && decide ((nextP E s).text = u)) := rfl
  have hIS : isS E s u = if isP E s u then stepP s else s := rfl
  have hbn := str_bne (nextP E s).text u
  have hbq := str_beq (nextP E s).text u
  have HN := Lib.hid (nextC p E T Q s w h)
  obtain ⟨⟨tk, tt, ta, tf⟩, ht⟩ : ∃ t, nextP E s = t := ⟨_, rfl⟩
  rw [ht] at HN hle htok hIP hbn hbq
  dsimp only [nxV, tokV] at HN hle htok hIP hbn hbq
  clear ht
  by_cases hk : tk = 0
  · have e1 : ((tk : Int) == 0) = true := by simp; omega
    have E1 : Hid (isP E s u = false) := by show _ = _; rw [hIP]; simp [hk]
    have E2 : Hid (isS E s u = s) := by show _ = _; rw [hIS, E1.out]; rfl
    clear hIP hIS htok hbn hbq
    go_enter Tryd.func55, Tryd.ntmps55
    go_wp2_with fail
    refine HN.out.mono ?_
    rintro x w1 ⟨rfl, hb⟩
    have HB1 := Lib.hid hb
    clear hb
    go_wp2_with fail
    go_ret
    rw [E1.out, E2.out]
    exact ⟨rfl, PP.below h.out (balloc HB1.out _)⟩
  · have e1 : ((tk : Int) == 0) = false := by simp; omega
    by_cases hu : tt = u
    · have e2 : ((str tt).toList != (str u).toList) = false := by rw [hbn, decide_eq_true hu]; rfl
      have e3 : ((str tt).toList == (str u).toList) = true := by rw [hbq, decide_eq_true hu]
      have E1 : Hid (isP E s u = true) := by show _ = _; rw [hIP]; simp [hk, hu]
      have E2 : Hid (isS E s u = { s with n := s.n + 1 }) := by show _ = _; rw [hIS, E1.out]; rfl
      obtain ⟨t1, t2, _⟩ := htok (.inl hk)
      have hT := h.out.ok.few
      have wn : IntKind.i64.wrap ((s.n : Int) + 1) = ((s.n + 1 : Nat) : Int) := by rw [IntKind.wrap_i64]; omega
      clear hIP hIS hbn hbq
      go_enter Tryd.func55, Tryd.ntmps55
      go_wp2_with fail
      refine HN.out.mono ?_
      rintro x w1 ⟨rfl, hb⟩
      have HP1 := Lib.hid (h.out.below hb)
      have HB1 := Lib.hid hb
      clear hb
      obtain ⟨y0, y1, y2, y3, y4, y5, y6⟩ := HP1.out.cells
      have z2 := HP1.out.frozens 2
      have hpl : p < w1.heap.size := HP1.out.lt
      go_wp2_with fail
      go_ret
      rw [E1.out, E2.out]
      exact ⟨rfl, (PP.after HB1.out (HP1.out.setN (s.n + 1) t2)).then pokeB⟩
    · have e2 : ((str tt).toList != (str u).toList) = true := by rw [hbn, decide_eq_false hu]; rfl
      have e3 : ((str tt).toList == (str u).toList) = false := by rw [hbq, decide_eq_false hu]
      have E1 : Hid (isP E s u = false) := by show _ = _; rw [hIP]; simp [hu]
      have E2 : Hid (isS E s u = s) := by show _ = _; rw [hIS, E1.out]; rfl
      clear hIP hIS htok hbn hbq
      go_enter Tryd.func55, Tryd.ntmps55
      go_wp2_with fail
      refine HN.out.mono ?_
      rintro x w1 ⟨rfl, hb⟩
      have HB1 := Lib.hid hb
      clear hb
      go_wp2_with fail
      go_ret
      rw [E1.out, E2.out]
      exact ⟨rfl, PP.below h.out (balloc HB1.out _)⟩
set_option maxRecDepth 100000 in
set_option maxHeartbeats 1000000 in
theorem mustC (p : Nat) (E : Env) (T : TV) (Q : SV) (s : PSt) (u : List UInt8) (w : World) (h : Hid (Ps w p E T Q s)) :
    Calls Tryd.prog 47 #[.pointer (some ⟨p, 0, none⟩), .string (str u)] w fun x w' => (∃ v, x = .returned v) ∧ PP w p E T Q (mustP E s u) w' := by
  have hM : mustP E s u = if isP E s u then stepP s else wrongP E s 300 := rfl
  have hS : isS E s u = if isP E s u then stepP s else s := rfl
  have HI := Lib.hid (isC p E T Q s u w h)
  cases hb : isP E s u with
  | true =>
    rw [hb] at hM hS HI
    rw [if_pos rfl] at hM hS
    rw [hS, ← hM] at HI
    clear hM hS hb
    go_enter Tryd.func47, Tryd.ntmps47
    go_wp2_with fail
    refine HI.out.mono ?_
    rintro x w1 ⟨rfl, hp⟩
    have HP := Lib.hid hp
    clear hp
    go_wp2_with fail
    go_end0
    exact ⟨⟨_, rfl⟩, HP.out⟩
  | false =>
    rw [hb] at hM hS HI
    rw [if_neg (by simp)] at hM hS
    rw [hS] at HI
    have HM := Lib.hid hM
    clear hM hS hb
    go_enter Tryd.func47, Tryd.ntmps47
    go_wp2_with fail
    refine HI.out.mono ?_
    rintro x w1 ⟨rfl, hp⟩
    have HP := Lib.hid hp
    have HW := Lib.hid (wrongC p E T Q s 300 w1 (Lib.hid hp.ps))
    clear hp
    go_wp2_with fail
    refine HW.out.mono ?_
    rintro x w2 ⟨⟨v, rfl⟩, hp⟩
    have HP2 := Lib.hid (HP.out.trans hp)
    clear hp
    go_wp2_with fail
    go_end0
    rw [HM.out]
    exact ⟨⟨_, rfl⟩, HP2.out⟩
end Go.Proofs.YtehcpcpmcngnjaaDoor
