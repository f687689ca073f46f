/-
  Contract of dimacs.Read.
-/
import Derived.Test.YtkpcpclaadgnbaaGreatDoorRng6
import Derived.Deep.DeepCutAuto
import Derived.Deep.CutRange
set_option linter.unusedVariables false
set_option linter.unusedSimpArgs false
namespace Go.Proofs.YtkpcpclaadgnbaaGreatDoor
open Go.RowKit Go.Shelf
attribute [local go_sem] Oper.semAt_some

def ReadP (w : World) (R : Fm × Int × Int) (e : Ending) (w' : World) : Prop :=
  ∃ A n c Q, e = .returned (.tuple #[.agg #[.int .i64 R.1.vars, .slice A n c], .int .i64 R.2.1, .int .i64 R.2.2]) ∧ ClsAt w' A n Q ∧ clsOf Q = R.1.cls ∧ Below w.heap.size w w'
/-- Clauses that no store into a block of another type changes. -/
def ClsF (W : World) (A : Option Addr) (n : Nat) (Q : List (SV × List Int)) : Prop := ∀ (g : Nat) (t : TypeId) (cs : Array Value) (W2 : World), Bk W g t cs → t ≠ 55 → t ≠ 53 → Fr (fun k => k = g) W W2 → ClsAt W2 A n Q
def ReadPT (w : World) (R : Fm × Int × Int) (e : Ending) (w' : World) : Prop :=
  ∃ A n c Q, e = .returned (.tuple #[.agg #[.int .i64 R.1.vars, .slice A n c], .int .i64 R.2.1, .int .i64 R.2.2]) ∧ ClsAt w' A n Q ∧ clsOf Q = R.1.cls ∧ Below w.heap.size w w' ∧ ClsF w' A n Q
theorem cls_nil (w : World) : ClsAt w none 0 [] := ⟨Rd.nil, rfl, fun i p h => by simp at h, by omega⟩
/-- A row of strings from the beginning of a block. -/
def WdAt6 (W : World) (b : Nat) (L : List ByteArray) : Prop := b < W.heap.size ∧ ∀ (i : Nat) (x : ByteArray), L[i]? = some x → W.cell? ⟨b, i, none⟩ = some (.string x)
theorem WdAt6.below {W W' : World} {b : Nat} {L : List ByteArray} (h : WdAt6 W b L) (hb : Below W.heap.size W W') : WdAt6 W' b L := ⟨Nat.lt_of_lt_of_le h.1 hb.size, fun i x hx => (hb.cell (p := ⟨b, i, none⟩) h.1).trans (h.2 i x hx)⟩
theorem Bk.newAt6 (w : World) (t : TypeId) (cs : Array Value) (n : Nat) (h : w.heap.size = n) : Bk (w.alloc (.cells cs t)) n t cs := by
  subst h
  exact Bk.new w t cs
theorem readP_err {w w' : World} {R : Fm × Int × Int} {i e : Int} (h : (F0, i, e) = R) (hb : Below w.heap.size w w') : ReadPT w R (.returned (.tuple #[.agg #[.int .i64 0, .slice none 0 0], .int .i64 i, .int .i64 e])) w' := by
  subst h
  exact ⟨none, 0, 0, [], rfl, cls_nil _, rfl, hb, fun _ _ _ _ _ _ _ _ => cls_nil _⟩
theorem headD_step {i : Nat} {ls : List (List UInt8)} {l : List UInt8} (h : ls[i]? = some l) : headD i (ls.drop i) = if overD l then headD (i + 1) (ls.drop (i + 1)) else some (i, l, ls.drop (i + 1)) := by
  have hd : ls.drop i = l :: ls.drop (i + 1) := by
    obtain ⟨hk', he⟩ := List.getElem?_eq_some_iff.1 h
    rw [← he, List.drop_eq_getElem_cons hk']
  rw [hd]
  rfl
def Z2 : Array Value := #[.int .i64 0, .slice none 0 0]
theorem bk_put2 {w : World} {a : Nat} {t : TypeId} {z0 z1 v0 v1 : Value} (h : Bk w a t #[z0, z1]) : Bk ((w.setCell ⟨a, 0, none⟩ v0).setCell ⟨a, 1, none⟩ v1) a t #[v0, v1] := by
  have h1 := (h.put 0 v0).put 1 v1
  simp only [List.setIfInBounds_toArray, List.set_cons_succ, List.set_cons_zero] at h1
  exact h1
theorem fr_put2 {w : World} {a : Nat} {v0 v1 : Value} : Fr (fun k => k = a) w ((w.setCell ⟨a, 0, none⟩ v0).setCell ⟨a, 1, none⟩ v1) :=
  ((Fr.refl (fun k => k = a) w).setCell (p := ⟨a, 0, none⟩) (.inl rfl) v0).setCell (p := ⟨a, 1, none⟩) (.inl rfl) v1
theorem Vars.blocks {w W : World} (h : Vars w) (hs : w.heap.size ≤ W.heap.size) (hb : ∀ k, k < w.heap.size → W.heap[k]? = w.heap[k]?) : Vars W := by
  have h2 : Vars { w with heap := W.heap } := h.below ⟨rfl, rfl, rfl, hs, hb⟩
  exact ⟨h2.pow, h2.syn, h2.rng, h2.max⟩
theorem WSt.setBox {b B : Nat} {v : Int} {n : Nat} {st : Rs} {W : World} {g : Nat} {t : TypeId} {cs : Array Value} (h : WSt b B v n st W) (hg : Bk W g t cs) (h1 : t ≠ 53) (h2 : t ≠ 55) (h0 : g ≠ b ∧ g ≠ b + 1 ∧ g ≠ b + 3 ∧ g ≠ b + 4 ∧ g ≠ b + 5) (u : Value) : WSt b B v n st (W.setCell ⟨g, 0, none⟩ u) := by
  have hf : Fr (fun k => k = g) W (W.setCell ⟨g, 0, none⟩ u) := (Fr.refl (fun k => k = g) W).setCell (p := ⟨g, 0, none⟩) (.inl rfl) _
  have nt : ∀ {k : Nat} {e : TypeId} {ds : Array Value} {fr : Nat × Nat}, W.heap[k]? = some (.cells ds e fr) → t ≠ e → ¬ k = g := fun hk hne e => by
    subst e
    have h3 : W.heap[_]? = _ := hg
    rw [h3] at hk
    injection hk with hk
    injection hk with _ ht
    exact hne ht
  obtain ⟨g0, g1, g3, g4, g5⟩ := h0
  obtain ⟨a1, a2, a3, A, c, Q, B2, A2, c2, a4, a5, a6, a7, a8, a9, a10, a11⟩ := h
  refine ⟨a1.fr hf (fun e => g0 e.symm), a2.fr hf (fun e => g1 e.symm), a3.fr hf (fun e => g5 e.symm), A, c, Q, B2, A2, c2, a4.fr hf (fun e => g3 e.symm), own_fr a5 hf (fun k hk => ?_), a6, a7, Nat.le_trans a8 hf.size, fun p hp => (a9 p hp).fr hf (fun k ds fr _ hk => nt hk h1), a10.fr hf (fun e => g4 e.symm), own_fr a11 hf (fun k hk => ?_)⟩
  · obtain ⟨_, ds, hk2⟩ := own_typed a5 k hk
    exact nt hk2 h2
  · obtain ⟨_, ds, hk2⟩ := own_typed a11 k hk
    exact nt hk2 h1
theorem KpQ.set {S : Nat → Prop} {W : World} {g : Nat} {t : TypeId} {cs : Array Value} (h : Bk W g t cs) (ht : t ≠ 9) (hS : ¬ S g) (u : Value) : KpQ S W (W.setCell ⟨g, 0, none⟩ u) :=
  ⟨⟨by simp [World.setCell], fun k hk => Below.heap_setCell W ⟨g, 0, none⟩ u k (by rintro rfl; exact hS hk)⟩, Strs.set h ht _ _⟩
/-- The closure has been called, its error lies in the box. -/
theorem PM6.word {w U : World} {b : Nat} {v : Int} {n : Nat} {st st' : Rs} {W W5 : World} (hU : w.heap.size ≤ U.heap.size) (hb : b + 10 ≤ U.heap.size) (hwb : w.heap.size ≤ b) (h : PM6 w U b v n 0 0 st W) (k : WPost b U.heap.size v n st' W W5) (er : Int) :
    PM6 w U b v n er 0 st' (W5.setCell ⟨b + 2, 0, none⟩ (.int .i64 er)) ∧ KeepsOthers W (W5.setCell ⟨b + 2, 0, none⟩ (.int .i64 er)) ∧ KpQ (SR b) W (W5.setCell ⟨b + 2, 0, none⟩ (.int .i64 er)) := by
  have he5 : Bk W5 (b + 2) 31 #[.int .i64 0] := h.eb.fr k.fr (fun e => by unfold WCh at e; omega)
  have ha5 : Bk W5 (b + 7) 3 #[.int .i64 0] := h.ab.fr k.fr (fun e => by unfold WCh at e; omega)
  have hk1 : KpQ (SR b) W W5 := ⟨⟨k.fr.size, fun j hj => k.fr.block j (by have := h.kp.1.1; unfold SR at hj; omega) (fun e => by unfold WCh at e; unfold SR at hj; omega)⟩, k.strs⟩
  have hk2 : KpQ (SR b) W5 (W5.setCell ⟨b + 2, 0, none⟩ (.int .i64 er)) := KpQ.set he5 (by decide) (fun e => by unfold SR at e; omega) _
  have hb5 : Below w.heap.size w W5 := h.bel.trans (k.fr.below w.heap.size h.bel.size (fun j hj e => by unfold WCh at e; omega))
  exact ⟨⟨k.st.setBox he5 (by decide) (by decide) (by omega) _, he5.put 0 _, ha5.far (p := ⟨b + 2, 0, none⟩) (by show b + 7 ≠ b + 2; omega) _, h.kp.trans (hk1.trans hk2), hb5.setCell (p := ⟨b + 2, 0, none⟩) (by show w.heap.size ≤ b + 2; omega) _⟩, k.oth.trans (KeepsOthers.setCell _ _ _), hk1.trans hk2⟩
theorem PM6.place {w U : World} {b : Nat} {v : Int} {n : Nat} {st : Rs} {W : World} {er : Int} (hwb : w.heap.size ≤ b) (h : PM6 w U b v n er 0 st W) (a : Int) :
    PM6 w U b v n er a st (W.setCell ⟨b + 7, 0, none⟩ (.int .i64 a)) := by
  have hk2 : KpQ (SR b) W (W.setCell ⟨b + 7, 0, none⟩ (.int .i64 a)) := KpQ.set h.ab (by decide) (fun e => by unfold SR at e; omega) _
  exact ⟨h.ws.setBox h.ab (by decide) (by decide) (by omega) _, h.eb.far (p := ⟨b + 7, 0, none⟩) (by show b + 2 ≠ b + 7; omega) _, h.ab.put 0 _, h.kp.trans hk2, h.bel.setCell (p := ⟨b + 7, 0, none⟩) (by show w.heap.size ≤ b + 7; omega) _⟩
/-- What is read, at the end. -/
theorem WSt.out {b B : Nat} {v : Int} {n : Nat} {st : Rs} {W : World} (h : WSt b B v n st W) (hl : st.cls.length ≤ 262144) :
    ∃ A c Q, Bk W (b + 3) 24 #[.int .i64 v, .slice A st.cls.length c] ∧ clsOf Q = st.cls ∧ ∀ (F : Nat → Prop) (W' : World), Fr F W W' → (∀ k cs t, W.heap[k]? = some (.cells cs t (0, 0)) → (t = 55 ∨ t = 53) → ¬ F k) → (∀ k cs fr, W.heap[k]? = some (.cells cs 53 fr) → ¬ F k) → ClsAt W' A st.cls.length Q := by
  obtain ⟨a1, a2, a3, A, c, Q, B2, A2, c2, a4, a5, a6, a7, a8, a9, a10, a11⟩ := h
  refine ⟨A, c, Q, a4, a6, fun F W' hf hF hF' => ⟨Rd.of_own (own_fr a5 hf (fun k hk => ?_)), ?_, fun i p hp => ((a9 p (List.mem_of_getElem? hp)).fr hf (fun k cs fr _ hk => hF' k cs fr hk)).at', by omega⟩⟩
  · obtain ⟨_, cs, hk2⟩ := own_typed a5 k hk
    exact hF k cs _ hk2 (.inl rfl)
  · rw [← clsOf_len, a6]
theorem readP_ok {w W' : World} {R : Fm × Int × Int} {v : Int} {A : Option Addr} {n c : Nat} {Q : List (SV × List Int)} {C : List (List Int)} (h : (⟨v, C⟩, 0, 0) = R) (hc : ClsAt W' A n Q) (hq : clsOf Q = C) (hb : Below w.heap.size w W') (hF : ClsF W' A n Q) : ReadPT w R (.returned (.tuple #[.agg #[.int .i64 v, .slice A n c], .int .i64 0, .int .i64 0])) W' := by
  subst h
  exact ⟨A, n, c, Q, rfl, hc, hq, hb, hF⟩
theorem fr_putObj6 (W : World) (D : Nat) (o : Obj) : Fr (fun q => q = D) W (W.putObj D o) := by
  refine ⟨rfl, rfl, rfl, by simp [World.putObj], fun k _ hk => ?_⟩
  simp [World.putObj, Array.getElem?_setIfInBounds]
  omega
set_option maxRecDepth 100000 in
set_option maxHeartbeats 4000000 in
theorem readT6 (s : ByteArray) (w : World) (hv : Hid (Vars w)) (hs : s.size ≤ 20000000) (R : Fm × Int × Int) (hR : Hid (readD s.data.toList = R)) :
    Calls Tryz.prog 17 #[.string s] w (ReadPT w R) := by
  have HB0 : Hid (Below w.heap.size w (w.alloc (.cells Z2 24))) := balloc (Below.refl _ _) _
  have HR0 := Lib.hid (Bk.new w 24 Z2)
  refine (callsIn_wide (n := 6)).1 ?_
  refine callsIn_of_wp_marks Tryz.func17 rfl trivial ?_ rfl
  simp only [Tryz.ntmps17, List.size_toArray, List.length_cons, List.length_nil, Nat.reduceAdd, Nat.reduceSub, Array.replicate_succ, Array.replicate_zero, List.push_toArray, List.append_toArray, List.nil_append, List.cons_append]
  refine wpIn_wide.2 ?_
  by_cases hbig : 4194304 < s.size
  · have e1 : decide ((4194304 : Int) < (s.size : Int)) = true := by simp; omega
    have E : Hid ((F0, 0, 3) = R) := by
      have h1 := hR.out
      unfold readD at h1
      rw [if_pos (by rw [data_len]; exact hbig)] at h1
      exact h1
    clear hbig
    change Hid (Below w.heap.size w (w.alloc (.cells #[.int .i64 0, .slice none 0 0] 24))) at HB0
    change Hid (Bk (w.alloc (.cells #[.int .i64 0, .slice none 0 0] 24)) w.heap.size 24 #[.int .i64 0, .slice none 0 0]) at HR0
    go_upto_region 1 with fail
    generalize (w.alloc (.cells #[.int .i64 0, .slice none 0 0] 24)) = W0 at *
    obtain ⟨p, hp⟩ : ∃ p, w.heap.size = p := ⟨_, rfl⟩
    have hwp : w.heap.size ≤ p := by omega
    rw [hp] at HR0 ⊢
    clear hp
    have HF := Lib.hid (bk_put2 (v0 := .int .i64 0) (v1 := .slice none 0 0) HR0.out)
    have HFB := Lib.hid (HB0.out.trans ((fr_put2 (w := W0) (a := p) (v0 := .int .i64 0) (v1 := .slice none 0 0)).below w.heap.size HB0.out.size (fun k hk e => by omega)))
    obtain ⟨r0, r1⟩ := cells2 HR0.out
    have g0 := HR0.out.frozen 0
    have g1 := HR0.out.frozen 1
    go_wp2_with fail
    go_step3
    go_wp2_with fail
    repeat (first | go_values | go_skip | go_guarded | go_step | go_upon)
    rw [Exit.noGoto_ret]
    generalize ((W0.setCell ⟨p, 0, none⟩ (.int .i64 0)).setCell ⟨p, 1, none⟩ (.slice none 0 0)) = WF at HF HFB ⊢
    obtain ⟨y0, y1⟩ := cells2 HF.out
    exact ⟨.tuple #[.agg #[.int .i64 0, .slice none 0 0], .int .i64 0, .int .i64 3], by simp [results, Tryz.results17, go_sem, y0, y1], readP_err E.out HFB.out⟩
  · have e1 : decide ((4194304 : Int) < (s.size : Int)) = false := by simp; omega
    have E0 : Hid (readL (Lib.split s.data.toList [10]) = R) := by
      have h1 := hR.out
      unfold readD at h1
      rw [if_neg (by rw [data_len]; exact hbig)] at h1
      exact h1
    obtain ⟨Ws, hWs⟩ : ∃ Ws, pieces s 10 = Ws := ⟨_, rfl⟩
    have hsm := pieces_small6 s 10 hs
    have hpd := pieces_data s 10
    rw [hWs] at hsm hpd
    have hln := hsm.1
    have HSM := Lib.hid hsm.2
    have HWS := Lib.hid hWs
    obtain ⟨LL, hLL⟩ : ∃ LL, Lib.split s.data.toList [10] = LL := ⟨_, rfl⟩
    rw [hLL] at hpd E0
    have HPD : Hid (Ws.map (·.data.toList) = LL) := hpd
    have hlen : LL.length = Ws.length := by rw [← hpd, List.length_map]
    have HLEN := Lib.hid hlen
    clear hbig hsm hpd hWs hlen hLL
    change Hid (Below w.heap.size w (w.alloc (.cells #[.int .i64 0, .slice none 0 0] 24))) at HB0
    change Hid (Bk (w.alloc (.cells #[.int .i64 0, .slice none 0 0] 24)) w.heap.size 24 #[.int .i64 0, .slice none 0 0]) at HR0
    go_upto_region 1 with fail
    generalize (w.alloc (.cells #[.int .i64 0, .slice none 0 0] 24)) = W0 at *
    obtain ⟨p, hp⟩ : ∃ p, w.heap.size = p := ⟨_, rfl⟩
    have hwp : w.heap.size ≤ p := by omega
    have hwp2 : p ≤ w.heap.size := by omega
    rw [hp] at HR0 ⊢
    clear hp
    go_wp2_with fail
    go_step3
    go_wp2_with fail
    refine (splitC s 10 W0 (by omega) (Lib.hid (hv.out.below HB0.out))).mono ?_
    rintro e w1 ⟨rfl, rfl⟩
    rw [HWS.out]
    have HQ := Lib.hid (Bk.new W0 9 (Ws.map Value.string).toArray)
    have HBa : Hid (Below W0.heap.size W0 (W0.alloc (.cells (Ws.map Value.string).toArray 9))) := balloc (Below.refl _ _) _
    have hpq : p < W0.heap.size := HR0.out.lt
    obtain ⟨q, hq⟩ : ∃ q, W0.heap.size = q := ⟨_, rfl⟩
    rw [hq] at HQ hpq ⊢
    have HB1 := Lib.hid (bthen HB0.out HBa.out)
    have HR1 := Lib.hid (bkbel HR0.out HBa.out)
    generalize (W0.alloc (.cells (Ws.map Value.string).toArray 9)) = W1 at *
    clear hq HBa HB0 HR0
    have HW1 : Hid (WdAt6 W1 q Ws) := ⟨HQ.out.lt, fun i x hx => by rw [HQ.out.cell]; simp [hx]⟩
    have HV1 := Lib.hid (hv.out.below HB1.out)
    clear HQ
    go_upto_region 5 with fail
    go_loopw [6] (fun v6 wr => ∃ (k : Nat), k ≤ Ws.length ∧ v6 = .int .i64 k ∧ Hid (headD 0 LL = headD k (LL.drop k)) ∧ Hid (Below W1.heap.size W1 wr)) (fun v6 _ => Ws.length - (intOf v6).toNat)
    case atStart => exact ⟨0, Nat.zero_le _, rfl, rfl, Below.refl _ _⟩
    case round =>
      obtain ⟨k, hk, rfl, HG, HB⟩ := hrel
      have HBW := Lib.hid (bthen HB1.out HB.out)
      have HRW := Lib.hid (bkbel HR1.out HB.out)
      have HWW := Lib.hid (HW1.out.below HB.out)
      have HVW := Lib.hid (HV1.out.below HB.out)
      by_cases hlt : k < Ws.length
      · have e2 : decide ((k : Int) < (Ws.length : Int)) = true := by simp; omega
        have hki : (k : Int) < (Ws.length : Int) := by omega
        have hx : Ws[k]? = some (Ws[k]'hlt) := List.getElem?_eq_getElem _
        generalize Ws[k]'hlt = x at hx
        have c0 := HWW.out.2 k x hx
        have hxz := HSM.out x (List.mem_of_getElem? hx)
        have hlx : LL[k]? = some x.data.toList := by rw [← HPD.out, List.getElem?_map, hx]; rfl
        have hG2 := HG.out
        rw [headD_step hlx] at hG2
        have HX := Lib.hid hx
        clear hx hlx HG
        cases hov : overD x.data.toList with
        | true =>
          rw [hov, if_pos rfl] at hG2
          have HG3 := Lib.hid hG2
          clear hG2
          go_wp2_with fail
          refine (overDC x wr (by omega)).mono ?_
          rintro e w2 ⟨rfl, hb⟩
          rw [hov]
          have HB2 := Lib.hid (bthen HB.out hb)
          clear hb hov c0
          go_wp2_with fail
          go_roundw
          case rel => exact ⟨k + 1, by omega, by go_num, HG3, HB2⟩
          case measure => simp [intOf]; omega
        | false =>
          rw [hov, if_neg (by simp)] at hG2
          have HG3 := Lib.hid hG2
          clear hG2
          go_wp2_with fail
          refine (overDC x wr (by omega)).mono ?_
          rintro e w2 ⟨rfl, hb⟩
          rw [hov]
          have HB2 := Lib.hid (bthen HBW.out hb)
          have HR2 := Lib.hid (bkbel HRW.out hb)
          have HW2 := Lib.hid (HWW.out.below hb)
          have HV2 := Lib.hid (HVW.out.below hb)
          clear hb hov c0 HBW HRW HWW HVW HB HR1 HW1 HV1 HB1
          have c0 := HW2.out.2 k x HX.out
          have e3 : ((k : Int) == (Ws.length : Int)) = false := by simp; omega
          have hq2 := HW2.out.1
          go_upto_region 9 with fail
          cases hph : parseH x.data.toList with
          | none =>
            have HH : Hid (headP x.data.toList = (0, 0, 60)) := by show _ = _; unfold headP; rw [hph]
            have E : Hid ((F0, (k : Int) + 1, 60) = R) := by
              have h1 := E0.out
              unfold readL at h1
              rw [HG3.out] at h1
              dsimp only at h1
              rw [hph] at h1
              exact h1
            have wl : IntKind.i64.wrap ((k : Int) + 1) = (k : Int) + 1 := by rw [IntKind.wrap_i64]; omega
            clear hph
            go_wp2_with fail
            refine (parseHC x w2 hxz HV2).mono ?_
            rintro e w3 ⟨rfl, hb⟩
            rw [HH.out]
            have HB3 := Lib.hid (bthen HB2.out hb)
            have HR3 := Lib.hid (bkbel HR2.out hb)
            clear hb
            dsimp only
            have HBb : Hid (Below w3.heap.size w3 (((w3.alloc (.cells #[.int .i64 0] 3)).alloc (.cells #[.int .i64 0] 3)).alloc (.cells #[.int .i64 60] 31))) := balloc (balloc (balloc (Below.refl _ _) _) _) _
            have HE4 := Lib.hid (Bk.newAt6 ((w3.alloc (.cells #[.int .i64 0] 3)).alloc (.cells #[.int .i64 0] 3)) 31 #[.int .i64 60] (w3.heap.size + 1 + 1) (by simp))
            go_upto_region 10 with fail
            generalize (((w3.alloc (.cells #[.int .i64 0] 3)).alloc (.cells #[.int .i64 0] 3)).alloc (.cells #[.int .i64 60] 31)) = W4 at *
            obtain ⟨b, hbq⟩ : ∃ b, w3.heap.size = b := ⟨_, rfl⟩
            have hpb : p < b := by have := HR3.out.lt; omega
            rw [hbq] at HE4 ⊢
            have HB4 := Lib.hid (bthen HB3.out HBb.out)
            have HR4 := Lib.hid (bkbel HR3.out HBb.out)
            clear hbq HB3 HR3 HBb
            have HF := Lib.hid (bk_put2 (v0 := .int .i64 0) (v1 := .slice none 0 0) HR4.out)
            have HFB := Lib.hid (HB4.out.trans ((fr_put2 (w := W4) (a := p) (v0 := .int .i64 0) (v1 := .slice none 0 0)).below w.heap.size HB4.out.size (fun k hk e => by omega)))
            obtain ⟨r0, r1⟩ := cells2 HR4.out
            have g0 := HR4.out.frozen 0
            have g1 := HR4.out.frozen 1
            have z0 := HE4.out.cell 0
            go_upto_region 11 with fail
            go_region
            all_goals
              repeat (first | go_values | go_skip | go_guarded | go_step | go_upon)
              rw [Exit.noGoto_ret]
              generalize ((W4.setCell ⟨p, 0, none⟩ (.int .i64 0)).setCell ⟨p, 1, none⟩ (.slice none 0 0)) = WF at HF HFB ⊢
              obtain ⟨y0, y1⟩ := cells2 HF.out.drew
              exact ⟨.tuple #[.agg #[.int .i64 0, .slice none 0 0], .int .i64 ((k : Int) + 1), .int .i64 60], by simp [results, Tryz.results17, go_sem, y0, y1], readP_err E.out HFB.out.drew⟩
          | some vn =>
            obtain ⟨v, ni⟩ := vn
            have HH : Hid (headP x.data.toList = (v, ni, 0)) := by show _ = _; unfold headP; rw [hph]
            have hok := hdOk_parts ((parseH_iff _ _ _).1 hph).1
            have E : Hid (endD v ni.toNat Ws.length (runW v ni.toNat zRs (wordsD (LL.drop (k + 1)) (k + 1))) = R) := by
              have h1 := E0.out
              unfold readL at h1
              rw [HG3.out] at h1
              dsimp only at h1
              rw [hph] at h1
              dsimp only at h1
              rw [HLEN.out] at h1
              exact h1
            obtain ⟨n, hnn⟩ : ∃ n, ni.toNat = n := ⟨_, rfl⟩
            obtain rfl : ni = (n : Int) := by omega
            rw [hnn] at E
            have hn2 : n ≤ 262144 := by omega
            have HOK := Lib.hid hok
            clear hph hnn hok
            go_wp2_with fail
            refine (parseHC x w2 hxz HV2).mono ?_
            rintro e w3 ⟨rfl, hb⟩
            rw [HH.out]
            have HB3 := Lib.hid (bthen HB2.out hb)
            have HR3 := Lib.hid (bkbel HR2.out hb)
            have HW3 := Lib.hid (HW2.out.below hb)
            have HV3 := Lib.hid (HV2.out.below hb)
            clear hb c0 HB2 HR2 HW2 HV2 hq2
            dsimp only
            have hk0 : Bk ((((((((w3.alloc (.cells #[.int .i64 v] 3)).alloc (.cells #[.int .i64 n] 3)).alloc (.cells #[.int .i64 0] 31)).alloc (.cells #[.int .i64 v, .slice none 0 0] 24)).alloc (.cells #[.slice none 0 0] 55)).alloc (.cells #[.bool false] 4)).alloc (.cells #[.func (.func 51) #[] #[.pointer (some ⟨w3.heap.size, 0, none⟩), .pointer (some ⟨w3.heap.size + 1 + 1 + 1, 0, none⟩), .pointer (some ⟨w3.heap.size + 1, 0, none⟩), .pointer (some ⟨w3.heap.size + 1 + 1 + 1 + 1, 0, none⟩), .pointer (some ⟨w3.heap.size + 1 + 1 + 1 + 1 + 1, 0, none⟩)]] 98)).alloc (.cells #[.int .i64 0] 3)) w3.heap.size 3 #[.int .i64 v] := ((((((((Bk.newAt6 w3 _ _ w3.heap.size rfl).alloc _).alloc _).alloc _).alloc _).alloc _).alloc _).alloc _)
            have hk1 : Bk ((((((((w3.alloc (.cells #[.int .i64 v] 3)).alloc (.cells #[.int .i64 n] 3)).alloc (.cells #[.int .i64 0] 31)).alloc (.cells #[.int .i64 v, .slice none 0 0] 24)).alloc (.cells #[.slice none 0 0] 55)).alloc (.cells #[.bool false] 4)).alloc (.cells #[.func (.func 51) #[] #[.pointer (some ⟨w3.heap.size, 0, none⟩), .pointer (some ⟨w3.heap.size + 1 + 1 + 1, 0, none⟩), .pointer (some ⟨w3.heap.size + 1, 0, none⟩), .pointer (some ⟨w3.heap.size + 1 + 1 + 1 + 1, 0, none⟩), .pointer (some ⟨w3.heap.size + 1 + 1 + 1 + 1 + 1, 0, none⟩)]] 98)).alloc (.cells #[.int .i64 0] 3)) (w3.heap.size + 1) 3 #[.int .i64 n] := (((((((Bk.newAt6 (w3.alloc (.cells #[.int .i64 v] 3)) _ _ (w3.heap.size + 1) (by simp)).alloc _).alloc _).alloc _).alloc _).alloc _).alloc _)
            have hk2 : Bk ((((((((w3.alloc (.cells #[.int .i64 v] 3)).alloc (.cells #[.int .i64 n] 3)).alloc (.cells #[.int .i64 0] 31)).alloc (.cells #[.int .i64 v, .slice none 0 0] 24)).alloc (.cells #[.slice none 0 0] 55)).alloc (.cells #[.bool false] 4)).alloc (.cells #[.func (.func 51) #[] #[.pointer (some ⟨w3.heap.size, 0, none⟩), .pointer (some ⟨w3.heap.size + 1 + 1 + 1, 0, none⟩), .pointer (some ⟨w3.heap.size + 1, 0, none⟩), .pointer (some ⟨w3.heap.size + 1 + 1 + 1 + 1, 0, none⟩), .pointer (some ⟨w3.heap.size + 1 + 1 + 1 + 1 + 1, 0, none⟩)]] 98)).alloc (.cells #[.int .i64 0] 3)) (w3.heap.size + 2) 31 #[.int .i64 0] := ((((((Bk.newAt6 ((w3.alloc (.cells #[.int .i64 v] 3)).alloc (.cells #[.int .i64 n] 3)) _ _ (w3.heap.size + 2) (by simp)).alloc _).alloc _).alloc _).alloc _).alloc _)
            have hk3 : Bk ((((((((w3.alloc (.cells #[.int .i64 v] 3)).alloc (.cells #[.int .i64 n] 3)).alloc (.cells #[.int .i64 0] 31)).alloc (.cells #[.int .i64 v, .slice none 0 0] 24)).alloc (.cells #[.slice none 0 0] 55)).alloc (.cells #[.bool false] 4)).alloc (.cells #[.func (.func 51) #[] #[.pointer (some ⟨w3.heap.size, 0, none⟩), .pointer (some ⟨w3.heap.size + 1 + 1 + 1, 0, none⟩), .pointer (some ⟨w3.heap.size + 1, 0, none⟩), .pointer (some ⟨w3.heap.size + 1 + 1 + 1 + 1, 0, none⟩), .pointer (some ⟨w3.heap.size + 1 + 1 + 1 + 1 + 1, 0, none⟩)]] 98)).alloc (.cells #[.int .i64 0] 3)) (w3.heap.size + 3) 24 #[.int .i64 v, .slice none 0 0] := (((((Bk.newAt6 (((w3.alloc (.cells #[.int .i64 v] 3)).alloc (.cells #[.int .i64 n] 3)).alloc (.cells #[.int .i64 0] 31)) _ _ (w3.heap.size + 3) (by simp)).alloc _).alloc _).alloc _).alloc _)
            have hk4 : Bk ((((((((w3.alloc (.cells #[.int .i64 v] 3)).alloc (.cells #[.int .i64 n] 3)).alloc (.cells #[.int .i64 0] 31)).alloc (.cells #[.int .i64 v, .slice none 0 0] 24)).alloc (.cells #[.slice none 0 0] 55)).alloc (.cells #[.bool false] 4)).alloc (.cells #[.func (.func 51) #[] #[.pointer (some ⟨w3.heap.size, 0, none⟩), .pointer (some ⟨w3.heap.size + 1 + 1 + 1, 0, none⟩), .pointer (some ⟨w3.heap.size + 1, 0, none⟩), .pointer (some ⟨w3.heap.size + 1 + 1 + 1 + 1, 0, none⟩), .pointer (some ⟨w3.heap.size + 1 + 1 + 1 + 1 + 1, 0, none⟩)]] 98)).alloc (.cells #[.int .i64 0] 3)) (w3.heap.size + 4) 55 #[.slice none 0 0] := ((((Bk.newAt6 ((((w3.alloc (.cells #[.int .i64 v] 3)).alloc (.cells #[.int .i64 n] 3)).alloc (.cells #[.int .i64 0] 31)).alloc (.cells #[.int .i64 v, .slice none 0 0] 24)) _ _ (w3.heap.size + 4) (by simp)).alloc _).alloc _).alloc _)
            have hk5 : Bk ((((((((w3.alloc (.cells #[.int .i64 v] 3)).alloc (.cells #[.int .i64 n] 3)).alloc (.cells #[.int .i64 0] 31)).alloc (.cells #[.int .i64 v, .slice none 0 0] 24)).alloc (.cells #[.slice none 0 0] 55)).alloc (.cells #[.bool false] 4)).alloc (.cells #[.func (.func 51) #[] #[.pointer (some ⟨w3.heap.size, 0, none⟩), .pointer (some ⟨w3.heap.size + 1 + 1 + 1, 0, none⟩), .pointer (some ⟨w3.heap.size + 1, 0, none⟩), .pointer (some ⟨w3.heap.size + 1 + 1 + 1 + 1, 0, none⟩), .pointer (some ⟨w3.heap.size + 1 + 1 + 1 + 1 + 1, 0, none⟩)]] 98)).alloc (.cells #[.int .i64 0] 3)) (w3.heap.size + 5) 4 #[.bool false] := (((Bk.newAt6 (((((w3.alloc (.cells #[.int .i64 v] 3)).alloc (.cells #[.int .i64 n] 3)).alloc (.cells #[.int .i64 0] 31)).alloc (.cells #[.int .i64 v, .slice none 0 0] 24)).alloc (.cells #[.slice none 0 0] 55)) _ _ (w3.heap.size + 5) (by simp)).alloc _).alloc _)
            have hk6 : Bk ((((((((w3.alloc (.cells #[.int .i64 v] 3)).alloc (.cells #[.int .i64 n] 3)).alloc (.cells #[.int .i64 0] 31)).alloc (.cells #[.int .i64 v, .slice none 0 0] 24)).alloc (.cells #[.slice none 0 0] 55)).alloc (.cells #[.bool false] 4)).alloc (.cells #[.func (.func 51) #[] #[.pointer (some ⟨w3.heap.size, 0, none⟩), .pointer (some ⟨w3.heap.size + 1 + 1 + 1, 0, none⟩), .pointer (some ⟨w3.heap.size + 1, 0, none⟩), .pointer (some ⟨w3.heap.size + 1 + 1 + 1 + 1, 0, none⟩), .pointer (some ⟨w3.heap.size + 1 + 1 + 1 + 1 + 1, 0, none⟩)]] 98)).alloc (.cells #[.int .i64 0] 3)) (w3.heap.size + 6) 98 #[.func (.func 51) #[] #[.pointer (some ⟨w3.heap.size, 0, none⟩), .pointer (some ⟨w3.heap.size + 1 + 1 + 1, 0, none⟩), .pointer (some ⟨w3.heap.size + 1, 0, none⟩), .pointer (some ⟨w3.heap.size + 1 + 1 + 1 + 1, 0, none⟩), .pointer (some ⟨w3.heap.size + 1 + 1 + 1 + 1 + 1, 0, none⟩)]] := ((Bk.newAt6 ((((((w3.alloc (.cells #[.int .i64 v] 3)).alloc (.cells #[.int .i64 n] 3)).alloc (.cells #[.int .i64 0] 31)).alloc (.cells #[.int .i64 v, .slice none 0 0] 24)).alloc (.cells #[.slice none 0 0] 55)).alloc (.cells #[.bool false] 4)) _ _ (w3.heap.size + 6) (by simp)).alloc _)
            have hk7 : Bk ((((((((w3.alloc (.cells #[.int .i64 v] 3)).alloc (.cells #[.int .i64 n] 3)).alloc (.cells #[.int .i64 0] 31)).alloc (.cells #[.int .i64 v, .slice none 0 0] 24)).alloc (.cells #[.slice none 0 0] 55)).alloc (.cells #[.bool false] 4)).alloc (.cells #[.func (.func 51) #[] #[.pointer (some ⟨w3.heap.size, 0, none⟩), .pointer (some ⟨w3.heap.size + 1 + 1 + 1, 0, none⟩), .pointer (some ⟨w3.heap.size + 1, 0, none⟩), .pointer (some ⟨w3.heap.size + 1 + 1 + 1 + 1, 0, none⟩), .pointer (some ⟨w3.heap.size + 1 + 1 + 1 + 1 + 1, 0, none⟩)]] 98)).alloc (.cells #[.int .i64 0] 3)) (w3.heap.size + 7) 3 #[.int .i64 0] := (Bk.newAt6 (((((((w3.alloc (.cells #[.int .i64 v] 3)).alloc (.cells #[.int .i64 n] 3)).alloc (.cells #[.int .i64 0] 31)).alloc (.cells #[.int .i64 v, .slice none 0 0] 24)).alloc (.cells #[.slice none 0 0] 55)).alloc (.cells #[.bool false] 4)).alloc (.cells #[.func (.func 51) #[] #[.pointer (some ⟨w3.heap.size, 0, none⟩), .pointer (some ⟨w3.heap.size + 1 + 1 + 1, 0, none⟩), .pointer (some ⟨w3.heap.size + 1, 0, none⟩), .pointer (some ⟨w3.heap.size + 1 + 1 + 1 + 1, 0, none⟩), .pointer (some ⟨w3.heap.size + 1 + 1 + 1 + 1 + 1, 0, none⟩)]] 98)) _ _ (w3.heap.size + 7) (by simp))
            have HBb : Hid (Below w3.heap.size w3 ((((((((w3.alloc (.cells #[.int .i64 v] 3)).alloc (.cells #[.int .i64 n] 3)).alloc (.cells #[.int .i64 0] 31)).alloc (.cells #[.int .i64 v, .slice none 0 0] 24)).alloc (.cells #[.slice none 0 0] 55)).alloc (.cells #[.bool false] 4)).alloc (.cells #[.func (.func 51) #[] #[.pointer (some ⟨w3.heap.size, 0, none⟩), .pointer (some ⟨w3.heap.size + 1 + 1 + 1, 0, none⟩), .pointer (some ⟨w3.heap.size + 1, 0, none⟩), .pointer (some ⟨w3.heap.size + 1 + 1 + 1 + 1, 0, none⟩), .pointer (some ⟨w3.heap.size + 1 + 1 + 1 + 1 + 1, 0, none⟩)]] 98)).alloc (.cells #[.int .i64 0] 3))) := balloc (balloc (balloc (balloc (balloc (balloc (balloc (balloc (Below.refl _ _) _) _) _) _) _) _) _) _
            have hsz : ((((((((w3.alloc (.cells #[.int .i64 v] 3)).alloc (.cells #[.int .i64 n] 3)).alloc (.cells #[.int .i64 0] 31)).alloc (.cells #[.int .i64 v, .slice none 0 0] 24)).alloc (.cells #[.slice none 0 0] 55)).alloc (.cells #[.bool false] 4)).alloc (.cells #[.func (.func 51) #[] #[.pointer (some ⟨w3.heap.size, 0, none⟩), .pointer (some ⟨w3.heap.size + 1 + 1 + 1, 0, none⟩), .pointer (some ⟨w3.heap.size + 1, 0, none⟩), .pointer (some ⟨w3.heap.size + 1 + 1 + 1 + 1, 0, none⟩), .pointer (some ⟨w3.heap.size + 1 + 1 + 1 + 1 + 1, 0, none⟩)]] 98)).alloc (.cells #[.int .i64 0] 3)).heap.size = w3.heap.size + 8 := by simp
            go_upto_region 17 with fail
            generalize ((((((((w3.alloc (.cells #[.int .i64 v] 3)).alloc (.cells #[.int .i64 n] 3)).alloc (.cells #[.int .i64 0] 31)).alloc (.cells #[.int .i64 v, .slice none 0 0] 24)).alloc (.cells #[.slice none 0 0] 55)).alloc (.cells #[.bool false] 4)).alloc (.cells #[.func (.func 51) #[] #[.pointer (some ⟨w3.heap.size, 0, none⟩), .pointer (some ⟨w3.heap.size + 1 + 1 + 1, 0, none⟩), .pointer (some ⟨w3.heap.size + 1, 0, none⟩), .pointer (some ⟨w3.heap.size + 1 + 1 + 1 + 1, 0, none⟩), .pointer (some ⟨w3.heap.size + 1 + 1 + 1 + 1 + 1, 0, none⟩)]] 98)).alloc (.cells #[.int .i64 0] 3)) = W4 at *
            obtain ⟨b, hbq⟩ : ∃ b, w3.heap.size = b := ⟨_, rfl⟩
            have hpb : p < b := by have := HR3.out.lt; omega
            have hqb : q < b := by have := HW3.out.1; omega
            have hwb : w.heap.size ≤ b := by omega
            rw [hbq] at hk0 hk1 hk2 hk3 hk4 hk5 hk6 hk7 hsz ⊢
            simp only [Nat.add_assoc, Nat.reduceAdd] at hk6
            simp only [Nat.add_assoc, Nat.reduceAdd]
            have HB4 := Lib.hid (bthen HB3.out HBb.out)
            have HR4 := Lib.hid (bkbel HR3.out HBb.out)
            have HW4 := Lib.hid (HW3.out.below HBb.out)
            have HV4 := Lib.hid (HV3.out.below HBb.out)
            have HK0 := Lib.hid hk0
            have HK1 := Lib.hid hk1
            have HK2 := Lib.hid hk2
            have HK3 := Lib.hid hk3
            have HK4 := Lib.hid hk4
            have HK5 := Lib.hid hk5
            have HK6 := Lib.hid hk6
            have HK7 := Lib.hid hk7
            clear hbq HB3 HR3 HBb hk0 hk1 hk2 hk3 hk4 hk5 hk6 hk7 HW3 HV3
            have wl : IntKind.i64.wrap ((k : Int) + 1) = ((k + 1 : Nat) : Int) := by rw [IntKind.wrap_i64]; omega
            obtain ⟨k1, hk1⟩ : ∃ k1, k + 1 = k1 := ⟨_, rfl⟩
            rw [hk1] at wl E
            have hk1n : k1 ≤ Ws.length := by omega
            have HK1E := Lib.hid hk1
            clear hk1
            go_step3
            go_wp2_with fail
            have HBi : Hid (Below W4.heap.size W4 ((W4.alloc (.cells #[.slice (some ⟨q, 0, none⟩) Ws.length Ws.length] 47)).alloc (.cells #[.int .i64 k1] 3))) := balloc (balloc (Below.refl _ _) _) _
            have hi8 := (Bk.newAt6 W4 47 #[.slice (some ⟨q, 0, none⟩) Ws.length Ws.length] (b + 8) hsz).alloc (.cells #[.int .i64 k1] 3)
            have hi9 := Bk.newAt6 (W4.alloc (.cells #[.slice (some ⟨q, 0, none⟩) Ws.length Ws.length] 47)) 3 #[.int .i64 k1] (b + 9) (by simp; omega)
            have HSZ := Lib.hid hsz
            clear hsz
            refine (wordsMk _ _ _ _ _).mono ?_
            rintro e w8 ⟨rfl, rfl⟩
            rw [HSZ.out]
            have hu10 : ((W4.alloc (.cells #[.slice (some ⟨q, 0, none⟩) Ws.length Ws.length] 47)).alloc (.cells #[.int .i64 k1] 3)).heap.size = b + 10 := by simp; have := HSZ.out; omega
            have HI8 := Lib.hid hi8
            have HI9 := Lib.hid hi9
            clear hi8 hi9
            generalize ((W4.alloc (.cells #[.slice (some ⟨q, 0, none⟩) Ws.length Ws.length] 47)).alloc (.cells #[.int .i64 k1] 3)) = U at *
            have HBU := Lib.hid (bthen HB4.out HBi.out)
            have HRU := Lib.hid (bkbel HR4.out HBi.out)
            have HWU := Lib.hid (HW4.out.below HBi.out)
            have HKU0 := Lib.hid (bkbel HK0.out HBi.out)
            have HKU1 := Lib.hid (bkbel HK1.out HBi.out)
            have HKU2 := Lib.hid (bkbel HK2.out HBi.out)
            have HKU3 := Lib.hid (bkbel HK3.out HBi.out)
            have HKU4 := Lib.hid (bkbel HK4.out HBi.out)
            have HKU5 := Lib.hid (bkbel HK5.out HBi.out)
            have HKU6 := Lib.hid (bkbel HK6.out HBi.out)
            have HKU7 := Lib.hid (bkbel HK7.out HBi.out)
            clear HBi HB4 HR4 HW4 HV4 HK0 HK1 HK2 HK3 HK4 HK5 HK6 HK7 HSZ
            have HU10 := Lib.hid hu10
            clear hu10
            go_wp2_with fail
            obtain ⟨L, hL⟩ : ∃ L, wordsB (Ws.drop k1) k1 = L := ⟨_, rfl⟩
            have HL := Lib.hid hL
            have HLD : Hid (wordsD (LL.drop k1) k1 = L.map fun p => (p.1, p.2.data.toList)) := by
              show _ = _
              rw [← hL, wordsB_data, List.map_drop, HPD.out]
            have HLS : Hid (∀ p ∈ L, p.2.size ≤ 20000000) := by
              rw [← hL]
              exact wordsB_small (fun y hy => HSM.out y (List.mem_of_mem_drop hy)) k1
            clear hL
            have hbU : b + 10 ≤ U.heap.size := by have := HU10.out; omega
            have hwU : w.heap.size ≤ U.heap.size := by omega
            have hVars : ∀ W, KpQ (SR b) U W → Vars W := fun W hk => hv.out.blocks (Nat.le_trans hwU hk.1.1) (fun j hj => (hk.1.2 j (.inl (by omega))).trans (HBU.out.block j hj))
            have HVARS := Lib.hid hVars
            clear hVars
            refine (wpIn_wide (n := 6)).1 ?_
            refine range_words (L := L) 2 6 (b + 9) (b + 8) q k1 b Ws Ws.length v n w U HL.out rfl (by omega) hbU ?hIt (by omega) HSM.out hk1n hwU ?hI0 ?hassign ?hbody ?hdone ?hstop
            case hIt =>
              intro W hk
              refine ⟨(HI8.out.kpq hk (.inr (.inr (.inl rfl)))).cell 0, (HI9.out.kpq hk (.inr (.inr (.inr rfl)))).cell 0, fun i y hy => ?_, HVARS.out W hk⟩
              exact (World.cell?_of_block (a := ⟨q, i, none⟩) (hk.1.2 q (.inl (by omega)))).trans (HWU.out.2 i y hy)
            case hI0 =>
              exact ⟨⟨HKU0.out, HKU1.out, HKU5.out, none, 0, [], U.heap.size, none, 0, HKU3.out, World.ownsRow_nil _ _ _ _, rfl, Nat.le_refl _, Nat.le_refl _, fun p hp => (by cases hp), HKU4.out, World.ownsRow_nil _ _ _ _⟩, HKU2.out, HKU7.out, KpQ.refl _ _, HBU.out⟩
            case hassign =>
              intro l i y W K hK
              go_frame
              unfold rFr6 at hK
              simp only [List.setIfInBounds_toArray, List.set_cons_succ, List.set_cons_zero] at hK
              gi_wp2
              exact hK
            case hbody =>
              intro l pre y W hi hlt2
              obtain ⟨hpm, hon⟩ := hi
              have HPM := Lib.hid hpm
              have HON := Lib.hid hon
              have HOK2 := Lib.hid (onR_ok hon)
              have hys := HLS.out y.1 y.2
              have HS := Lib.hid hpm.ws
              have HVW := Lib.hid (HVARS.out W hpm.kp)
              have hUW := hpm.kp.1.1
              have k6 := (HKU6.out.kpq hpm.kp (.inr (.inl rfl))).cell 0
              have HWORD := Lib.hid (wordC b U.heap.size v n _ (stR v n pre) y.1.2 W (by omega) HVW HS hbU hUW HOK2 hn2)
              clear hpm hon
              obtain ⟨⟨er, st'⟩, hst⟩ : ∃ z, stepW v n (stR v n pre) y.1.2.data.toList = z := ⟨_, rfl⟩
              rw [hst] at HWORD
              have HST := Lib.hid hst
              clear hst
              dsimp only at HWORD
              unfold rFr6
              simp only [List.setIfInBounds_toArray, List.set_cons_succ, List.set_cons_zero]
              by_cases her : er = 0
              · subst her
                have e9 : ((0 : Int) != 0) = false := rfl
                have hsn := onR_snoc HON.out (x := y) (by rw [HST.out])
                rw [HST.out] at hsn
                have HSN := Lib.hid hsn
                clear hsn
                gi_wp2_with (refine ⟨trivial, ?_⟩; gi_at_call 51; refine (CallsIn.inRound l (callsIn_wide.2 HWORD.out)).mono ?_; rintro e w5 ⟨rfl, hpost⟩; have he5 := HPM.out.eb.fr hpost.fr (fun e => by unfold WCh at e; omega); have m0 := he5.cell 0; have mf := he5.frozen 0; have hpw := HPM.out.word hwU hbU hwb hpost 0; have HPW := Lib.hid hpw; clear hpost hpw he5)
                obtain ⟨p1, p2, p3⟩ := HPW.out
                refine ⟨p2.from _, p3, ?_, HSN.out.1⟩
                rw [HSN.out.2]
                exact p1
              · have e9 : (er != 0) = true := by simpa using her
                have HER := Lib.hid her
                clear her
                gi_wp2_with (refine ⟨trivial, ?_⟩; gi_at_call 51; refine (CallsIn.inRound l (callsIn_wide.2 HWORD.out)).mono ?_; rintro e w5 ⟨rfl, hpost⟩; have he5 := HPM.out.eb.fr hpost.fr (fun e => by unfold WCh at e; omega); have ha5 := HPM.out.ab.fr hpost.fr (fun e => by unfold WCh at e; omega); have m0 := he5.cell 0; have mf := he5.frozen 0; have ha6 := ha5.far (p := ⟨b + 2, 0, none⟩) (by show b + 7 ≠ b + 2; omega) (.int .i64 er); have m7 := ha6.cell 0; have mg := ha6.frozen 0; have hpw := HPM.out.word hwU hbU hwb hpost er; have HPW := Lib.hid hpw; clear hpost hpw he5 ha5 ha6)
                obtain ⟨p1, p2, p3⟩ := HPW.out
                refine ⟨(p2.trans (KeepsOthers.setCell _ _ _)).from _, rfl, pre, y, rfl, HON.out, by rw [HST.out]; exact HER.out, st', ?_⟩
                rw [HST.out]
                exact p1.place hwb _
            case hdone =>
              intro D xs W hD hall hi hK
              obtain ⟨hpm, hon⟩ := hi
              have hrd := run_done (v := v) (n := n) hall
              have hEE := E.out
              rw [HLD.out, hrd] at hEE
              have hsto := onR_ok hon
              obtain ⟨st, hst⟩ : ∃ st, stR v n xs = st := ⟨_, rfl⟩
              rw [hst] at hpm hsto
              have hEN : (if st.begun = true ∨ st.cls.length < n then (F0, (Ws.length : Int) + 1, 63) else ((⟨v, st.cls⟩ : Fm), (0 : Int), (0 : Int))) = R := by
                rw [← hEE]
                unfold endD
                rw [if_neg (show ¬ (runW v n zRs (wd xs)).2.1 ≠ 0 from fun h => h hon)]
                rw [show (runW v n zRs (wd xs)).2.2 = st from hst]
              have HEN := Lib.hid hEN
              have HM := Lib.hid hpm
              have HD := Lib.hid hK
              have hcl9 : st.cls.length ≤ 262144 := Nat.le_trans hsto.few hn2
              have hRW := HRU.out.kpq hpm.kp (.inl (by omega))
              have HRW := Lib.hid hRW
              have wl2 : IntKind.i64.wrap ((Ws.length : Int) + 1) = (Ws.length : Int) + 1 := by rw [IntKind.wrap_i64]; omega
              have hDp : D ≠ p := by omega
              have hDU : b + 10 ≤ D := by omega
              have hwD : w.heap.size ≤ D := by omega
              clear hrd hEE hsto hst hEN hpm hK hRW hon hall
              obtain ⟨A, c, Q, B2, A2, c2, m1, m2, m3, m4, m5, m6, m7, m8⟩ := HM.out.ws.mem
              have HM1 := Lib.hid m1
              clear m1 m2 m3 m4 m5 m6 m7 m8
              obtain ⟨o0, o1⟩ := cells2 HM1.out
              have z2 := HM.out.eb.cell 0
              have z5 := HM.out.ws.beg.cell 0
              have z1 := HM.out.ws.cnt.cell 0
              have z7 := HM.out.ab.cell 0
              have f2 := HM.out.eb.frozen 0
              have f7 := HM.out.ab.frozen 0
              obtain ⟨r0, r1⟩ := cells2 HRW.out
              have g0 := HRW.out.frozen 0
              have g1 := HRW.out.frozen 1
              go_upto_region 23 with fail
              go_cut [85] from 23 to 35 (fun v85 wx => v85 = .bool (st.begun || decide (st.cls.length < n)) ∧ W = wx)
              case first =>
                cases hbg : st.begun with
                | true =>
                  rw [hbg] at z5
                  have HBG := Lib.hid hbg
                  clear hbg
                  go_wp2_with fail
                  go_meet
                  exact ⟨by rw [HBG.out]; rfl, rfl⟩
                | false =>
                  rw [hbg] at z5
                  have HBG := Lib.hid hbg
                  clear hbg
                  go_wp2_with fail
                  go_meet
                  exact ⟨by rw [HBG.out]; rfl, rfl⟩
              case rest =>
              obtain ⟨rfl, rfl⟩ := hcut
              by_cases hcd : st.begun = true ∨ st.cls.length < n
              · have hEE := HEN.out
                rw [if_pos hcd] at hEE
                have HEE := Lib.hid hEE
                rw [show (st.begun || decide (st.cls.length < n)) = true by
                  rcases hcd with h | h
                  · rw [h]; rfl
                  · rw [decide_eq_true h, Bool.or_true]]
                clear hEE hcd HEN
                have ha8 := HM.out.ab.put 0 (.int .i64 ((Ws.length : Int) + 1))
                have he8 := (HM.out.eb.far (p := ⟨b + 7, 0, none⟩) (by show b + 2 ≠ b + 7; omega) (.int .i64 ((Ws.length : Int) + 1))).put 0 (.int .i64 63)
                have hr8 := (HRW.out.far (p := ⟨b + 7, 0, none⟩) (by show p ≠ b + 7; omega) (.int .i64 ((Ws.length : Int) + 1))).far (p := ⟨b + 2, 0, none⟩) (by show p ≠ b + 2; omega) (.int .i64 63)
                have ha9 := ha8.far (p := ⟨b + 2, 0, none⟩) (by show b + 7 ≠ b + 2; omega) (.int .i64 63)
                have hq2 := (HM.out.eb.far (p := ⟨b + 7, 0, none⟩) (by show b + 2 ≠ b + 7; omega) (.int .i64 ((Ws.length : Int) + 1)))
                have q2 := hq2.cell 0
                have qf := hq2.frozen 0
                have hb9 : Below w.heap.size w ((W.setCell ⟨b + 7, 0, none⟩ (.int .i64 ((Ws.length : Int) + 1))).setCell ⟨b + 2, 0, none⟩ (.int .i64 63)) := (HM.out.bel.setCell (p := ⟨b + 7, 0, none⟩) (by show w.heap.size ≤ b + 7; omega) _).setCell (p := ⟨b + 2, 0, none⟩) (by show w.heap.size ≤ b + 2; omega) _
                have hd9 : ((W.setCell ⟨b + 7, 0, none⟩ (.int .i64 ((Ws.length : Int) + 1))).setCell ⟨b + 2, 0, none⟩ (.int .i64 63)).heap[D]? = some (.deferred (some [])) := ((KeepsOthers.setCell _ _ _).trans (KeepsOthers.setCell _ _ _)).same D _ HD.out rfl
                have HA9 := Lib.hid ha9
                have HE9 : Hid (Bk ((W.setCell ⟨b + 7, 0, none⟩ (.int .i64 ((Ws.length : Int) + 1))).setCell ⟨b + 2, 0, none⟩ (.int .i64 63)) (b + 2) 31 #[.int .i64 63]) := he8
                have HR9 := Lib.hid hr8
                have HB9 := Lib.hid hb9
                have HD9 := Lib.hid hd9
                clear ha8 he8 hr8 ha9 hq2 hb9 hd9 r0 r1 g0 g1
                have e7 : ((63 : Int) != 0) = true := rfl
                go_upto_region 25 with fail
                generalize ((W.setCell ⟨b + 7, 0, none⟩ (.int .i64 ((Ws.length : Int) + 1))).setCell ⟨b + 2, 0, none⟩ (.int .i64 63)) = W9 at *
                clear z1 z2 z5 z7 f2 f7 q2 qf o0 o1
                obtain ⟨r0, r1⟩ := cells2 HR9.out
                have g0 := HR9.out.frozen 0
                have g1 := HR9.out.frozen 1
                have z2 := HE9.out.cell 0
                have z7 := HA9.out.cell 0
                have HF := Lib.hid (bk_put2 (v0 := .int .i64 0) (v1 := .slice none 0 0) HR9.out)
                have HFB := Lib.hid (HB9.out.trans ((fr_put2 (w := W9) (a := p) (v0 := .int .i64 0) (v1 := .slice none 0 0)).below w.heap.size HB9.out.size (fun k hk e => by omega)))
                have HDF := Lib.hid (((KeepsOthers.setCell W9 ⟨p, 0, none⟩ (.int .i64 0)).trans (KeepsOthers.setCell _ ⟨p, 1, none⟩ (.slice none 0 0))).same D _ HD9.out rfl)
                go_upto_region 26 with fail
                go_region
                all_goals
                  repeat (first | go_values | go_skip | go_guarded | go_step | go_upon)
                  rw [Exit.noGoto_ret]
                  generalize ((W9.setCell ⟨p, 0, none⟩ (.int .i64 0)).setCell ⟨p, 1, none⟩ (.slice none 0 0)) = WF at HF HFB HDF ⊢
                  obtain ⟨y0, y1⟩ := cells2 (HF.out.drew.fr (fr_putObj6 WF.drew D (.deferred none)) (fun h => hDp h.symm))
                  exact ⟨by simp, .inl ⟨D, _, rfl, run_takeDeferred (w := WF.drew) HDF.out, ⟨.tuple #[.agg #[.int .i64 0, .slice none 0 0], .int .i64 ((Ws.length : Int) + 1), .int .i64 63], by simp [results, Tryz.results17, go_sem, y0, y1], readP_err HEE.out (HFB.out.drew.trans ((fr_putObj6 WF.drew D (.deferred none)).below w.heap.size HFB.out.size (fun k hk e => by omega)))⟩⟩⟩
              · have hEE := HEN.out
                rw [if_neg hcd] at hEE
                have HEE := Lib.hid hEE
                rw [show (st.begun || decide (st.cls.length < n)) = false by
                  cases hq : (st.begun || decide (st.cls.length < n)) with
                  | false => rfl
                  | true => simp only [Bool.or_eq_true, decide_eq_true_eq] at hq; exact absurd hq hcd]
                clear hEE hcd HEN
                have e7 : ((0 : Int) != 0) = false := rfl
                have hfr := fr_put2 (w := W) (a := p) (v0 := .int .i64 v) (v1 := .slice A st.cls.length c)
                have hbox : Bk W p 24 #[.int .i64 0, .slice none 0 0] := HRW.out
                have HF := Lib.hid (bk_put2 (v0 := .int .i64 v) (v1 := .slice A st.cls.length c) HRW.out)
                have HFB := Lib.hid (HM.out.bel.trans (hfr.below w.heap.size HM.out.bel.size (fun k hk e => by omega)))
                have HDF := Lib.hid (((KeepsOthers.setCell W ⟨p, 0, none⟩ (.int .i64 v)).trans (KeepsOthers.setCell _ ⟨p, 1, none⟩ (.slice A st.cls.length c))).same D _ HD.out rfl)
                have hff : Fr (fun k => k = p ∨ k = D) W (((W.setCell ⟨p, 0, none⟩ (.int .i64 v)).setCell ⟨p, 1, none⟩ (.slice A st.cls.length c)).putObj D (.deferred none)) := (hfr.mono (fun k _ e => .inl e)).trans ((fr_putObj6 _ D _).mono (fun k _ e => .inr e))
                have hno : ∀ k cs t fr, W.heap[k]? = some (.cells cs t fr) → t ≠ 24 → ¬ (k = p ∨ k = D) := fun k cs t fr hk ht hq => by
                  rcases hq with rfl | rfl
                  · have h1 : W.heap[_]? = _ := hbox
                    rw [h1] at hk
                    injection hk with hk
                    injection hk with _ h2
                    exact ht h2.symm
                  · have h1 := HD.out
                    rw [h1] at hk
                    injection hk with hk
                    cases hk
                obtain ⟨A', c', Q', hb', hq', hall⟩ := HM.out.ws.out hcl9
                have hc' := hall _ _ hff (fun k cs t hk ht => hno k cs t _ hk (by rcases ht with rfl | rfl <;> decide)) (fun k cs fr hk => hno k cs _ fr hk (by decide))
                have hct : ClsF (((W.setCell ⟨p, 0, none⟩ (.int .i64 v)).setCell ⟨p, 1, none⟩ (.slice A st.cls.length c)).putObj D (.deferred none)) A' st.cls.length Q' := by
                  intro g tg csg W2 hg hg1 hg2 hfg
                  have hno2 : ∀ k cs t fr, W.heap[k]? = some (.cells cs t fr) → (t = 55 ∨ t = 53) → ¬ ((k = p ∨ k = D) ∨ k = g) := by
                    intro k cs t fr hk ht hq
                    have h1 : ¬ (k = p ∨ k = D) := hno k cs t fr hk (by rcases ht with rfl | rfl <;> decide)
                    rcases hq with hq | rfl
                    · exact h1 hq
                    · have h2 := hff.block k (lt_of_heap hk) h1
                      rw [hk] at h2
                      unfold Bk at hg
                      rw [h2] at hg
                      injection hg with hg
                      injection hg with _ h3
                      rcases ht with rfl | rfl
                      · exact hg1 h3.symm
                      · exact hg2 h3.symm
                  exact hall (fun k => (k = p ∨ k = D) ∨ k = g) W2 ((hff.mono (fun k _ e => .inl e)).trans (hfg.mono (fun k _ e => .inr e))) (fun k cs t hk ht => hno2 k cs t _ hk ht) (fun k cs fr hk => hno2 k cs _ fr hk (.inr rfl))
                obtain ⟨rfl, rfl⟩ : A' = A ∧ c' = c := by
                  have h1 := hb'.cell 1
                  rw [HM1.out.cell 1] at h1
                  simp at h1
                  exact ⟨h1.1.symm, h1.2.symm⟩
                have HCL := Lib.hid hc'
                have HCT := Lib.hid hct
                have HQL := Lib.hid hq'
                clear hfr hbox hff hno hb' hc' hq' hct hall
                go_wp2_with fail
                repeat (first | go_values | go_skip | go_guarded | go_step | go_upon)
                rw [Exit.noGoto_ret]
                generalize ((W.setCell ⟨p, 0, none⟩ (.int .i64 v)).setCell ⟨p, 1, none⟩ (.slice A' st.cls.length c')) = WF at HF HFB HDF HCL HCT ⊢
                obtain ⟨y0, y1⟩ := cells2 (HF.out.fr (fr_putObj6 WF D (.deferred none)) (fun h => hDp h.symm))
                exact ⟨by simp, .inl ⟨D, _, rfl, run_takeDeferred HDF.out, ⟨.tuple #[.agg #[.int .i64 v, .slice A' st.cls.length c'], .int .i64 0, .int .i64 0], by simp [results, Tryz.results17, go_sem, y0, y1], readP_ok HEE.out HCL.out HQL.out (HFB.out.trans ((fr_putObj6 WF D (.deferred none)).below w.heap.size HFB.out.size (fun k hk e => by omega))) HCT.out⟩⟩⟩
            case hstop =>
              intro D pre W hD hpre hx2 hK
              obtain ⟨_, pre', y, rfl, hon, hne, st, hpm⟩ := hx2
              have hrs := run_stop hpre hon hne
              obtain ⟨er, her⟩ : ∃ er, (stepW v n (stR v n pre') y.1.2.data.toList).1 = er := ⟨_, rfl⟩
              rw [her] at hrs hne hpm
              have hEE := E.out
              rw [HLD.out, hrs] at hEE
              have hEN : (F0, (y.1.1 : Int), er) = R := by
                rw [← hEE]
                unfold endD
                rw [if_pos hne]
              have HEE := Lib.hid hEN
              have HM := Lib.hid hpm
              have HD := Lib.hid hK
              have HRW := Lib.hid (HRU.out.kpq hpm.kp (.inl (by omega)))
              have hDp : D ≠ p := by omega
              have hDU : b + 10 ≤ D := by omega
              have hwD : w.heap.size ≤ D := by omega
              have e7 : (er != 0) = true := by simpa using hne
              have e6 : (er == 0) = false := by simpa using hne
              obtain ⟨ln, hln2⟩ : ∃ ln, y.1.1 = ln := ⟨_, rfl⟩
              rw [hln2] at HEE HM
              clear hrs hEE hEN hpm hK hon hne her hpre hln2
              have z2 := HM.out.eb.cell 0
              have z7 := HM.out.ab.cell 0
              obtain ⟨r0, r1⟩ := cells2 HRW.out
              have g0 := HRW.out.frozen 0
              have g1 := HRW.out.frozen 1
              have HF := Lib.hid (bk_put2 (v0 := .int .i64 0) (v1 := .slice none 0 0) HRW.out)
              have HFB := Lib.hid (HM.out.bel.trans ((fr_put2 (w := W) (a := p) (v0 := .int .i64 0) (v1 := .slice none 0 0)).below w.heap.size HM.out.bel.size (fun k hk e => by omega)))
              have HDF := Lib.hid (((KeepsOthers.setCell W ⟨p, 0, none⟩ (.int .i64 0)).trans (KeepsOthers.setCell _ ⟨p, 1, none⟩ (.slice none 0 0))).same D _ HD.out rfl)
              gi_wp2
              go_upto_region 26 with fail
              go_region
              all_goals
                repeat (first | go_values | go_skip | go_guarded | go_step | go_upon)
                rw [Exit.noGoto_ret]
                generalize ((W.setCell ⟨p, 0, none⟩ (.int .i64 0)).setCell ⟨p, 1, none⟩ (.slice none 0 0)) = WF at HF HFB HDF ⊢
                obtain ⟨y0, y1⟩ := cells2 (HF.out.drew.fr (fr_putObj6 WF.drew D (.deferred none)) (fun h => hDp h.symm))
                exact ⟨by simp, .inl ⟨D, _, rfl, run_takeDeferred (w := WF.drew) HDF.out, ⟨.tuple #[.agg #[.int .i64 0, .slice none 0 0], .int .i64 ln, .int .i64 er], by simp [results, Tryz.results17, go_sem, y0, y1], readP_err HEE.out (HFB.out.drew.trans ((fr_putObj6 WF.drew D (.deferred none)).below w.heap.size HFB.out.size (fun k hk e => by omega)))⟩⟩⟩
      · have e2 : decide ((k : Int) < (Ws.length : Int)) = false := by simp; omega
        have hkn : k = Ws.length := by omega
        have e3 : ((k : Int) == (Ws.length : Int)) = true := by simp; omega
        have hG2 := HG.out
        rw [List.drop_eq_nil_of_le (by rw [HLEN.out]; omega)] at hG2
        have E : Hid ((F0, ((Ws.length : Nat) : Int) + 1, 60) = R) := by
          have h1 := E0.out
          unfold readL at h1
          rw [hG2] at h1
          rw [HLEN.out] at h1
          exact h1
        have wl : IntKind.i64.wrap ((Ws.length : Int) + 1) = (Ws.length : Int) + 1 := by rw [IntKind.wrap_i64]; omega
        clear hG2 HG hkn
        have HF := Lib.hid (bk_put2 (v0 := .int .i64 0) (v1 := .slice none 0 0) HRW.out)
        have HFB := Lib.hid (HBW.out.trans ((fr_put2 (w := wr) (a := p) (v0 := .int .i64 0) (v1 := .slice none 0 0)).below w.heap.size HBW.out.size (fun k hk e => by omega)))
        obtain ⟨r0, r1⟩ := cells2 HRW.out
        have g0 := HRW.out.frozen 0
        have g1 := HRW.out.frozen 1
        go_wp2_with fail
        repeat (first | go_values | go_skip | go_guarded | go_step | go_upon)
        rw [Exit.noGoto_ret]
        generalize ((wr.setCell ⟨p, 0, none⟩ (.int .i64 0)).setCell ⟨p, 1, none⟩ (.slice none 0 0)) = WF at HF HFB ⊢
        obtain ⟨y0, y1⟩ := cells2 HF.out
        exact ⟨.tuple #[.agg #[.int .i64 0, .slice none 0 0], .int .i64 ((Ws.length : Int) + 1), .int .i64 60], by simp [results, Tryz.results17, go_sem, y0, y1], readP_err E.out HFB.out⟩
theorem readD6 (s : ByteArray) (w : World) (hv : Hid (Vars w)) (hs : s.size ≤ 20000000) (R : Fm × Int × Int) (hR : Hid (readD s.data.toList = R)) :
    Calls Tryz.prog 17 #[.string s] w (ReadP w R) := by
  refine (readT6 s w hv hs R hR).mono ?_
  rintro e w' ⟨A, n, c, Q, h0, h1, h2, h3, _⟩
  exact ⟨A, n, c, Q, h0, h1, h2, h3⟩
end Go.Proofs.YtkpcpclaadgnbaaGreatDoor
