/-
  The parser's method next.
-/
import Derived.Test.YtehcpcpmcngnjaaDoorPs30
import Derived.Test.YtehcpcpmcngnjaaDoorTokV
import Derived.Deep.QuietTactic
import Derived.BigQuiet
import Derived.Deep.RegionHeld3
set_option linter.unusedVariables false
set_option linter.unusedSimpArgs false
namespace Go.Proofs.YtehcpcpmcngnjaaDoor
open Go.RowKit Go.PlainAid

/-- What next returns. -/
def nxV (t : Tk) : Value := .tuple #[tokV t.kind t.at' t.fin, .string (str t.text)]
def endT (E : Env) : Tk := ⟨0, [], E.text.length, E.text.length⟩
theorem ret_nx {t t' : Tk} (h : t = t') : Ending.returned (nxV t) = .returned (nxV t') := by rw [h]
set_option maxRecDepth 100000 in
set_option maxHeartbeats 2000000 in
theorem nextC (p : Nat) (E : Env) (T : TV) (Q : SV) (s : PSt) (w : World) (h : Hid (Ps w p E T Q s)) :
    Calls Tryd.prog 44 #[.pointer (some ⟨p, 0, none⟩)] w fun e w' => e = .returned (nxV (nextP E s)) ∧ Below w.heap.size w w' := by
  have HB0 : Hid (Below w.heap.size w (w.alloc (.cells #[.int .u8 0, .int .i64 0, .int .i64 0] 74))) := balloc (Below.refl _ _) _
  have HX0 := Lib.hid (Bk.new w 74 #[.int .u8 0, .int .i64 0, .int .i64 0])
  have HP0 := Lib.hid (h.out.below HB0.out)
  have hpl : p < w.heap.size := h.out.lt
  have hlen : (str E.text).size = E.text.length := str_size _
  have hle := h.out.ok.small
  by_cases h1 : s.e = 0 ∧ s.n < T.n
  · obtain ⟨he, hn⟩ := h1
    have hlt : s.n < E.toks.length := by rw [h.out.ok.len]; exact hn
    have htok : E.toks[s.n]? = some (E.toks[s.n]'hlt) := List.getElem?_eq_getElem hlt
    generalize E.toks[s.n]'hlt = t at htok
    have hE : nextP E s = t := by
      unfold nextP
      rw [if_neg (fun h => h he), htok]
    have hok := h.out.ok.tok _ _ htok
    obtain ⟨o1, o2, o3, o4, o5⟩ := hok
    obtain ⟨tk, ttext, ta, tf⟩ := t
    dsimp only at o1 o2 o3 o4 o5
    subst o5
    have HE := Lib.hid hE
    obtain ⟨tb, toff, t', hTA, ht', htb, hcl⟩ := HP0.out.rd.rd.flat (f := cellK) cellK_len (by omega) (i := s.n) hlt
    rw [htok] at ht'
    injection ht' with ht'
    subst ht'
    have c0 := hcl 0 _ (by omega) rfl
    have c1 := hcl 1 _ (by omega) rfl
    have c2 := hcl 2 _ (by omega) rfl
    dsimp only at c0 c1 c2
    clear hE htok hlt hcl
    go_enter Tryd.func44, Tryd.ntmps44
    go_upto_region 1 with fail
    generalize (w.alloc (.cells #[.int .u8 0, .int .i64 0, .int .i64 0] 74)) = W at HB0 HX0 HP0 c0 c1 c2 htb ⊢
    obtain ⟨q, hq⟩ : ∃ q, w.heap.size = q := ⟨_, rfl⟩
    rw [hq] at HX0 ⊢
    have hne : p ≠ q := by omega
    have hqw : w.heap.size ≤ q := by omega
    clear hq hpl
    obtain ⟨y0, y1, y2, y3, y4, y5, y6⟩ := HP0.out.cells
    have e1 : ((s.e : Int) != 0) = false := by simp; omega
    have e2 : decide ((T.n : Int) ≤ (s.n : Int)) = false := by simp; omega
    have hTn : (s.n : Int) < (T.n : Int) := by omega
    rw [hTA] at y1
    go_cut [21] (fun v21 wx => v21 = .bool false ∧ ∃ m, wx = W.drewN m)
    case first =>
      go_quiet (fail)
      go_wp2
      go_meet
      exact ⟨by rw [decide_eq_false (by omega)], _, rfl⟩
    case rest =>
    obtain ⟨rfl, m, rfl⟩ := hcut
    have HB1 : Hid (Below w.heap.size w (W.drewN m)) := bdrewN HB0.out m
    have HX1 := Lib.hid (HX0.out.drewN m)
    have HP1 : Hid (Ps (W.drewN m) p E T Q s) := HP0.out.below (below_drewN W m)
    have htb1 : tb < (W.drewN m).heap.size := htb
    have d0 : (W.drewN m).cell? ⟨tb, toff + s.n * 3, none⟩ = _ := c0
    have d1 : (W.drewN m).cell? ⟨tb, toff + s.n * 3 + 1, none⟩ = _ := c1
    have d2 : (W.drewN m).cell? ⟨tb, toff + s.n * 3 + 2, none⟩ = _ := c2
    clear y0 y1 y2 y3 y4 y5 y6 HB0 HX0 HP0 h c0 c1 c2 htb
    generalize W.drewN m = W1 at HB1 HX1 HP1 d0 d1 d2 htb1 ⊢
    have hpl1 : p < W1.heap.size := HP1.out.lt
    have hql1 : q < W1.heap.size := HX1.out.lt
    obtain ⟨y0, y1, y2, y3, y4, y5, y6⟩ := HP1.out.cells
    rw [hTA] at y1
    go_upto_region 3 with fail
    have HBn : Hid (Below W1.heap.size W1 (W1.alloc (.cells #[.int .u8 (tk : Int), .int .i64 (ta : Int), .int .i64 (tf : Int)] 74)).drew) := (balloc (Below.refl _ _) _).drew
    have HN := Lib.hid (Bk.new W1 74 #[.int .u8 (tk : Int), .int .i64 (ta : Int), .int .i64 (tf : Int)]).drew
    go_region
    go_upto_region 4 with fail
    have hqn : q ≠ W1.heap.size := by omega
    have hpn : p ≠ W1.heap.size := by omega
    generalize (W1.alloc (.cells #[.int .u8 (tk : Int), .int .i64 (ta : Int), .int .i64 (tf : Int)] 74)).drew = W3 at HBn HN ⊢
    have HBQ := Lib.hid (HX1.out.below HBn.out hql1)
    have HBP := Lib.hid (HP1.out.bk.below HBn.out hpl1)
    have HBB := Lib.hid (bthen HB1.out HBn.out)
    generalize W1.heap.size = q2 at HN hqn hpn ⊢
    clear d0 d1 d2 y0 y1 y2 y3 y4 y5 y6 HB1 HX1 HP1 HBn hpl1 hql1 htb1
    have x0 := HBQ.out.cell 0
    have x1 := HBQ.out.cell 1
    have x2 := HBQ.out.cell 2
    obtain ⟨z0, z1, z2⟩ := bfroz3 HBQ.out
    obtain ⟨n0, n1, n2⟩ := bcells3 HN.out
    have y0 : W3.cell? ⟨p, 0, none⟩ = some (.string (str E.text)) := HBP.out.cell 0
    have HT := Lib.hid fun w => textTC E.text tk ta tf w (by omega) o4 (by omega)
    dsimp only [tokV] at HT
    have HBX := HN
    go_region_held3 (fun w' => w'.cell? ⟨q2, 0, none⟩ = some (.int .u8 (tk : Int)) ∧ w'.cell? ⟨q2, 1, none⟩ = some (.int .i64 (ta : Int)) ∧ w'.cell? ⟨q2, 2, none⟩ = some (.int .i64 (tf : Int)) ∧ w'.cell? ⟨p, 0, none⟩ = some (.string (str E.text)))
      (first | with_reducible exact ⟨HBX.out.cell 0, HBX.out.cell 1, HBX.out.cell 2, HBP.out.cell 0⟩ | exact ⟨HBX.out.cell 0, HBX.out.cell 1, HBX.out.cell 2, HBP.out.cell 0⟩ | exact ⟨(far3 HBX.out (Ne.symm hqn)).cell 0, (far3 HBX.out (Ne.symm hqn)).cell 1, (far3 HBX.out (Ne.symm hqn)).cell 2, (far3 HBP.out hne).cell 0⟩)
      (first
        | (go_at_call 52
           with_reducible refine (HT.out _).mono ?_
           rintro e w5 ⟨rfl, hb5⟩
           first
             | (have HBX' := Lib.hid (HBX.out.drew.below hb5 HBX.out.lt)
                have HBP' := Lib.hid (HBP.out.drew.below hb5 HBP.out.lt)
                have HBQ' := Lib.hid (HBQ.out.drew.below hb5 HBQ.out.lt)
                have HBB' := Lib.hid (bthen HBB.out.drew hb5))
             | (have HBX' := Lib.hid ((far3 HBX.out (Ne.symm hqn)).drew.below hb5 (far3 HBX.out (Ne.symm hqn)).lt)
                have HBP' := Lib.hid ((far3 HBP.out hne).drew.below hb5 (far3 HBP.out hne).lt)
                have HBQ' := Lib.hid ((put3 HBQ.out).drew.below hb5 (put3 HBQ.out).lt)
                have HBB' := Lib.hid (bthen (bel3 HBB.out hqw).drew hb5))
           clear HBX HBP HBQ HBB x0 x1 x2 z0 z1 z2 n0 n1 n2 y0
           have HBX := HBX'
           have HBP := HBP'
           have HBQ := HBQ'
           have HBB := HBB'
           clear HBX' HBP' HBQ' HBB' hb5
           have x0 := HBQ.out.cell 0
           have x1 := HBQ.out.cell 1
           have x2 := HBQ.out.cell 2
           obtain ⟨z0, z1, z2⟩ := bfroz3 HBQ.out))
    all_goals
      first
        | (have HF : Hid (Bk w5 q 74 #[.int .u8 (tk : Int), .int .i64 (ta : Int), .int .i64 (tf : Int)]) := HBQ
           have HFB : Hid (Below w.heap.size w w5) := HBB
           go_wp2
           obtain ⟨r0, r1, r2⟩ := bcells3 HF.out
           refine bodyPost_ret (v := nxV ⟨tk, cutB E.text ta tf, ta, tf⟩) (by simp [results, Tryd.results44, go_sem, nxV, tokV, r0, r1, r2]) rfl ?_
           exact ⟨ret_nx HE.out.symm, HFB.out⟩)
        | (have HF := Lib.hid (put3 (v0 := .int .u8 (tk : Int)) (v1 := .int .i64 (ta : Int)) (v2 := .int .i64 (tf : Int)) HBQ.out)
           have HFB := Lib.hid (bel3 (v0 := .int .u8 (tk : Int)) (v1 := .int .i64 (ta : Int)) (v2 := .int .i64 (tf : Int)) HBB.out hqw)
           go_wp2
           generalize (((w5.setCell ⟨q, 0, none⟩ (.int .u8 (tk : Int))).setCell ⟨q, 1, none⟩ (.int .i64 (ta : Int))).setCell ⟨q, 2, none⟩ (.int .i64 (tf : Int))) = WF at HF HFB ⊢
           obtain ⟨r0, r1, r2⟩ := bcells3 HF.out
           refine bodyPost_ret (v := nxV ⟨tk, cutB E.text ta tf, ta, tf⟩) (by simp [results, Tryd.results44, go_sem, nxV, tokV, r0, r1, r2]) rfl ?_
           exact ⟨ret_nx HE.out.symm, HFB.out⟩)
  · have hE : nextP E s = endT E := by
      unfold nextP
      by_cases h2 : s.e = 0
      · rw [if_neg (fun h => h h2)]
        have h3 : E.toks[s.n]? = none := List.getElem?_eq_none (by have := h.out.ok.len; omega)
        rw [h3]
        rfl
      · rw [if_pos h2]
        rfl
    have HE := Lib.hid hE
    clear hE
    go_enter Tryd.func44, Tryd.ntmps44
    go_upto_region 1 with fail
    generalize (w.alloc (.cells #[.int .u8 0, .int .i64 0, .int .i64 0] 74)) = W at HB0 HX0 HP0 ⊢
    obtain ⟨q, hq⟩ : ∃ q, w.heap.size = q := ⟨_, rfl⟩
    rw [hq] at HX0 ⊢
    have hne : p ≠ q := by omega
    have hqw : w.heap.size ≤ q := by omega
    clear hq hpl
    obtain ⟨y0, y1, y2, y3, y4, y5, y6⟩ := HP0.out.cells
    go_cut [21] (fun v21 wx => v21 = .bool true ∧ ∃ m, wx = W.drewN m)
    case first =>
      by_cases h2 : s.e = 0
      · have e1 : ((s.e : Int) != 0) = false := by simp; omega
        have e2 : decide ((T.n : Int) ≤ (s.n : Int)) = true := by simp; omega
        have h3 : (T.n : Int) ≤ (s.n : Int) := by omega
        clear h1
        go_quiet (fail)
        go_wp2
        go_meet
        exact ⟨rfl, _, rfl⟩
      · have e1 : ((s.e : Int) != 0) = true := by simp; omega
        clear h1
        go_quiet (fail)
        go_wp2
        go_meet
        exact ⟨rfl, _, rfl⟩
    case rest =>
    obtain ⟨rfl, m, rfl⟩ := hcut
    have HB1 : Hid (Below w.heap.size w (W.drewN m)) := bdrewN HB0.out m
    have HX1 := Lib.hid (HX0.out.drewN m)
    have HP1 : Hid (Ps (W.drewN m) p E T Q s) := HP0.out.below (below_drewN W m)
    clear y0 y1 y2 y3 y4 y5 y6 HB0 HX0 HP0 h h1
    generalize W.drewN m = W1 at HB1 HX1 HP1 ⊢
    obtain ⟨y0, y1, y2, y3, y4, y5, y6⟩ := HP1.out.cells
    obtain ⟨x0, x1, x2⟩ := bcells3 HX1.out
    obtain ⟨z0, z1, z2⟩ := bfroz3 HX1.out
    have HF := Lib.hid (put3 (v0 := .int .u8 0) (v1 := .int .i64 (E.text.length : Int)) (v2 := .int .i64 (E.text.length : Int)) HX1.out).drew
    have HFB := Lib.hid (bel3 (v0 := .int .u8 0) (v1 := .int .i64 (E.text.length : Int)) (v2 := .int .i64 (E.text.length : Int)) HB1.out hqw).drew
    go_upto_region 2 with fail
    go_region
    all_goals
      go_wp2
      generalize (((W1.setCell ⟨q, 0, none⟩ (.int .u8 0)).setCell ⟨q, 1, none⟩ (.int .i64 (E.text.length : Int))).setCell ⟨q, 2, none⟩ (.int .i64 (E.text.length : Int))).drew = WF at HF HFB ⊢
      obtain ⟨r0, r1, r2⟩ := bcells3 HF.out
      refine bodyPost_ret (v := nxV (endT E)) (by simp [results, Tryd.results44, go_sem, nxV, endT, tokV, r0, r1, r2]; rfl) rfl ?_
      exact ⟨ret_nx HE.out.symm, HFB.out⟩
end Go.Proofs.YtehcpcpmcngnjaaDoor
