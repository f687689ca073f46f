/-
  salvorref07.Parse.
-/
import Derived.Test.YteglgcfbmjlnkaaGreatDoorListC
import Derived.Test.YteglgcfbmjlnkaaGreatDoorRightQ
import Derived.Test.YteglgcfbmjlnkaaGreatDoorParse
set_option linter.unusedVariables false
set_option linter.unusedSimpArgs false
namespace Go.Proofs.YteglgcfbmjlnkaaGreatDoor
open Go.RowKit Go.PlainAid

/-- A step of the reference in blocks of known types. -/
structure StpQ (w : World) (v : StV) (s : Stp) : Prop where
  at' : StpAt w v s
  lt : RdT w v.L.A 3 (s.lits.map (Value.int .i64))
  ht : RdT w v.H.A 3 (s.hints.map (Value.int .i64))
theorem StpQ.below {w w' : World} {v : StV} {s : Stp} (h : StpQ w v s) (hb : Below w.heap.size w w') : StpQ w' v s := ⟨h.at'.below hb, h.lt.below hb, h.ht.below hb⟩
theorem StpQ.grown {w w' : World} {v : StV} {s : Stp} {base n : Nat} {u : Value} {ys : List Value} (h : StpQ w v s) (ho : w.ownsRow base 59 4 u n ys) (hg : w.grownBy w' u.ownBlock) : StpQ w' v s :=
  have h1 := h.lt.grown ho (by decide) hg
  have h2 := h.ht.grown ho (by decide) hg
  ⟨⟨h.at'.id, ⟨h1.rd, h.at'.lits.2⟩, ⟨h2.rd, h.at'.hints.2⟩⟩, h1, h2⟩
theorem rdt_fr {w w' : World} {A : Option Addr} {t t' : TypeId} {xs : List Value} {g : Nat} {cs : Array Value} (h : RdT w A t xs) (hk : Bk w g t' cs) (hne : t' ≠ t) (hf : Fr (fun q => q = g) w w') : RdT w' A t xs :=
  h.fr hf (fun b hb' ⟨off, he⟩ hq => by
    obtain ⟨cs, fr, hh⟩ := h.ty b off he
    subst hq
    unfold Bk at hk
    rw [hh] at hk
    injection hk with hk
    injection hk with _ hk
    exact hne hk.symm)
theorem rdt_far {w : World} {A : Option Addr} {t t' : TypeId} {xs : List Value} {g : Nat} {cs : Array Value} (h : RdT w A t xs) (hk : Bk w g t' cs) (hne : t' ≠ t) (q : Addr) (hq : q.block = g) (u : Value) : RdT (w.setCell q u) A t xs :=
  rdt_fr h hk hne ((Fr.refl _ w).setCell (.inl hq) u)
def ParseQPost (w : World) (P : Option Stp) (e : Ending) (w' : World) : Prop := Below w.heap.size w w' ∧ match P with
  | some st => ∃ LA Ln Lc HA Hn Hc, e = .returned (.tuple #[.agg #[.bool st.del, .int .i64 st.id, .slice LA Ln Lc, .slice HA Hn Hc], .bool true]) ∧ StpQ w' ⟨⟨LA, Ln, Lc⟩, ⟨HA, Hn, Hc⟩⟩ st
  | none => e = .returned (.tuple #[.agg #[.bool false, .int .i64 0, .slice none 0 0, .slice none 0 0], .bool false])
theorem parseQ_no {w w' : World} {P : Option Stp} (h : none = P) (hb : Below w.heap.size w w') : ParseQPost w P (.returned (.tuple #[.agg #[.bool false, .int .i64 0, .slice none 0 0, .slice none 0 0], .bool false])) w' := by
  subst h
  exact ⟨hb, rfl⟩
set_option maxRecDepth 100000 in
set_option maxHeartbeats 2000000 in
theorem parseQC (s : ByteArray) (w : World) (hs : s.size ≤ 20000000) : Calls Tryz.prog 28 #[.string s] w (ParseQPost w (parseQ s.data.toList)) := by
  obtain ⟨P, hP⟩ : ∃ P, parseQ s.data.toList = P := ⟨_, rfl⟩
  rw [hP]
  have hnum := fun W => numberC s W hs
  have hkl := numQ_le s.data.toList
  have hi64 := numQ_i64 s.data.toList
  rw [data_len] at hkl
  unfold parseQ at hP
  rw [data_len] at hP
  generalize (numQ s.data.toList).1 = id at *
  generalize (numQ s.data.toList).2 = k at *
  have HNUM := Lib.hid hnum
  have HID := Lib.hid hi64
  clear hnum hi64
  have HB0 : Hid (Below w.heap.size w ((w.alloc (.cells Z4 59)).alloc (.cells Z4 59))) := balloc (balloc (Below.refl _ _) _) _
  have HA0 := Lib.hid ((Bk.new w 59 Z4).alloc (.cells Z4 59))
  have hO0 := Bk.new (w.alloc (.cells Z4 59)) 59 Z4
  rw [World.size_alloc] at hO0
  have HO0 := Lib.hid hO0
  clear hO0
  go_enter Tryz.func28, Tryz.ntmps28
  go_upto_region 2 with fail
  change Hid (Below w.heap.size w ((w.alloc (.cells #[.bool false, .int .i64 0, .slice none 0 0, .slice none 0 0] 59)).alloc (.cells #[.bool false, .int .i64 0, .slice none 0 0, .slice none 0 0] 59))) at HB0
  change Hid (Bk ((w.alloc (.cells #[.bool false, .int .i64 0, .slice none 0 0, .slice none 0 0] 59)).alloc (.cells #[.bool false, .int .i64 0, .slice none 0 0, .slice none 0 0] 59)) w.heap.size 59 #[.bool false, .int .i64 0, .slice none 0 0, .slice none 0 0]) at HA0
  change Hid (Bk ((w.alloc (.cells #[.bool false, .int .i64 0, .slice none 0 0, .slice none 0 0] 59)).alloc (.cells #[.bool false, .int .i64 0, .slice none 0 0, .slice none 0 0] 59)) (w.heap.size + 1) 59 #[.bool false, .int .i64 0, .slice none 0 0, .slice none 0 0]) at HO0
  generalize ((w.alloc (.cells #[.bool false, .int .i64 0, .slice none 0 0, .slice none 0 0] 59)).alloc (.cells #[.bool false, .int .i64 0, .slice none 0 0, .slice none 0 0] 59)) = W0 at *
  obtain ⟨p, hp⟩ : ∃ p, p = w.heap.size := ⟨_, rfl⟩
  rw [← hp] at HA0 HO0
  rw [← hp]
  have HP := Lib.hid hp
  clear hp
  obtain ⟨x0, x1, x2, x3⟩ := cells4 HA0.out
  obtain ⟨y0, y1, y2, y3⟩ := cells4 HO0.out
  have f0 := HA0.out.frozen 0; have f1 := HA0.out.frozen 1; have f2 := HA0.out.frozen 2; have f3 := HA0.out.frozen 3
  have g0 := HO0.out.frozen 0; have g1 := HO0.out.frozen 1; have g2 := HO0.out.frozen 2; have g3 := HO0.out.frozen 3
  by_cases hk : k = 0
  · rw [if_pos (.inl hk)] at hP
    have e1 : ((k : Int) == 0) = true := by simp; omega
    have HP2 := Lib.hid hP
    clear hP hk
    go_wp2_with fail
    refine (HNUM.out W0).mono ?_
    rintro e w1 ⟨rfl, rfl⟩
    go_wp2
    have HF := Lib.hid (bk_put4 (v0 := .bool false) (v1 := .int .i64 0) (v2 := .slice none 0 0) (v3 := .slice none 0 0) HA0.out)
    have HFB : Hid (Below w.heap.size w ((((W0.setCell ⟨p, 0, none⟩ (.bool false)).setCell ⟨p, 1, none⟩ (.int .i64 0)).setCell ⟨p, 2, none⟩ (.slice none 0 0)).setCell ⟨p, 3, none⟩ (.slice none 0 0))) := HB0.out.trans (fr_put4.below w.heap.size HB0.out.size (fun k hk e => by have := HP.out; omega))
    generalize ((((W0.setCell ⟨p, 0, none⟩ (.bool false)).setCell ⟨p, 1, none⟩ (.int .i64 0)).setCell ⟨p, 2, none⟩ (.slice none 0 0)).setCell ⟨p, 3, none⟩ (.slice none 0 0)) = WF at *
    obtain ⟨r0, r1, r2, r3⟩ := cells4 HF.out
    refine bodyPost_ret (v := .tuple #[.agg #[.bool false, .int .i64 0, .slice none 0 0, .slice none 0 0], .bool false]) (by simp [results, Tryz.results28, go_sem, r0, r1, r2, r3]) rfl ?_
    exact parseQ_no HP2.out HFB.out
  · have e1 : ((k : Int) == 0) = false := by simp; omega
    by_cases hks : k = s.size
    · rw [if_pos (.inr hks)] at hP
      have e2 : ((k : Int) == (s.size : Int)) = true := by simp; omega
      have HP2 := Lib.hid hP
      clear hP hk hks
      go_wp2_with fail
      refine (HNUM.out W0).mono ?_
      rintro e w1 ⟨rfl, rfl⟩
      go_wp2
      have HF := Lib.hid (bk_put4 (v0 := .bool false) (v1 := .int .i64 0) (v2 := .slice none 0 0) (v3 := .slice none 0 0) HA0.out)
      have HFB : Hid (Below w.heap.size w ((((W0.setCell ⟨p, 0, none⟩ (.bool false)).setCell ⟨p, 1, none⟩ (.int .i64 0)).setCell ⟨p, 2, none⟩ (.slice none 0 0)).setCell ⟨p, 3, none⟩ (.slice none 0 0))) := HB0.out.trans (fr_put4.below w.heap.size HB0.out.size (fun k hk e => by have := HP.out; omega))
      generalize ((((W0.setCell ⟨p, 0, none⟩ (.bool false)).setCell ⟨p, 1, none⟩ (.int .i64 0)).setCell ⟨p, 2, none⟩ (.slice none 0 0)).setCell ⟨p, 3, none⟩ (.slice none 0 0)) = WF at *
      obtain ⟨r0, r1, r2, r3⟩ := cells4 HF.out
      refine bodyPost_ret (v := .tuple #[.agg #[.bool false, .int .i64 0, .slice none 0 0, .slice none 0 0], .bool false]) (by simp [results, Tryz.results28, go_sem, r0, r1, r2, r3]) rfl ?_
      exact parseQ_no HP2.out HFB.out
    · have e2 : ((k : Int) == (s.size : Int)) = false := by simp; omega
      rw [if_neg (by omega)] at hP
      have HP2 := Lib.hid hP
      clear hP
      go_wp2_with fail
      refine (HNUM.out W0).mono ?_
      rintro e w1 ⟨rfl, rfl⟩
      go_upto_region 7 with fail
      have hp0 : w.heap.size ≤ p := by have := HP.out; omega
      have HO1 : Hid (Bk (W0.setCell ⟨p + 1, 1, none⟩ (.int .i64 id)) (p + 1) 59 #[.bool false, .int .i64 id, .slice none 0 0, .slice none 0 0]) := by
        have h := HO0.out.put 1 (.int .i64 id)
        simp only [List.setIfInBounds_toArray, List.set_cons_succ, List.set_cons_zero] at h
        exact h
      have HA1 := Lib.hid (HA0.out.far (p := ⟨p + 1, 1, none⟩) (by show p ≠ p + 1; omega) (.int .i64 id))
      have HB1 : Hid (Below w.heap.size w (W0.setCell ⟨p + 1, 1, none⟩ (.int .i64 id))) := HB0.out.setCell (p := ⟨p + 1, 1, none⟩) (by show _ ≤ p + 1; omega) _
      generalize (W0.setCell ⟨p + 1, 1, none⟩ (.int .i64 id)) = W1 at *
      have hd1 := ext_data s (k + 1)
      have hs1 := ext_size s (k + 1)
      rw [← hd1] at HP2
      generalize s.extract (k + 1) s.size = s1 at *
      clear HB0 HA0 HO0 x0 x1 x2 x3 y0 y1 y2 y3 f0 f1 f2 f3 g0 g1 g2 g3 hd1 HNUM e1 e2
      have hs1' : s1.size ≤ 20000000 := by omega
      clear hs1 hk hks hkl
      obtain ⟨x0, x1, x2, x3⟩ := cells4 HA1.out
      obtain ⟨y0, y1, y2, y3⟩ := cells4 HO1.out
      have f0 := HA1.out.frozen 0; have f1 := HA1.out.frozen 1; have f2 := HA1.out.frozen 2; have f3 := HA1.out.frozen 3
      have g0 := HO1.out.frozen 0; have g1 := HO1.out.frozen 1; have g2 := HO1.out.frozen 2; have g3 := HO1.out.frozen 3
      have hdq : delQ s1.data.toList ↔ (bt s1 0 = 100 ∧ bt s1 1 = 32) := by
        unfold delQ
        rw [List.head?_eq_getElem?]
        exact and_congr (bt_is s1 0 100 (by decide)) (bt_is s1 1 32 (by decide))
      have HDQ := Lib.hid hdq
      clear hdq
      have hb := get_bt s1
      go_cut [42] (fun v42 wx => v42 = .bool (decide (delQ s1.data.toList)) ∧ W1 = wx)
      case first =>
        by_cases c1 : 1 < s1.size
        · have e1 : decide ((1 : Int) < (s1.size : Int)) = true := by simp; omega
          by_cases c2 : bt s1 0 = 100
          · have e2 : (bt s1 0 == 100) = true := by simpa using c2
            have E : Hid (decide (delQ s1.data.toList) = (bt s1 1 == 32)) := by
              show decide (delQ s1.data.toList) = decide (bt s1 1 = 32)
              exact decide_eq_decide.2 ⟨fun h => (HDQ.out.1 h).2, fun h => HDQ.out.2 ⟨c2, h⟩⟩
            clear c2
            go_wp2_with fail
            go_meet
            exact ⟨by rw [E.out], rfl⟩
          · have e2 : (bt s1 0 == 100) = false := by simpa using c2
            have E : Hid (decide (delQ s1.data.toList) = false) := decide_eq_false (fun h => c2 (HDQ.out.1 h).1)
            clear c2
            go_wp2_with fail
            go_meet
            exact ⟨by rw [E.out], rfl⟩
        · have e1 : decide ((1 : Int) < (s1.size : Int)) = false := decide_eq_false (by omega)
          have E : Hid (decide (delQ s1.data.toList) = false) := decide_eq_false (fun h => by
            have := (HDQ.out.1 h).2
            rw [bt_end s1 (by omega)] at this
            omega)
          go_wp2_with fail
          go_meet
          exact ⟨by rw [E.out], rfl⟩
      case rest =>
      obtain ⟨rfl, rfl⟩ := hcut
      go_upto_if 42 with fail
      go_cut [0] (fun v0 wx => ∃ (s2 : ByteArray) (del : Bool) (lits : List Int) (A : Option Addr) (n c : Nat), v0 = .string s2 ∧ s2.size ≤ 20000000 ∧ Hid (hintsQ id del lits s2.data.toList = P) ∧ Hid (Bk wx p 59 #[.bool false, .int .i64 0, .slice none 0 0, .slice none 0 0]) ∧ Hid (Bk wx (p + 1) 59 #[.bool del, .int .i64 id, .slice A n c, .slice none 0 0]) ∧ Hid (RdT wx A 3 (lits.map (Value.int .i64))) ∧ Hid (lits.length = n) ∧ Hid (∀ u ∈ lits, I64 u) ∧ n ≤ 100000000 ∧ Hid (Below w.heap.size w wx))
      case first =>
        by_cases hdel : delQ s1.data.toList
        · rw [decide_eq_true hdel]
          have h2 := HP2.out
          unfold restQ at h2
          rw [if_pos hdel] at h2
          have hsz : 2 ≤ s1.size := by
            rcases Nat.lt_or_ge s1.size 2 with h0 | h0
            · have := (HDQ.out.1 hdel).2
              rw [bt_end s1 (by omega)] at this
              omega
            · exact h0
          have HP3 := Lib.hid h2
          clear h2 hdel
          go_wp2_with fail
          go_meet
          refine ⟨s1.extract 2 s1.size, true, [], none, 0, 0, rfl, by rw [ext_size]; omega, ?_, HA1.out.far (p := ⟨p + 1, 0, none⟩) (by show p ≠ p + 1; omega) _, ?_, ⟨Rd.nil, fun b off he => by cases he⟩, rfl, fun u hu => (by cases hu), by omega, HB1.out.setCell (p := ⟨p + 1, 0, none⟩) (by show _ ≤ p + 1; omega) _⟩
          · show _ = _
            rw [ext_data]
            exact HP3.out
          · have h := HO1.out.put 0 (.bool true)
            simp only [List.setIfInBounds_toArray, List.set_cons_succ, List.set_cons_zero] at h
            exact h
        · rw [decide_eq_false hdel]
          have h2 := HP2.out
          unfold restQ at h2
          rw [if_neg hdel] at h2
          have HLC := Lib.hid (listC s1 W1 hs1')
          have hml : (listQ s1.data.toList).2 ≤ s1.size := by
            rcases Nat.eq_zero_or_pos (listQ s1.data.toList).2 with h0 | h0
            · omega
            · obtain ⟨r, q1, q2, _⟩ := listQ_some (u := s1.data.toList) (l := (listQ s1.data.toList).1) (m := (listQ s1.data.toList).2) rfl (by omega)
              have := congrArg List.length q1
              rw [data_len] at this
              simp only [List.length_append, List.length_cons] at this
              omega
          rw [data_len] at h2
          unfold ListPost at HLC
          generalize (listQ s1.data.toList).1 = lits at *
          generalize (listQ s1.data.toList).2 = m at *
          by_cases hm0 : m = 0
          · rw [if_pos (.inl hm0)] at h2
            have e1 : ((m : Int) == 0) = true := by simp; omega
            have HP3 := Lib.hid h2
            clear h2 hm0
            go_wp2_with fail
            refine HLC.out.mono ?_
            rintro e w2 ⟨A, n, c, rfl, ho, hl, h64, hn, hb2⟩
            have HA2 := Lib.hid (bkbel HA1.out hb2)
            have HB2 := Lib.hid (bthen HB1.out hb2)
            obtain ⟨z0, z1, z2, z3⟩ := cells4 HA2.out
            have i0 := HA2.out.frozen 0; have i1 := HA2.out.frozen 1; have i2 := HA2.out.frozen 2; have i3 := HA2.out.frozen 3
            clear ho hl h64 hn hb2 x0 x1 x2 x3 y0 y1 y2 y3 f0 f1 f2 f3 g0 g1 g2 g3
            dsimp only
            go_wp2
            have HF := Lib.hid (bk_put4 (v0 := .bool false) (v1 := .int .i64 0) (v2 := .slice none 0 0) (v3 := .slice none 0 0) HA2.out)
            have HFB : Hid (Below w.heap.size w ((((w2.setCell ⟨p, 0, none⟩ (.bool false)).setCell ⟨p, 1, none⟩ (.int .i64 0)).setCell ⟨p, 2, none⟩ (.slice none 0 0)).setCell ⟨p, 3, none⟩ (.slice none 0 0))) := HB2.out.trans (fr_put4.below w.heap.size HB2.out.size (fun k hk e => by have := HP.out; omega))
            generalize ((((w2.setCell ⟨p, 0, none⟩ (.bool false)).setCell ⟨p, 1, none⟩ (.int .i64 0)).setCell ⟨p, 2, none⟩ (.slice none 0 0)).setCell ⟨p, 3, none⟩ (.slice none 0 0)) = WF at *
            obtain ⟨r0, r1, r2, r3⟩ := cells4 HF.out
            refine bodyPost_ret (v := .tuple #[.agg #[.bool false, .int .i64 0, .slice none 0 0, .slice none 0 0], .bool false]) (by simp [results, Tryz.results28, go_sem, r0, r1, r2, r3]) rfl ?_
            exact parseQ_no HP3.out HFB.out
          have e1 : ((m : Int) == 0) = false := by simp; omega
          by_cases hms : m = s1.size
          · rw [if_pos (.inr hms)] at h2
            have e2 : ((m : Int) == (s1.size : Int)) = true := by simp; omega
            have HP3 := Lib.hid h2
            clear h2 hm0 hms
            go_wp2_with fail
            refine HLC.out.mono ?_
            rintro e w2 ⟨A, n, c, rfl, ho, hl, h64, hn, hb2⟩
            have HA2 := Lib.hid (bkbel HA1.out hb2)
            have HB2 := Lib.hid (bthen HB1.out hb2)
            obtain ⟨z0, z1, z2, z3⟩ := cells4 HA2.out
            have i0 := HA2.out.frozen 0; have i1 := HA2.out.frozen 1; have i2 := HA2.out.frozen 2; have i3 := HA2.out.frozen 3
            clear ho hl h64 hn hb2 x0 x1 x2 x3 y0 y1 y2 y3 f0 f1 f2 f3 g0 g1 g2 g3
            dsimp only
            go_wp2
            have HF := Lib.hid (bk_put4 (v0 := .bool false) (v1 := .int .i64 0) (v2 := .slice none 0 0) (v3 := .slice none 0 0) HA2.out)
            have HFB : Hid (Below w.heap.size w ((((w2.setCell ⟨p, 0, none⟩ (.bool false)).setCell ⟨p, 1, none⟩ (.int .i64 0)).setCell ⟨p, 2, none⟩ (.slice none 0 0)).setCell ⟨p, 3, none⟩ (.slice none 0 0))) := HB2.out.trans (fr_put4.below w.heap.size HB2.out.size (fun k hk e => by have := HP.out; omega))
            generalize ((((w2.setCell ⟨p, 0, none⟩ (.bool false)).setCell ⟨p, 1, none⟩ (.int .i64 0)).setCell ⟨p, 2, none⟩ (.slice none 0 0)).setCell ⟨p, 3, none⟩ (.slice none 0 0)) = WF at *
            obtain ⟨r0, r1, r2, r3⟩ := cells4 HF.out
            refine bodyPost_ret (v := .tuple #[.agg #[.bool false, .int .i64 0, .slice none 0 0, .slice none 0 0], .bool false]) (by simp [results, Tryz.results28, go_sem, r0, r1, r2, r3]) rfl ?_
            exact parseQ_no HP3.out HFB.out
          have e2 : ((m : Int) == (s1.size : Int)) = false := by simp; omega
          rw [if_neg (by omega)] at h2
          have HP3 := Lib.hid h2
          have hm1 : m + 1 ≤ s1.size := by omega
          clear h2 hm0 hms hml hdel
          go_wp2_with fail
          refine HLC.out.mono ?_
          rintro e w2 ⟨A, n, c, rfl, ho, hl, h64, hn, hb2⟩
          have HA2 := Lib.hid (bkbel HA1.out hb2)
          have HO2 := Lib.hid (bkbel HO1.out hb2)
          have HB2 := Lib.hid (bthen HB1.out hb2)
          have HRL := Lib.hid (RdT.of_own ho)
          have HLL := Lib.hid hl
          have HL64 := Lib.hid h64
          obtain ⟨z0, z1, z2, z3⟩ := cells4 HO2.out
          have i0 := HO2.out.frozen 0; have i1 := HO2.out.frozen 1; have i2 := HO2.out.frozen 2; have i3 := HO2.out.frozen 3
          have HOW := Lib.hid ho
          clear ho hl h64 hb2 x0 x1 x2 x3 y0 y1 y2 y3 f0 f1 f2 f3 g0 g1 g2 g3
          dsimp only
          go_wp2_with fail
          go_meet
          refine ⟨s1.extract (m + 1) s1.size, false, lits, A, n, c, rfl, by rw [ext_size]; omega, ?_, HA2.out.far (p := ⟨p + 1, 2, none⟩) (by show p ≠ p + 1; omega) _, ?_, ?_, HLL, HL64, hn, HB2.out.setCell (p := ⟨p + 1, 2, none⟩) (by show _ ≤ p + 1; omega) _⟩
          · show _ = _
            rw [ext_data]
            exact HP3.out
          · have h := HO2.out.put 2 (.slice A n c)
            simp only [List.setIfInBounds_toArray, List.set_cons_succ, List.set_cons_zero] at h
            exact h
          · exact HRL.out.fr ((Fr.refl (fun k => k = p + 1) w2).setCell (p := ⟨p + 1, 2, none⟩) (.inl rfl) _) (fun b hb' ⟨off, he⟩ hq => by
              obtain ⟨cs, fr, hh⟩ := HRL.out.ty b off he
              subst hq
              have h3 := HO2.out
              unfold Bk at h3
              rw [hh] at h3
              injection h3 with h3
              injection h3 with _ h3
              revert h3
              decide)
      case rest =>
        obtain ⟨s2, del, lits, A, n, c, rfl, hs2, HP3, HA2, HO2, HRL, HLL, HL64, hn, HB2⟩ := hcut
        clear HA1 HO1 HB1 HP2 HDQ x0 x1 x2 x3 y0 y1 y2 y3 f0 f1 f2 f3 g0 g1 g2 g3 hb
        generalize wc = W2 at *
        obtain ⟨x0, x1, x2, x3⟩ := cells4 HA2.out
        obtain ⟨y0, y1, y2, y3⟩ := cells4 HO2.out
        have f0 := HA2.out.frozen 0; have f1 := HA2.out.frozen 1; have f2 := HA2.out.frozen 2; have f3 := HA2.out.frozen 3
        have g0 := HO2.out.frozen 0; have g1 := HO2.out.frozen 1; have g2 := HO2.out.frozen 2; have g3 := HO2.out.frozen 3
        have HLC := Lib.hid (listC s2 W2 hs2)
        have hml : (listQ s2.data.toList).2 ≤ s2.size := by
          rcases Nat.eq_zero_or_pos (listQ s2.data.toList).2 with h0 | h0
          · omega
          · obtain ⟨r, q1, q2, _⟩ := listQ_some (u := s2.data.toList) (l := (listQ s2.data.toList).1) (m := (listQ s2.data.toList).2) rfl (by omega)
            have := congrArg List.length q1
            rw [data_len] at this
            simp only [List.length_append, List.length_cons] at this
            omega
        have h2 := HP3.out
        unfold hintsQ at h2
        rw [data_len] at h2
        unfold ListPost at HLC
        generalize (listQ s2.data.toList).1 = hints at *
        generalize (listQ s2.data.toList).2 = m at *
        clear HP3
        by_cases hm0 : m = 0
        · rw [if_pos (.inl hm0)] at h2
          have e1 : ((m : Int) == 0) = true := by simp; omega
          have HP3 := Lib.hid h2
          clear h2 hm0
          go_wp2_with fail
          refine HLC.out.mono ?_
          rintro e w2 ⟨H, hn2, hc2, rfl, ho, hl, h64, hhn, hb2⟩
          have HA3 := Lib.hid (bkbel HA2.out hb2)
          have HB3 := Lib.hid (bthen HB2.out hb2)
          obtain ⟨z0, z1, z2, z3⟩ := cells4 HA3.out
          have i0 := HA3.out.frozen 0; have i1 := HA3.out.frozen 1; have i2 := HA3.out.frozen 2; have i3 := HA3.out.frozen 3
          clear ho hl h64 hhn hb2 x0 x1 x2 x3 y0 y1 y2 y3 f0 f1 f2 f3 g0 g1 g2 g3
          dsimp only
          go_wp2
          have HF := Lib.hid (bk_put4 (v0 := .bool false) (v1 := .int .i64 0) (v2 := .slice none 0 0) (v3 := .slice none 0 0) HA3.out)
          have HFR : Hid (Fr (fun q => q = p) w2 ((((w2.setCell ⟨p, 0, none⟩ (.bool false)).setCell ⟨p, 1, none⟩ (.int .i64 0)).setCell ⟨p, 2, none⟩ (.slice none 0 0)).setCell ⟨p, 3, none⟩ (.slice none 0 0))) := fr_put4
          have HFB : Hid (Below w.heap.size w ((((w2.setCell ⟨p, 0, none⟩ (.bool false)).setCell ⟨p, 1, none⟩ (.int .i64 0)).setCell ⟨p, 2, none⟩ (.slice none 0 0)).setCell ⟨p, 3, none⟩ (.slice none 0 0))) := HB3.out.trans (HFR.out.below w.heap.size HB3.out.size (fun k hk e => by have := HP.out; omega))
          generalize ((((w2.setCell ⟨p, 0, none⟩ (.bool false)).setCell ⟨p, 1, none⟩ (.int .i64 0)).setCell ⟨p, 2, none⟩ (.slice none 0 0)).setCell ⟨p, 3, none⟩ (.slice none 0 0)) = WF at *
          obtain ⟨r0, r1, r2, r3⟩ := cells4 HF.out
          refine bodyPost_ret (v := .tuple #[.agg #[.bool false, .int .i64 0, .slice none 0 0, .slice none 0 0], .bool false]) (by simp [results, Tryz.results28, go_sem, r0, r1, r2, r3]) rfl ?_
          exact parseQ_no HP3.out HFB.out
        have e1 : ((m : Int) == 0) = false := by simp; omega
        by_cases hms : m < s2.size
        · rw [if_pos (.inr hms)] at h2
          have e2 : decide ((m : Int) < (s2.size : Int)) = true := by simp; omega
          have HP3 := Lib.hid h2
          clear h2 hm0
          go_wp2_with fail
          refine HLC.out.mono ?_
          rintro e w2 ⟨H, hn2, hc2, rfl, ho, hl, h64, hhn, hb2⟩
          have HA3 := Lib.hid (bkbel HA2.out hb2)
          have HB3 := Lib.hid (bthen HB2.out hb2)
          obtain ⟨z0, z1, z2, z3⟩ := cells4 HA3.out
          have i0 := HA3.out.frozen 0; have i1 := HA3.out.frozen 1; have i2 := HA3.out.frozen 2; have i3 := HA3.out.frozen 3
          clear ho hl h64 hhn hb2 x0 x1 x2 x3 y0 y1 y2 y3 f0 f1 f2 f3 g0 g1 g2 g3
          dsimp only
          go_wp2
          have HF := Lib.hid (bk_put4 (v0 := .bool false) (v1 := .int .i64 0) (v2 := .slice none 0 0) (v3 := .slice none 0 0) HA3.out)
          have HFR : Hid (Fr (fun q => q = p) w2 ((((w2.setCell ⟨p, 0, none⟩ (.bool false)).setCell ⟨p, 1, none⟩ (.int .i64 0)).setCell ⟨p, 2, none⟩ (.slice none 0 0)).setCell ⟨p, 3, none⟩ (.slice none 0 0))) := fr_put4
          have HFB : Hid (Below w.heap.size w ((((w2.setCell ⟨p, 0, none⟩ (.bool false)).setCell ⟨p, 1, none⟩ (.int .i64 0)).setCell ⟨p, 2, none⟩ (.slice none 0 0)).setCell ⟨p, 3, none⟩ (.slice none 0 0))) := HB3.out.trans (HFR.out.below w.heap.size HB3.out.size (fun k hk e => by have := HP.out; omega))
          generalize ((((w2.setCell ⟨p, 0, none⟩ (.bool false)).setCell ⟨p, 1, none⟩ (.int .i64 0)).setCell ⟨p, 2, none⟩ (.slice none 0 0)).setCell ⟨p, 3, none⟩ (.slice none 0 0)) = WF at *
          obtain ⟨r0, r1, r2, r3⟩ := cells4 HF.out
          refine bodyPost_ret (v := .tuple #[.agg #[.bool false, .int .i64 0, .slice none 0 0, .slice none 0 0], .bool false]) (by simp [results, Tryz.results28, go_sem, r0, r1, r2, r3]) rfl ?_
          exact parseQ_no HP3.out HFB.out
        have e2 : decide ((m : Int) < (s2.size : Int)) = false := by simp; omega
        rw [if_neg (by omega)] at h2
        have HP3 := Lib.hid h2
        clear h2 hm0 hml
        go_wp2_with fail
        refine HLC.out.mono ?_
        rintro e w2 ⟨H, hn2, hc2, rfl, ho, hl, h64, hhn, hb2⟩
        have HA3 := Lib.hid (bkbel HA2.out hb2)
        have HO3 := Lib.hid (bkbel HO2.out hb2)
        have HB3 := Lib.hid (bthen HB2.out hb2)
        have HRH := Lib.hid (RdT.of_own ho)
        have HRL3 := Lib.hid (HRL.out.below hb2)
        have HHL := Lib.hid hl
        have HH64 := Lib.hid h64
        clear ho hl h64 hb2 x0 x1 x2 x3 y0 y1 y2 y3 f0 f1 f2 f3 g0 g1 g2 g3 HA2 HO2 HB2 HRL HLC
        dsimp only
        have HA4 := Lib.hid (HA3.out.far (p := ⟨p + 1, 3, none⟩) (by show p ≠ p + 1; omega) (.slice H hn2 hc2))
        have HO4 : Hid (Bk (w2.setCell ⟨p + 1, 3, none⟩ (.slice H hn2 hc2)) (p + 1) 59 #[.bool del, .int .i64 id, .slice A n c, .slice H hn2 hc2]) := by
          have h := HO3.out.put 3 (.slice H hn2 hc2)
          simp only [List.setIfInBounds_toArray, List.set_cons_succ, List.set_cons_zero] at h
          exact h
        have HB4 : Hid (Below w.heap.size w (w2.setCell ⟨p + 1, 3, none⟩ (.slice H hn2 hc2))) := HB3.out.setCell (p := ⟨p + 1, 3, none⟩) (by show _ ≤ p + 1; omega) _
        have HRL4 := Lib.hid (rdt_far HRL3.out HO3.out (by decide) ⟨p + 1, 3, none⟩ rfl (.slice H hn2 hc2))
        have HRH4 := Lib.hid (rdt_far HRH.out HO3.out (by decide) ⟨p + 1, 3, none⟩ rfl (.slice H hn2 hc2))
        have i0 := HO3.out.frozen 3
        obtain ⟨z0, z1, z2, z3⟩ := cells4 HO3.out
        go_upto_region 19 with fail
        clear z0 z1 z2 z3
        generalize (w2.setCell ⟨p + 1, 3, none⟩ (.slice H hn2 hc2)) = W4 at *
        clear i0 HA3 HO3 HB3 HRL3 HRH
        obtain ⟨y0, y1, y2, y3⟩ := cells4 HO4.out
        have HST : Hid (StpQ W4 ⟨⟨A, n, c⟩, ⟨H, hn2, hc2⟩⟩ ⟨del, id, lits, hints⟩) := ⟨⟨HID.out, ⟨HRL4.out.rd, HLL.out, HL64.out, hn⟩, ⟨HRH4.out.rd, HHL.out, HH64.out, hhn⟩⟩, HRL4.out, HRH4.out⟩
        have HRQ := Lib.hid (rightQ del id lits hints A H n c hn2 hc2 W4 (Lib.hid HST.out.at'))
        have h3 := HP3.out
        clear HP3
        cases hr : rightS ⟨del, id, lits, hints⟩ with
        | false =>
          rw [hr] at h3 HRQ
          simp only [Bool.false_eq_true, if_false] at h3
          have HP3 := Lib.hid h3
          clear h3 hr
          go_wp2_with fail
          refine HRQ.out.mono ?_
          rintro e w5 ⟨rfl, hb5⟩
          have HA5 := Lib.hid (bkbel HA4.out hb5)
          have HB5 := Lib.hid (bthen HB4.out hb5)
          obtain ⟨z0, z1, z2, z3⟩ := cells4 HA5.out
          have i0 := HA5.out.frozen 0; have i1 := HA5.out.frozen 1; have i2 := HA5.out.frozen 2; have i3 := HA5.out.frozen 3
          clear hb5 y0 y1 y2 y3
          go_wp2
          have HF := Lib.hid (bk_put4 (v0 := .bool false) (v1 := .int .i64 0) (v2 := .slice none 0 0) (v3 := .slice none 0 0) HA5.out)
          have HFR : Hid (Fr (fun q => q = p) w5 ((((w5.setCell ⟨p, 0, none⟩ (.bool false)).setCell ⟨p, 1, none⟩ (.int .i64 0)).setCell ⟨p, 2, none⟩ (.slice none 0 0)).setCell ⟨p, 3, none⟩ (.slice none 0 0))) := fr_put4
          have HFB : Hid (Below w.heap.size w ((((w5.setCell ⟨p, 0, none⟩ (.bool false)).setCell ⟨p, 1, none⟩ (.int .i64 0)).setCell ⟨p, 2, none⟩ (.slice none 0 0)).setCell ⟨p, 3, none⟩ (.slice none 0 0))) := HB5.out.trans (HFR.out.below w.heap.size HB5.out.size (fun k hk e => by have := HP.out; omega))
          generalize ((((w5.setCell ⟨p, 0, none⟩ (.bool false)).setCell ⟨p, 1, none⟩ (.int .i64 0)).setCell ⟨p, 2, none⟩ (.slice none 0 0)).setCell ⟨p, 3, none⟩ (.slice none 0 0)) = WF at *
          obtain ⟨r0, r1, r2, r3⟩ := cells4 HF.out
          refine bodyPost_ret (v := .tuple #[.agg #[.bool false, .int .i64 0, .slice none 0 0, .slice none 0 0], .bool false]) (by simp [results, Tryz.results28, go_sem, r0, r1, r2, r3]) rfl ?_
          exact parseQ_no HP3.out HFB.out
        | true =>
          rw [hr] at h3 HRQ
          rw [if_pos rfl] at h3
          have HP3 := Lib.hid h3
          clear h3 hr
          go_wp2_with fail
          refine HRQ.out.mono ?_
          rintro e w5 ⟨rfl, hb5⟩
          have HA5 := Lib.hid (bkbel HA4.out hb5)
          have HO5 := Lib.hid (bkbel HO4.out hb5)
          have HB5 := Lib.hid (bthen HB4.out hb5)
          have HST5 := Lib.hid (HST.out.below hb5)
          obtain ⟨z0, z1, z2, z3⟩ := cells4 HO5.out
          obtain ⟨u0, u1, u2, u3⟩ := cells4 HA5.out
          have i0 := HA5.out.frozen 0; have i1 := HA5.out.frozen 1; have i2 := HA5.out.frozen 2; have i3 := HA5.out.frozen 3
          clear hb5 y0 y1 y2 y3
          go_wp2
          have HF := Lib.hid (bk_put4 (v0 := .bool del) (v1 := .int .i64 id) (v2 := .slice A n c) (v3 := .slice H hn2 hc2) HA5.out)
          have HFR : Hid (Fr (fun q => q = p) w5 ((((w5.setCell ⟨p, 0, none⟩ (.bool del)).setCell ⟨p, 1, none⟩ (.int .i64 id)).setCell ⟨p, 2, none⟩ (.slice A n c)).setCell ⟨p, 3, none⟩ (.slice H hn2 hc2))) := fr_put4
          have HFB : Hid (Below w.heap.size w ((((w5.setCell ⟨p, 0, none⟩ (.bool del)).setCell ⟨p, 1, none⟩ (.int .i64 id)).setCell ⟨p, 2, none⟩ (.slice A n c)).setCell ⟨p, 3, none⟩ (.slice H hn2 hc2))) := HB5.out.trans (HFR.out.below w.heap.size HB5.out.size (fun k hk e => by have := HP.out; omega))
          generalize ((((w5.setCell ⟨p, 0, none⟩ (.bool del)).setCell ⟨p, 1, none⟩ (.int .i64 id)).setCell ⟨p, 2, none⟩ (.slice A n c)).setCell ⟨p, 3, none⟩ (.slice H hn2 hc2)) = WF at *
          obtain ⟨r0, r1, r2, r3⟩ := cells4 HF.out
          refine bodyPost_ret (v := .tuple #[.agg #[.bool del, .int .i64 id, .slice A n c, .slice H hn2 hc2], .bool true]) (by simp [results, Tryz.results28, go_sem, r0, r1, r2, r3]) rfl ?_
          have hh := HP3.out
          subst hh
          refine ⟨HFB.out, A, n, c, H, hn2, hc2, rfl, ?_⟩
          have k1 := rdt_fr HST5.out.lt HA5.out (by decide) HFR.out
          have k2 := rdt_fr HST5.out.ht HA5.out (by decide) HFR.out
          exact ⟨⟨HID.out, ⟨k1.rd, HST5.out.at'.lits.2⟩, ⟨k2.rd, HST5.out.at'.hints.2⟩⟩, k1, k2⟩
end Go.Proofs.YteglgcfbmjlnkaaGreatDoor
