/-
  lratext.Copy.
-/
import Derived.Test.YteglgcfbmjlnkaaGreatDoorReadC
import Derived.Deep.RegionHeld3
set_option linter.unusedVariables false
set_option linter.unusedSimpArgs false
namespace Go.Proofs.YteglgcfbmjlnkaaGreatDoor
open Go.RowKit

set_option maxHeartbeats 400000 in
set_option maxRecDepth 100000 in
theorem clone_step (A : Option Addr) (n c : Nat) (xs : List Value) (w : World) (hr : Hid (Rd w A xs)) (hl : Hid (xs.length = n * 4)) (h1 : Hid (∀ u ∈ xs, u.oneCell' = true)) (hn : n ≤ 1000000000) :
    Calls Tryz.prog 44 #[.slice A n c] w fun e w' => ∃ A' c', e = .returned (.slice A' n c') ∧ w'.ownsRow w.heap.size 33 4 (.slice A' n c') n xs ∧ Below w.heap.size w w' := by
  have hen := fun w a n c => Lib.run_eql_slice_nil (P := Tryz.prog) w 22 33 a n c 0 0 Tryz.underlying22
  rcases A with _ | ad
  · have hx : xs = [] := by
      cases xs with
      | nil => rfl
      | cons x r => obtain ⟨_, _, h, _⟩ := hr.out.cells (by simp); cases h
    subst hx
    have h0 : n = 0 := by have := hl.out; simp at this; omega
    subst h0
    clear hl hr
    go_enter Tryz.func44, Tryz.ntmps44
    go_wp2
    go_ret
    exact ⟨none, 0, rfl, World.ownsRow_nil _ _ _ _, Below.refl _ _⟩
  · go_enter Tryz.func44, Tryz.ntmps44
    go_wp2_with (at_builtin; refine wpList_app el_step rfl (.tmp 5) (.tmp 6) rfl w.heap.size (.slice (some ⟨w.heap.size, 0, none⟩) 0 0) 0 [] rfl (World.ownsRow_lit w #[] 0 (Nat.le_refl _) (by simp [maxLen]) rfl) (some ad) n c xs rfl (hr.out.alloc _) (by rw [hl.out]) h1.out (by omega) (by simp) ?_; intro A' c' w1 hown1 hgr1 hat1; have Ho := Lib.hid hown1; have Hg := Lib.hid hgr1; clear hown1 hgr1 hat1)
    go_ret
    refine ⟨A', c', by simp, by simpa using Ho.out, ?_⟩
    exact ((Below.refl _ w).alloc (Nat.le_refl _) _).grown Hg.out (by simp) (by simp [Value.ownBlock])

/-- The step s lies at v, in rows of a call's own. -/
structure StpO (w : World) (B : Nat) (v : StV) (s : Stp) : Prop where
  id : I64 s.id
  lo : w.ownsRow B 34 1 (.slice v.L.A v.L.n v.L.c) v.L.n (s.lits.map (Value.int .i64))
  ho : w.ownsRow B 3 1 (.slice v.H.A v.H.n v.H.c) v.H.n (s.hints.map (Value.int .i64))
  li : s.lits.length = v.L.n ∧ (∀ u ∈ s.lits, I64 u) ∧ v.L.n ≤ 100000000
  hi : s.hints.length = v.H.n ∧ (∀ u ∈ s.hints, I64 u) ∧ v.H.n ≤ 100000000
theorem StpO.at {w : World} {B : Nat} {v : StV} {s : Stp} (h : StpO w B v s) : StpAt w v s := ⟨h.id, ⟨Rd.of_own h.lo, h.li⟩, ⟨Rd.of_own h.ho, h.hi⟩⟩
theorem StpO.t {w : World} {B : Nat} {v : StV} {s : Stp} (h : StpO w B v s) : StpT w v s := ⟨h.at, RdT.of_own h.lo, RdT.of_own h.ho⟩
theorem StpO.frM {w w' : World} {B : Nat} {v : StV} {s : Stp} {g : Nat} {cs : Array Value} (h : StpO w B v s) (hk : Bk w g 33 cs) (hf : Fr (fun q => q = g) w w') : StpO w' B v s :=
  ⟨h.id, own_fr h.lo hf (fun q hq e => own_ne h.lo hk (by decide) (by rw [hq, e])), own_fr h.ho hf (fun q hq e => own_ne h.ho hk (by decide) (by rw [hq, e])), h.li, h.hi⟩
theorem StpO.below {w w' : World} {B : Nat} {v : StV} {s : Stp} (h : StpO w B v s) (hb : Below w.heap.size w w') : StpO w' B v s :=
  ⟨h.id, own_fr (F := fun _ => False) h.lo (Fr.of_below hb) (fun _ _ h => h), own_fr (F := fun _ => False) h.ho (Fr.of_below hb) (fun _ _ h => h), h.li, h.hi⟩
/-- No two of the steps' hints lie in one block. -/
def Apart (P : List (StV × Stp)) : Prop := ∀ (i j : Nat) (p q : StV × Stp), i ≠ j → P[i]? = some p → P[j]? = some q → ∀ g, (Value.slice p.1.H.A p.1.H.n p.1.H.c).ownBlock = some g → (Value.slice q.1.H.A q.1.H.n q.1.H.c).ownBlock ≠ some g
theorem apart_snoc {P : List (StV × Stp)} {x : StV × Stp} {m : Nat} (h : Apart P) (hl : ∀ p ∈ P, ∀ g, (Value.slice p.1.H.A p.1.H.n p.1.H.c).ownBlock = some g → g < m) (hx : ∀ g, (Value.slice x.1.H.A x.1.H.n x.1.H.c).ownBlock = some g → m ≤ g) : Apart (P ++ [x]) := by
  intro i j p q hij hp hq g hg hg'
  rcases Nat.lt_or_ge i P.length with h1 | h1
  · rw [List.getElem?_append_left h1] at hp
    rcases Nat.lt_or_ge j P.length with h2 | h2
    · rw [List.getElem?_append_left h2] at hq
      exact h i j p q hij hp hq g hg hg'
    · rw [List.getElem?_append_right h2] at hq
      have hqx : q = x := by
        rcases Nat.eq_zero_or_pos (j - P.length) with h3 | h3
        · rw [h3] at hq; exact (Option.some.inj hq).symm
        · rw [List.getElem?_eq_none (by simp; omega)] at hq; cases hq
      have := hl p (List.mem_of_getElem? hp) g hg
      have := hx g (by rw [← hqx]; exact hg')
      omega
  · rw [List.getElem?_append_right h1] at hp
    have hpx : p = x ∧ i = P.length := by
      rcases Nat.eq_zero_or_pos (i - P.length) with h3 | h3
      · rw [h3] at hp; exact ⟨(Option.some.inj hp).symm, by omega⟩
      · rw [List.getElem?_eq_none (by simp; omega)] at hp; cases hp
    rcases Nat.lt_or_ge j P.length with h2 | h2
    · rw [List.getElem?_append_left h2] at hq
      have := hl q (List.mem_of_getElem? hq) g hg'
      have := hx g (by rw [← hpx.1]; exact hg)
      omega
    · rw [List.getElem?_append_right h2] at hq
      rcases Nat.eq_zero_or_pos (j - P.length) with h3 | h3
      · omega
      · rw [List.getElem?_eq_none (by simp; omega)] at hq; cases hq
theorem cp_setAt {W : World} {base n c g size j : Nat} {e : TypeId} {xs : List Value} (h : W.ownsRow base e size (.slice (some ⟨g, 0, none⟩) n c) n xs) (hj : j < n * size) (u : Value) : (W.setCell ⟨g, j, none⟩ u).ownsRow base e size (.slice (some ⟨g, 0, none⟩) n c) n (xs.set j u) := by
  refine ⟨by rw [List.length_set]; exact h.1, ?_⟩
  rcases h.2 with ⟨h0, _⟩ | ⟨g', cap, cur, h0, hb, hh, h3, h4, h5, h6⟩
  · cases h0
  · injection h0 with h0 _ h1
    injection h0 with h0
    injection h0 with h0
    subst h0
    refine .inr ⟨g, cap, cur.setIfInBounds j u, by rw [h1], hb, ?_, h3, h4, by simp [h5], ?_⟩
    · simp [World.setCell, Array.getElem?_modify, hh]
    · rw [← h6, Array.toList_setIfInBounds, List.take_set]
theorem scells_put2 : ∀ (P : List (StV × Stp)) (R : List (StV × Stp)) (v v' : StV) (s : Stp), ((scells (P ++ (v, s) :: R)).set (P.length * 4 + 2) (.slice v'.L.A v'.L.n v'.L.c)).set (P.length * 4 + 3) (.slice v'.H.A v'.H.n v'.H.c) = scells (P ++ (v', s) :: R)
  | [], R, v, v', s => rfl
  | p :: P, R, v, v', s => by
    have ih := scells_put2 P R v v' s
    have e : ∀ (l : List (StV × Stp)), scells (p :: l) = scell p ++ scells l := fun l => rfl
    have hs : ∀ (l : List Value) (j : Nat) (u : Value), (scell p ++ l).set ((P.length + 1) * 4 + j) u = scell p ++ l.set (P.length * 4 + j) u := fun l j u => by
      rw [List.set_append_right _ _ (by show 4 ≤ _; omega)]
      congr 2
      show (P.length + 1) * 4 + j - 4 = _
      omega
    rw [List.cons_append, List.cons_append, e, e, ← ih, List.length_cons, hs, hs]
theorem own_put2 {W : World} {base n c g k : Nat} {P R : List (StV × Stp)} {v v' : StV} {s : Stp} (h : W.ownsRow base 33 4 (.slice (some ⟨g, 0, none⟩) n c) n (scells (P ++ (v, s) :: R))) (hl : P.length = k) (hk : k < n) :
    ((W.setCell ⟨g, k * 4 + 2, none⟩ (.slice v'.L.A v'.L.n v'.L.c)).setCell ⟨g, k * 4 + 3, none⟩ (.slice v'.H.A v'.H.n v'.H.c)).ownsRow base 33 4 (.slice (some ⟨g, 0, none⟩) n c) n (scells ((P ++ [(v', s)]) ++ R)) := by
  rw [List.append_assoc]
  show World.ownsRow _ _ _ _ _ _ (scells (P ++ (v', s) :: R))
  rw [← scells_put2 P R v v' s, hl]
  exact cp_setAt (cp_setAt h (by omega) _) (by omega) _
theorem own_base {w : World} {B B' : Nat} {e : TypeId} {size n : Nat} {v : Value} {xs : List Value} (h : w.ownsRow B e size v n xs) (hb : B' ≤ B) : w.ownsRow B' e size v n xs := by
  refine ⟨h.1, ?_⟩
  rcases h.2 with h0 | ⟨g', cap, cur, h1, h2, h3⟩
  · exact .inl h0
  · exact .inr ⟨g', cap, cur, h1, Nat.le_trans hb h2, h3⟩
theorem cp_next {w wr W9 : World} {n c g k Ln Hn cL cH : Nat} {AL AH : Option Addr} {P R : List (StV × Stp)} {v : StV} {s : Stp} {cur : Array Value}
    (h : wr.ownsRow w.heap.size 33 4 (.slice (some ⟨g, 0, none⟩) n c) n (scells (P ++ (v, s) :: R))) (hl : P.length = k) (hk : k < n) (hcur : Bk wr g 33 cur) (hb : Below wr.heap.size wr W9)
    (h1 : W9.ownsRow wr.heap.size 34 1 (.slice AL Ln cL) Ln (s.lits.map (Value.int .i64))) (h2 : W9.ownsRow wr.heap.size 3 1 (.slice AH Hn cH) Hn (s.hints.map (Value.int .i64)))
    (hw : Below w.heap.size w wr) (hs : StpAt wr ⟨⟨v.L.A, Ln, v.L.c⟩, ⟨v.H.A, Hn, v.H.c⟩⟩ s) (ht : ∀ p ∈ P, StpO wr w.heap.size p.1 p.2) (ha : Apart P) :
    Hid (((W9.setCell ⟨g, k * 4 + 2, none⟩ (.slice AL Ln cL)).setCell ⟨g, k * 4 + 3, none⟩ (.slice AH Hn cH)).ownsRow w.heap.size 33 4 (.slice (some ⟨g, 0, none⟩) n c) n (scells ((P ++ [(⟨⟨AL, Ln, cL⟩, ⟨AH, Hn, cH⟩⟩, s)]) ++ R))) ∧
    Hid (∀ p ∈ P ++ [(⟨⟨AL, Ln, cL⟩, ⟨AH, Hn, cH⟩⟩, s)], StpO ((W9.setCell ⟨g, k * 4 + 2, none⟩ (.slice AL Ln cL)).setCell ⟨g, k * 4 + 3, none⟩ (.slice AH Hn cH)) w.heap.size p.1 p.2) ∧
    Hid (Apart (P ++ [(⟨⟨AL, Ln, cL⟩, ⟨AH, Hn, cH⟩⟩, s)])) ∧
    Hid (Below w.heap.size w ((W9.setCell ⟨g, k * 4 + 2, none⟩ (.slice AL Ln cL)).setCell ⟨g, k * 4 + 3, none⟩ (.slice AH Hn cH))) := by
  have hk9 := bkbel hcur hb
  have hf : Fr (fun q => q = g) W9 ((W9.setCell ⟨g, k * 4 + 2, none⟩ (.slice AL Ln cL)).setCell ⟨g, k * 4 + 3, none⟩ (.slice AH Hn cH)) := ((Fr.refl (fun q => q = g) W9).setCell (p := ⟨g, k * 4 + 2, none⟩) (.inl rfl) _).setCell (p := ⟨g, k * 4 + 3, none⟩) (.inl rfl) _
  have hgw : w.heap.size ≤ g := (h.lt g rfl).1
  have hwz := hw.size
  refine ⟨own_put2 (v' := ⟨⟨AL, Ln, cL⟩, ⟨AH, Hn, cH⟩⟩) (own_fr (F := fun _ => False) h (Fr.of_below hb) (fun _ _ h => h)) hl hk, ?_, ?_, ?_⟩
  · intro p hp
    rcases List.mem_append.1 hp with hp | hp
    · exact ((ht p hp).below hb).frM hk9 hf
    · obtain rfl := List.mem_singleton.1 hp
      exact StpO.frM ⟨hs.id, own_base h1 hwz, own_base h2 hwz, hs.lits.2, hs.hints.2⟩ hk9 hf
  · exact apart_snoc ha (m := wr.heap.size) (fun p hp q hq => ((ht p hp).ho.lt q hq).2) (fun q hq => (h2.lt q hq).1)
  · exact (hw.trans (hb.mono hwz)).trans (hf.below w.heap.size (by have := hb.size; omega) (fun q hq e => by omega))
def CopyPost (w : World) (n : Nat) (L : List (StV × Stp)) (e : Ending) (w' : World) : Prop :=
  ∃ A' c' P, e = .returned (.slice A' n c') ∧ w'.ownsRow w.heap.size 33 4 (.slice A' n c') n (scells P) ∧ P.map (·.2) = L.map (·.2) ∧ P.length = n ∧ (∀ p ∈ P, StpO w' w.heap.size p.1 p.2) ∧ Apart P ∧ Below w.heap.size w w'
set_option maxHeartbeats 2000000 in
set_option maxRecDepth 100000 in
theorem copyC (A : Option Addr) (n c : Nat) (L : List (StV × Stp)) (w : World) (h : Hid (StepsAt w A n L)) :
    Calls Tryz.prog 18 #[.slice A n c] w (CopyPost w n L) := by
  have hn : n ≤ 100000000 := h.out.small
  go_enter Tryz.func18, Tryz.ntmps18
  go_wp2_with fail
  refine (clone_step A n c (scells L) w (Lib.hid h.out.rd) (Lib.hid (by rw [scells_length, h.out.len])) (Lib.hid (fun u hu => by obtain ⟨p, _, hp⟩ := List.mem_flatMap.1 hu; exact scell_one p u hp)) (by omega)).mono ?_
  rintro e w1 ⟨A1, c1, rfl, ho, hb⟩
  have HO1 := Lib.hid ho
  have HB1 := Lib.hid hb
  clear ho hb
  go_wp2_with fail
  go_loopw [9] (fun v9 wr => ∃ (k : Nat) (P : List (StV × Stp)), k ≤ n ∧ v9 = .int .i64 k ∧ Hid (P.length = k) ∧ Hid (wr.ownsRow w.heap.size 33 4 (.slice A1 n c1) n (scells (P ++ L.drop k))) ∧ Hid (P.map (·.2) = (L.map (·.2)).take k) ∧ Hid (∀ p ∈ P, StpO wr w.heap.size p.1 p.2) ∧ Hid (Apart P) ∧ Hid (Below w.heap.size w wr)) (fun v9 _ => n - (intOf v9).toNat)
  case atStart => exact ⟨0, [], Nat.zero_le _, rfl, rfl, HO1, rfl, Lib.hid (fun p hp => by cases hp), Lib.hid (fun i j p q _ hp => by simp at hp), HB1⟩
  case round =>
    obtain ⟨k, P, hk, rfl, HL, HO, HM, HT, HA, HB⟩ := hrel
    have hki : ∀ b : Bool, decide (k < n) = b → decide ((k : Int) < (n : Int)) = b := fun b hb => by rw [← hb]; exact decide_eq_decide.2 (by omega)
    by_cases hlt : k < n
    · have e1 := hki true (decide_eq_true hlt)
      clear hki
      obtain ⟨b, off, LA, HA1, Ln, Lc, Hn, Hc, del, id, lits, hints, rfl, hx, hbl, p0, p1, p2, p3⟩ := (h.out.rd.below HB.out).stp h.out.len hlt
      obtain ⟨g, rfl⟩ : ∃ g, A1 = some ⟨g, 0, none⟩ := by
        rcases HO.out.2 with ⟨h1, h2⟩ | ⟨g', cap, cur, h1, _⟩
        · omega
        · injection h1 with h1
          exact ⟨g', h1⟩
      have HS := Lib.hid ((h.out.all k _ _ hx).below HB.out)
      have HX := Lib.hid hx
      have hdrop : L.drop k = (⟨⟨LA, Ln, Lc⟩, ⟨HA1, Hn, Hc⟩⟩, ⟨del, id, lits, hints⟩) :: L.drop (k + 1) := by
        obtain ⟨hk', he⟩ := List.getElem?_eq_some_iff.1 hx
        rw [← he, List.drop_eq_getElem_cons hk']
      have HD := Lib.hid hdrop
      have hki : (k : Int) < (n : Int) := by omega
      have hL1 : Ln ≤ 100000000 := HS.out.lits.2.2.2
      have hH1 : Hn ≤ 100000000 := HS.out.hints.2.2.2
      obtain ⟨cur, hcur⟩ := own_bk HO.out
      have HCUR := Lib.hid hcur
      clear hx hdrop hcur
      go_upto_region 5 with fail
      have hD := HO.out
      rw [HD.out] at hD
      have HOD := Lib.hid hD
      have HO9 := HOD
      have HLS := Lib.hid HS.out.lits
      have HHS := Lib.hid HS.out.hints
      clear hD HO
      have f2 := HCUR.out.frozen (k * 4 + 2); have f3 := HCUR.out.frozen (k * 4 + 3)
      have HL3 : Hid (∀ W, Below wr.heap.size wr W → Calls Tryz.prog 45 #[.slice LA Ln Lc] W fun e w' => ∃ A' c', e = .returned (.slice A' Ln c') ∧ w'.ownsRow W.heap.size 34 1 (.slice A' Ln c') Ln (lits.map (Value.int .i64)) ∧ Below W.heap.size W w') := fun W hW =>
        clone_lit LA Ln Lc _ W (Lib.hid (HLS.out.1.below hW)) (Lib.hid (by rw [List.length_map]; exact HLS.out.2.1)) (Lib.hid (one_ints _ _)) (by omega)
      have HH3 : Hid (∀ W, Below wr.heap.size wr W → Calls Tryz.prog 43 #[.slice HA1 Hn Hc] W fun e w' => ∃ A' c', e = .returned (.slice A' Hn c') ∧ w'.ownsRow W.heap.size 3 1 (.slice A' Hn c') Hn (hints.map (Value.int .i64)) ∧ Below W.heap.size W w') := fun W hW =>
        clone_int HA1 Hn Hc _ W (Lib.hid (HHS.out.1.below hW)) (Lib.hid (by rw [List.length_map]; exact HHS.out.2.1)) (Lib.hid (one_ints _ _)) (by omega)
      have hgl : g < wr.heap.size := HCUR.out.lt
      obtain ⟨b9, o9, LA9, HA9, Ln9, Lc9, Hn9, Hc9, del9, id9, lits9, hints9, hA9, hx9, hbl9, y0, y1, y2, y3⟩ := (Rd.of_own HOD.out).stp (L := P ++ (⟨⟨LA, Ln, Lc⟩, ⟨HA1, Hn, Hc⟩⟩, ⟨del, id, lits, hints⟩) :: L.drop (k + 1)) (by rw [← HD.out, List.length_append, List.length_drop, HL.out, h.out.len]; omega) hlt
      injection hA9 with hA9
      injection hA9 with hA9 hA10
      subst hA9; subst hA10
      simp only [Nat.zero_add] at y0 y1 y2 y3
      clear hx9 hbl9 y0 y1
      go_region_law
        (first
          | (go_simp; go_at_call 45
             refine (HL3.out _ ?_).mono ?_
             · first | exact (Below.refl _ _).drew | exact HBH.out
             rintro e wL ⟨AL, cL, rfl, hoL, hbL⟩
             have HBL : Hid (Below wr.heap.size wr wL) := by first | exact bthen (Below.refl _ _).drew hbL | exact bthen HBH.out hbL
             have HOL : Hid (wL.ownsRow wr.heap.size 34 1 (.slice AL Ln cL) Ln (lits.map (Value.int .i64))) := by first | exact hoL | exact own_base hoL HBH.out.size
             have r2 := (HBL.out.cell (p := ⟨b, off + k * 4 + 2, none⟩) hbl).trans p2
             have r3 := (HBL.out.cell (p := ⟨b, off + k * 4 + 3, none⟩) hbl).trans p3
             have s2 := (HBL.out.cell (p := ⟨g, k * 4 + 2, none⟩) hgl).trans y2
             have s3 := (HBL.out.cell (p := ⟨g, k * 4 + 3, none⟩) hgl).trans y3
             have i2 := (bkbel HCUR.out HBL.out).frozen (k * 4 + 2)
             have i3 := (bkbel HCUR.out HBL.out).frozen (k * 4 + 3)
             clear hoL)
          | (go_simp; go_at_call 43
             refine (HH3.out _ ?_).mono ?_
             · first | exact (Below.refl _ _).drew | exact HBL.out
             rintro e wH ⟨AH, cH, rfl, hoH, hbH⟩
             have HBH : Hid (Below wr.heap.size wr wH) := by first | exact bthen (Below.refl _ _).drew hbH | exact bthen HBL.out hbH
             have HOH : Hid (wH.ownsRow wr.heap.size 3 1 (.slice AH Hn cH) Hn (hints.map (Value.int .i64))) := by first | exact hoH | exact own_base hoH HBL.out.size
             have t2 := (HBH.out.cell (p := ⟨b, off + k * 4 + 2, none⟩) hbl).trans p2
             have t3 := (HBH.out.cell (p := ⟨b, off + k * 4 + 3, none⟩) hbl).trans p3
             have u2 := (HBH.out.cell (p := ⟨g, k * 4 + 2, none⟩) hgl).trans y2
             have u3 := (HBH.out.cell (p := ⟨g, k * 4 + 3, none⟩) hgl).trans y3
             have j2 := (bkbel HCUR.out HBH.out).frozen (k * 4 + 2)
             have j3 := (bkbel HCUR.out HBH.out).frozen (k * 4 + 3)
             clear hoH))
      all_goals
        first
          | (have HL9 := Lib.hid (own_fr (F := fun _ => False) HOL.out (Fr.of_below hbH) (fun _ _ h => h))
             have HH9 := HOH
             have HB9 := HBH
             have HN9 := Lib.hid (cp_next HO9.out HL.out hlt HCUR.out HB9.out HL9.out HH9.out HB.out HS.out HT.out HA.out))
          | (have HH9 := Lib.hid (own_fr (F := fun _ => False) HOH.out (Fr.of_below hbL) (fun _ _ h => h))
             have HL9 := HOL
             have HB9 := HBL
             have HN9 := Lib.hid (cp_next HO9.out HL.out hlt HCUR.out HB9.out HL9.out HH9.out HB.out HS.out HT.out HA.out))
        clear HBL HBH HOL HOH r2 r3 s2 s3 i2 i3 t2 t3 u2 u3 j2 j3 y2 y3 f2 f3 p0 p1 p2 p3
        go_wp2_with fail
        go_roundw
        case rel =>
          refine ⟨k + 1, P ++ ([(⟨⟨AL, Ln, cL⟩, ⟨AH, Hn, cH⟩⟩, ⟨del, id, lits, hints⟩)] : List (StV × Stp)), by omega, by go_num, ?_, HN9.out.1, ?_, HN9.out.2.1, HN9.out.2.2.1, HN9.out.2.2.2⟩
          · show _ = _
            rw [List.length_append, HL.out]
            rfl
          · show _ = _
            rw [List.map_append, HM.out, take_snoc (x := (⟨del, id, lits, hints⟩ : Stp)) (by rw [List.getElem?_map, HX.out]; rfl)]
            rfl
        case measure => simp [intOf]; omega
    · have e1 := hki false (decide_eq_false hlt)
      clear hki
      obtain rfl : k = n := by omega
      have hd : L.drop k = [] := List.drop_eq_nil_of_le (by rw [h.out.len]; exact Nat.le_refl _)
      have hm := HM.out
      rw [List.take_of_length_le (by rw [List.length_map, h.out.len]; exact Nat.le_refl _)] at hm
      have ho := HO.out
      rw [hd, List.append_nil] at ho
      have HM2 := Lib.hid hm
      have HO2 := Lib.hid ho
      clear hm ho hd HM HO
      go_wp2
      go_ret
      exact ⟨A1, c1, P, rfl, HO2.out, HM2.out, HL.out, HT.out, HA.out, HB.out⟩
end Go.Proofs.YteglgcfbmjlnkaaGreatDoor
