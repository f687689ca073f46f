/-
  Line; rows of steps in memory; Check.
-/
import Derived.Test.YteglgcfbmjlnkaaGreatDoorLine
set_option linter.unusedVariables false
set_option linter.unusedSimpArgs false
namespace Go.Proofs.YteglgcfbmjlnkaaGreatDoor
open Go.RowKit

set_option maxRecDepth 100000 in
theorem lineT (del : Bool) (id : Int) (lits hints : List Int) (LA HA : Option Addr) (Ln Lc Hn Hc : Nat) (w : World) (h : Hid (StpAt w ⟨⟨LA, Ln, Lc⟩, ⟨HA, Hn, Hc⟩⟩ ⟨del, id, lits, hints⟩)) (hv : Hid (Vars w)) (hr : Hid (rightS ⟨del, id, lits, hints⟩ = true)) :
    Calls Tryz.prog 23 #[.agg #[.bool del, .int .i64 id, .slice LA Ln Lc, .slice HA Hn Hc]] w fun e w' => e = .returned (.tuple #[.string (str (lineS ⟨del, id, lits, hints⟩)), .int .i64 0]) ∧ Below w.heap.size w w' := by
  have HX0 := Lib.hid (Bk.new w 33 #[.bool del, .int .i64 id, .slice LA Ln Lc, .slice HA Hn Hc])
  have HB0 : Hid (Below w.heap.size w (w.alloc (.cells #[.bool del, .int .i64 id, .slice LA Ln Lc, .slice HA Hn Hc] 33))) := balloc (Below.refl _ _) _
  go_enter Tryz.func23, Tryz.ntmps23
  go_wp2_with fail
  generalize (w.alloc (.cells #[.bool del, .int .i64 id, .slice LA Ln Lc, .slice HA Hn Hc] 33)) = W0 at *
  refine (stepRight del id lits hints LA HA Ln Lc Hn Hc W0 (Lib.hid (h.out.below HB0.out))).mono ?_
  rintro e w1 ⟨rfl, hb⟩
  rw [hr.out]
  have HB1 := Lib.hid (bthen HB0.out hb)
  obtain ⟨x0, x1, x2, x3⟩ := cells4 (bkbel HX0.out hb)
  clear hb
  go_wp2_with fail
  refine (lineC del id lits hints LA HA Ln Lc Hn Hc w1 (Lib.hid (h.out.below HB1.out)) (Lib.hid (hv.out.below HB1.out))).mono ?_
  rintro e w2 ⟨rfl, hb⟩
  have HB2 := Lib.hid (bthen HB1.out hb)
  clear hb x0 x1 x2 x3
  go_wp2
  go_ret2
  exact ⟨rfl, HB2.out⟩
set_option maxRecDepth 100000 in
theorem lineF (del : Bool) (id : Int) (lits hints : List Int) (LA HA : Option Addr) (Ln Lc Hn Hc : Nat) (w : World) (h : Hid (StpAt w ⟨⟨LA, Ln, Lc⟩, ⟨HA, Hn, Hc⟩⟩ ⟨del, id, lits, hints⟩)) (hr : Hid (rightS ⟨del, id, lits, hints⟩ = false)) :
    Calls Tryz.prog 23 #[.agg #[.bool del, .int .i64 id, .slice LA Ln Lc, .slice HA Hn Hc]] w fun e w' => e = .returned (.tuple #[.string ⟨#[]⟩, .int .i64 70]) ∧ Below w.heap.size w w' := by
  have HX0 := Lib.hid (Bk.new w 33 #[.bool del, .int .i64 id, .slice LA Ln Lc, .slice HA Hn Hc])
  have HB0 : Hid (Below w.heap.size w (w.alloc (.cells #[.bool del, .int .i64 id, .slice LA Ln Lc, .slice HA Hn Hc] 33))) := balloc (Below.refl _ _) _
  go_enter Tryz.func23, Tryz.ntmps23
  go_wp2_with fail
  generalize (w.alloc (.cells #[.bool del, .int .i64 id, .slice LA Ln Lc, .slice HA Hn Hc] 33)) = W0 at *
  refine (stepRight del id lits hints LA HA Ln Lc Hn Hc W0 (Lib.hid (h.out.below HB0.out))).mono ?_
  rintro e w1 ⟨rfl, hb⟩
  rw [hr.out]
  have HB1 := Lib.hid (bthen HB0.out hb)
  clear hb
  go_wp2
  go_ret2
  exact ⟨rfl, HB1.out⟩

/-! ### Rows of steps -/
def scell (p : StV × Stp) : List Value := [.bool p.2.del, .int .i64 p.2.id, .slice p.1.L.A p.1.L.n p.1.L.c, .slice p.1.H.A p.1.H.n p.1.H.c]
def scells (L : List (StV × Stp)) : List Value := L.flatMap scell
theorem scells_length (L : List (StV × Stp)) : (scells L).length = L.length * 4 := by
  induction L with
  | nil => rfl
  | cons x D ih => simp only [scells, List.flatMap_cons, List.length_append] at ih ⊢; rw [ih]; simp [scell]; omega
theorem scells_at (L : List (StV × Stp)) (i : Nat) (v : StV) (s : Stp) (h : L[i]? = some (v, s)) :
    (scells L)[i * 4]? = some (.bool s.del) ∧ (scells L)[i * 4 + 1]? = some (.int .i64 s.id) ∧ (scells L)[i * 4 + 2]? = some (.slice v.L.A v.L.n v.L.c) ∧ (scells L)[i * 4 + 3]? = some (.slice v.H.A v.H.n v.H.c) := by
  induction L generalizing i with
  | nil => simp at h
  | cons y D ih =>
    have hc : scells (y :: D) = scell y ++ scells D := rfl
    cases i with
    | zero => simp at h; subst h; simp [hc, scell]
    | succ i =>
      simp at h
      obtain ⟨h1, h2, h3, h4⟩ := ih i h
      have hl : (scell y).length = 4 := rfl
      refine ⟨?_, ?_, ?_, ?_⟩
      · rw [hc, List.getElem?_append_right (by rw [hl]; omega), hl]; rw [← h1]; congr 1; omega
      · rw [hc, List.getElem?_append_right (by rw [hl]; omega), hl]; rw [← h2]; congr 1; omega
      · rw [hc, List.getElem?_append_right (by rw [hl]; omega), hl]; rw [← h3]; congr 1; omega
      · rw [hc, List.getElem?_append_right (by rw [hl]; omega), hl]; rw [← h4]; congr 1; omega
theorem Rd.stp {w : World} {A : Option Addr} {L : List (StV × Stp)} {n i : Nat} (h : Rd w A (scells L)) (hl : L.length = n) (hi : i < n) :
    ∃ (b off : Nat) (LA HA : Option Addr) (Ln Lc Hn Hc : Nat) (del : Bool) (id : Int) (lits hints : List Int), A = some ⟨b, off, none⟩ ∧ L[i]? = some (⟨⟨LA, Ln, Lc⟩, ⟨HA, Hn, Hc⟩⟩, ⟨del, id, lits, hints⟩) ∧ b < w.heap.size ∧ w.cell? ⟨b, off + i * 4, none⟩ = some (.bool del) ∧ w.cell? ⟨b, off + i * 4 + 1, none⟩ = some (.int .i64 id) ∧ w.cell? ⟨b, off + i * 4 + 2, none⟩ = some (.slice LA Ln Lc) ∧ w.cell? ⟨b, off + i * 4 + 3, none⟩ = some (.slice HA Hn Hc) := by
  have hne : scells L ≠ [] := by
    intro e
    have := scells_length L
    rw [e] at this
    simp at this
    omega
  obtain ⟨b, off, rfl, hb, hc⟩ := h.cells hne
  have hx : L[i]? = some (L[i]'(by omega)) := List.getElem?_eq_getElem _
  generalize L[i]'(by omega) = q at hx
  obtain ⟨⟨⟨LA, Ln, Lc⟩, ⟨HA, Hn, Hc⟩⟩, ⟨del, id, lits, hints⟩⟩ := q
  obtain ⟨h1, h2, h3, h4⟩ := scells_at L i _ _ hx
  exact ⟨b, off, LA, HA, Ln, Lc, Hn, Hc, del, id, lits, hints, rfl, hx, hb, hc _ _ h1, hc _ _ h2, hc _ _ h3, hc _ _ h4⟩
/-- A row of steps at a slice. -/
structure StepsAt (w : World) (A : Option Addr) (n : Nat) (L : List (StV × Stp)) : Prop where
  rd : Rd w A (scells L)
  len : L.length = n
  all : ∀ (i : Nat) (v : StV) (s : Stp), L[i]? = some (v, s) → StpAt w v s
  small : n ≤ 100000000
theorem StepsAt.below {w w' : World} {A : Option Addr} {n : Nat} {L : List (StV × Stp)} (h : StepsAt w A n L) (hb : Below w.heap.size w w') : StepsAt w' A n L := ⟨h.rd.below hb, h.len, fun i v s hi => (h.all i v s hi).below hb, h.small⟩

/-! ### Check -/
def checkF (last : Int) (i : Nat) : List (StV × Stp) → Int × Int
  | [] => (-1, 0)
  | p :: r => if rightS p.2 && fitsB p.2 last then checkF p.2.id (i + 1) r else ((i : Int), 70)
def checkS (L : List (StV × Stp)) : Int × Int := if 262144 < L.length then (-1, 5) else checkF 0 0 L
set_option maxRecDepth 100000 in
set_option maxHeartbeats 1000000 in
theorem checkC (A : Option Addr) (n c : Nat) (L : List (StV × Stp)) (w : World) (h : Hid (StepsAt w A n L)) (ci ce : Int) (hc : Hid (checkS L = (ci, ce))) :
    Calls Tryz.prog 12 #[.slice A n c] w fun e w' => e = .returned (.tuple #[.int .i64 ci, .int .i64 ce]) ∧ Below w.heap.size w w' := by
  have hn : n ≤ 100000000 := h.out.small
  by_cases hbig : 262144 < n
  · have hd : decide ((262144 : Int) < (n : Int)) = true := by simp; omega
    have E : Hid ((-1, 5) = (ci, ce)) := by
      have h1 := hc.out
      unfold checkS at h1
      rw [if_pos (by rw [h.out.len]; exact hbig)] at h1
      exact h1
    clear hbig
    go_enter Tryz.func12, Tryz.ntmps12
    go_wp2
    go_ret2
    obtain ⟨rfl, rfl⟩ := Prod.mk.inj E.out
    exact ⟨rfl, Below.refl _ _⟩
  · have hd : decide ((262144 : Int) < (n : Int)) = false := by simp; omega
    have E : Hid (checkF 0 0 L = (ci, ce)) := by
      have h1 := hc.out
      unfold checkS at h1
      rw [if_neg (by rw [h.out.len]; exact hbig)] at h1
      exact h1
    clear hbig
    go_enter Tryz.func12, Tryz.ntmps12
    go_wp2_with fail
    go_loopw [12, 4] (fun v12 v4 wr => ∃ (k : Nat) (last : Int), k ≤ n ∧ v12 = .int .i64 k ∧ v4 = .int .i64 last ∧ Hid (checkF last k (L.drop k) = (ci, ce)) ∧ Hid (Below w.heap.size w wr)) (fun v12 _ _ => n - (intOf v12).toNat)
    case atStart => exact ⟨0, 0, Nat.zero_le _, rfl, rfl, E, Below.refl _ _⟩
    case round =>
      obtain ⟨k, last, hk, rfl, rfl, HE, HB⟩ := hrel
      by_cases hlt : k < n
      · obtain ⟨b, off, LA, HA, Ln, Lc, Hn, Hc, del, id, lits, hints, rfl, hx, hbl, c0, c1, c2, c3⟩ := (h.out.rd.below HB.out).stp h.out.len hlt
        have HS := Lib.hid ((h.out.all k _ _ hx).below HB.out)
        have hdrop : L.drop k = (⟨⟨LA, Ln, Lc⟩, ⟨HA, Hn, Hc⟩⟩, ⟨del, id, lits, hints⟩) :: L.drop (k + 1) := by
          obtain ⟨hk', he⟩ := List.getElem?_eq_some_iff.1 hx
          rw [← he, List.drop_eq_getElem_cons hk']
        have hE := HE.out
        rw [hdrop] at hE
        unfold checkF at hE
        dsimp only at hE
        clear HE hdrop hx
        have HX0 := Lib.hid (Bk.new wr 33 #[.bool del, .int .i64 id, .slice LA Ln Lc, .slice HA Hn Hc])
        have HB0 : Hid (Below wr.heap.size wr (wr.alloc (.cells #[.bool del, .int .i64 id, .slice LA Ln Lc, .slice HA Hn Hc] 33))) := balloc (Below.refl _ _) _
        cases hr : rightS ⟨del, id, lits, hints⟩ with
        | false =>
          rw [hr] at hE
          simp only [Bool.false_and, Bool.false_eq_true, if_false] at hE
          have HE2 := Lib.hid hE
          have HR := Lib.hid hr
          clear hE hr
          go_wp2_with fail
          refine (stepRight del id lits hints LA HA Ln Lc Hn Hc _ (Lib.hid (HS.out.below HB0.out))).mono ?_
          rintro e w1 ⟨rfl, hb⟩
          rw [HR.out]
          have HB1 := Lib.hid (bthen (bthen HB.out HB0.out) hb)
          clear hb
          go_wp2
          go_ret2
          obtain ⟨rfl, rfl⟩ := Prod.mk.inj HE2.out
          exact ⟨rfl, HB1.out⟩
        | true =>
          rw [hr] at hE
          simp only [Bool.true_and] at hE
          cases hf : fitsB ⟨del, id, lits, hints⟩ last with
          | false =>
            rw [hf] at hE
            simp only [Bool.false_eq_true, if_false] at hE
            have HE2 := Lib.hid hE
            have HR := Lib.hid hr
            have HF := Lib.hid hf
            clear hE hr hf
            go_wp2_with fail
            refine (stepRight del id lits hints LA HA Ln Lc Hn Hc _ (Lib.hid (HS.out.below HB0.out))).mono ?_
            rintro e w1 ⟨rfl, hb⟩
            rw [HR.out]
            have HB1 := Lib.hid (bthen (bthen HB.out HB0.out) hb)
            obtain ⟨x0, x1, x2, x3⟩ := cells4 (bkbel HX0.out hb)
            clear hb
            go_wp2_with fail
            refine (fitsC del id (.int .i64 0) (.int .i64 0) LA HA Ln Lc Hn Hc last lits hints w1).mono ?_
            rintro e w2 ⟨rfl, hb⟩
            rw [HF.out]
            have HB2 := Lib.hid (bthen HB1.out hb)
            clear hb x0 x1 x2 x3
            go_wp2
            go_ret2
            obtain ⟨rfl, rfl⟩ := Prod.mk.inj HE2.out
            exact ⟨rfl, HB2.out⟩
          | true =>
            rw [hf] at hE
            simp only [if_true] at hE
            have HE2 := Lib.hid hE
            have HR := Lib.hid hr
            have HF := Lib.hid hf
            clear hE hr hf
            go_wp2_with fail
            refine (stepRight del id lits hints LA HA Ln Lc Hn Hc _ (Lib.hid (HS.out.below HB0.out))).mono ?_
            rintro e w1 ⟨rfl, hb⟩
            rw [HR.out]
            have HB1 := Lib.hid (bthen (bthen HB.out HB0.out) hb)
            have HX1 := Lib.hid (bkbel HX0.out hb)
            obtain ⟨x0, x1, x2, x3⟩ := cells4 HX1.out
            clear hb
            go_wp2_with fail
            refine (fitsC del id (.int .i64 0) (.int .i64 0) LA HA Ln Lc Hn Hc last lits hints w1).mono ?_
            rintro e w2 ⟨rfl, hb⟩
            rw [HF.out]
            have HB2 := Lib.hid (bthen HB1.out hb)
            clear x0 x1 x2 x3
            obtain ⟨x0, x1, x2, x3⟩ := cells4 (bkbel HX1.out hb)
            clear hb
            go_wp2
            go_roundw
            case rel => exact ⟨k + 1, id, by omega, by go_num, rfl, HE2, HB2⟩
            case measure => simp [intOf]; omega
      · have hE := HE.out
        rw [List.drop_eq_nil_of_le (by rw [h.out.len]; omega)] at hE
        have HE2 : Hid ((-1, 0) = (ci, ce)) := hE
        clear hE HE
        go_wp2
        go_ret2
        obtain ⟨rfl, rfl⟩ := Prod.mk.inj HE2.out
        exact ⟨rfl, HB.out⟩
end Go.Proofs.YteglgcfbmjlnkaaGreatDoor
