/-
  Formulas in memory; dimacs.Line, formula.Check, Same, dimacs.Write.
-/
import Derived.Test.YtkpcpclaadgnbaaGreatDoorFmC
import Derived.BigQuiet
set_option linter.unusedVariables false
set_option linter.unusedSimpArgs false
namespace Go.Proofs.YtkpcpclaadgnbaaGreatDoor
open Go.RowKit Go.PlainAid

/-- Clauses, in a slice. -/
structure ClsAt (w : World) (A : Option Addr) (n : Nat) (Q : List (SV × List Int)) : Prop where
  rd : Rd w A (Q.map fun p => Value.slice p.1.A p.1.n p.1.c)
  len : Q.length = n
  all : ∀ (i : Nat) (p : SV × List Int), Q[i]? = some p → IntsAt w p.1 p.2
  small : n ≤ 100000000
theorem ClsAt.below {w w' : World} {A : Option Addr} {n : Nat} {Q : List (SV × List Int)} (h : ClsAt w A n Q) (hb : Below w.heap.size w w') : ClsAt w' A n Q := ⟨h.rd.below hb, h.len, fun i p hi => (h.all i p hi).below hb, h.small⟩
theorem ClsAt.at {w : World} {A : Option Addr} {n k : Nat} {Q : List (SV × List Int)} (h : ClsAt w A n Q) (hk : k < n) : ∃ (b off : Nat) (sA : Option Addr) (sn sc : Nat) (l : List Int), A = some ⟨b, off, none⟩ ∧ Q[k]? = some (⟨sA, sn, sc⟩, l) ∧ b < w.heap.size ∧ w.cell? ⟨b, off + k, none⟩ = some (.slice sA sn sc) ∧ IntsAt w ⟨sA, sn, sc⟩ l := by
  obtain ⟨b, off, ⟨⟨sA, sn, sc⟩, l⟩, rfl, hs, hc⟩ := h.rd.getm h.len hk
  exact ⟨b, off, sA, sn, sc, l, rfl, hs, World.block_lt_of_cell? w _ hc, hc, h.all k _ hs⟩
def clsOf (Q : List (SV × List Int)) : List (List Int) := Q.map (·.2)
theorem clsOf_len (Q : List (SV × List Int)) : (clsOf Q).length = Q.length := by unfold clsOf; rw [List.length_map]
theorem clsOf_at {Q : List (SV × List Int)} {k : Nat} {p : SV × List Int} (h : Q[k]? = some p) : (clsOf Q)[k]? = some p.2 := by unfold clsOf; rw [List.getElem?_map, h]; rfl
theorem cells2 {w : World} {g : Nat} {t : TypeId} {v0 v1 : Value} (h : Bk w g t #[v0, v1]) : w.cell? ⟨g, 0, none⟩ = some v0 ∧ w.cell? ⟨g, 1, none⟩ = some v1 := ⟨h.cell 0, h.cell 1⟩
/-! ### Line -/
def lnP (c : List Int) : List UInt8 := c.flatMap fun l => Lib.itoa l ++ [32]
theorem lnP_take {l : List Int} {k : Nat} {x : Int} (h : l[k]? = some x) : lnP (l.take (k + 1)) = lnP (l.take k) ++ (Lib.itoa x ++ [32]) := by
  unfold lnP
  rw [take_snoc h, List.flatMap_append]
  simp
theorem lnP_len {c : List Int} (h : ∀ l ∈ c, I64 l) : (lnP c).length ≤ 22 * c.length := by
  unfold lnP
  induction c with
  | nil => simp
  | cons l c ih =>
    have h1 := ih (fun x hx => h x (by simp [hx]))
    have h2 := itoa_len l (h l (by simp))
    simp only [List.flatMap_cons, List.length_append, List.length_cons, List.length_nil]
    omega
def lineE (c : List Int) : List UInt8 × Int := if clauseB c then (lnS c, 0) else ([], 20)
theorem IntsAt.at {w : World} {A : Option Addr} {n c k : Nat} {l : List Int} (h : IntsAt w ⟨A, n, c⟩ l) (hk : k < n) : ∃ (b off : Nat) (x : Int), A = some ⟨b, off, none⟩ ∧ l[k]? = some x ∧ w.cell? ⟨b, off + k, none⟩ = some (.int .i64 x) := by
  obtain ⟨h1, h2, h3, h4⟩ := h
  dsimp only at h2
  obtain ⟨b, off, x, rfl, hs, hc⟩ := h1.getm h2 hk
  exact ⟨b, off, x, rfl, hs, hc⟩
set_option maxRecDepth 100000 in
set_option maxHeartbeats 1000000 in
theorem lineD6 (A : Option Addr) (n c : Nat) (l : List Int) (w : World) (h : Hid (IntsAt w ⟨A, n, c⟩ l)) (hv : Hid (Vars w)) :
    Calls Tryz.prog 28 #[.slice A n c] w fun e w' => e = .returned (.tuple #[.string (str (lineE l).1), .int .i64 (lineE l).2]) ∧ Below w.heap.size w w' := by
  have hln := h.out.2.1
  have hn := h.out.2.2.2
  dsimp only at hln hn
  have HLN := Lib.hid hln
  clear hln
  cases hcb : clauseB l with
  | false =>
    have E : Hid (lineE l = ([], 20)) := by show _ = _; unfold lineE; rw [hcb]; rfl
    go_enter Tryz.func28, Tryz.ntmps28
    go_wp2_with fail
    refine (clauseRight ⟨A, n, c⟩ l w h).mono ?_
    rintro e w1 ⟨rfl, hb⟩
    rw [hcb]
    have HB := Lib.hid hb
    clear hb hcb
    go_wp2
    go_ret2
    exact ⟨by rw [E.out]; rfl, HB.out⟩
  | true =>
    have E : Hid (lineE l = (lnS l, 0)) := by show _ = _; unfold lineE; rw [hcb]; rfl
    have HCP := Lib.hid (clause_parts hcb)
    go_enter Tryz.func28, Tryz.ntmps28
    go_wp2_with fail
    refine (clauseRight ⟨A, n, c⟩ l w h).mono ?_
    rintro e w1 ⟨rfl, hb⟩
    rw [hcb]
    have HB1 := Lib.hid hb
    have HLD := Lib.hid (Bld.new w1)
    have HBa : Hid (Below w1.heap.size w1 (w1.alloc (.cells #[.pointer none, .slice none 0 0] 88))) := balloc (Below.refl _ _) _
    clear hb hcb
    go_upto_region 5 with fail
    have hs0 : w1.heap.size ≤ (w1.alloc (.cells #[.pointer none, .slice none 0 0] 88)).heap.size := HBa.out.size
    generalize (w1.alloc (.cells #[.pointer none, .slice none 0 0] 88)) = W2 at *
    obtain ⟨p, hp⟩ : ∃ p, p = w1.heap.size := ⟨_, rfl⟩
    rw [← hp] at HLD HBa hs0
    rw [← hp]
    have hwp : w.heap.size ≤ p := by have := HB1.out.size; omega
    clear hp
    go_loopw [12] (fun v12 wr => ∃ (k : Nat), k ≤ n ∧ v12 = .int .i64 k ∧ Hid (Bld wr p p (lnP (l.take k))) ∧ Hid (Below p w1 wr) ∧ p ≤ wr.heap.size) (fun v12 _ => n - (intOf v12).toNat)
    case atStart => exact ⟨0, Nat.zero_le _, rfl, HLD, HBa, hs0⟩
    case round =>
      obtain ⟨k, hk, rfl, HLk, HBk, hsk⟩ := hrel
      have HWk := Lib.hid (Below.trans HB1.out (HBk.out.mono hwp))
      have hpl : (lnP (l.take k)).length ≤ 2200000000 := by
        have h1 := lnP_len (c := l.take k) (fun x hx => h.out.2.2.1 x (List.mem_of_mem_take hx))
        have h2 : (l.take k).length ≤ n := by rw [List.length_take, HLN.out]; omega
        omega
      by_cases hlt : k < n
      · have e1 : decide ((k : Int) < (n : Int)) = true := by simp; omega
        obtain ⟨b, off, x, rfl, hx, c0⟩ := (h.out.below HWk.out).at hlt
        have hki : (k : Int) < (n : Int) := by omega
        have hxm := List.mem_of_getElem? hx
        have hxl := HCP.out.2 x hxm
        have HI : Hid (I64 x) := lit_i64 hxl
        have ht : textL x = Lib.itoa x := by unfold textL; rw [hxl]; rfl
        have hil := itoa_len x HI.out
        have HX := Lib.hid hx
        have HT := Lib.hid ht
        have HVk := Lib.hid (hv.out.below HWk.out)
        have hz1 : (str (Lib.itoa x)).size ≤ 21 := by rw [str_size]; exact hil
        clear hx hxm hxl ht
        go_wp2_with fail
        refine (litText x wr HI HVk).mono ?_
        rintro e w3 ⟨rfl, hb3⟩
        rw [HT.out]
        have HL3 := Lib.hid (HLk.out.below hb3)
        have HB3 := Lib.hid (Below.trans HBk.out (hb3.mono hsk))
        have hs3 : p ≤ w3.heap.size := Nat.le_trans hsk hb3.size
        clear hb3 c0
        go_wp2_with fail
        refine (bldWrite p p _ _ w3 HL3 (by rw [cat_size]; show _ + (_ + 1) ≤ _; omega) hs3).mono ?_
        rintro e w4 ⟨rfl, h3, h4, _⟩
        have h5 : ((str (Lib.itoa x)) ++ (⟨#[32]⟩ : ByteArray)).data.toList = Lib.itoa x ++ [32] := by rw [cat_data, str_data]
        rw [h5, ← lnP_take HX.out] at h3
        have HL4 := Lib.hid h3
        have HB4 := Lib.hid (Below.trans HB3.out h4)
        have hs4 : p ≤ w4.heap.size := Nat.le_trans hs3 h4.size
        clear h3 h4 h5
        go_wp2
        go_roundw
        case rel => exact ⟨k + 1, by omega, by go_num, HL4, HB4, hs4⟩
        case measure => simp [intOf]; omega
      · have e1 : decide ((k : Int) < (n : Int)) = false := by simp; omega
        go_wp2_with fail
        refine (bldString p p _ _ HLk hsk).mono ?_
        rintro e w4 ⟨rfl, h3, h4, _⟩
        have HB4 := Lib.hid (Below.trans HBk.out h4)
        have h0 : l.take k = l := List.take_of_length_le (by rw [HLN.out]; omega)
        rw [h0] at hpl ⊢
        have hz2 : (⟨(lnP l).toArray⟩ : ByteArray).size ≤ 2200000000 := by show (str (lnP l)).size ≤ _; rw [str_size]; exact hpl
        clear h3 h4 h0
        go_wp2
        go_ret2
        refine ⟨?_, Below.trans HB1.out (HB4.out.mono hwp)⟩
        rw [E.out]
        refine retSE (data_inj ?_) rfl
        rw [cat_data]
        rfl
/-! ### Check -/
theorem varsC (v : Int) (w : World) : Calls Tryz.prog 58 #[.int .i64 v] w fun e w' => e = .returned (.bool (decide (0 ≤ v) && decide (v ≤ 1048576))) ∧ w = w' := by
  by_cases h1 : 0 ≤ v
  · have e1 : decide (0 ≤ v) = true := by simpa using h1
    go_enter Tryz.func58, Tryz.ntmps58
    go_wp2
    go_ret
    exact ⟨ret_bool (by first | rfl | (rw [e1]; rfl)), rfl⟩
  · have e1 : decide (0 ≤ v) = false := by simpa using h1
    go_enter Tryz.func58, Tryz.ntmps58
    go_wp2
    go_ret
    exact ⟨ret_bool (by first | rfl | (rw [e1]; rfl)), rfl⟩
set_option maxRecDepth 100000 in
theorem beyondC (v l : Int) (g : Nat) (w : World) (hg : Hid (Bk w g 3 #[.int .i64 v])) : Calls Tryz.prog 94 #[.int .i64 l, .pointer (some ⟨g, 0, none⟩)] w fun e w' => e = .returned (.bool (!litIn v l)) ∧ Below w.heap.size w w' := by
  have hc := hg.out.cell 0
  have HR := fun W => (litRight l W).mono fun e w' (h : _ ∧ _) => And.intro h.1 h.2.symm
  have HV := fun W => (litVar l W).mono fun e w' (h : _ ∧ _) => And.intro h.1 h.2.symm
  cases hl : litB l with
  | false =>
    have E : Hid (litIn v l = false) := by show _ = _; unfold litIn; rw [hl]; rfl
    rw [hl] at HR
    clear hl HV
    go_enter Tryz.func94, Tryz.ntmps94
    go_wp2_with fail
    go_quiet ((go_at_call 90; with_reducible exact Calls.quiet_of_same (HR _)))
    go_wp2
    go_ret
    exact ⟨ret_bool (by rw [E.out]; rfl), bdrewN (Below.refl _ _) _⟩
  | true =>
    have hvl : varL l = (l.natAbs : Int) := by unfold varL; rw [hl]; rfl
    have E : Hid (litIn v l = !decide (v < (l.natAbs : Int))) := by
      show _ = _
      unfold litIn
      rw [hl, ← decide_not]
      exact decide_eq_decide.2 (by omega)
    rw [hl] at HR
    rw [hvl] at HV
    clear hl hvl
    go_enter Tryz.func94, Tryz.ntmps94
    go_wp2_with fail
    go_quiet (first | (go_at_call 90; with_reducible exact Calls.quiet_of_same (HR _)) | (go_at_call 53; with_reducible exact Calls.quiet_of_same (HV _)))
    go_wp2
    go_ret
    exact ⟨ret_bool (by rw [E.out]; simp), bdrewN (Below.refl _ _) _⟩
theorem ent_beyond : Ent Tryz.prog 94 := Ent.of Tryz.func94 (by kernel_rfl) (by kernel_rfl)
end Go.Proofs.YtkpcpclaadgnbaaGreatDoor
