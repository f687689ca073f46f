/-
  The reference's Write and Check.
-/
import Derived.Test.YteglgcfbmjlnkaaGreatDoorLineQ
import Derived.Test.YteglgcfbmjlnkaaGreatDoorRightQ
set_option linter.unusedVariables false
set_option linter.unusedSimpArgs false
namespace Go.Proofs.YteglgcfbmjlnkaaGreatDoor
open Go.RowKit

theorem text_bound {L : List (StV × Stp)} (h : ∀ p ∈ L, (lineS p.2).length ≤ 10000000000) (k : Nat) : (textS (L.take k)).length ≤ k * 10000000001 := by
  induction k generalizing L with
  | zero => simp [textS]
  | succ k ih =>
    cases L with
    | nil => simp [textS]
    | cons p L =>
      have h1 := ih (L := L) (fun q hq => h q (by simp [hq]))
      have h2 := h p (by simp)
      unfold textS at h1 ⊢
      rw [List.take_succ_cons, List.flatMap_cons]
      simp only [List.length_append, List.length_cons, List.length_nil]
      omega
set_option maxRecDepth 100000 in
set_option maxHeartbeats 2000000 in
theorem writeQC (A : Option Addr) (n c : Nat) (L : List (StV × Stp)) (w : World) (h : Hid (StepsAt w A n L)) :
    Calls Tryz.prog 22 #[.slice A n c] w fun e w' => e = .returned (.string (str (textS L))) ∧ Below w.heap.size w w' := by
  have hn : n ≤ 100000000 := h.out.small
  have HLB : Hid (∀ p ∈ L, (lineS p.2).length ≤ 10000000000) := fun p hp => by
    obtain ⟨i, hi⟩ := List.getElem?_of_mem hp
    exact line_len (h.out.all i p.1 p.2 hi)
  go_enter Tryz.func22, Tryz.ntmps22
  go_wp2_with fail
  go_loopw [3, 4] (fun v3 v4 wr => ∃ (k : Nat), k ≤ n ∧ v4 = .int .i64 k ∧ v3 = .string (str (textS (L.take k))) ∧ Hid (Below w.heap.size w wr)) (fun _ v4 _ => n - (intOf v4).toNat)
  case atStart => exact ⟨0, Nat.zero_le _, rfl, rfl, Below.refl _ _⟩
  case round =>
    obtain ⟨k, hk, rfl, rfl, HB⟩ := hrel
    have hki : ∀ b : Bool, decide (k < n) = b → decide ((k : Int) < (n : Int)) = b := fun b hb => by rw [← hb]; exact decide_eq_decide.2 (by omega)
    have hts : (str (textS (L.take k))).size ≤ 1000000000100000000 := by
      have h1 := text_bound HLB.out k
      rw [str_size]
      omega
    by_cases hlt : k < n
    · have e1 := hki true (decide_eq_true hlt)
      clear hki
      obtain ⟨b, off, LA, HA, Ln, Lc, Hn, Hc, del, id, lits, hints, rfl, hx, hbl, p0, p1, p2, p3⟩ := (h.out.rd.below HB.out).stp h.out.len hlt
      have HS := Lib.hid ((h.out.all k _ _ hx).below HB.out)
      have hls : (str (lineS ⟨del, id, lits, hints⟩)).size ≤ 10000000000 := by rw [str_size]; exact HLB.out _ (List.mem_of_getElem? hx)
      have HX := Lib.hid hx
      have hki : (k : Int) < (n : Int) := by omega
      clear hx
      go_wp2_with fail
      refine (lineQC del id lits hints LA HA Ln Lc Hn Hc wr HS).mono ?_
      rintro e w2 ⟨rfl, hb⟩
      have HB2 := Lib.hid (bthen HB.out hb)
      have hxx : (str (textS (L.take k)) ++ str (lineS ⟨del, id, lits, hints⟩)).size ≤ 1000000010200000000 := by rw [cat_size]; omega
      clear hb
      go_wp2_with fail
      go_roundw
      case rel =>
        refine ⟨k + 1, by omega, by go_num, ?_, HB2⟩
        rw [textS_take HX.out, str_cat, str_snoc1]
        simp
      case measure => simp [intOf]; omega
    · have e1 := hki false (decide_eq_false hlt)
      obtain rfl : k = n := by omega
      clear hki
      have ht : L.take k = L := List.take_of_length_le (by rw [h.out.len]; exact Nat.le_refl _)
      rw [ht]
      clear ht
      go_wp2_with fail
      go_ret
      exact ⟨rfl, HB.out⟩
theorem fits_zero {s : Stp} (h : rightS s = true) : fitsB s 0 = true := by
  obtain ⟨⟨h1, _⟩, h2, _⟩ := right_parts h
  unfold fitsB
  rcases h2 with h2 | h2
  · rw [h2]
    by_cases h3 : s.id = 0
    · simp [h3]
    · have : 0 < s.id := by omega
      simp [this]
  · have : 0 < s.id := by omega
    simp [this]
set_option maxRecDepth 100000 in
set_option maxHeartbeats 4000000 in
theorem checkQC (A : Option Addr) (n c : Nat) (L : List (StV × Stp)) (w : World) (h : Hid (StepsAt w A n L)) (ci ce : Int) (hc : Hid (checkS L = (ci, ce))) :
    Calls Tryz.prog 21 #[.slice A n c] w fun e w' => e = .returned (.tuple #[.int .i64 ci, .int .i64 ce]) ∧ Below w.heap.size w w' := by
  have hn : n ≤ 100000000 := h.out.small
  by_cases hbig : 262144 < n
  · have hd : decide ((262144 : Int) < (n : Int)) = true := by simp; omega
    have E : Hid ((-1, 5) = (ci, ce)) := by
      have h1 := hc.out
      unfold checkS at h1
      rw [if_pos (by rw [h.out.len]; exact hbig)] at h1
      exact h1
    clear hbig
    go_enter Tryz.func21, Tryz.ntmps21
    go_wp2
    go_ret2
    obtain ⟨rfl, rfl⟩ := Prod.mk.inj E.out
    exact ⟨rfl, Below.refl _ _⟩
  · have hd : decide ((262144 : Int) < (n : Int)) = false := by simp; omega
    have E : Hid (checkF 0 0 L = (ci, ce)) := by
      have h1 := hc.out
      unfold checkS at h1
      rw [if_neg (by rw [h.out.len]; exact hbig)] at h1
      exact h1
    clear hbig
    go_enter Tryz.func21, Tryz.ntmps21
    go_wp2_with fail
    go_loopw [4] (fun v4 wr => ∃ (k : Nat) (last : Int), k ≤ n ∧ v4 = .int .i64 k ∧ Hid (k = 0 → last = 0) ∧ Hid (∀ j, k = j + 1 → ∃ p, L[j]? = some p ∧ p.2.id = last) ∧ Hid (checkF last k (L.drop k) = (ci, ce)) ∧ Hid (Below w.heap.size w wr)) (fun v4 _ => n - (intOf v4).toNat)
    case atStart => exact ⟨0, 0, Nat.zero_le _, rfl, Lib.hid (fun _ => rfl), Lib.hid (fun j h => by omega), E, Below.refl _ _⟩
    case round =>
      obtain ⟨k, last, hk, rfl, HZ, HJ, HE, HB⟩ := hrel
      have hki : ∀ b : Bool, decide (k < n) = b → decide ((k : Int) < (n : Int)) = b := fun b hb => by rw [← hb]; exact decide_eq_decide.2 (by omega)
      by_cases hlt : k < n
      · have e1 := hki true (decide_eq_true hlt)
        clear hki
        have hki : (k : Int) < (n : Int) := by omega
        obtain ⟨b, off, LA, HA, Ln, Lc, Hn, Hc, del, id, lits, hints, rfl, hx, hbl, p0, p1, p2, p3⟩ := (h.out.rd.below HB.out).stp h.out.len hlt
        have HS := Lib.hid ((h.out.all k _ _ hx).below HB.out)
        have HX := Lib.hid hx
        have hdrop : L.drop k = (⟨⟨LA, Ln, Lc⟩, ⟨HA, Hn, Hc⟩⟩, ⟨del, id, lits, hints⟩) :: L.drop (k + 1) := by
          obtain ⟨hk', he⟩ := List.getElem?_eq_some_iff.1 hx
          rw [← he, List.drop_eq_getElem_cons hk']
        have hE := HE.out
        rw [hdrop] at hE
        unfold checkF at hE
        dsimp only at hE
        clear HE hdrop hx
        cases hr : rightS ⟨del, id, lits, hints⟩ with
        | false =>
          rw [hr] at hE
          simp only [Bool.false_and, Bool.false_eq_true, if_false] at hE
          have HE2 := Lib.hid hE
          have HR := Lib.hid hr
          clear hE hr
          go_wp2_with fail
          refine (rightQ del id lits hints LA HA Ln Lc Hn Hc wr HS).mono ?_
          rintro e w1 ⟨rfl, hb⟩
          rw [HR.out]
          have HB1 := Lib.hid (bthen HB.out hb)
          clear hb
          go_wp2
          go_ret2
          obtain ⟨rfl, rfl⟩ := Prod.mk.inj HE2.out
          exact ⟨rfl, HB1.out⟩
        | true =>
          rw [hr] at hE
          simp only [Bool.true_and] at hE
          have HR := Lib.hid hr
          go_wp2_with fail
          refine (rightQ del id lits hints LA HA Ln Lc Hn Hc wr HS).mono ?_
          rintro e w1 ⟨rfl, hb⟩
          rw [HR.out]
          have HB1 := Lib.hid (bthen HB.out hb)
          have q0 := (hb.cell (p := ⟨b, off + k * 4, none⟩) hbl).trans p0
          have q1 := (hb.cell (p := ⟨b, off + k * 4 + 1, none⟩) hbl).trans p1
          clear p0 p1 p2 p3
          rcases Nat.eq_zero_or_pos k with h0 | h0
          · subst h0
            have hl0 := HZ.out rfl
            subst hl0
            rw [fits_zero hr, if_pos rfl] at hE
            have HE2 := Lib.hid hE
            clear hE hr hb
            go_wp2_with fail
            go_quiet (fail)
            go_wp2_with fail
            go_roundw
            case rel => exact ⟨1, id, by omega, by go_num, Lib.hid (fun h => by omega), Lib.hid (fun j hj => by obtain rfl : j = 0 := (by omega); exact ⟨_, HX.out, rfl⟩), HE2, bdrewN HB1.out _⟩
            case measure => simp [intOf]; omega
          · obtain ⟨j, rfl⟩ : ∃ j, k = j + 1 := ⟨k - 1, by omega⟩
            obtain ⟨⟨⟨⟨LA2, Ln2, Lc2⟩, ⟨HA2, Hn2, Hc2⟩⟩, ⟨d2, i2, l2, h2⟩⟩, hx2, hid2⟩ := HJ.out j rfl
            dsimp only at hid2
            subst hid2
            obtain ⟨b9, o9, LA9, HA9, Ln9, Lc9, Hn9, Hc9, d9, i9, l9, h9, hA9, hx9, hbl9, y0, y1, y2, y3⟩ := (h.out.rd.below HB1.out).stp (i := j) h.out.len (by omega)
            rw [hx2] at hx9
            simp only [Option.some.injEq, Prod.mk.injEq, Stp.mk.injEq] at hx9
            obtain ⟨_, _, hii, _, _⟩ := hx9
            subst hii
            injection hA9 with hA9
            injection hA9 with hA9 hA10
            subst hA9; subst hA10
            have eg1 : decide ((0 : Int) < (j : Int) + 1) = true := decide_eq_true (by omega)
            have hwj : IntKind.i64.wrap (j : Int) = (j : Int) := by rw [IntKind.wrap_i64]; omega
            have hwj1 : IntKind.i64.wrap ((j : Int) + 1 - 1) = (j : Int) := by rw [IntKind.wrap_i64]; omega
            have hji : (j : Int) < (n : Int) := by omega
            have hji1 : (j : Int) + 1 < (n : Int) := by omega
            have hj0 : (0 : Int) ≤ (j : Int) := by omega
            have hnext : Hid (∀ m, j + 1 + 1 = m + 1 → ∃ p, L[m]? = some p ∧ p.2.id = id) := fun m hm => by obtain rfl : m = j + 1 := (by omega); exact ⟨_, HX.out, rfl⟩
            clear hx2 y0 y2 y3 hb HJ HZ
            by_cases hlt2 : id < i2
            · have g1 : decide (id < i2) = true := by simpa using hlt2
              have hf : fitsB ⟨del, id, lits, hints⟩ i2 = false := by
                unfold fitsB
                dsimp only
                rw [show decide (i2 < id) = false by simp; omega, show (id == i2) = false by simp; omega]
                simp
              rw [hf] at hE
              simp only [Bool.false_eq_true, if_false] at hE
              have HE2 := Lib.hid hE
              clear hE hf hr hlt2
              go_wp2_with fail
              go_quiet (fail)
              go_wp2_with fail
              go_ret2
              obtain ⟨rfl, rfl⟩ := Prod.mk.inj HE2.out
              exact ⟨rfl, bdrewN HB1.out _⟩
            · have g1 : decide (id < i2) = false := by simpa using hlt2
              cases del with
              | true =>
                have hf : fitsB ⟨true, id, lits, hints⟩ i2 = true := by
                  unfold fitsB
                  dsimp only
                  by_cases h3 : id = i2
                  · simp [h3]
                  · have : i2 < id := by omega
                    simp [this]
                rw [hf, if_pos rfl] at hE
                have HE2 := Lib.hid hE
                clear hE hf hr hlt2
                go_wp2_with fail
                go_quiet (fail)
                go_wp2_with fail
                go_roundw
                case rel => exact ⟨j + 1 + 1, id, by omega, by go_num, Lib.hid (fun h => by omega), hnext, HE2, bdrewN HB1.out _⟩
                case measure => simp [intOf]; omega
              | false =>
                by_cases h3 : id = i2
                · have g2 : (id == i2) = true := by simpa using h3
                  have hf : fitsB ⟨false, id, lits, hints⟩ i2 = false := by
                    unfold fitsB
                    dsimp only
                    rw [show decide (i2 < id) = false by simp; omega]
                    simp
                  rw [hf] at hE
                  simp only [Bool.false_eq_true, if_false] at hE
                  have HE2 := Lib.hid hE
                  clear hE hf hr hlt2 h3
                  go_wp2_with fail
                  go_quiet (fail)
                  go_wp2_with fail
                  go_ret2
                  obtain ⟨rfl, rfl⟩ := Prod.mk.inj HE2.out
                  exact ⟨rfl, bdrewN HB1.out _⟩
                · have g2 : (id == i2) = false := by simpa using h3
                  have hf : fitsB ⟨false, id, lits, hints⟩ i2 = true := by
                    unfold fitsB
                    dsimp only
                    have : i2 < id := by omega
                    simp [this]
                  rw [hf, if_pos rfl] at hE
                  have HE2 := Lib.hid hE
                  clear hE hf hr hlt2 h3
                  go_wp2_with fail
                  go_quiet (fail)
                  go_wp2_with fail
                  go_roundw
                  case rel => exact ⟨j + 1 + 1, id, by omega, by go_num, Lib.hid (fun h => by omega), hnext, HE2, bdrewN HB1.out _⟩
                  case measure => simp [intOf]; omega
      · have e1 := hki false (decide_eq_false hlt)
        clear hki
        have hE := HE.out
        rw [List.drop_eq_nil_of_le (by rw [h.out.len]; omega)] at hE
        have HE2 : Hid ((-1, 0) = (ci, ce)) := hE
        clear hE HE
        go_wp2
        go_ret2
        obtain ⟨rfl, rfl⟩ := Prod.mk.inj HE2.out
        exact ⟨rfl, HB.out⟩
end Go.Proofs.YteglgcfbmjlnkaaGreatDoor
