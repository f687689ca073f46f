/-
  slices.Grow and slices.Concat at steps.
-/
import Derived.Test.YteglgcfbmjlnkaaDoorReadC
import Derived.Lib.AppendZeros
set_option linter.unusedVariables false
set_option linter.unusedSimpArgs false
namespace Go.Proofs.YteglgcfbmjlnkaaDoor
open Go.RowKit

theorem growS_none (w : World) :
    Calls Tryd.prog 49 #[.slice none 0 0, .int .i64 0] w fun e w' => ∃ A c, e = .returned (.slice A 0 c) ∧ w'.ownsRow w.heap.size 31 4 (.slice A 0 c) 0 [] ∧ Below w.heap.size w w' := by
  go_enter Tryd.func49, Tryd.ntmps49
  go_wp2
  go_ret
  exact ⟨none, 0, rfl, World.ownsRow_nil _ _ _ _, Below.refl _ _⟩
def zStep : Value := .agg #[.bool false, .int .i64 0, .slice none 0 0, .slice none 0 0]
theorem step_info : (Tryd.prog.info? 31).map (fun i => (i.zero, i.size, i.bytes)) = some (some zStep, 4, 64) := by kernel_rfl
set_option maxRecDepth 100000 in
theorem growS_some (n : Nat) (w : World) (h0 : 0 < n) (hn : n ≤ 1000000000) :
    Calls Tryd.prog 49 #[.slice none 0 0, .int .i64 n] w fun e w' => ∃ A c, e = .returned (.slice A 0 c) ∧ w'.ownsRow w.heap.size 31 4 (.slice A 0 c) 0 [] ∧ Below w.heap.size w w' := by
  obtain ⟨i, hi, hz, hs, hb⟩ := info_parts step_info
  have hrun := Lib.run_append_nil_zeros (P := Tryd.prog) w 25 3 25 31 i zStep .i64 .i64 Tryd.underlying25 Tryd.underlying3 hi hz n h0 (by omega) (by omega) (by rw [hb]; omega)
  have hg1 := grownCap_ge w n 0 31
  have hg2 := grownCap_le_maxLen w n 0 31 (by simp [maxLen]; omega)
  generalize hcap : grownCap w n 0 31 = cap at *
  unfold maxLen at hg2
  have HR := Lib.hid hrun
  clear hrun hcap
  go_enter Tryd.func49, Tryd.ntmps49
  go_wp2_with (at_builtin; refine Lib.wpList_append_run _ rfl _ _ _ _ rfl _ _ rfl rfl _ _ HR.out ?_)
  go_ret
  rename_i cs hcs
  have h4 : cs.size = 4 := by
    unfold zStep at hcs
    injection hcs with hcs
    rw [← hcs]
    rfl
  have hown : (w.alloc (.cells (Builtin.zeroCells cs n ++ Builtin.zeroCells cs (cap - n)) 31)).drew.ownsRow w.heap.size 31 4 (.slice (some ⟨w.heap.size, 0, none⟩) 0 cap) 0 [] := by
    refine ⟨rfl, .inr ⟨w.heap.size, cap, _, rfl, Nat.le_refl _, heap_alloc_new w _, Nat.zero_le _, hg2, ?_, by simp⟩⟩
    simp only [Array.size_append, size_zeroCells, h4]
    omega
  have hbl : Below w.heap.size w (w.alloc (.cells (Builtin.zeroCells cs n ++ Builtin.zeroCells cs (cap - n)) 31)).drew := ((Below.refl _ w).alloc (Nat.le_refl _) _).drew
  exact ⟨_, _, rfl, hown, hbl⟩
/-- Rows of steps, each in a slice. -/
structure RowsAt (w : World) (A : Option Addr) (n : Nat) (Q : List (SV × List (StV × Stp))) : Prop where
  rd : Rd w A (Q.map fun p => Value.slice p.1.A p.1.n p.1.c)
  len : Q.length = n
  all : ∀ (i : Nat) (p : SV × List (StV × Stp)), Q[i]? = some p → StepsAt w p.1.A p.1.n p.2
theorem RowsAt.below {w w' : World} {A : Option Addr} {n : Nat} {Q : List (SV × List (StV × Stp))} (h : RowsAt w A n Q) (hb : Below w.heap.size w w') : RowsAt w' A n Q := ⟨h.rd.below hb, h.len, fun i p hi => (h.all i p hi).below hb⟩
theorem RowsAt.at {w : World} {A : Option Addr} {n k : Nat} {Q : List (SV × List (StV × Stp))} (h : RowsAt w A n Q) (hk : k < n) : ∃ (b off : Nat) (sA : Option Addr) (sn sc : Nat) (l : List (StV × Stp)), A = some ⟨b, off, none⟩ ∧ Q[k]? = some (⟨sA, sn, sc⟩, l) ∧ w.cell? ⟨b, off + k, none⟩ = some (.slice sA sn sc) ∧ StepsAt w sA sn l := by
  obtain ⟨b, off, ⟨⟨sA, sn, sc⟩, l⟩, rfl, hs, hc⟩ := h.rd.getm h.len hk
  exact ⟨b, off, sA, sn, sc, l, rfl, hs, hc, h.all k _ hs⟩
def flatQ (Q : List (SV × List (StV × Stp))) : List (StV × Stp) := Q.flatMap (·.2)
theorem flatQ_snoc {Q : List (SV × List (StV × Stp))} {k : Nat} {p : SV × List (StV × Stp)} (h : Q[k]? = some p) : flatQ (Q.take (k + 1)) = flatQ (Q.take k) ++ p.2 := by
  unfold flatQ
  rw [take_snoc h, List.flatMap_append]
  simp
theorem scells_append (L M : List (StV × Stp)) : scells (L ++ M) = scells L ++ scells M := by unfold scells; rw [List.flatMap_append]
theorem scells_one (L : List (StV × Stp)) : ∀ u ∈ scells L, u.oneCell' = true := by
  intro u hu
  obtain ⟨p, _, hp⟩ := List.mem_flatMap.1 hu
  exact scell_one p u hp
set_option maxHeartbeats 2000000 in
set_option maxRecDepth 100000 in
theorem concatS (A : Option Addr) (n c : Nat) (Q : List (SV × List (StV × Stp))) (w : World) (h : Hid (RowsAt w A n Q)) (hn : n ≤ 5) :
    Calls Tryd.prog 21 #[.slice A n c] w fun e w' => ∃ A' m c', e = .returned (.slice A' m c') ∧ (flatQ Q).length = m ∧ w'.ownsRow w.heap.size 31 4 (.slice A' m c') m (scells (flatQ Q)) ∧ m ≤ 500000000 ∧ Below w.heap.size w w' := by
  go_enter Tryd.func21, Tryd.ntmps21
  go_wp2
  go_loop [3, 11] (fun sz i => ∃ (k m : Nat), k ≤ n ∧ i = .int .i64 k ∧ sz = .int .i64 m ∧ m ≤ 100000000 * k ∧ Hid ((flatQ (Q.take k)).length = m)) (fun _ i => n - (intOf i).toNat)
  case atStart => exact ⟨0, 0, Nat.zero_le _, rfl, rfl, by omega, rfl⟩
  case round =>
    obtain ⟨k, m, hk, rfl, rfl, hm, Hm⟩ := hrel
    by_cases hlt : k < n
    · obtain ⟨b, off, sA, sn, sc, l, rfl, hl, hc, hst⟩ := h.out.at hlt
      have HL := Lib.hid hl; have HLN := Lib.hid hst.len
      have hsn : sn ≤ 100000000 := hst.small
      clear hl hst
      go_wp2
      go_round
      case rel => exact ⟨k + 1, m + sn, by omega, by go_num, by go_num, by omega, by show (flatQ (Q.take (k + 1))).length = _; rw [flatQ_snoc HL.out, List.length_append, Hm.out, HLN.out]⟩
      case measure => simp [intOf]; omega
    · obtain rfl : k = n := by omega
      have hgrow : Hid (Calls Tryd.prog 49 #[.slice none 0 0, .int .i64 m] w fun e w' => ∃ A c, e = .returned (.slice A 0 c) ∧ w'.ownsRow w.heap.size 31 4 (.slice A 0 c) 0 [] ∧ Below w.heap.size w w') := by
        by_cases h0 : m = 0
        · subst h0; exact growS_none w
        · exact growS_some m w (by omega) (by omega)
      go_wp2_with fail
      refine hgrow.out.mono ?_
      rintro e w1 ⟨A1, c1, rfl, ho1, hb1⟩
      have HO1 := Lib.hid ho1; have HB1 := Lib.hid hb1
      clear ho1 hb1 hgrow
      go_wp2
      go_loopw [6, 27] (fun v i wr => ∃ (j m' : Nat) (A' : Option Addr) (c' : Nat), j ≤ k ∧ i = .int .i64 j ∧ v = .slice A' m' c' ∧ m' ≤ 100000000 * j ∧ Hid ((flatQ (Q.take j)).length = m') ∧ Hid (wr.ownsRow w.heap.size 31 4 (.slice A' m' c') m' (scells (flatQ (Q.take j)))) ∧ Hid (Below w.heap.size w wr)) (fun _ i _ => k - (intOf i).toNat)
      case atStart => exact ⟨0, 0, A1, c1, Nat.zero_le _, rfl, rfl, by omega, rfl, HO1, HB1⟩
      case round =>
        obtain ⟨j, m', A', c', hj, rfl, rfl, hm', Hm', Ho, Hb⟩ := hrel
        clear HO1 HB1
        have hsz : w.heap.size ≤ wr.heap.size := Hb.out.size
        by_cases hlt2 : j < k
        · obtain ⟨b, off, sA, sn, sc, l, rfl, hl, hc, hst⟩ := (h.out.below Hb.out).at hlt2
          have HL := Lib.hid hl; have HLN := Lib.hid hst.len; have HR := Lib.hid hst.rd
          have hsn : sn ≤ 100000000 := hst.small
          clear hl hst
          go_wp2_with (at_builtin; refine wpList_app el_step rfl (.tmp 31) (.tmp 32) rfl w.heap.size (.slice A' m' c') m' _ rfl Ho.out sA sn sc (scells l) rfl HR.out (by rw [scells_length, HLN.out]) (scells_one _) (by omega) hsz ?_; intro A2 c2 w2 ho2 hg2 hat2; have Ho2 := Lib.hid ho2; have Hg2 := Lib.hid hg2; clear ho2 hg2 hat2)
          go_roundw
          case rel => exact ⟨j + 1, m' + sn, A2, c2, by omega, by go_num, rfl, by omega, by show (flatQ (Q.take (j + 1))).length = _; rw [flatQ_snoc HL.out, List.length_append, Hm'.out, HLN.out], by show w2.ownsRow _ _ _ _ _ _; rw [flatQ_snoc HL.out, scells_append]; exact Ho2.out, (Hb.out).grown Hg2.out hsz (fun q hq => (Ho.out.lt q hq).1)⟩
          case measure => simp [intOf]; omega
        · obtain rfl : j = k := by omega
          go_wp2
          go_ret
          have ht : Q.take j = Q := List.take_of_length_le (by rw [h.out.len]; omega)
          refine ⟨A', m', c', rfl, ?_, ?_, by omega, Hb.out⟩
          · have h1 := Hm'.out
            rwa [ht] at h1
          · have h1 := Ho.out
            rwa [ht] at h1
end Go.Proofs.YteglgcfbmjlnkaaDoor
