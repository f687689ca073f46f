/-
  few: whether steps are few and short.
-/
import Derived.Test.YteglgcfbmjlnkaaGreatDoorOpenT
set_option linter.unusedVariables false
set_option linter.unusedSimpArgs false
namespace Go.Proofs.YteglgcfbmjlnkaaGreatDoor
open Go.RowKit

theorem IntsW.below {w w' : World} {s : SV} {l : List Int} (h : IntsW w s l) (hb : Below w.heap.size w w') : IntsW w' s l := ⟨h.1.below hb, h.2⟩
theorem StpW.below {w w' : World} {v : StV} {s : Stp} (h : StpW w v s) (hb : Below w.heap.size w w') : StpW w' v s := ⟨h.id, h.lits.below hb, h.hints.below hb⟩
theorem StepsW.below {w w' : World} {A : Option Addr} {n : Nat} {L : List (StV × Stp)} (h : StepsW w A n L) (hb : Below w.heap.size w w') : StepsW w' A n L := ⟨h.rd.below hb, h.len, fun i v s hi => (h.all i v s hi).below hb⟩
theorem StepsW.at {w : World} {A : Option Addr} {n : Nat} {L : List (StV × Stp)} (h : StepsW w A n L) (hn : n ≤ 100) (hs : ∀ p ∈ L, p.2.lits.length ≤ 2000 ∧ p.2.hints.length ≤ 2000) : StepsAt w A n L :=
  ⟨h.rd, h.len, fun i v s hi => by
    have h1 := h.all i v s hi
    have h2 := hs _ (List.mem_of_getElem? hi)
    dsimp only at h2
    exact ⟨h1.id, ⟨h1.lits.1, h1.lits.2.1, h1.lits.2.2.1, by have := h1.lits.2.1; omega⟩, ⟨h1.hints.1, h1.hints.2.1, h1.hints.2.2.1, by have := h1.hints.2.1; omega⟩⟩, by omega⟩
def FewPost (w : World) (n : Nat) (L : List (StV × Stp)) (e : Ending) (w' : World) : Prop :=
  ∃ b, e = .returned (.bool b) ∧ (b = true → n ≤ 100 ∧ ∀ p ∈ L, p.2.lits.length ≤ 2000 ∧ p.2.hints.length ≤ 2000) ∧ Below w.heap.size w w'
set_option maxRecDepth 100000 in
set_option maxHeartbeats 2000000 in
theorem fewC (A : Option Addr) (n c : Nat) (L : List (StV × Stp)) (w : World) (h : Hid (StepsW w A n L)) (hn : n ≤ 17592186044416) (hc : n ≤ c) :
    Calls Tryz.prog 5 #[.slice A n c] w (FewPost w n L) := by
  obtain ⟨m, hm⟩ : ∃ m, min n 101 = m := ⟨_, rfl⟩
  have hm1 : m ≤ 101 ∧ m ≤ n ∧ (n ≤ 100 → m = n) := by omega
  have hmin : min (n : Int) 101 = (m : Int) := by omega
  have hmc : (m : Int) ≤ (c : Int) := by omega
  have hmz : (0 : Int) ≤ (m : Int) := by omega
  clear hm
  go_enter Tryz.func5, Tryz.ntmps5
  go_wp2_with fail
  go_loopw [3, 12] (fun v3 v12 wr => ∃ (k : Nat) (s : Nat), k ≤ m ∧ v12 = .int .i64 k ∧ v3 = .int .i64 s ∧ s ≤ k * 40000000000000 ∧ Hid (∀ (j : Nat) (p : StV × Stp), j < k → L[j]? = some p → p.2.lits.length + p.2.hints.length ≤ s) ∧ Hid (Below w.heap.size w wr)) (fun _ v12 _ => m - (intOf v12).toNat)
  case atStart => exact ⟨0, 0, Nat.zero_le _, rfl, rfl, by omega, Lib.hid (fun j p hj => by omega), Below.refl _ _⟩
  case round =>
    obtain ⟨k, s, hk, rfl, rfl, hs, HS, HB⟩ := hrel
    have hki : ∀ b : Bool, decide (k < m) = b → decide ((k : Int) < (m : Int)) = b := fun b hb => by rw [← hb]; exact decide_eq_decide.2 (by omega)
    by_cases hlt : k < m
    · have e1 := hki true (decide_eq_true hlt)
      clear hki
      have hki : (k : Int) < (m : Int) := by omega
      obtain ⟨b, off, LA, HA, Ln, Lc, Hn, Hc, del, id, lits, hints, rfl, hx, hbl, p0, p1, p2, p3⟩ := (h.out.rd.below HB.out).stp (i := k) h.out.len (by omega)
      have hW := h.out.all k _ _ hx
      have hl1 : Ln ≤ 17592186044416 := hW.lits.2.2.2
      have hh1 : Hn ≤ 17592186044416 := hW.hints.2.2.2
      have hl2 : lits.length = Ln := hW.lits.2.1
      have hh2 : hints.length = Hn := hW.hints.2.1
      have HN : Hid (∀ (j : Nat) (p : StV × Stp), j < k + 1 → L[j]? = some p → p.2.lits.length + p.2.hints.length ≤ s + (Ln + Hn)) := fun j p hj hp => by
        rcases Nat.lt_or_ge j k with h1 | h1
        · have := HS.out j p h1 hp
          omega
        · obtain rfl : j = k := by omega
          rw [hx] at hp
          obtain rfl := Option.some.inj hp
          dsimp only
          omega
      have w1 : IntKind.i64.wrap ((Ln : Int) + (Hn : Int)) = (Ln : Int) + (Hn : Int) := by rw [IntKind.wrap_i64]; omega
      have w2 : IntKind.i64.wrap ((s : Int) + ((Ln : Int) + (Hn : Int))) = (s : Int) + ((Ln : Int) + (Hn : Int)) := by rw [IntKind.wrap_i64]; omega
      have HB0 : Hid (Below w.heap.size w (wr.alloc (.cells #[.bool del, .int .i64 id, .slice LA Ln Lc, .slice HA Hn Hc] 33))) := balloc HB.out _
      clear hW hx hl2 hh2
      go_wp2_with fail
      go_roundw
      case rel => exact ⟨k + 1, s + (Ln + Hn), by omega, by go_num, by go_num, by omega, HN, HB0⟩
      case measure => simp [intOf]; omega
    · have e1 := hki false (decide_eq_false hlt)
      obtain rfl : k = m := by omega
      clear hki
      by_cases h1 : n ≤ 100
      · have g1 : decide ((n : Int) ≤ 100) = true := by simp; omega
        by_cases h2 : s ≤ 2000
        · have g2 : decide ((s : Int) ≤ 2000) = true := by simp; omega
          have HF : Hid (n ≤ 100 ∧ ∀ p ∈ L, p.2.lits.length ≤ 2000 ∧ p.2.hints.length ≤ 2000) := ⟨h1, fun p hp => by
            obtain ⟨i, hi⟩ := List.getElem?_of_mem hp
            have hil : i < L.length := (List.getElem?_eq_some_iff.1 hi).1
            have hl := h.out.len
            have := HS.out i p (by omega) hi
            omega⟩
          clear h1 h2 hm1
          go_wp2_with fail
          go_ret
          exact ⟨true, rfl, fun _ => HF.out, HB.out⟩
        · have g2 : decide ((s : Int) ≤ 2000) = false := by simp; omega
          clear h1 h2 hm1
          go_wp2_with fail
          go_ret
          exact ⟨false, rfl, fun h => (by cases h), HB.out⟩
      · have g1 : decide ((n : Int) ≤ 100) = false := by simp; omega
        clear h1 hm1
        go_wp2_with fail
        go_ret
        exact ⟨false, rfl, fun h => (by cases h), HB.out⟩
end Go.Proofs.YteglgcfbmjlnkaaGreatDoor
