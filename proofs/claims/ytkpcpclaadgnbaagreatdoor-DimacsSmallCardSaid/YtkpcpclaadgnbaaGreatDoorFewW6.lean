/-
  salvorlaw06.few: whether a formula is short.
-/
import Derived.Test.YtkpcpclaadgnbaaGreatDoorFmL
import Derived.Deep.DeepCutAuto
set_option linter.unusedVariables false
set_option linter.unusedSimpArgs false
namespace Go.Proofs.YtkpcpclaadgnbaaGreatDoor
open Go.RowKit

/-- Numbers, and clauses, that the process's memory bears. -/
def IntsW (w : World) (s : SV) (l : List Int) : Prop := Rd w s.A (l.map (Value.int .i64)) ∧ l.length = s.n ∧ (∀ u ∈ l, I64 u) ∧ s.n ≤ 17592186044416
structure ClsW (w : World) (A : Option Addr) (n : Nat) (Q : List (SV × List Int)) : Prop where
  rd : Rd w A (Q.map fun p => Value.slice p.1.A p.1.n p.1.c)
  len : Q.length = n
  all : ∀ (i : Nat) (p : SV × List Int), Q[i]? = some p → IntsW w p.1 p.2
theorem ClsW.below {w w' : World} {A : Option Addr} {n : Nat} {Q : List (SV × List Int)} (h : ClsW w A n Q) (hb : Below w.heap.size w w') : ClsW w' A n Q := ⟨h.rd.below hb, h.len, fun i p hi => ⟨(h.all i p hi).1.below hb, (h.all i p hi).2⟩⟩
theorem ClsW.at {w : World} {A : Option Addr} {n k : Nat} {Q : List (SV × List Int)} (h : ClsW w A n Q) (hk : k < n) : ∃ (b off : Nat) (sA : Option Addr) (sn sc : Nat) (l : List Int), A = some ⟨b, off, none⟩ ∧ Q[k]? = some (⟨sA, sn, sc⟩, l) ∧ w.cell? ⟨b, off + k, none⟩ = some (.slice sA sn sc) ∧ IntsW w ⟨sA, sn, sc⟩ l := by
  obtain ⟨b, off, ⟨⟨sA, sn, sc⟩, l⟩, rfl, hs, hc⟩ := h.rd.getm h.len hk
  exact ⟨b, off, sA, sn, sc, l, rfl, hs, hc, h.all k _ hs⟩
theorem ClsW.small {w : World} {A : Option Addr} {n : Nat} {Q : List (SV × List Int)} (h : ClsW w A n Q) (hn : n ≤ 100) (hs : ((clsOf Q).map List.length).sum ≤ 1000) : ClsAt w A n Q := by
  refine ⟨h.rd, h.len, fun i p hi => ?_, by omega⟩
  obtain ⟨h1, h2, h3, _⟩ := h.all i p hi
  have hm : p.2.length ∈ (clsOf Q).map List.length := List.mem_map_of_mem (List.mem_of_getElem? (clsOf_at hi))
  have hle : ∀ {l : List Nat} {x : Nat}, x ∈ l → x ≤ l.sum := by
    intro l
    induction l with
    | nil => intro x hx; cases hx
    | cons y l ih =>
      intro x hx
      rw [List.sum_cons]
      rcases List.mem_cons.1 hx with rfl | hx
      · omega
      · have := ih hx; omega
  have := hle hm
  exact ⟨h1, h2, h3, by omega⟩
def FewPost (w : World) (n : Nat) (Q : List (SV × List Int)) (e : Ending) (w' : World) : Prop :=
  ∃ b, e = .returned (.bool b) ∧ (b = true → n ≤ 100 ∧ ((clsOf Q).map List.length).sum ≤ 1000) ∧ Below w.heap.size w w'
set_option maxRecDepth 100000 in
set_option maxHeartbeats 2000000 in
theorem fewC (v : Int) (A : Option Addr) (n c : Nat) (Q : List (SV × List Int)) (w : World) (h : Hid (ClsW w A n Q)) (hn : n ≤ 17592186044416) (hc : n ≤ c) :
    Calls Tryz.prog 11 #[.agg #[.int .i64 v, .slice A n c]] w (FewPost w n Q) := by
  obtain ⟨m, hm⟩ : ∃ m, min n 101 = m := ⟨_, rfl⟩
  have hm1 : m ≤ 101 ∧ m ≤ n ∧ (n ≤ 100 → m = n) := by omega
  have hmin : min (n : Int) 101 = (m : Int) := by omega
  have hmc : (m : Int) ≤ (c : Int) := by omega
  have hmz : (0 : Int) ≤ (m : Int) := by omega
  clear hm
  have HX := Lib.hid (Bk.new w 24 #[.int .i64 v, .slice A n c])
  have HB0 : Hid (Below w.heap.size w (w.alloc (.cells #[.int .i64 v, .slice A n c] 24))) := balloc (Below.refl _ _) _
  go_enter Tryz.func11, Tryz.ntmps11
  go_upto_region 2 with fail
  have HH := Lib.hid (h.out.below HB0.out)
  generalize (w.alloc (.cells #[.int .i64 v, .slice A n c] 24)) = W0 at *
  obtain ⟨p, hp⟩ : ∃ p, w.heap.size = p := ⟨_, rfl⟩
  rw [hp] at HX ⊢
  have HPE := Lib.hid hp
  clear hp
  obtain ⟨x0, x1⟩ := cells2 HX.out
  go_upto_region 3 with fail
  clear x0 x1
  go_loopw [3, 14] (fun v3 v14 wr => ∃ (k : Nat) (s : Nat), k ≤ m ∧ v14 = .int .i64 k ∧ v3 = .int .i64 s ∧ s ≤ k * 17592186044416 ∧ Hid ((((clsOf Q).take k).map List.length).sum = s) ∧ W0 = wr) (fun _ v14 _ => m - (intOf v14).toNat)
  case atStart => exact ⟨0, 0, Nat.zero_le _, rfl, rfl, by omega, rfl, rfl⟩
  case round =>
    obtain ⟨k, s, hk, rfl, rfl, hs, HS, rfl⟩ := hrel
    by_cases hlt : k < m
    · have e1 : decide ((k : Int) < (m : Int)) = true := by simp; omega
      have hki : (k : Int) < (m : Int) := by omega
      obtain ⟨b, off, sA, sn, sc, l, rfl, hq, y0, hia⟩ := HH.out.at (show k < n by omega)
      have hsn : sn ≤ 17592186044416 := hia.2.2.2
      have hll : l.length = sn := hia.2.1
      have HN : Hid ((((clsOf Q).take (k + 1)).map List.length).sum = s + sn) := by
        show _ = _
        rw [take_snoc (clsOf_at hq), List.map_append, List.sum_append, HS.out]
        simp [hll]
      have w1 : IntKind.i64.wrap ((s : Int) + (sn : Int)) = (s : Int) + (sn : Int) := by rw [IntKind.wrap_i64]; omega
      clear hq hia hll
      go_wp2_with fail
      go_roundw
      case rel => exact ⟨k + 1, s + sn, by omega, by go_num, by go_num, by omega, HN, trivial⟩
      case measure => simp [intOf]; omega
    · have e1 : decide ((k : Int) < (m : Int)) = false := by simp; omega
      obtain rfl : k = m := by omega
      obtain ⟨x0, x1⟩ := cells2 HX.out
      by_cases h1 : n ≤ 100
      · have g1 : decide ((n : Int) ≤ 100) = true := by simp; omega
        by_cases h2 : s ≤ 1000
        · have g2 : decide ((s : Int) ≤ 1000) = true := by simp; omega
          have HF : Hid (n ≤ 100 ∧ ((clsOf Q).map List.length).sum ≤ 1000) := by
            refine ⟨h1, ?_⟩
            have h3 := HS.out
            rw [List.take_of_length_le (by rw [clsOf_len, h.out.len]; omega)] at h3
            omega
          clear h1 h2 hm1
          go_wp2_with fail
          go_ret
          exact ⟨true, rfl, fun _ => HF.out, HPE.out ▸ HB0.out⟩
        · have g2 : decide ((s : Int) ≤ 1000) = false := by simp; omega
          clear h1 h2 hm1
          go_wp2_with fail
          go_ret
          exact ⟨false, rfl, fun h => (by cases h), HPE.out ▸ HB0.out⟩
      · have g1 : decide ((n : Int) ≤ 100) = false := by simp; omega
        clear h1 hm1
        go_wp2_with fail
        go_ret
        exact ⟨false, rfl, fun h => (by cases h), HPE.out ▸ HB0.out⟩
end Go.Proofs.YtkpcpclaadgnbaaGreatDoor
