/-
  Package bitword: Rank, Two, Find.
-/
import Derived.Test.YtehcpcpmcngnjaaDoorBitw30
import Derived.Deep.QuietTactic
import Derived.BigQuiet
set_option linter.unusedVariables false
set_option linter.unusedSimpArgs false
namespace Go.Proofs.YtehcpcpmcngnjaaDoor
open Go.RowKit Go.PlainAid

def tabEl (k : Nat) : Array Value := ((tabCells.toList.drop (k * 4)).take 4).toArray
set_option maxRecDepth 100000 in
theorem tab_index : ∀ k : Nat, k ≤ 16 → ∀ w, (Instr.index 42 (.agg tabCells) (.int .u8 (k : Int))).run Tryd.prog w = .ok (.agg (tabEl k)) w := by
  intro k hk
  rcases (by omega : k = 0 ∨ k = 1 ∨ k = 2 ∨ k = 3 ∨ k = 4 ∨ k = 5 ∨ k = 6 ∨ k = 7 ∨ k = 8 ∨ k = 9 ∨ k = 10 ∨ k = 11 ∨ k = 12 ∨ k = 13 ∨ k = 14 ∨ k = 15 ∨ k = 16) with rfl | rfl | rfl | rfl | rfl | rfl | rfl | rfl | rfl | rfl | rfl | rfl | rfl | rfl | rfl | rfl | rfl <;> exact fun w => by kernel_rfl
set_option maxRecDepth 100000 in
theorem tab_field : ∀ k : Nat, k ≤ 16 → ∀ w, (Instr.field 41 (.agg (tabEl k)) 1).run Tryd.prog w = .ok (.int .i64 (rankO k : Int)) w := by
  intro k hk
  rcases (by omega : k = 0 ∨ k = 1 ∨ k = 2 ∨ k = 3 ∨ k = 4 ∨ k = 5 ∨ k = 6 ∨ k = 7 ∨ k = 8 ∨ k = 9 ∨ k = 10 ∨ k = 11 ∨ k = 12 ∨ k = 13 ∨ k = 14 ∨ k = 15 ∨ k = 16) with rfl | rfl | rfl | rfl | rfl | rfl | rfl | rfl | rfl | rfl | rfl | rfl | rfl | rfl | rfl | rfl | rfl <;> exact fun w => by kernel_rfl
theorem nameO_ne : ∀ k, 1 ≤ k → k ≤ 16 → nameO k ≠ [] := by
  intro k h1 hk
  rcases (by omega : k = 1 ∨ k = 2 ∨ k = 3 ∨ k = 4 ∨ k = 5 ∨ k = 6 ∨ k = 7 ∨ k = 8 ∨ k = 9 ∨ k = 10 ∨ k = 11 ∨ k = 12 ∨ k = 13 ∨ k = 14 ∨ k = 15 ∨ k = 16) with rfl | rfl | rfl | rfl | rfl | rfl | rfl | rfl | rfl | rfl | rfl | rfl | rfl | rfl | rfl | rfl <;> decide
theorem rankO_le (k : Nat) : rankO k ≤ 6 := by unfold rankO; split <;> omega
set_option maxRecDepth 100000 in
set_option maxHeartbeats 4000000 in
theorem rankC (k : Nat) (hk : k ≤ 16) (w : World) : Calls Tryd.prog 8 #[.int .u8 (k : Int)] w fun e w' => e = .returned (.int .i64 (rankO k : Int)) ∧ Below w.heap.size w w' := by
  by_cases h0 : k = 0
  · subst h0
    have e1 : (str (nameO 0)).toList.isEmpty = true := by rw [toList_data, str_data]; rfl
    have e2 : ((str (nameO 0)).toList == []) = true := by rw [toList_data, str_data]; rfl
    go_enter Tryd.func8, Tryd.ntmps8
    go_wp2_with fail
    refine (bnameC 0 (by omega) w).mono ?_
    rintro e w1 ⟨rfl, hb⟩
    have HB := Lib.hid hb
    clear hb
    go_wp2_with fail
    go_ret
    exact ⟨rfl, HB.out⟩
  · have hne := nameO_ne k (by omega) hk
    have e1 : (str (nameO k)).toList.isEmpty = false := by rw [toList_data, str_data]; simpa using hne
    have e2 : ((str (nameO k)).toList == []) = false := by rw [toList_data, str_data]; simpa using hne
    have hI := tab_index k hk
    have hF := tab_field k hk
    go_enter Tryd.func8, Tryd.ntmps8
    go_wp2_with fail
    refine (bnameC k hk w).mono ?_
    rintro e w1 ⟨rfl, hb⟩
    have HB := Lib.hid hb
    clear hb
    go_wp2_with fail
    refine (tableC w1).mono ?_
    rintro e w' ⟨rfl, rfl⟩
    have HB2 : Hid (Below w.heap.size w (w1.alloc (.cells tabCells 42))) := balloc HB.out _
    generalize w1.alloc (.cells tabCells 42) = w2 at HB2 ⊢
    go_wp2_with fail
    go_ret
    exact ⟨rfl, HB2.out⟩
set_option maxRecDepth 100000 in
theorem twoC (k : Nat) (hk : k ≤ 16) (w : World) : Calls Tryd.prog 61 #[.int .u8 (k : Int)] w fun e w' => e = .returned (.bool (decide (0 < rankO k))) ∧ Below w.heap.size w w' := by
  have hd : decide ((0 : Int) < (rankO k : Int)) = decide (0 < rankO k) := by simp
  go_enter Tryd.func61, Tryd.ntmps61
  go_wp2_with fail
  refine (rankC k hk w).mono ?_
  rintro e w1 ⟨rfl, hb⟩
  have HB := Lib.hid hb
  clear hb
  go_wp2_with fail
  go_ret
  exact ⟨rfl, HB.out⟩
/-- What Find returns. -/
def findV (q : Option Nat) : Value := match q with
  | some o => .tuple #[.int .u8 (o : Int), .bool true]
  | none => .tuple #[.int .u8 0, .bool false]
theorem ret_find {q q' : Option Nat} (h : q = q') : Ending.returned (findV q) = .returned (findV q') := by rw [h]
theorem findF_succ (t : List UInt8) (two : Bool) (f o : Nat) : findF t two (f + 1) o = if isO t two o then some o else findF t two f (o + 1) := rfl
set_option maxRecDepth 100000 in
set_option maxHeartbeats 4000000 in
theorem findC (t : List UInt8) (two : Bool) (w : World) : Calls Tryd.prog 54 #[.string (str t), .bool two] w fun e w' => e = .returned (findV (findO t two)) ∧ Below w.heap.size w w' := by
  go_enter Tryd.func54, Tryd.ntmps54
  go_wp2_with fail
  go_loopw [6] (fun v6 wr => ∃ k : Nat, v6 = .int .u8 k ∧ 1 ≤ k ∧ k ≤ 17 ∧ Hid (findF t two (17 - k) k = findO t two) ∧ Hid (Below w.heap.size w wr)) (fun v6 _ => 17 - (intOf v6).toNat)
  case atStart => exact ⟨1, rfl, by omega, by omega, rfl, Below.refl _ _⟩
  case round =>
    obtain ⟨k, rfl, h1, h17, HK, HB⟩ := hrel
    by_cases hk : k ≤ 16
    · have e1 : decide ((k : Int) ≤ 16) = true := by simp; omega
      have hki : (k : Int) ≤ 16 := by omega
      have wk : IntKind.u8.wrap ((k : Int) + 1) = ((k + 1 : Nat) : Int) := by rw [IntKind.wrap_u8]; omega
      have hK := HK.out
      rw [show 17 - k = (16 - k) + 1 by omega, findF_succ] at hK
      have hO : isO t two k = (decide (nameO k = t) && (decide (0 < rankO k) == two)) := rfl
      have hbq := str_beq (nameO k) t
      by_cases hn : nameO k = t
      · have e2 : ((str (nameO k)).toList == (str t).toList) = true := by rw [hbq, decide_eq_true hn]
        cases hr : (decide (0 < rankO k) == two) with
        | true =>
          rw [hO, hr, decide_eq_true hn] at hK
          have E : Hid (some k = findO t two) := hK
          have HT : Hid (∀ w, Calls Tryd.prog 61 #[.int .u8 (k : Int)] w fun e w' => e = .returned (.bool two) ∧ Below w.heap.size w w') := fun w => by
            have h2 := twoC k hk w
            rw [show decide (0 < rankO k) = two by simpa using hr] at h2
            exact h2
          clear hK hO hbq hn hr HK
          go_wp2_with fail
          refine (bnameC k hk _).mono ?_
          rintro e w1 ⟨rfl, hb⟩
          have HB1 := Lib.hid (bthen HB.out hb)
          clear hb
          go_wp2_with fail
          refine (HT.out _).mono ?_
          rintro e w2 ⟨rfl, hb⟩
          have HB2 := Lib.hid (bthen HB1.out hb)
          clear hb
          have e3 : (two == two) = true := by simp
          go_wp2_with fail
          go_ret2
          rw [← E.out]
          exact ⟨rfl, HB2.out⟩
        | false =>
          rw [hO, hr, Bool.and_false] at hK
          have E : Hid (findF t two (17 - (k + 1)) (k + 1) = findO t two) := by rw [show 17 - (k + 1) = 16 - k by omega]; exact hK
          obtain ⟨tw, htw⟩ : ∃ tw, decide (0 < rankO k) = tw := ⟨_, rfl⟩
          have HT : Hid (∀ w, Calls Tryd.prog 61 #[.int .u8 (k : Int)] w fun e w' => e = .returned (.bool tw) ∧ Below w.heap.size w w') := fun w => htw ▸ twoC k hk w
          have e3 : (tw == two) = false := by rw [← htw]; exact hr
          clear hK hO hbq hn hr HK htw
          go_wp2_with fail
          refine (bnameC k hk _).mono ?_
          rintro e w1 ⟨rfl, hb⟩
          have HB1 := Lib.hid (bthen HB.out hb)
          clear hb
          go_wp2_with fail
          refine (HT.out _).mono ?_
          rintro e w2 ⟨rfl, hb⟩
          have HB2 := Lib.hid (bthen HB1.out hb)
          clear hb
          go_wp2_with fail
          go_roundw
          case rel => exact ⟨k + 1, by go_num, by omega, by omega, E, HB2⟩
          case measure => simp [intOf]; omega
      · have e2 : ((str (nameO k)).toList == (str t).toList) = false := by rw [hbq, decide_eq_false hn]
        rw [hO, decide_eq_false hn, Bool.false_and] at hK
        have E : Hid (findF t two (17 - (k + 1)) (k + 1) = findO t two) := by rw [show 17 - (k + 1) = 16 - k by omega]; exact hK
        clear hK hO hbq hn HK
        go_wp2_with fail
        refine (bnameC k hk _).mono ?_
        rintro e w1 ⟨rfl, hb⟩
        have HB1 := Lib.hid (bthen HB.out hb)
        clear hb
        go_wp2_with fail
        go_roundw
        case rel => exact ⟨k + 1, by go_num, by omega, by omega, E, HB1⟩
        case measure => simp [intOf]; omega
    · have e1 : decide ((k : Int) ≤ 16) = false := by simp; omega
      obtain rfl : k = 17 := by omega
      have E : Hid (none = findO t two) := HK.out
      go_wp2_with fail
      go_ret2
      rw [← E.out]
      exact ⟨rfl, HB.out⟩
end Go.Proofs.YtehcpcpmcngnjaaDoor
