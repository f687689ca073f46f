/-
  Contracts of small functions: references, lists of numbers.
-/
import Derived.Test.YtamoniljgifggaaLib
import Derived.Test.YtamoniljgifggaaPlain
import Derived.Laws.BitsAllLaws
import Derived.Laws.BitsLemmas
set_option linter.unusedVariables false
set_option linter.unusedSimpArgs false
namespace Go.Proofs.Ytamoniljgifggaa
open Go.RowKit

theorem el_int : El Try.prog 25 3 1 := El.mk' (z := .int .i64 0) (bytes := 8) Try.underlying25 (by kernel_rfl) rfl (by omega) (by omega)

theorem own_step {w wr w1 : World} {e : TypeId} {size n : Nat} {v : Value} {xs : List Value} (hb : Below w.heap.size w wr) (hown : wr.ownsRow w.heap.size e size v n xs) (o : Obj) (hg : (wr.alloc o).grownBy w1 v.ownBlock) : Below w.heap.size w w1 :=
  (hb.alloc hb.size o).grown hg (by have := hb.size; simp; omega) (fun k hk => (hown.lt k hk).1)

set_option maxHeartbeats 400000 in
set_option maxRecDepth 100000 in
theorem refs_any (A : Option Addr) (n c : Nat) (l : List Int) (w : World) (hr : Hid (Rd w A (l.map (Value.int .i64)))) (hl : Hid (l.length = n)) (hn : n ≤ 1000000) :
    Calls Try.prog 59 #[.slice A n c] w fun e w' => ∃ A' c', e = .returned (.slice A' n c') ∧ w'.ownsRow w.heap.size 35 1 (.slice A' n c') n (l.map (Value.int .i64)) ∧ Below w.heap.size w w' := by
  go_enter Try.func59, Try.ntmps59
  go_wp2
  go_loopw [3, 8] (fun v i wr => ∃ (k : Nat) (A' : Option Addr) (c' : Nat), k ≤ n ∧ i = .int .i64 k ∧ v = .slice A' k c' ∧ Hid (wr.ownsRow w.heap.size 35 1 (.slice A' k c') k ((l.take k).map (Value.int .i64))) ∧ Hid (Below w.heap.size w wr)) (fun _ i _ => n - (intOf i).toNat)
  case atStart => exact ⟨0, none, 0, Nat.zero_le _, rfl, rfl, World.ownsRow_nil _ _ _ _, Below.refl _ _⟩
  case round =>
    obtain ⟨k, A', c', hk, rfl, rfl, Ho, Hb⟩ := hrel
    have hsz : w.heap.size ≤ wr.heap.size := Hb.out.size
    by_cases hlt : k < n
    · obtain ⟨b1, o1, x, rfl, hx, hc1⟩ := (hr.out.below Hb.out).getm hl.out hlt
      have HX := Lib.hid hx; clear hx
      go_wp2_with (at_builtin; refine wpList_app el_ref rfl (.tmp 12) (.tmp 14) rfl w.heap.size (.slice A' k c') k _ rfl (Ho.out.alloc _) (some ⟨wr.heap.size, 0, none⟩) 1 1 [.int .i64 x] rfl (Rd.new _ #[_] _) rfl (by simp [Value.oneCell']) (by omega) (by simp; omega) ?_; intro A2 c2 w1 ho1 hg1 hat1; have Ho1 := Lib.hid ho1; have Hg1 := Lib.hid hg1; clear ho1 hg1 hat1)
      go_roundw
      case rel => exact ⟨k + 1, A2, c2, by omega, by go_num, rfl, by show w1.ownsRow _ _ _ _ _ _; rw [take_snoc HX.out, List.map_append]; exact Ho1.out, own_step Hb.out Ho.out _ Hg1.out⟩
      case measure => simp [intOf]; omega
    · obtain rfl : k = n := by omega
      go_wp2
      go_ret
      refine ⟨A', c', rfl, ?_, Hb.out⟩
      have h := Ho.out
      rwa [List.take_of_length_le (by rw [hl.out]; omega)] at h

set_option maxHeartbeats 400000 in
set_option maxRecDepth 100000 in
theorem ints_any (A : Option Addr) (n c : Nat) (l : List Bool) (w : World) (hr : Hid (Rd w A (l.map Value.bool))) (hl : Hid (l.length = n)) (hn : n ≤ 1000000) :
    Calls Try.prog 25 #[.slice A n c] w fun e w' => ∃ A' c', e = .returned (.slice A' n c') ∧ w'.ownsRow w.heap.size 3 1 (.slice A' n c') n ((l.map bitI).map (Value.int .i64)) ∧ Below w.heap.size w w' := by
  go_enter Try.func25, Try.ntmps25
  go_wp2
  go_loopw [3, 9] (fun v i wr => ∃ (k : Nat) (A' : Option Addr) (c' : Nat), k ≤ n ∧ i = .int .i64 k ∧ v = .slice A' k c' ∧ Hid (wr.ownsRow w.heap.size 3 1 (.slice A' k c') k (((l.take k).map bitI).map (Value.int .i64))) ∧ Hid (Below w.heap.size w wr)) (fun _ i _ => n - (intOf i).toNat)
  case atStart => exact ⟨0, none, 0, Nat.zero_le _, rfl, rfl, World.ownsRow_nil _ _ _ _, Below.refl _ _⟩
  case round =>
    obtain ⟨k, A', c', hk, rfl, rfl, Ho, Hb⟩ := hrel
    have hsz : w.heap.size ≤ wr.heap.size := Hb.out.size
    by_cases hlt : k < n
    · obtain ⟨b1, o1, x, rfl, hx, hc1⟩ := (hr.out.below Hb.out).getm hl.out hlt
      have HX := Lib.hid hx; clear hx
      cases x
      all_goals
        go_wp2_with (at_builtin; refine wpList_app el_int rfl (.tmp 14) (.tmp 16) rfl w.heap.size (.slice A' k c') k _ rfl (Ho.out.alloc _) (some ⟨wr.heap.size, 0, none⟩) 1 1 [.int .i64 _] rfl (Rd.new _ #[_] _) rfl (by simp [Value.oneCell']) (by omega) (by simp; omega) ?_; intro A2 c2 w1 ho1 hg1 hat1; have Ho1 := Lib.hid ho1; have Hg1 := Lib.hid hg1; clear ho1 hg1 hat1)
        go_roundw
        case rel => exact ⟨k + 1, A2, c2, by omega, by go_num, rfl, by show w1.ownsRow _ _ _ _ _ _; rw [take_snoc HX.out, List.map_append, List.map_append]; exact Ho1.out, own_step Hb.out Ho.out _ Hg1.out⟩
        case measure => simp [intOf]; omega
    · obtain rfl : k = n := by omega
      go_wp2
      go_ret
      refine ⟨A', c', rfl, ?_, Hb.out⟩
      have h := Ho.out
      rwa [List.take_of_length_le (by rw [hl.out]; omega)] at h

theorem refNot (r : Int) (w : World) (h0 : 0 ≤ r) (h1 : r ≤ 1000000000) :
    Calls Try.prog 86 #[.int .i64 r] w fun e w' => e = .returned (.int .i64 (notI r)) ∧ w = w' := by
  unfold notI
  by_cases h : r % 2 = 0
  · have hb : (r % 2 == 0) = true := by simpa using h
    rw [if_pos h]
    clear h
    go_enter Try.func86, Try.ntmps86
    go_wp2
    go_ret
    exact ⟨rfl, rfl⟩
  · have hb : (r % 2 == 0) = false := by simpa using h
    rw [if_neg h]
    clear h
    go_enter Try.func86, Try.ntmps86
    go_wp2
    go_ret
    exact ⟨rfl, rfl⟩

theorem xor1 (a : Nat) : (a ^^^ 1) = if a % 2 = 0 then a + 1 else a - 1 := by
  have h1 : (a ^^^ 1) / 2 = a / 2 := by
    rw [Nat.xor_div_two]; simp
  have h2 : (a ^^^ 1) % 2 = (a + 1) % 2 := by
    have h := Nat.testBit_xor a 1 0
    simp only [Nat.testBit_zero] at h
    by_cases e1 : (a ^^^ 1) % 2 = 1 <;> by_cases e2 : a % 2 = 1
    · simp [e1, e2] at h
    · omega
    · omega
    · simp [e1, e2] at h
  split <;> omega
theorem xor_one (r : Int) (h0 : 0 ≤ r) (h1 : r ≤ 1000000000) : bits .xor .i64 r 1 = notI r := by
  obtain ⟨a, rfl⟩ := Int.eq_ofNat_of_zero_le h0
  have hx : a ^^^ 1 < 2 ^ 63 := Nat.xor_lt_two_pow (by omega) (by omega)
  have ha : (BitVec.ofInt 64 (a : Int)).toNat = a := by rw [BitVec.ofInt_natCast, BitVec.toNat_ofNat]; exact Nat.mod_eq_of_lt (by omega)
  show IntKind.i64.wrap ((BitVec.ofInt 64 (a : Int) ^^^ BitVec.ofInt 64 ((1 : Nat) : Int)).toNat : Int) = _
  rw [BitVec.toNat_xor, ha, BitVec.ofInt_natCast, BitVec.toNat_ofNat, Nat.mod_eq_of_lt (by omega), IntKind.wrap_i64]
  unfold notI
  have hm := xor1 a
  rw [hm]
  split <;> split <;> omega

theorem aigNot (r : Int) (w : World) (h0 : 0 ≤ r) (h1 : r ≤ 1000000000) :
    Calls Try.prog 102 #[.int .i64 r] w fun e w' => e = .returned (.int .i64 (notI r)) ∧ w = w' := by
  rw [← xor_one r h0 h1]
  go_enter Try.func102, Try.ntmps102
  go_wp2
  go_ret
  exact ⟨rfl, rfl⟩
end Go.Proofs.Ytamoniljgifggaa
