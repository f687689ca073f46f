/-
  salvorlaw07.awake: the examples of the chapter.
-/
import Derived.Test.YteglgcfbmjlnkaaGreatDoorReadC
import Derived.Test.YteglgcfbmjlnkaaGreatDoorWrite
import Derived.Test.YteglgcfbmjlnkaaGreatDoorSameS
import Derived.Deep.DeepCutAuto
set_option linter.unusedVariables false
set_option linter.unusedSimpArgs false
namespace Go.Proofs.YteglgcfbmjlnkaaGreatDoor
open Go.RowKit

theorem Bk.newAt (w : World) (t : TypeId) (cs : Array Value) (n : Nat) (h : w.heap.size = n) : Bk (w.alloc (.cells cs t)) n t cs := by
  subst h
  exact Bk.new w t cs
theorem Rd.of_bk {w : World} {g : Nat} {t : TypeId} {cs : Array Value} {xs : List Value} (h : Bk w g t cs) (hx : xs = cs.toList) : Rd w (some ⟨g, 0, none⟩) xs := fun _ =>
  ⟨g, 0, cs, t, (0, 0), rfl, h, fun j u hu => by rw [hx] at hu; simpa using hu⟩
theorem i64_small (r : Int) (h1 : -10000000000 ≤ r) (h2 : r ≤ 10000000000) : I64 r := ⟨by omega, by omega⟩
theorem ints2 {w : World} {g : Nat} {t : TypeId} {a b : Int} (h : Bk w g t #[.int .i64 a, .int .i64 b]) (ha : I64 a) (hb : I64 b) : IntsAt w ⟨some ⟨g, 0, none⟩, 2, 2⟩ [a, b] :=
  ⟨Rd.of_bk h rfl, rfl, fun u hu => by
    simp only [List.mem_cons, List.not_mem_nil, or_false] at hu
    rcases hu with rfl | rfl <;> assumption, by show 2 ≤ _; omega⟩
theorem ints1 {w : World} {g : Nat} {t : TypeId} {a : Int} (h : Bk w g t #[.int .i64 a]) (ha : I64 a) : IntsAt w ⟨some ⟨g, 0, none⟩, 1, 1⟩ [a] :=
  ⟨Rd.of_bk h rfl, rfl, fun u hu => by
    simp only [List.mem_cons, List.not_mem_nil, or_false] at hu
    rcases hu with rfl
    assumption, by show 1 ≤ _; omega⟩
theorem ints0 {w : World} : IntsAt w ⟨none, 0, 0⟩ [] := ⟨Rd.nil, rfl, fun u hu => (by cases hu), by show 0 ≤ _; omega⟩
def awL (b : Nat) : List (StV × Stp) := [(⟨⟨some ⟨b, 0, none⟩, 2, 2⟩, ⟨some ⟨b + 1, 0, none⟩, 2, 2⟩⟩, ⟨false, 5, [1, -2], [3, 4]⟩), (⟨⟨none, 0, 0⟩, ⟨some ⟨b + 2, 0, none⟩, 2, 2⟩⟩, ⟨false, 6, [], [5, 2]⟩), (⟨⟨some ⟨b + 3, 0, none⟩, 1, 1⟩, ⟨some ⟨b + 4, 0, none⟩, 2, 2⟩⟩, ⟨false, 7, [-1], [-2, 6]⟩), (⟨⟨none, 0, 0⟩, ⟨some ⟨b + 5, 0, none⟩, 2, 2⟩⟩, ⟨true, 7, [], [1, 3]⟩)]
def awS : List Stp := [⟨false, 5, [1, -2], [3, 4]⟩, ⟨false, 6, [], [5, 2]⟩, ⟨false, 7, [-1], [-2, 6]⟩, ⟨true, 7, [], [1, 3]⟩]
def awT : List UInt8 := [53, 32, 49, 32, 45, 50, 32, 48, 32, 51, 32, 52, 32, 48, 10, 54, 32, 48, 32, 53, 32, 50, 32, 48, 10, 55, 32, 45, 49, 32, 48, 32, 45, 50, 32, 54, 32, 48, 10, 55, 32, 100, 32, 49, 32, 51, 32, 48, 10]
def awN : List ByteArray := [⟨#[48, 53, 32, 48, 32, 48]⟩, ⟨#[53, 32, 49, 32, 48, 32, 49]⟩, ⟨#[53, 32, 49, 32, 48, 32, 49, 32, 48, 32, 48]⟩, ⟨#[53, 32, 100, 32, 45, 49, 32, 48]⟩]
theorem aw_write (b : Nat) : writeS (awL b) = (awT, -1, 0) := by kernel_rfl
theorem aw_read : readS awT = (awS, 0, 0) := by decide +kernel
theorem aw_map (b : Nat) : (awL b).map (·.2) = awS := rfl
theorem aw_read2 : readS [53, 32, 48, 32, 48, 10, 53, 32, 48, 32, 48, 10] = ([], 2, 70) := by decide +kernel
theorem aw_no : ∀ x ∈ awN, readS x.data.toList = ([], 1, 71) ∧ x.size ≤ 100 := by decide +kernel
theorem aw_steps (w : World) : StepsAt (((((((w.alloc (.cells #[.int .i64 1, .int .i64 (-2)] 34)).alloc (.cells #[.int .i64 3, .int .i64 4] 3)).alloc (.cells #[.int .i64 5, .int .i64 2] 3)).alloc (.cells #[.int .i64 (-1)] 34)).alloc (.cells #[.int .i64 (-2), .int .i64 6] 3)).alloc (.cells #[.int .i64 1, .int .i64 3] 3)).alloc (.cells #[.bool false, .int .i64 5, .slice (some ⟨w.heap.size, 0, none⟩) 2 2, .slice (some ⟨w.heap.size + 1, 0, none⟩) 2 2, .bool false, .int .i64 6, .slice none 0 0, .slice (some ⟨w.heap.size + 2, 0, none⟩) 2 2, .bool false, .int .i64 7, .slice (some ⟨w.heap.size + 3, 0, none⟩) 1 1, .slice (some ⟨w.heap.size + 4, 0, none⟩) 2 2, .bool true, .int .i64 7, .slice none 0 0, .slice (some ⟨w.heap.size + 5, 0, none⟩) 2 2] 33)) (some ⟨w.heap.size + 6, 0, none⟩) 4 (awL w.heap.size) := by
  have k0 : Bk (((((((w.alloc (.cells #[.int .i64 1, .int .i64 (-2)] 34)).alloc (.cells #[.int .i64 3, .int .i64 4] 3)).alloc (.cells #[.int .i64 5, .int .i64 2] 3)).alloc (.cells #[.int .i64 (-1)] 34)).alloc (.cells #[.int .i64 (-2), .int .i64 6] 3)).alloc (.cells #[.int .i64 1, .int .i64 3] 3)).alloc (.cells #[.bool false, .int .i64 5, .slice (some ⟨w.heap.size, 0, none⟩) 2 2, .slice (some ⟨w.heap.size + 1, 0, none⟩) 2 2, .bool false, .int .i64 6, .slice none 0 0, .slice (some ⟨w.heap.size + 2, 0, none⟩) 2 2, .bool false, .int .i64 7, .slice (some ⟨w.heap.size + 3, 0, none⟩) 1 1, .slice (some ⟨w.heap.size + 4, 0, none⟩) 2 2, .bool true, .int .i64 7, .slice none 0 0, .slice (some ⟨w.heap.size + 5, 0, none⟩) 2 2] 33)) (w.heap.size) 34 #[.int .i64 1, .int .i64 (-2)] := (((((((Bk.newAt w _ _ (w.heap.size) (by simp)).alloc _).alloc _).alloc _).alloc _).alloc _).alloc _)
  have k1 : Bk (((((((w.alloc (.cells #[.int .i64 1, .int .i64 (-2)] 34)).alloc (.cells #[.int .i64 3, .int .i64 4] 3)).alloc (.cells #[.int .i64 5, .int .i64 2] 3)).alloc (.cells #[.int .i64 (-1)] 34)).alloc (.cells #[.int .i64 (-2), .int .i64 6] 3)).alloc (.cells #[.int .i64 1, .int .i64 3] 3)).alloc (.cells #[.bool false, .int .i64 5, .slice (some ⟨w.heap.size, 0, none⟩) 2 2, .slice (some ⟨w.heap.size + 1, 0, none⟩) 2 2, .bool false, .int .i64 6, .slice none 0 0, .slice (some ⟨w.heap.size + 2, 0, none⟩) 2 2, .bool false, .int .i64 7, .slice (some ⟨w.heap.size + 3, 0, none⟩) 1 1, .slice (some ⟨w.heap.size + 4, 0, none⟩) 2 2, .bool true, .int .i64 7, .slice none 0 0, .slice (some ⟨w.heap.size + 5, 0, none⟩) 2 2] 33)) (w.heap.size + 1) 3 #[.int .i64 3, .int .i64 4] := ((((((Bk.newAt (w.alloc (.cells #[.int .i64 1, .int .i64 (-2)] 34)) _ _ (w.heap.size + 1) (by simp)).alloc _).alloc _).alloc _).alloc _).alloc _)
  have k2 : Bk (((((((w.alloc (.cells #[.int .i64 1, .int .i64 (-2)] 34)).alloc (.cells #[.int .i64 3, .int .i64 4] 3)).alloc (.cells #[.int .i64 5, .int .i64 2] 3)).alloc (.cells #[.int .i64 (-1)] 34)).alloc (.cells #[.int .i64 (-2), .int .i64 6] 3)).alloc (.cells #[.int .i64 1, .int .i64 3] 3)).alloc (.cells #[.bool false, .int .i64 5, .slice (some ⟨w.heap.size, 0, none⟩) 2 2, .slice (some ⟨w.heap.size + 1, 0, none⟩) 2 2, .bool false, .int .i64 6, .slice none 0 0, .slice (some ⟨w.heap.size + 2, 0, none⟩) 2 2, .bool false, .int .i64 7, .slice (some ⟨w.heap.size + 3, 0, none⟩) 1 1, .slice (some ⟨w.heap.size + 4, 0, none⟩) 2 2, .bool true, .int .i64 7, .slice none 0 0, .slice (some ⟨w.heap.size + 5, 0, none⟩) 2 2] 33)) (w.heap.size + 2) 3 #[.int .i64 5, .int .i64 2] := (((((Bk.newAt ((w.alloc (.cells #[.int .i64 1, .int .i64 (-2)] 34)).alloc (.cells #[.int .i64 3, .int .i64 4] 3)) _ _ (w.heap.size + 2) (by simp)).alloc _).alloc _).alloc _).alloc _)
  have k3 : Bk (((((((w.alloc (.cells #[.int .i64 1, .int .i64 (-2)] 34)).alloc (.cells #[.int .i64 3, .int .i64 4] 3)).alloc (.cells #[.int .i64 5, .int .i64 2] 3)).alloc (.cells #[.int .i64 (-1)] 34)).alloc (.cells #[.int .i64 (-2), .int .i64 6] 3)).alloc (.cells #[.int .i64 1, .int .i64 3] 3)).alloc (.cells #[.bool false, .int .i64 5, .slice (some ⟨w.heap.size, 0, none⟩) 2 2, .slice (some ⟨w.heap.size + 1, 0, none⟩) 2 2, .bool false, .int .i64 6, .slice none 0 0, .slice (some ⟨w.heap.size + 2, 0, none⟩) 2 2, .bool false, .int .i64 7, .slice (some ⟨w.heap.size + 3, 0, none⟩) 1 1, .slice (some ⟨w.heap.size + 4, 0, none⟩) 2 2, .bool true, .int .i64 7, .slice none 0 0, .slice (some ⟨w.heap.size + 5, 0, none⟩) 2 2] 33)) (w.heap.size + 3) 34 #[.int .i64 (-1)] := ((((Bk.newAt (((w.alloc (.cells #[.int .i64 1, .int .i64 (-2)] 34)).alloc (.cells #[.int .i64 3, .int .i64 4] 3)).alloc (.cells #[.int .i64 5, .int .i64 2] 3)) _ _ (w.heap.size + 3) (by simp)).alloc _).alloc _).alloc _)
  have k4 : Bk (((((((w.alloc (.cells #[.int .i64 1, .int .i64 (-2)] 34)).alloc (.cells #[.int .i64 3, .int .i64 4] 3)).alloc (.cells #[.int .i64 5, .int .i64 2] 3)).alloc (.cells #[.int .i64 (-1)] 34)).alloc (.cells #[.int .i64 (-2), .int .i64 6] 3)).alloc (.cells #[.int .i64 1, .int .i64 3] 3)).alloc (.cells #[.bool false, .int .i64 5, .slice (some ⟨w.heap.size, 0, none⟩) 2 2, .slice (some ⟨w.heap.size + 1, 0, none⟩) 2 2, .bool false, .int .i64 6, .slice none 0 0, .slice (some ⟨w.heap.size + 2, 0, none⟩) 2 2, .bool false, .int .i64 7, .slice (some ⟨w.heap.size + 3, 0, none⟩) 1 1, .slice (some ⟨w.heap.size + 4, 0, none⟩) 2 2, .bool true, .int .i64 7, .slice none 0 0, .slice (some ⟨w.heap.size + 5, 0, none⟩) 2 2] 33)) (w.heap.size + 4) 3 #[.int .i64 (-2), .int .i64 6] := (((Bk.newAt ((((w.alloc (.cells #[.int .i64 1, .int .i64 (-2)] 34)).alloc (.cells #[.int .i64 3, .int .i64 4] 3)).alloc (.cells #[.int .i64 5, .int .i64 2] 3)).alloc (.cells #[.int .i64 (-1)] 34)) _ _ (w.heap.size + 4) (by simp)).alloc _).alloc _)
  have k5 : Bk (((((((w.alloc (.cells #[.int .i64 1, .int .i64 (-2)] 34)).alloc (.cells #[.int .i64 3, .int .i64 4] 3)).alloc (.cells #[.int .i64 5, .int .i64 2] 3)).alloc (.cells #[.int .i64 (-1)] 34)).alloc (.cells #[.int .i64 (-2), .int .i64 6] 3)).alloc (.cells #[.int .i64 1, .int .i64 3] 3)).alloc (.cells #[.bool false, .int .i64 5, .slice (some ⟨w.heap.size, 0, none⟩) 2 2, .slice (some ⟨w.heap.size + 1, 0, none⟩) 2 2, .bool false, .int .i64 6, .slice none 0 0, .slice (some ⟨w.heap.size + 2, 0, none⟩) 2 2, .bool false, .int .i64 7, .slice (some ⟨w.heap.size + 3, 0, none⟩) 1 1, .slice (some ⟨w.heap.size + 4, 0, none⟩) 2 2, .bool true, .int .i64 7, .slice none 0 0, .slice (some ⟨w.heap.size + 5, 0, none⟩) 2 2] 33)) (w.heap.size + 5) 3 #[.int .i64 1, .int .i64 3] := ((Bk.newAt (((((w.alloc (.cells #[.int .i64 1, .int .i64 (-2)] 34)).alloc (.cells #[.int .i64 3, .int .i64 4] 3)).alloc (.cells #[.int .i64 5, .int .i64 2] 3)).alloc (.cells #[.int .i64 (-1)] 34)).alloc (.cells #[.int .i64 (-2), .int .i64 6] 3)) _ _ (w.heap.size + 5) (by simp)).alloc _)
  have k6 : Bk (((((((w.alloc (.cells #[.int .i64 1, .int .i64 (-2)] 34)).alloc (.cells #[.int .i64 3, .int .i64 4] 3)).alloc (.cells #[.int .i64 5, .int .i64 2] 3)).alloc (.cells #[.int .i64 (-1)] 34)).alloc (.cells #[.int .i64 (-2), .int .i64 6] 3)).alloc (.cells #[.int .i64 1, .int .i64 3] 3)).alloc (.cells #[.bool false, .int .i64 5, .slice (some ⟨w.heap.size, 0, none⟩) 2 2, .slice (some ⟨w.heap.size + 1, 0, none⟩) 2 2, .bool false, .int .i64 6, .slice none 0 0, .slice (some ⟨w.heap.size + 2, 0, none⟩) 2 2, .bool false, .int .i64 7, .slice (some ⟨w.heap.size + 3, 0, none⟩) 1 1, .slice (some ⟨w.heap.size + 4, 0, none⟩) 2 2, .bool true, .int .i64 7, .slice none 0 0, .slice (some ⟨w.heap.size + 5, 0, none⟩) 2 2] 33)) (w.heap.size + 6) 33 #[.bool false, .int .i64 5, .slice (some ⟨w.heap.size, 0, none⟩) 2 2, .slice (some ⟨w.heap.size + 1, 0, none⟩) 2 2, .bool false, .int .i64 6, .slice none 0 0, .slice (some ⟨w.heap.size + 2, 0, none⟩) 2 2, .bool false, .int .i64 7, .slice (some ⟨w.heap.size + 3, 0, none⟩) 1 1, .slice (some ⟨w.heap.size + 4, 0, none⟩) 2 2, .bool true, .int .i64 7, .slice none 0 0, .slice (some ⟨w.heap.size + 5, 0, none⟩) 2 2] := (Bk.newAt ((((((w.alloc (.cells #[.int .i64 1, .int .i64 (-2)] 34)).alloc (.cells #[.int .i64 3, .int .i64 4] 3)).alloc (.cells #[.int .i64 5, .int .i64 2] 3)).alloc (.cells #[.int .i64 (-1)] 34)).alloc (.cells #[.int .i64 (-2), .int .i64 6] 3)).alloc (.cells #[.int .i64 1, .int .i64 3] 3)) _ _ (w.heap.size + 6) (by simp))
  refine ⟨Rd.of_bk k6 rfl, rfl, fun i v s hi => ?_, by omega⟩
  match i, hi with
  | 0, hi =>
    obtain ⟨rfl, rfl⟩ := Prod.mk.inj (Option.some.inj hi)
    exact ⟨(i64_small _ (by decide) (by decide)), ints2 k0 (i64_small _ (by decide) (by decide)) (i64_small _ (by decide) (by decide)), ints2 k1 (i64_small _ (by decide) (by decide)) (i64_small _ (by decide) (by decide))⟩
  | 1, hi =>
    obtain ⟨rfl, rfl⟩ := Prod.mk.inj (Option.some.inj hi)
    exact ⟨(i64_small _ (by decide) (by decide)), ints0, ints2 k2 (i64_small _ (by decide) (by decide)) (i64_small _ (by decide) (by decide))⟩
  | 2, hi =>
    obtain ⟨rfl, rfl⟩ := Prod.mk.inj (Option.some.inj hi)
    exact ⟨(i64_small _ (by decide) (by decide)), ints1 k3 (i64_small _ (by decide) (by decide)), ints2 k4 (i64_small _ (by decide) (by decide)) (i64_small _ (by decide) (by decide))⟩
  | 3, hi =>
    obtain ⟨rfl, rfl⟩ := Prod.mk.inj (Option.some.inj hi)
    exact ⟨(i64_small _ (by decide) (by decide)), ints0, ints2 k5 (i64_small _ (by decide) (by decide)) (i64_small _ (by decide) (by decide))⟩
  | i + 4, hi => cases hi
set_option maxRecDepth 100000 in
set_option maxHeartbeats 1000000 in
theorem awakeC (w : World) (hv : Hid (Vars w)) : Calls Tryz.prog 7 #[] w fun e w' => e = .returned (.bool true) ∧ Below w.heap.size w w' := by
  have HS0 := Lib.hid (aw_steps w)
  have HB0 : Hid (Below w.heap.size w (((((((w.alloc (.cells #[.int .i64 1, .int .i64 (-2)] 34)).alloc (.cells #[.int .i64 3, .int .i64 4] 3)).alloc (.cells #[.int .i64 5, .int .i64 2] 3)).alloc (.cells #[.int .i64 (-1)] 34)).alloc (.cells #[.int .i64 (-2), .int .i64 6] 3)).alloc (.cells #[.int .i64 1, .int .i64 3] 3)).alloc (.cells #[.bool false, .int .i64 5, .slice (some ⟨w.heap.size, 0, none⟩) 2 2, .slice (some ⟨w.heap.size + 1, 0, none⟩) 2 2, .bool false, .int .i64 6, .slice none 0 0, .slice (some ⟨w.heap.size + 2, 0, none⟩) 2 2, .bool false, .int .i64 7, .slice (some ⟨w.heap.size + 3, 0, none⟩) 1 1, .slice (some ⟨w.heap.size + 4, 0, none⟩) 2 2, .bool true, .int .i64 7, .slice none 0 0, .slice (some ⟨w.heap.size + 5, 0, none⟩) 2 2] 33))) := balloc (balloc (balloc (balloc (balloc (balloc (balloc (Below.refl _ _) _) _) _) _) _) _) _
  go_enter Tryz.func7, Tryz.ntmps7
  go_upto_region 2 with fail
  generalize (((((((w.alloc (.cells #[.int .i64 1, .int .i64 (-2)] 34)).alloc (.cells #[.int .i64 3, .int .i64 4] 3)).alloc (.cells #[.int .i64 5, .int .i64 2] 3)).alloc (.cells #[.int .i64 (-1)] 34)).alloc (.cells #[.int .i64 (-2), .int .i64 6] 3)).alloc (.cells #[.int .i64 1, .int .i64 3] 3)).alloc (.cells #[.bool false, .int .i64 5, .slice (some ⟨w.heap.size, 0, none⟩) 2 2, .slice (some ⟨w.heap.size + 1, 0, none⟩) 2 2, .bool false, .int .i64 6, .slice none 0 0, .slice (some ⟨w.heap.size + 2, 0, none⟩) 2 2, .bool false, .int .i64 7, .slice (some ⟨w.heap.size + 3, 0, none⟩) 1 1, .slice (some ⟨w.heap.size + 4, 0, none⟩) 2 2, .bool true, .int .i64 7, .slice none 0 0, .slice (some ⟨w.heap.size + 5, 0, none⟩) 2 2] 33)) = W0 at *
  generalize hb : w.heap.size + 6 = b6 at *
  clear hb
  have HV0 := Lib.hid (hv.out.below HB0.out)
  go_wp2_with fail
  refine (writeC (some ⟨b6, 0, none⟩) 4 4 (awL w.heap.size) W0 HS0 HV0 awT (-1) 0 (Lib.hid (aw_write _))).mono ?_
  rintro e w1 ⟨rfl, hb⟩
  have HB1 := Lib.hid (bthen HB0.out hb)
  have HS1 := Lib.hid (HS0.out.below hb)
  have HV1 := Lib.hid (HV0.out.below hb)
  clear hb HB0 HS0 HV0
  go_wp2_with fail
  refine (readC (str awT) w1 HV1 (by decide) (awS, 0, 0) (Lib.hid aw_read)).mono ?_
  rintro e w2 ⟨A2, n2, c2, L2, rfl, hs2, hm2, hb⟩
  have HB2 := Lib.hid (bthen HB1.out hb)
  have HS2 := Lib.hid (HS1.out.below hb)
  have HV2 := Lib.hid (HV1.out.below hb)
  have HT2 := Lib.hid hs2
  have HM2 : Hid (L2.map (·.2) = awS) := hm2
  clear hb HB1 HS1 HV1 hs2 hm2
  dsimp only
  have hstr : (str awT).toList = [53, 32, 49, 32, 45, 50, 32, 48, 32, 51, 32, 52, 32, 48, 10, 54, 32, 48, 32, 53, 32, 50, 32, 48, 10, 55, 32, 45, 49, 32, 48, 32, 45, 50, 32, 54, 32, 48, 10, 55, 32, 100, 32, 49, 32, 51, 32, 48, 10] := by rw [toList_data]; rfl
  go_wp2_with fail
  refine (sameC A2 (some ⟨b6, 0, none⟩) L2 (awL w.heap.size) n2 4 c2 4 w2 HT2 HS2).mono ?_
  rintro e w3 ⟨rfl, hb⟩
  rw [decide_eq_true (HM2.out.trans (aw_map _).symm)]
  have HB3 := Lib.hid (bthen HB2.out hb)
  have HV3 := Lib.hid (HV2.out.below hb)
  clear hb HB2 HS2 HV2 HT2 HM2
  go_wp2_with fail
  refine (readC _ w3 HV3 (by decide) ([], 2, 70) (Lib.hid aw_read2)).mono ?_
  rintro e w4 ⟨A4, n4, c4, L4, rfl, hs4, hm4, hb⟩
  have HB4 := Lib.hid (bthen HB3.out hb)
  have HV4 := Lib.hid (HV3.out.below hb)
  clear hb HB3 HV3 hs4 hm4
  dsimp only
  have HBn : Hid (Below w.heap.size w (w4.alloc (.cells #[.string ⟨#[48, 53, 32, 48, 32, 48]⟩, .string ⟨#[53, 32, 49, 32, 48, 32, 49]⟩, .string ⟨#[53, 32, 49, 32, 48, 32, 49, 32, 48, 32, 48]⟩, .string ⟨#[53, 32, 100, 32, 45, 49, 32, 48]⟩] 9))) := balloc HB4.out _
  have HVn : Hid (Vars (w4.alloc (.cells #[.string ⟨#[48, 53, 32, 48, 32, 48]⟩, .string ⟨#[53, 32, 49, 32, 48, 32, 49]⟩, .string ⟨#[53, 32, 49, 32, 48, 32, 49, 32, 48, 32, 48]⟩, .string ⟨#[53, 32, 100, 32, 45, 49, 32, 48]⟩] 9))) := HV4.out.alloc _
  have HWn : Hid (WdAt (w4.alloc (.cells #[.string ⟨#[48, 53, 32, 48, 32, 48]⟩, .string ⟨#[53, 32, 49, 32, 48, 32, 49]⟩, .string ⟨#[53, 32, 49, 32, 48, 32, 49, 32, 48, 32, 48]⟩, .string ⟨#[53, 32, 100, 32, 45, 49, 32, 48]⟩] 9)) w4.heap.size awN) := ⟨by simp, fun i x hx => by
    rw [(Bk.new w4 9 #[.string ⟨#[48, 53, 32, 48, 32, 48]⟩, .string ⟨#[53, 32, 49, 32, 48, 32, 49]⟩, .string ⟨#[53, 32, 49, 32, 48, 32, 49, 32, 48, 32, 48]⟩, .string ⟨#[53, 32, 100, 32, 45, 49, 32, 48]⟩]).cell i]
    show (awN.map Value.string).toArray[i]? = _
    simp [hx]⟩
  go_upto_region 8 with fail
  generalize (w4.alloc (.cells #[.string ⟨#[48, 53, 32, 48, 32, 48]⟩, .string ⟨#[53, 32, 49, 32, 48, 32, 49]⟩, .string ⟨#[53, 32, 49, 32, 48, 32, 49, 32, 48, 32, 48]⟩, .string ⟨#[53, 32, 100, 32, 45, 49, 32, 48]⟩] 9)) = W5 at *
  generalize w4.heap.size = q at *
  clear HB4 HV4
  go_loopw [65] (fun v65 wr => ∃ (k : Nat), k ≤ 4 ∧ v65 = .int .i64 k ∧ Hid (Below W5.heap.size W5 wr)) (fun v65 _ => 4 - (intOf v65).toNat)
  case atStart => exact ⟨0, Nat.zero_le _, rfl, Below.refl _ _⟩
  case round =>
    obtain ⟨k, hk, rfl, HB⟩ := hrel
    by_cases hlt : k < 4
    · obtain ⟨x, hx⟩ : ∃ x, awN[k]? = some x := ⟨_, List.getElem?_eq_getElem (by show k < 4; exact hlt)⟩
      have hcx := (HWn.out.below HB.out).2 k x hx
      have hki : decide ((k : Int) < 4) = true := by simp; omega
      obtain ⟨hrx, hxs⟩ := aw_no x (List.mem_of_getElem? hx)
      have HRX := Lib.hid hrx
      clear hx hrx
      go_wp2_with fail
      refine (readC x wr (Lib.hid (HVn.out.below HB.out)) (by omega) ([], 1, 71) HRX).mono ?_
      rintro e w6 ⟨A6, n6, c6, L6, rfl, hs6, hm6, hb⟩
      have HB6 := Lib.hid (bthen HB.out hb)
      clear hb hs6 hm6
      dsimp only
      go_wp2_with fail
      go_roundw
      case rel => exact ⟨k + 1, by omega, by go_num, HB6⟩
      case measure => simp [intOf]; omega
    · have hki : decide ((k : Int) < 4) = false := by simp; omega
      go_wp2_with fail
      go_ret
      exact ⟨rfl, bthen HBn.out HB.out⟩
end Go.Proofs.YteglgcfbmjlnkaaGreatDoor
