/-
  Contract of salvorlaw42.same: equal schedules are the same.
-/
import Derived.Test.YtamoniljgifggaaSched
set_option linter.unusedVariables false
set_option linter.unusedSimpArgs false
namespace Go.Proofs.Ytamoniljgifggaa
open Go.RowKit

theorem sameFn (a : Int) (w : World) (h0 : 0 ≤ a) (h1 : a ≤ 65535) :
    Calls Try.prog 63 #[.int .u32 a, .int .i64 a] w fun e w' => e = .returned (.bool true) ∧ w = w' := by
  have hb : (a == a) = true := by simp
  go_enter Try.func63, Try.ntmps63
  go_wp2
  go_ret
  exact ⟨rfl, rfl⟩

set_option maxHeartbeats 400000 in
set_option maxRecDepth 100000 in
theorem eqFuncSame (A1 A2 : Option Addr) (l : List Int) (n c1 c2 : Nat) (w : World) (H1 : Hid (Rd w A1 (l.map (Value.int .u32)))) (H2 : Hid (Rd w A2 (l.map (Value.int .i64)))) (L : Hid (l.length = n)) (hn : n ≤ 100000) (hr : Hid (∀ x ∈ l, 0 ≤ x ∧ x ≤ 65535)) :
    Calls Try.prog 62 #[.slice A1 n c1, .slice A2 n c2, .func (.func 63) #[] #[]] w fun e w' => e = .returned (.bool true) ∧ w = w' := by
  have hd : ((n : Int) != (n : Int)) = false := by simp
  have hent : ∀ (args : Array Value) (W : World), (callFunc 63 args).run Try.prog W = .ok (.enter 63 args) W := Ent.of Try.func63 (by kernel_rfl) (by kernel_rfl)
  go_enter Try.func62, Try.ntmps62
  go_wp2
  go_loopw [17] (fun i wr => ∃ (k : Nat), k ≤ n ∧ i = .int .i64 k ∧ w = wr) (fun i _ => n - (intOf i).toNat)
  case atStart => exact ⟨0, Nat.zero_le _, rfl, rfl⟩
  case round =>
    obtain ⟨k, hk, rfl, rfl⟩ := hrel
    by_cases hlt : k < n
    · obtain ⟨b1, o1, x, rfl, hx, d1⟩ := H1.out.getm L.out hlt
      obtain ⟨b2, o2, x2, rfl, hx2, d2⟩ := H2.out.getm L.out hlt
      obtain rfl : x = x2 := by rw [hx] at hx2; exact Option.some.inj hx2
      obtain ⟨hx0, hx1⟩ := hr.out x (List.mem_of_getElem? hx)
      clear hx hx2
      have hki : (k : Int) < (n : Int) := by omega
      go_wp2_with fail
      refine (sameFn x w hx0 hx1).mono ?_
      rintro e w' ⟨rfl, rfl⟩
      go_wp2
      go_roundw
      case rel => exact ⟨k + 1, by omega, by go_num, trivial⟩
      case measure => simp [intOf]; omega
    · obtain rfl : k = n := by omega
      go_wp2
      go_ret
      exact ⟨rfl, rfl⟩

set_option maxHeartbeats 2000000 in
set_option maxRecDepth 100000 in
theorem sameC (A1 A2 A3 A4 : Option Addr) (n1 n2 c1 c2 c3 c4 : Nat) (l : List Int) (p : Int) (kp : List Bool) (w : World) (H1 : Hid (Rd w A1 (l.map (Value.int .u32)))) (H2 : Hid (Rd w A2 (kp.map Value.bool))) (H3 : Hid (Rd w A3 (l.map (Value.int .i64)))) (H4 : Hid (Rd w A4 ((kp.map bitI).map (Value.int .i64))))
    (L1 : Hid (l.length = n1)) (L2 : Hid (kp.length = n2)) (hn1 : n1 ≤ 100000) (hn2 : n2 ≤ 100000) (hr : Hid (∀ x ∈ l, 0 ≤ x ∧ x ≤ 65535)) :
    Calls Try.prog 23 #[.agg #[.slice A1 n1 c1, .int .i64 p, .slice A2 n2 c2], .agg #[.slice A3 n1 c3, .int .i64 p, .slice A4 n2 c4]] w fun e w' => e = .returned (.bool true) ∧ Below w.heap.size w w' := by
  have hpp : (p == p) = true := by simp
  have hb0 : Below w.heap.size w ((w.alloc (.cells #[.slice A1 n1 c1, .int .i64 p, .slice A2 n2 c2] 51)).alloc (.cells #[.slice A3 n1 c3, .int .i64 p, .slice A4 n2 c4] 78)) := ((Below.refl _ w).alloc (Nat.le_refl _) _).alloc (by simp) _
  have hx := (Bk.new w 51 #[.slice A1 n1 c1, .int .i64 p, .slice A2 n2 c2]).alloc (.cells #[.slice A3 n1 c3, .int .i64 p, .slice A4 n2 c4] 78)
  have hz := Bk.new (w.alloc (.cells #[.slice A1 n1 c1, .int .i64 p, .slice A2 n2 c2] 51)) 78 #[.slice A3 n1 c3, .int .i64 p, .slice A4 n2 c4]
  rw [World.size_alloc] at hz
  have HB0 := Lib.hid hb0; have HX := Lib.hid hx; have HZ := Lib.hid hz
  clear hb0 hx hz
  go_enter Try.func23, Try.ntmps23
  go_wp2_with fail
  generalize ((w.alloc (.cells #[.slice A1 n1 c1, .int .i64 p, .slice A2 n2 c2] 51)).alloc (.cells #[.slice A3 n1 c3, .int .i64 p, .slice A4 n2 c4] 78)) = W at *
  have G1 := Lib.hid (H1.out.below HB0.out); have G2 := Lib.hid (H2.out.below HB0.out); have G3 := Lib.hid (H3.out.below HB0.out); have G4 := Lib.hid (H4.out.below HB0.out)
  have x0 : W.cell? ⟨w.heap.size, 0, none⟩ = some (.slice A1 n1 c1) := HX.out.cell 0
  have x1 : W.cell? ⟨w.heap.size, 1, none⟩ = some (.int .i64 p) := HX.out.cell 1
  have x2 : W.cell? ⟨w.heap.size, 2, none⟩ = some (.slice A2 n2 c2) := HX.out.cell 2
  have z0 : W.cell? ⟨w.heap.size + 1, 0, none⟩ = some (.slice A3 n1 c3) := HZ.out.cell 0
  have z1 : W.cell? ⟨w.heap.size + 1, 1, none⟩ = some (.int .i64 p) := HZ.out.cell 1
  have z2 : W.cell? ⟨w.heap.size + 1, 2, none⟩ = some (.slice A4 n2 c4) := HZ.out.cell 2
  have HBX := HX; have HBZ := HZ
  go_region_held3 (fun w' => w'.cell? ⟨w.heap.size, 0, none⟩ = some (.slice A1 n1 c1) ∧ w'.cell? ⟨w.heap.size, 1, none⟩ = some (.int .i64 p) ∧ w'.cell? ⟨w.heap.size, 2, none⟩ = some (.slice A2 n2 c2) ∧ w'.cell? ⟨w.heap.size + 1, 0, none⟩ = some (.slice A3 n1 c3) ∧ w'.cell? ⟨w.heap.size + 1, 1, none⟩ = some (.int .i64 p) ∧ w'.cell? ⟨w.heap.size + 1, 2, none⟩ = some (.slice A4 n2 c4))
    ((exact ⟨HBX.out.cell 0, HBX.out.cell 1, HBX.out.cell 2, HBZ.out.cell 0, HBZ.out.cell 1, HBZ.out.cell 2⟩))
    (first
      | (go_at_call 62
         refine (eqFuncSame A1 A3 l n1 c1 c3 _ (Lib.hid (Rd.drew G1.out)) (Lib.hid (Rd.drew G3.out)) L1 hn1 hr).mono ?_
         rintro e w' ⟨rfl, rfl⟩)
      | (go_at_call 25
         refine (ints_any A2 n2 c2 kp _ (Lib.hid (Rd.drew G2.out)) L2 (by omega)).mono ?_
         rintro e w1 ⟨A5, c5, rfl, ho5, hb5⟩
         have HO5 := Lib.hid ho5
         have HB5 := Lib.hid hb5
         have HBX' := Lib.hid (HBX.out.drew.below hb5 HBX.out.lt)
         have HBZ' := Lib.hid (HBZ.out.drew.below hb5 HBZ.out.lt)
         clear HBX HBZ
         have HBX := HBX'
         have HBZ := HBZ'
         clear HBX' HBZ' ho5 hb5)
      | (go_at_call 37
         refine (equal_int A5 A4 (kp.map bitI) (kp.map bitI) n2 n2 c5 c4 _ (Lib.hid (Rd.of_own HO5.out)) (Lib.hid ((Rd.drew G4.out).below HB5.out)) (by show _ = _; rw [List.length_map, L2.out]) (by show _ = _; rw [List.length_map, L2.out]) (by omega)).mono ?_
         rintro e w2 ⟨rfl, m, rfl⟩
         rw [decide_eq_true (rfl : kp.map bitI = kp.map bitI)]))
  all_goals
    go_wp2
    go_ret
    exact ⟨rfl, bdrewN (bthen HB0.out.drew HB5.out) _⟩
end Go.Proofs.Ytamoniljgifggaa
