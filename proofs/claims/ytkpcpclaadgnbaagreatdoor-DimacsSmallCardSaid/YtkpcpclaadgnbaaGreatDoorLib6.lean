/-
  Contracts of instances of generic functions of Go's package slices (written by gen/lib7.py; cut from tpl7/XLib).
-/
import Derived.Test.YtkpcpclaadgnbaaGreatDoorRows
import Derived.Test.YtkpcpclaadgnbaaGreatDoorApp
import Derived.Deep.QuietTactic
import Derived.BigQuiet
namespace Go.Proofs.YtkpcpclaadgnbaaGreatDoor
open Go.RowKit


theorem el_lit : El Tryz.prog 55 53 1 := El.mk' (z := .int .i64 0) (bytes := 8) Tryz.underlying55 (by kernel_rfl) rfl (by omega) (by omega)


theorem el_int : El Tryz.prog 61 3 1 := El.mk' (z := .int .i64 0) (bytes := 8) Tryz.underlying61 (by kernel_rfl) rfl (by omega) (by omega)




theorem equal_lit_ne (A1 A2 : Option Addr) (n1 n2 c1 c2 : Nat) (w : World) (hn : n1 ≠ n2) :
    Calls Tryz.prog 57 #[.slice A1 n1 c1, .slice A2 n2 c2] w fun e w' => e = .returned (.bool false) ∧ w = w' := by
  have hd : ((n1 : Int) != (n2 : Int)) = true := by rw [bne_iff_ne]; omega
  go_enter Tryz.func57, Tryz.ntmps57
  go_wp2
  go_ret
  exact ⟨rfl, rfl⟩

set_option maxHeartbeats 400000 in
set_option maxRecDepth 100000 in
theorem equal_lit_eq (A1 A2 : Option Addr) (l1 l2 : List Int) (n c1 c2 : Nat) (w : World) (H1 : Hid (Rd w A1 (l1.map (Value.int .i64)))) (H2 : Hid (Rd w A2 (l2.map (Value.int .i64)))) (L1 : Hid (l1.length = n)) (L2 : Hid (l2.length = n)) (hn : n ≤ 1000000000) :
    Calls Tryz.prog 57 #[.slice A1 n c1, .slice A2 n c2] w fun e w' => e = .returned (.bool (decide (l1 = l2))) ∧ ∃ m, w.drewN m = w' := by
  have hd : ((n : Int) != (n : Int)) = false := by simp
  go_enter Tryz.func57, Tryz.ntmps57
  go_wp2
  go_loopw [13] (fun i wr => ∃ k m : Nat, k ≤ n ∧ i = .int .i64 k ∧ wr = w.drewN m ∧ Hid (l1.take k = l2.take k)) (fun i _ => n - (intOf i).toNat)
  case atStart => exact ⟨0, 0, Nat.zero_le _, rfl, rfl, rfl⟩
  case round =>
    obtain ⟨k, m, hk, rfl, rfl, ht⟩ := hrel
    by_cases hlt : k < n
    · obtain ⟨b1, o1, x, rfl, hx, hc1⟩ := H1.out.getm L1.out hlt
      obtain ⟨b2, o2, y, rfl, hy, hc2⟩ := H2.out.getm L2.out hlt
      have HX := Lib.hid hx; have HY := Lib.hid hy; clear hx hy
      by_cases hxy : x = y
      · subst hxy
        have hb : (x != x) = false := by simp
        go_wp2
        go_quiet (fail)
        go_wp2
        go_roundw
        case rel => exact ⟨k + 1, _, by omega, by go_num, by first | rfl | exact World.drewN_drewN _ _ _, take_eq_succ HX.out HY.out ht.out⟩
        case measure => simp [intOf]; omega
      · have hb : (x != y) = true := by simpa using hxy
        have hb2 : (x == y) = false := by simpa using hxy
        have HXY := Lib.hid hxy; clear hxy
        go_wp2
        go_quiet (fail)
        go_wp2
        go_ret
        refine ⟨ret_bool ?_, _, by first | rfl | exact (World.drewN_drewN _ _ _).symm⟩
        rw [eq_comm, decide_eq_false_iff_not]
        rintro rfl
        exact HXY.out (Option.some.inj (HX.out.symm.trans HY.out))
    · go_wp2
      go_ret
      refine ⟨ret_bool ?_, m, rfl⟩
      rw [eq_comm, decide_eq_true_iff]
      have h := ht.out
      rwa [List.take_of_length_le (by rw [L1.out]; omega), List.take_of_length_le (by rw [L2.out]; omega)] at h

theorem equal_lit (A1 A2 : Option Addr) (l1 l2 : List Int) (n1 n2 c1 c2 : Nat) (w : World) (H1 : Hid (Rd w A1 (l1.map (Value.int .i64)))) (H2 : Hid (Rd w A2 (l2.map (Value.int .i64)))) (L1 : Hid (l1.length = n1)) (L2 : Hid (l2.length = n2)) (hn : n1 ≤ 1000000000) :
    Calls Tryz.prog 57 #[.slice A1 n1 c1, .slice A2 n2 c2] w fun e w' => e = .returned (.bool (decide (l1 = l2))) ∧ ∃ m, w.drewN m = w' := by
  by_cases h : n1 = n2
  · subst h
    exact equal_lit_eq A1 A2 l1 l2 n1 c1 c2 w H1 H2 L1 L2 hn
  · refine (equal_lit_ne A1 A2 n1 n2 c1 c2 w h).mono fun e w' hh => ⟨hh.1.trans (ret_bool ?_), 0, hh.2⟩
    rw [eq_comm, decide_eq_false_iff_not]
    rintro rfl
    exact h (L1.out.symm.trans L2.out)


theorem equal_int_ne (A1 A2 : Option Addr) (n1 n2 c1 c2 : Nat) (w : World) (hn : n1 ≠ n2) :
    Calls Tryz.prog 78 #[.slice A1 n1 c1, .slice A2 n2 c2] w fun e w' => e = .returned (.bool false) ∧ w = w' := by
  have hd : ((n1 : Int) != (n2 : Int)) = true := by rw [bne_iff_ne]; omega
  go_enter Tryz.func78, Tryz.ntmps78
  go_wp2
  go_ret
  exact ⟨rfl, rfl⟩

set_option maxHeartbeats 400000 in
set_option maxRecDepth 100000 in
theorem equal_int_eq (A1 A2 : Option Addr) (l1 l2 : List Int) (n c1 c2 : Nat) (w : World) (H1 : Hid (Rd w A1 (l1.map (Value.int .i64)))) (H2 : Hid (Rd w A2 (l2.map (Value.int .i64)))) (L1 : Hid (l1.length = n)) (L2 : Hid (l2.length = n)) (hn : n ≤ 1000000000) :
    Calls Tryz.prog 78 #[.slice A1 n c1, .slice A2 n c2] w fun e w' => e = .returned (.bool (decide (l1 = l2))) ∧ ∃ m, w.drewN m = w' := by
  have hd : ((n : Int) != (n : Int)) = false := by simp
  go_enter Tryz.func78, Tryz.ntmps78
  go_wp2
  go_loopw [13] (fun i wr => ∃ k m : Nat, k ≤ n ∧ i = .int .i64 k ∧ wr = w.drewN m ∧ Hid (l1.take k = l2.take k)) (fun i _ => n - (intOf i).toNat)
  case atStart => exact ⟨0, 0, Nat.zero_le _, rfl, rfl, rfl⟩
  case round =>
    obtain ⟨k, m, hk, rfl, rfl, ht⟩ := hrel
    by_cases hlt : k < n
    · obtain ⟨b1, o1, x, rfl, hx, hc1⟩ := H1.out.getm L1.out hlt
      obtain ⟨b2, o2, y, rfl, hy, hc2⟩ := H2.out.getm L2.out hlt
      have HX := Lib.hid hx; have HY := Lib.hid hy; clear hx hy
      by_cases hxy : x = y
      · subst hxy
        have hb : (x != x) = false := by simp
        go_wp2
        go_quiet (fail)
        go_wp2
        go_roundw
        case rel => exact ⟨k + 1, _, by omega, by go_num, by first | rfl | exact World.drewN_drewN _ _ _, take_eq_succ HX.out HY.out ht.out⟩
        case measure => simp [intOf]; omega
      · have hb : (x != y) = true := by simpa using hxy
        have hb2 : (x == y) = false := by simpa using hxy
        have HXY := Lib.hid hxy; clear hxy
        go_wp2
        go_quiet (fail)
        go_wp2
        go_ret
        refine ⟨ret_bool ?_, _, by first | rfl | exact (World.drewN_drewN _ _ _).symm⟩
        rw [eq_comm, decide_eq_false_iff_not]
        rintro rfl
        exact HXY.out (Option.some.inj (HX.out.symm.trans HY.out))
    · go_wp2
      go_ret
      refine ⟨ret_bool ?_, m, rfl⟩
      rw [eq_comm, decide_eq_true_iff]
      have h := ht.out
      rwa [List.take_of_length_le (by rw [L1.out]; omega), List.take_of_length_le (by rw [L2.out]; omega)] at h

theorem equal_int (A1 A2 : Option Addr) (l1 l2 : List Int) (n1 n2 c1 c2 : Nat) (w : World) (H1 : Hid (Rd w A1 (l1.map (Value.int .i64)))) (H2 : Hid (Rd w A2 (l2.map (Value.int .i64)))) (L1 : Hid (l1.length = n1)) (L2 : Hid (l2.length = n2)) (hn : n1 ≤ 1000000000) :
    Calls Tryz.prog 78 #[.slice A1 n1 c1, .slice A2 n2 c2] w fun e w' => e = .returned (.bool (decide (l1 = l2))) ∧ ∃ m, w.drewN m = w' := by
  by_cases h : n1 = n2
  · subst h
    exact equal_int_eq A1 A2 l1 l2 n1 c1 c2 w H1 H2 L1 L2 hn
  · refine (equal_int_ne A1 A2 n1 n2 c1 c2 w h).mono fun e w' hh => ⟨hh.1.trans (ret_bool ?_), 0, hh.2⟩
    rw [eq_comm, decide_eq_false_iff_not]
    rintro rfl
    exact h (L1.out.symm.trans L2.out)


set_option maxHeartbeats 400000 in
set_option maxRecDepth 100000 in
theorem indexf_lit (A : Option Addr) (n c : Nat) (l : List Int) (g : Nat) (lb : Array Value) (p : Int → Bool) (w : World) (hr : Hid (Rd w A (l.map (Value.int .i64)))) (hl : Hid (l.length = n)) (hn : n ≤ 1000000000)
    (hent' : Ent Tryz.prog g) (hp : Hid (PredOn Tryz.prog g lb (Value.int .i64) p w l)) :
    Calls Tryz.prog 93 #[.slice A n c, .func (.func g) #[] lb] w fun e w' => ∃ k : Int, e = .returned (.int .i64 k) ∧ Hid ((0 ≤ k) = (l.any p = true)) ∧ -1 ≤ k ∧ k ≤ 1000000000 ∧ Below w.heap.size w w' := by
  have hent : ∀ (args : Array Value) (W : World), (callFunc g args).run Tryz.prog W = .ok (.enter g args) W := hent'
  clear hent'
  go_enter Tryz.func93, Tryz.ntmps93
  go_wp2
  go_loopw [8] (fun i wr => ∃ k : Nat, k ≤ n ∧ i = .int .i64 k ∧ Below w.heap.size w wr ∧ Hid ((l.take k).any p = false)) (fun i _ => n - (intOf i).toNat)
  case atStart => exact ⟨0, Nat.zero_le _, rfl, Below.refl _ _, rfl⟩
  case round =>
    obtain ⟨k, hk, rfl, hb, ht⟩ := hrel
    have HB := Lib.hid hb
    by_cases hlt : k < n
    · obtain ⟨b1, o1, x, rfl, hx, hc1⟩ := (hr.out.below hb).getm hl.out hlt
      have HX := Lib.hid hx
      have hcall := Lib.hid (hp.out x (List.mem_of_getElem? hx) wr hb)
      clear hx hb
      by_cases hpx : p x = true
      · rw [hpx] at hcall
        go_wp2_with fail
        refine hcall.out.mono ?_
        rintro e W' ⟨rfl, hb'⟩
        have HB' := Lib.hid hb'
        clear hb' hcall
        go_wp2
        go_ret
        refine ⟨k, rfl, ?_, by omega, by omega, bthen HB.out HB'.out⟩
        have h1 : l.any p = true := by rw [List.any_eq_true]; exact ⟨x, List.mem_of_getElem? HX.out, hpx⟩
        show (0 ≤ (k : Int)) = (l.any p = true)
        simp [h1]
      · have hpf : p x = false := by simpa using hpx
        clear hpx
        rw [hpf] at hcall
        go_wp2_with fail
        refine hcall.out.mono ?_
        rintro e W' ⟨rfl, hb'⟩
        have HB' := Lib.hid hb'
        clear hb' hcall
        go_wp2
        go_roundw
        case rel => exact ⟨k + 1, by omega, by go_num, bthen HB.out HB'.out, by show (l.take (k + 1)).any p = false; rw [take_snoc HX.out, List.any_append, ht.out]; simp [hpf]⟩
        case measure => simp [intOf]; omega
    · clear hb
      go_wp2
      go_ret
      refine ⟨-1, rfl, ?_, by omega, by omega, HB.out⟩
      have h1 : l.any p = false := by
        have h := ht.out
        rwa [List.take_of_length_le (by rw [hl.out]; omega)] at h
      show (0 ≤ (-1 : Int)) = (l.any p = true)
      simp [h1]

theorem containsf_lit (A : Option Addr) (n c : Nat) (l : List Int) (g : Nat) (lb : Array Value) (p : Int → Bool) (w : World) (hr : Hid (Rd w A (l.map (Value.int .i64)))) (hl : Hid (l.length = n)) (hn : n ≤ 1000000000)
    (hent : Ent Tryz.prog g) (hp : Hid (PredOn Tryz.prog g lb (Value.int .i64) p w l)) :
    Calls Tryz.prog 60 #[.slice A n c, .func (.func g) #[] lb] w fun e w' => e = .returned (.bool (l.any p)) ∧ Below w.heap.size w w' := by
  go_enter Tryz.func60, Tryz.ntmps60
  go_wp2_with fail
  refine (indexf_lit A n c l g lb p w hr hl hn hent hp).mono ?_
  rintro e w' ⟨k, rfl, hk, h1, h2, hb⟩
  have HB := Lib.hid hb
  clear hb
  go_wp2
  go_ret
  refine ⟨ret_bool ?_, HB.out⟩
  rw [Bool.eq_iff_iff, decide_eq_true_iff, hk.out]

end Go.Proofs.YtkpcpclaadgnbaaGreatDoor
