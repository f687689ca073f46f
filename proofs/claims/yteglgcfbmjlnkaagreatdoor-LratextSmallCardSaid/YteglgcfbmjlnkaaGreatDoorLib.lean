/-
  Contracts of instances of generic functions of Go's package slices (written by gen/lib7.py).
-/
import Derived.Test.YteglgcfbmjlnkaaGreatDoorRows
import Derived.Test.YteglgcfbmjlnkaaGreatDoorApp
import Derived.Deep.QuietTactic
import Derived.BigQuiet
namespace Go.Proofs.YteglgcfbmjlnkaaGreatDoor
open Go.RowKit


theorem el_lit : El Tryz.prog 31 34 1 := El.mk' (z := .int .i64 0) (bytes := 8) Tryz.underlying31 (by kernel_rfl) rfl (by omega) (by omega)


theorem el_int : El Tryz.prog 28 3 1 := El.mk' (z := .int .i64 0) (bytes := 8) Tryz.underlying28 (by kernel_rfl) rfl (by omega) (by omega)


set_option maxHeartbeats 400000 in
set_option maxRecDepth 100000 in
theorem clone_lit (A : Option Addr) (n c : Nat) (xs : List Value) (w : World) (hr : Hid (Rd w A xs)) (hl : Hid (xs.length = n)) (h1 : Hid (∀ u ∈ xs, u.oneCell' = true)) (hn : n ≤ 1000000000) :
    Calls Tryz.prog 45 #[.slice A n c] w fun e w' => ∃ A' c', e = .returned (.slice A' n c') ∧ w'.ownsRow w.heap.size 34 1 (.slice A' n c') n xs ∧ Below w.heap.size w w' := by
  have hen := fun w a n c => Lib.run_eql_slice_nil (P := Tryz.prog) w 31 34 a n c 0 0 Tryz.underlying31
  rcases A with _ | ad
  · have hx : xs = [] := by
      cases xs with
      | nil => rfl
      | cons x r => obtain ⟨_, _, h, _⟩ := hr.out.cells (by simp); cases h
    subst hx
    have h0 : n = 0 := by have := hl.out; simpa using this.symm
    subst h0
    clear hl hr
    go_enter Tryz.func45, Tryz.ntmps45
    go_wp2
    go_ret
    exact ⟨none, 0, rfl, World.ownsRow_nil _ _ _ _, Below.refl _ _⟩
  · go_enter Tryz.func45, Tryz.ntmps45
    go_wp2_with (at_builtin; refine wpList_app el_lit rfl (.tmp 5) (.tmp 6) rfl w.heap.size (.slice (some ⟨w.heap.size, 0, none⟩) 0 0) 0 [] rfl (World.ownsRow_lit w #[] 0 (Nat.le_refl _) (by simp [maxLen]) rfl) (some ad) n c xs rfl (hr.out.alloc _) (by rw [hl.out]; omega) h1.out (by omega) (by simp) ?_; intro A' c' w1 hown1 hgr1 hat1; have Ho := Lib.hid hown1; have Hg := Lib.hid hgr1; clear hown1 hgr1 hat1)
    go_ret
    refine ⟨A', c', by simp, by simpa using Ho.out, ?_⟩
    exact ((Below.refl _ w).alloc (Nat.le_refl _) _).grown Hg.out (by simp) (by simp [Value.ownBlock])


set_option maxHeartbeats 400000 in
set_option maxRecDepth 100000 in
theorem clone_int (A : Option Addr) (n c : Nat) (xs : List Value) (w : World) (hr : Hid (Rd w A xs)) (hl : Hid (xs.length = n)) (h1 : Hid (∀ u ∈ xs, u.oneCell' = true)) (hn : n ≤ 1000000000) :
    Calls Tryz.prog 43 #[.slice A n c] w fun e w' => ∃ A' c', e = .returned (.slice A' n c') ∧ w'.ownsRow w.heap.size 3 1 (.slice A' n c') n xs ∧ Below w.heap.size w w' := by
  have hen := fun w a n c => Lib.run_eql_slice_nil (P := Tryz.prog) w 28 3 a n c 0 0 Tryz.underlying28
  rcases A with _ | ad
  · have hx : xs = [] := by
      cases xs with
      | nil => rfl
      | cons x r => obtain ⟨_, _, h, _⟩ := hr.out.cells (by simp); cases h
    subst hx
    have h0 : n = 0 := by have := hl.out; simpa using this.symm
    subst h0
    clear hl hr
    go_enter Tryz.func43, Tryz.ntmps43
    go_wp2
    go_ret
    exact ⟨none, 0, rfl, World.ownsRow_nil _ _ _ _, Below.refl _ _⟩
  · go_enter Tryz.func43, Tryz.ntmps43
    go_wp2_with (at_builtin; refine wpList_app el_int rfl (.tmp 5) (.tmp 6) rfl w.heap.size (.slice (some ⟨w.heap.size, 0, none⟩) 0 0) 0 [] rfl (World.ownsRow_lit w #[] 0 (Nat.le_refl _) (by simp [maxLen]) rfl) (some ad) n c xs rfl (hr.out.alloc _) (by rw [hl.out]; omega) h1.out (by omega) (by simp) ?_; intro A' c' w1 hown1 hgr1 hat1; have Ho := Lib.hid hown1; have Hg := Lib.hid hgr1; clear hown1 hgr1 hat1)
    go_ret
    refine ⟨A', c', by simp, by simpa using Ho.out, ?_⟩
    exact ((Below.refl _ w).alloc (Nat.le_refl _) _).grown Hg.out (by simp) (by simp [Value.ownBlock])


theorem equal_lit_ne (A1 A2 : Option Addr) (n1 n2 c1 c2 : Nat) (w : World) (hn : n1 ≠ n2) :
    Calls Tryz.prog 51 #[.slice A1 n1 c1, .slice A2 n2 c2] w fun e w' => e = .returned (.bool false) ∧ w = w' := by
  have hd : ((n1 : Int) != (n2 : Int)) = true := by rw [bne_iff_ne]; omega
  go_enter Tryz.func51, Tryz.ntmps51
  go_wp2
  go_ret
  exact ⟨rfl, rfl⟩

set_option maxHeartbeats 400000 in
set_option maxRecDepth 100000 in
theorem equal_lit_eq (A1 A2 : Option Addr) (l1 l2 : List Int) (n c1 c2 : Nat) (w : World) (H1 : Hid (Rd w A1 (l1.map (Value.int .i64)))) (H2 : Hid (Rd w A2 (l2.map (Value.int .i64)))) (L1 : Hid (l1.length = n)) (L2 : Hid (l2.length = n)) (hn : n ≤ 1000000000) :
    Calls Tryz.prog 51 #[.slice A1 n c1, .slice A2 n c2] w fun e w' => e = .returned (.bool (decide (l1 = l2))) ∧ ∃ m, w.drewN m = w' := by
  have hd : ((n : Int) != (n : Int)) = false := by simp
  go_enter Tryz.func51, Tryz.ntmps51
  go_wp2
  go_loopw [13] (fun i wr => ∃ k m : Nat, k ≤ n ∧ i = .int .i64 k ∧ wr = w.drewN m ∧ Hid (l1.take k = l2.take k)) (fun i _ => n - (intOf i).toNat)
  case atStart => exact ⟨0, 0, Nat.zero_le _, rfl, rfl, rfl⟩
  case round =>
    obtain ⟨k, m, hk, rfl, rfl, ht⟩ := hrel
    by_cases hlt : k < n
    · obtain ⟨b1, o1, x, rfl, hx, hc1⟩ := H1.out.getm L1.out hlt
      obtain ⟨b2, o2, y, rfl, hy, hc2⟩ := H2.out.getm L2.out hlt
      have HX := Lib.hid hx; have HY := Lib.hid hy; clear hx hy
      by_cases hxy : x = y
      · subst hxy
        have hb : (x != x) = false := by simp
        go_wp2
        go_quiet (fail)
        go_wp2
        go_roundw
        case rel => exact ⟨k + 1, _, by omega, by go_num, by first | rfl | exact World.drewN_drewN _ _ _, take_eq_succ HX.out HY.out ht.out⟩
        case measure => simp [intOf]; omega
      · have hb : (x != y) = true := by simpa using hxy
        have hb2 : (x == y) = false := by simpa using hxy
        have HXY := Lib.hid hxy; clear hxy
        go_wp2
        go_quiet (fail)
        go_wp2
        go_ret
        refine ⟨ret_bool ?_, _, by first | rfl | exact (World.drewN_drewN _ _ _).symm⟩
        rw [eq_comm, decide_eq_false_iff_not]
        rintro rfl
        exact HXY.out (Option.some.inj (HX.out.symm.trans HY.out))
    · go_wp2
      go_ret
      refine ⟨ret_bool ?_, m, rfl⟩
      rw [eq_comm, decide_eq_true_iff]
      have h := ht.out
      rwa [List.take_of_length_le (by rw [L1.out]; omega), List.take_of_length_le (by rw [L2.out]; omega)] at h

theorem equal_lit (A1 A2 : Option Addr) (l1 l2 : List Int) (n1 n2 c1 c2 : Nat) (w : World) (H1 : Hid (Rd w A1 (l1.map (Value.int .i64)))) (H2 : Hid (Rd w A2 (l2.map (Value.int .i64)))) (L1 : Hid (l1.length = n1)) (L2 : Hid (l2.length = n2)) (hn : n1 ≤ 1000000000) :
    Calls Tryz.prog 51 #[.slice A1 n1 c1, .slice A2 n2 c2] w fun e w' => e = .returned (.bool (decide (l1 = l2))) ∧ ∃ m, w.drewN m = w' := by
  by_cases h : n1 = n2
  · subst h
    exact equal_lit_eq A1 A2 l1 l2 n1 c1 c2 w H1 H2 L1 L2 hn
  · refine (equal_lit_ne A1 A2 n1 n2 c1 c2 w h).mono fun e w' hh => ⟨hh.1.trans (ret_bool ?_), 0, hh.2⟩
    rw [eq_comm, decide_eq_false_iff_not]
    rintro rfl
    exact h (L1.out.symm.trans L2.out)


theorem equal_int_ne (A1 A2 : Option Addr) (n1 n2 c1 c2 : Nat) (w : World) (hn : n1 ≠ n2) :
    Calls Tryz.prog 48 #[.slice A1 n1 c1, .slice A2 n2 c2] w fun e w' => e = .returned (.bool false) ∧ w = w' := by
  have hd : ((n1 : Int) != (n2 : Int)) = true := by rw [bne_iff_ne]; omega
  go_enter Tryz.func48, Tryz.ntmps48
  go_wp2
  go_ret
  exact ⟨rfl, rfl⟩

set_option maxHeartbeats 400000 in
set_option maxRecDepth 100000 in
theorem equal_int_eq (A1 A2 : Option Addr) (l1 l2 : List Int) (n c1 c2 : Nat) (w : World) (H1 : Hid (Rd w A1 (l1.map (Value.int .i64)))) (H2 : Hid (Rd w A2 (l2.map (Value.int .i64)))) (L1 : Hid (l1.length = n)) (L2 : Hid (l2.length = n)) (hn : n ≤ 1000000000) :
    Calls Tryz.prog 48 #[.slice A1 n c1, .slice A2 n c2] w fun e w' => e = .returned (.bool (decide (l1 = l2))) ∧ ∃ m, w.drewN m = w' := by
  have hd : ((n : Int) != (n : Int)) = false := by simp
  go_enter Tryz.func48, Tryz.ntmps48
  go_wp2
  go_loopw [13] (fun i wr => ∃ k m : Nat, k ≤ n ∧ i = .int .i64 k ∧ wr = w.drewN m ∧ Hid (l1.take k = l2.take k)) (fun i _ => n - (intOf i).toNat)
  case atStart => exact ⟨0, 0, Nat.zero_le _, rfl, rfl, rfl⟩
  case round =>
    obtain ⟨k, m, hk, rfl, rfl, ht⟩ := hrel
    by_cases hlt : k < n
    · obtain ⟨b1, o1, x, rfl, hx, hc1⟩ := H1.out.getm L1.out hlt
      obtain ⟨b2, o2, y, rfl, hy, hc2⟩ := H2.out.getm L2.out hlt
      have HX := Lib.hid hx; have HY := Lib.hid hy; clear hx hy
      by_cases hxy : x = y
      · subst hxy
        have hb : (x != x) = false := by simp
        go_wp2
        go_quiet (fail)
        go_wp2
        go_roundw
        case rel => exact ⟨k + 1, _, by omega, by go_num, by first | rfl | exact World.drewN_drewN _ _ _, take_eq_succ HX.out HY.out ht.out⟩
        case measure => simp [intOf]; omega
      · have hb : (x != y) = true := by simpa using hxy
        have hb2 : (x == y) = false := by simpa using hxy
        have HXY := Lib.hid hxy; clear hxy
        go_wp2
        go_quiet (fail)
        go_wp2
        go_ret
        refine ⟨ret_bool ?_, _, by first | rfl | exact (World.drewN_drewN _ _ _).symm⟩
        rw [eq_comm, decide_eq_false_iff_not]
        rintro rfl
        exact HXY.out (Option.some.inj (HX.out.symm.trans HY.out))
    · go_wp2
      go_ret
      refine ⟨ret_bool ?_, m, rfl⟩
      rw [eq_comm, decide_eq_true_iff]
      have h := ht.out
      rwa [List.take_of_length_le (by rw [L1.out]; omega), List.take_of_length_le (by rw [L2.out]; omega)] at h

theorem equal_int (A1 A2 : Option Addr) (l1 l2 : List Int) (n1 n2 c1 c2 : Nat) (w : World) (H1 : Hid (Rd w A1 (l1.map (Value.int .i64)))) (H2 : Hid (Rd w A2 (l2.map (Value.int .i64)))) (L1 : Hid (l1.length = n1)) (L2 : Hid (l2.length = n2)) (hn : n1 ≤ 1000000000) :
    Calls Tryz.prog 48 #[.slice A1 n1 c1, .slice A2 n2 c2] w fun e w' => e = .returned (.bool (decide (l1 = l2))) ∧ ∃ m, w.drewN m = w' := by
  by_cases h : n1 = n2
  · subst h
    exact equal_int_eq A1 A2 l1 l2 n1 c1 c2 w H1 H2 L1 L2 hn
  · refine (equal_int_ne A1 A2 n1 n2 c1 c2 w h).mono fun e w' hh => ⟨hh.1.trans (ret_bool ?_), 0, hh.2⟩
    rw [eq_comm, decide_eq_false_iff_not]
    rintro rfl
    exact h (L1.out.symm.trans L2.out)


set_option maxHeartbeats 400000 in
set_option maxRecDepth 100000 in
theorem indexf_lit (A : Option Addr) (n c : Nat) (l : List Int) (g : Nat) (lb : Array Value) (p : Int → Bool) (w : World) (hr : Hid (Rd w A (l.map (Value.int .i64)))) (hl : Hid (l.length = n)) (hn : n ≤ 1000000000)
    (hent' : Ent Tryz.prog g) (hp : Hid (PredOn Tryz.prog g lb (Value.int .i64) p w l)) :
    Calls Tryz.prog 79 #[.slice A n c, .func (.func g) #[] lb] w fun e w' => ∃ k : Int, e = .returned (.int .i64 k) ∧ Hid ((0 ≤ k) = (l.any p = true)) ∧ -1 ≤ k ∧ k ≤ 1000000000 ∧ Below w.heap.size w w' := by
  have hent : ∀ (args : Array Value) (W : World), (callFunc g args).run Tryz.prog W = .ok (.enter g args) W := hent'
  clear hent'
  go_enter Tryz.func79, Tryz.ntmps79
  go_wp2
  go_loopw [8] (fun i wr => ∃ k : Nat, k ≤ n ∧ i = .int .i64 k ∧ Below w.heap.size w wr ∧ Hid ((l.take k).any p = false)) (fun i _ => n - (intOf i).toNat)
  case atStart => exact ⟨0, Nat.zero_le _, rfl, Below.refl _ _, rfl⟩
  case round =>
    obtain ⟨k, hk, rfl, hb, ht⟩ := hrel
    have HB := Lib.hid hb
    by_cases hlt : k < n
    · obtain ⟨b1, o1, x, rfl, hx, hc1⟩ := (hr.out.below hb).getm hl.out hlt
      have HX := Lib.hid hx
      have hcall := Lib.hid (hp.out x (List.mem_of_getElem? hx) wr hb)
      clear hx hb
      by_cases hpx : p x = true
      · rw [hpx] at hcall
        go_wp2_with fail
        refine hcall.out.mono ?_
        rintro e W' ⟨rfl, hb'⟩
        have HB' := Lib.hid hb'
        clear hb' hcall
        go_wp2
        go_ret
        refine ⟨k, rfl, ?_, by omega, by omega, bthen HB.out HB'.out⟩
        have h1 : l.any p = true := by rw [List.any_eq_true]; exact ⟨x, List.mem_of_getElem? HX.out, hpx⟩
        show (0 ≤ (k : Int)) = (l.any p = true)
        simp [h1]
      · have hpf : p x = false := by simpa using hpx
        clear hpx
        rw [hpf] at hcall
        go_wp2_with fail
        refine hcall.out.mono ?_
        rintro e W' ⟨rfl, hb'⟩
        have HB' := Lib.hid hb'
        clear hb' hcall
        go_wp2
        go_roundw
        case rel => exact ⟨k + 1, by omega, by go_num, bthen HB.out HB'.out, by show (l.take (k + 1)).any p = false; rw [take_snoc HX.out, List.any_append, ht.out]; simp [hpf]⟩
        case measure => simp [intOf]; omega
    · clear hb
      go_wp2
      go_ret
      refine ⟨-1, rfl, ?_, by omega, by omega, HB.out⟩
      have h1 : l.any p = false := by
        have h := ht.out
        rwa [List.take_of_length_le (by rw [hl.out]; omega)] at h
      show (0 ≤ (-1 : Int)) = (l.any p = true)
      simp [h1]

theorem containsf_lit (A : Option Addr) (n c : Nat) (l : List Int) (g : Nat) (lb : Array Value) (p : Int → Bool) (w : World) (hr : Hid (Rd w A (l.map (Value.int .i64)))) (hl : Hid (l.length = n)) (hn : n ≤ 1000000000)
    (hent : Ent Tryz.prog g) (hp : Hid (PredOn Tryz.prog g lb (Value.int .i64) p w l)) :
    Calls Tryz.prog 66 #[.slice A n c, .func (.func g) #[] lb] w fun e w' => e = .returned (.bool (l.any p)) ∧ Below w.heap.size w w' := by
  go_enter Tryz.func66, Tryz.ntmps66
  go_wp2_with fail
  refine (indexf_lit A n c l g lb p w hr hl hn hent hp).mono ?_
  rintro e w' ⟨k, rfl, hk, h1, h2, hb⟩
  have HB := Lib.hid hb
  clear hb
  go_wp2
  go_ret
  refine ⟨ret_bool ?_, HB.out⟩
  rw [Bool.eq_iff_iff, decide_eq_true_iff, hk.out]


set_option maxHeartbeats 400000 in
set_option maxRecDepth 100000 in
theorem indexf_int (A : Option Addr) (n c : Nat) (l : List Int) (g : Nat) (lb : Array Value) (p : Int → Bool) (w : World) (hr : Hid (Rd w A (l.map (Value.int .i64)))) (hl : Hid (l.length = n)) (hn : n ≤ 1000000000)
    (hent' : Ent Tryz.prog g) (hp : Hid (PredOn Tryz.prog g lb (Value.int .i64) p w l)) :
    Calls Tryz.prog 68 #[.slice A n c, .func (.func g) #[] lb] w fun e w' => ∃ k : Int, e = .returned (.int .i64 k) ∧ Hid ((0 ≤ k) = (l.any p = true)) ∧ -1 ≤ k ∧ k ≤ 1000000000 ∧ Below w.heap.size w w' := by
  have hent : ∀ (args : Array Value) (W : World), (callFunc g args).run Tryz.prog W = .ok (.enter g args) W := hent'
  clear hent'
  go_enter Tryz.func68, Tryz.ntmps68
  go_wp2
  go_loopw [8] (fun i wr => ∃ k : Nat, k ≤ n ∧ i = .int .i64 k ∧ Below w.heap.size w wr ∧ Hid ((l.take k).any p = false)) (fun i _ => n - (intOf i).toNat)
  case atStart => exact ⟨0, Nat.zero_le _, rfl, Below.refl _ _, rfl⟩
  case round =>
    obtain ⟨k, hk, rfl, hb, ht⟩ := hrel
    have HB := Lib.hid hb
    by_cases hlt : k < n
    · obtain ⟨b1, o1, x, rfl, hx, hc1⟩ := (hr.out.below hb).getm hl.out hlt
      have HX := Lib.hid hx
      have hcall := Lib.hid (hp.out x (List.mem_of_getElem? hx) wr hb)
      clear hx hb
      by_cases hpx : p x = true
      · rw [hpx] at hcall
        go_wp2_with fail
        refine hcall.out.mono ?_
        rintro e W' ⟨rfl, hb'⟩
        have HB' := Lib.hid hb'
        clear hb' hcall
        go_wp2
        go_ret
        refine ⟨k, rfl, ?_, by omega, by omega, bthen HB.out HB'.out⟩
        have h1 : l.any p = true := by rw [List.any_eq_true]; exact ⟨x, List.mem_of_getElem? HX.out, hpx⟩
        show (0 ≤ (k : Int)) = (l.any p = true)
        simp [h1]
      · have hpf : p x = false := by simpa using hpx
        clear hpx
        rw [hpf] at hcall
        go_wp2_with fail
        refine hcall.out.mono ?_
        rintro e W' ⟨rfl, hb'⟩
        have HB' := Lib.hid hb'
        clear hb' hcall
        go_wp2
        go_roundw
        case rel => exact ⟨k + 1, by omega, by go_num, bthen HB.out HB'.out, by show (l.take (k + 1)).any p = false; rw [take_snoc HX.out, List.any_append, ht.out]; simp [hpf]⟩
        case measure => simp [intOf]; omega
    · clear hb
      go_wp2
      go_ret
      refine ⟨-1, rfl, ?_, by omega, by omega, HB.out⟩
      have h1 : l.any p = false := by
        have h := ht.out
        rwa [List.take_of_length_le (by rw [hl.out]; omega)] at h
      show (0 ≤ (-1 : Int)) = (l.any p = true)
      simp [h1]

theorem containsf_int (A : Option Addr) (n c : Nat) (l : List Int) (g : Nat) (lb : Array Value) (p : Int → Bool) (w : World) (hr : Hid (Rd w A (l.map (Value.int .i64)))) (hl : Hid (l.length = n)) (hn : n ≤ 1000000000)
    (hent : Ent Tryz.prog g) (hp : Hid (PredOn Tryz.prog g lb (Value.int .i64) p w l)) :
    Calls Tryz.prog 40 #[.slice A n c, .func (.func g) #[] lb] w fun e w' => e = .returned (.bool (l.any p)) ∧ Below w.heap.size w w' := by
  go_enter Tryz.func40, Tryz.ntmps40
  go_wp2_with fail
  refine (indexf_int A n c l g lb p w hr hl hn hent hp).mono ?_
  rintro e w' ⟨k, rfl, hk, h1, h2, hb⟩
  have HB := Lib.hid hb
  clear hb
  go_wp2
  go_ret
  refine ⟨ret_bool ?_, HB.out⟩
  rw [Bool.eq_iff_iff, decide_eq_true_iff, hk.out]

end Go.Proofs.YteglgcfbmjlnkaaGreatDoor
