/-
  More instances of generic functions of Go's package slices (written by gen/lib2.py). Contracts of package lits, of a binary search, and of tseitin's maps. Contracts of tseitin.Right and tseitin.Inputs.
-/
import Derived.Test.YtamoniljgifggaaSmall
import Derived.Deep.QuietTactic
import Derived.BigQuiet
import Derived.Test.YtamoniljgifggaaDecR
set_option linter.unusedVariables false
set_option linter.unusedSimpArgs false
namespace Go.Proofs.Ytamoniljgifggaa
open Go.RowKit


theorem el_word2 : El Try.prog 32 39 1 := El.mk' (z := .int .u32 0) (bytes := 4) Try.underlying32 (by kernel_rfl) rfl (by omega) (by omega)


set_option maxHeartbeats 400000 in
set_option maxRecDepth 100000 in
theorem clone_word (A : Option Addr) (n c : Nat) (xs : List Value) (w : World) (hr : Hid (Rd w A xs)) (hl : Hid (xs.length = n)) (h1 : Hid (∀ u ∈ xs, u.oneCell' = true)) (hn : n ≤ 1000000000) :
    Calls Try.prog 31 #[.slice A n c] w fun e w' => ∃ A' c', e = .returned (.slice A' n c') ∧ w'.ownsRow w.heap.size 39 1 (.slice A' n c') n xs ∧ Below w.heap.size w w' := by
  have hen := fun w a n c => Lib.run_eql_slice_nil (P := Try.prog) w 32 39 a n c 0 0 Try.underlying32
  rcases A with _ | ad
  · have hx : xs = [] := by
      cases xs with
      | nil => rfl
      | cons x r => obtain ⟨_, _, h, _⟩ := hr.out.cells (by simp); cases h
    subst hx
    have h0 : n = 0 := by have := hl.out; simpa using this.symm
    subst h0
    clear hl hr
    go_enter Try.func31, Try.ntmps31
    go_wp2
    go_ret
    exact ⟨none, 0, rfl, World.ownsRow_nil _ _ _ _, Below.refl _ _⟩
  · go_enter Try.func31, Try.ntmps31
    go_wp2_with (at_builtin; refine wpList_app el_word2 rfl (.tmp 5) (.tmp 6) rfl w.heap.size (.slice (some ⟨w.heap.size, 0, none⟩) 0 0) 0 [] rfl (World.ownsRow_lit w #[] 0 (Nat.le_refl _) (by simp [maxLen]) rfl) (some ad) n c xs rfl (hr.out.alloc _) (by rw [hl.out]; omega) h1.out (by omega) (by simp) ?_; intro A' c' w1 hown1 hgr1 hat1; have Ho := Lib.hid hown1; have Hg := Lib.hid hgr1; clear hown1 hgr1 hat1)
    go_ret
    refine ⟨A', c', by simp, by simpa using Ho.out, ?_⟩
    exact ((Below.refl _ w).alloc (Nat.le_refl _) _).grown Hg.out (by simp) (by simp [Value.ownBlock])


set_option maxHeartbeats 400000 in
set_option maxRecDepth 100000 in
theorem clone_int (A : Option Addr) (n c : Nat) (xs : List Value) (w : World) (hr : Hid (Rd w A xs)) (hl : Hid (xs.length = n)) (h1 : Hid (∀ u ∈ xs, u.oneCell' = true)) (hn : n ≤ 1000000000) :
    Calls Try.prog 32 #[.slice A n c] w fun e w' => ∃ A' c', e = .returned (.slice A' n c') ∧ w'.ownsRow w.heap.size 3 1 (.slice A' n c') n xs ∧ Below w.heap.size w w' := by
  have hen := fun w a n c => Lib.run_eql_slice_nil (P := Try.prog) w 25 3 a n c 0 0 Try.underlying25
  rcases A with _ | ad
  · have hx : xs = [] := by
      cases xs with
      | nil => rfl
      | cons x r => obtain ⟨_, _, h, _⟩ := hr.out.cells (by simp); cases h
    subst hx
    have h0 : n = 0 := by have := hl.out; simpa using this.symm
    subst h0
    clear hl hr
    go_enter Try.func32, Try.ntmps32
    go_wp2
    go_ret
    exact ⟨none, 0, rfl, World.ownsRow_nil _ _ _ _, Below.refl _ _⟩
  · go_enter Try.func32, Try.ntmps32
    go_wp2_with (at_builtin; refine wpList_app el_int rfl (.tmp 5) (.tmp 6) rfl w.heap.size (.slice (some ⟨w.heap.size, 0, none⟩) 0 0) 0 [] rfl (World.ownsRow_lit w #[] 0 (Nat.le_refl _) (by simp [maxLen]) rfl) (some ad) n c xs rfl (hr.out.alloc _) (by rw [hl.out]; omega) h1.out (by omega) (by simp) ?_; intro A' c' w1 hown1 hgr1 hat1; have Ho := Lib.hid hown1; have Hg := Lib.hid hgr1; clear hown1 hgr1 hat1)
    go_ret
    refine ⟨A', c', by simp, by simpa using Ho.out, ?_⟩
    exact ((Below.refl _ w).alloc (Nat.le_refl _) _).grown Hg.out (by simp) (by simp [Value.ownBlock])


theorem equal_word_ne (A1 A2 : Option Addr) (n1 n2 c1 c2 : Nat) (w : World) (hn : n1 ≠ n2) :
    Calls Try.prog 33 #[.slice A1 n1 c1, .slice A2 n2 c2] w fun e w' => e = .returned (.bool false) ∧ w = w' := by
  have hd : ((n1 : Int) != (n2 : Int)) = true := by rw [bne_iff_ne]; omega
  go_enter Try.func33, Try.ntmps33
  go_wp2
  go_ret
  exact ⟨rfl, rfl⟩

set_option maxHeartbeats 400000 in
set_option maxRecDepth 100000 in
theorem equal_word_eq (A1 A2 : Option Addr) (l1 l2 : List Int) (n c1 c2 : Nat) (w : World) (H1 : Hid (Rd w A1 (l1.map (Value.int .u32)))) (H2 : Hid (Rd w A2 (l2.map (Value.int .u32)))) (L1 : Hid (l1.length = n)) (L2 : Hid (l2.length = n)) (hn : n ≤ 1000000000) :
    Calls Try.prog 33 #[.slice A1 n c1, .slice A2 n c2] w fun e w' => e = .returned (.bool (decide (l1 = l2))) ∧ ∃ m, w.drewN m = w' := by
  have hd : ((n : Int) != (n : Int)) = false := by simp
  go_enter Try.func33, Try.ntmps33
  go_wp2
  go_loopw [13] (fun i wr => ∃ k m : Nat, k ≤ n ∧ i = .int .i64 k ∧ wr = w.drewN m ∧ Hid (l1.take k = l2.take k)) (fun i _ => n - (intOf i).toNat)
  case atStart => exact ⟨0, 0, Nat.zero_le _, rfl, rfl, rfl⟩
  case round =>
    obtain ⟨k, m, hk, rfl, rfl, ht⟩ := hrel
    by_cases hlt : k < n
    · obtain ⟨b1, o1, x, rfl, hx, hc1⟩ := H1.out.getm L1.out hlt
      obtain ⟨b2, o2, y, rfl, hy, hc2⟩ := H2.out.getm L2.out hlt
      have HX := Lib.hid hx; have HY := Lib.hid hy; clear hx hy
      by_cases hxy : x = y
      · subst hxy
        have hb : (x != x) = false := by simp
        go_wp2
        go_quiet (fail)
        go_wp2
        go_roundw
        case rel => exact ⟨k + 1, _, by omega, by go_num, by first | rfl | exact World.drewN_drewN _ _ _, take_eq_succ HX.out HY.out ht.out⟩
        case measure => simp [intOf]; omega
      · have hb : (x != y) = true := by simpa using hxy
        have hb2 : (x == y) = false := by simpa using hxy
        have HXY := Lib.hid hxy; clear hxy
        go_wp2
        go_quiet (fail)
        go_wp2
        go_ret
        refine ⟨ret_bool ?_, _, by first | rfl | exact (World.drewN_drewN _ _ _).symm⟩
        rw [eq_comm, decide_eq_false_iff_not]
        rintro rfl
        exact HXY.out (Option.some.inj (HX.out.symm.trans HY.out))
    · go_wp2
      go_ret
      refine ⟨ret_bool ?_, m, rfl⟩
      rw [eq_comm, decide_eq_true_iff]
      have h := ht.out
      rwa [List.take_of_length_le (by rw [L1.out]; omega), List.take_of_length_le (by rw [L2.out]; omega)] at h

theorem equal_word (A1 A2 : Option Addr) (l1 l2 : List Int) (n1 n2 c1 c2 : Nat) (w : World) (H1 : Hid (Rd w A1 (l1.map (Value.int .u32)))) (H2 : Hid (Rd w A2 (l2.map (Value.int .u32)))) (L1 : Hid (l1.length = n1)) (L2 : Hid (l2.length = n2)) (hn : n1 ≤ 1000000000) :
    Calls Try.prog 33 #[.slice A1 n1 c1, .slice A2 n2 c2] w fun e w' => e = .returned (.bool (decide (l1 = l2))) ∧ ∃ m, w.drewN m = w' := by
  by_cases h : n1 = n2
  · subst h
    exact equal_word_eq A1 A2 l1 l2 n1 c1 c2 w H1 H2 L1 L2 hn
  · refine (equal_word_ne A1 A2 n1 n2 c1 c2 w h).mono fun e w' hh => ⟨hh.1.trans (ret_bool ?_), 0, hh.2⟩
    rw [eq_comm, decide_eq_false_iff_not]
    rintro rfl
    exact h (L1.out.symm.trans L2.out)


theorem equal_map_ne (A1 A2 : Option Addr) (n1 n2 c1 c2 : Nat) (w : World) (hn : n1 ≠ n2) :
    Calls Try.prog 34 #[.slice A1 n1 c1, .slice A2 n2 c2] w fun e w' => e = .returned (.bool false) ∧ w = w' := by
  have hd : ((n1 : Int) != (n2 : Int)) = true := by rw [bne_iff_ne]; omega
  go_enter Try.func34, Try.ntmps34
  go_wp2
  go_ret
  exact ⟨rfl, rfl⟩

set_option maxHeartbeats 400000 in
set_option maxRecDepth 100000 in
theorem equal_map_eq (A1 A2 : Option Addr) (l1 l2 : List Int) (n c1 c2 : Nat) (w : World) (H1 : Hid (Rd w A1 (l1.map (Value.int .i64)))) (H2 : Hid (Rd w A2 (l2.map (Value.int .i64)))) (L1 : Hid (l1.length = n)) (L2 : Hid (l2.length = n)) (hn : n ≤ 1000000000) :
    Calls Try.prog 34 #[.slice A1 n c1, .slice A2 n c2] w fun e w' => e = .returned (.bool (decide (l1 = l2))) ∧ ∃ m, w.drewN m = w' := by
  have hd : ((n : Int) != (n : Int)) = false := by simp
  go_enter Try.func34, Try.ntmps34
  go_wp2
  go_loopw [13] (fun i wr => ∃ k m : Nat, k ≤ n ∧ i = .int .i64 k ∧ wr = w.drewN m ∧ Hid (l1.take k = l2.take k)) (fun i _ => n - (intOf i).toNat)
  case atStart => exact ⟨0, 0, Nat.zero_le _, rfl, rfl, rfl⟩
  case round =>
    obtain ⟨k, m, hk, rfl, rfl, ht⟩ := hrel
    by_cases hlt : k < n
    · obtain ⟨b1, o1, x, rfl, hx, hc1⟩ := H1.out.getm L1.out hlt
      obtain ⟨b2, o2, y, rfl, hy, hc2⟩ := H2.out.getm L2.out hlt
      have HX := Lib.hid hx; have HY := Lib.hid hy; clear hx hy
      by_cases hxy : x = y
      · subst hxy
        have hb : (x != x) = false := by simp
        go_wp2
        go_quiet (fail)
        go_wp2
        go_roundw
        case rel => exact ⟨k + 1, _, by omega, by go_num, by first | rfl | exact World.drewN_drewN _ _ _, take_eq_succ HX.out HY.out ht.out⟩
        case measure => simp [intOf]; omega
      · have hb : (x != y) = true := by simpa using hxy
        have hb2 : (x == y) = false := by simpa using hxy
        have HXY := Lib.hid hxy; clear hxy
        go_wp2
        go_quiet (fail)
        go_wp2
        go_ret
        refine ⟨ret_bool ?_, _, by first | rfl | exact (World.drewN_drewN _ _ _).symm⟩
        rw [eq_comm, decide_eq_false_iff_not]
        rintro rfl
        exact HXY.out (Option.some.inj (HX.out.symm.trans HY.out))
    · go_wp2
      go_ret
      refine ⟨ret_bool ?_, m, rfl⟩
      rw [eq_comm, decide_eq_true_iff]
      have h := ht.out
      rwa [List.take_of_length_le (by rw [L1.out]; omega), List.take_of_length_le (by rw [L2.out]; omega)] at h

theorem equal_map (A1 A2 : Option Addr) (l1 l2 : List Int) (n1 n2 c1 c2 : Nat) (w : World) (H1 : Hid (Rd w A1 (l1.map (Value.int .i64)))) (H2 : Hid (Rd w A2 (l2.map (Value.int .i64)))) (L1 : Hid (l1.length = n1)) (L2 : Hid (l2.length = n2)) (hn : n1 ≤ 1000000000) :
    Calls Try.prog 34 #[.slice A1 n1 c1, .slice A2 n2 c2] w fun e w' => e = .returned (.bool (decide (l1 = l2))) ∧ ∃ m, w.drewN m = w' := by
  by_cases h : n1 = n2
  · subst h
    exact equal_map_eq A1 A2 l1 l2 n1 c1 c2 w H1 H2 L1 L2 hn
  · refine (equal_map_ne A1 A2 n1 n2 c1 c2 w h).mono fun e w' hh => ⟨hh.1.trans (ret_bool ?_), 0, hh.2⟩
    rw [eq_comm, decide_eq_false_iff_not]
    rintro rfl
    exact h (L1.out.symm.trans L2.out)



/-- In increasing order, behind last, below 65536. -/
def risF (last : Int) : List Int → Bool
  | [] => true
  | n :: m => decide (last < n ∧ n < 65536) && risF n m
def ris (m : List Int) : Bool := risF 0 m
theorem risF_snoc (l : List Int) (last x : Int) : risF last (l ++ [x]) = (risF last l && decide (l.getLastD last < x ∧ x < 65536)) := by
  induction l generalizing last with
  | nil => simp [risF]
  | cons y l ih => simp only [List.cons_append, risF, ih, Bool.and_assoc, List.getLastD_cons]
theorem risF_app (l k : List Int) (last : Int) (h : risF last l = false) : risF last (l ++ k) = false := by
  induction l generalizing last with
  | nil => simp [risF] at h
  | cons y l ih =>
    simp only [risF, Bool.and_eq_false_iff, List.cons_append] at h ⊢
    exact h.imp id (ih y)
theorem risF_lt (l : List Int) (last : Int) (h : risF last l = true) : (∀ x ∈ l, last < x ∧ x < 65536) ∧ l.Pairwise (· < ·) := by
  induction l generalizing last with
  | nil => exact ⟨by simp, List.Pairwise.nil⟩
  | cons y l ih =>
    simp only [risF, Bool.and_eq_true, decide_eq_true_eq] at h
    obtain ⟨h1, h2⟩ := ih y h.2
    refine ⟨?_, List.Pairwise.cons (fun x hx => (h1 x hx).1) h2⟩
    intro x hx
    rcases List.mem_cons.1 hx with rfl | hx
    · exact h.1
    · have := h1 x hx; omega
theorem ris_lt {m : List Int} (h : ris m = true) {i j : Nat} {x y : Int} (hi : m[i]? = some x) (hj : m[j]? = some y) (hij : i < j) : x < y := by
  obtain ⟨l1, rfl⟩ := List.getElem?_eq_some_iff.1 hi
  obtain ⟨l2, rfl⟩ := List.getElem?_eq_some_iff.1 hj
  exact List.pairwise_iff_getElem.1 (risF_lt m 0 h).2 i j l1 l2 hij

theorem isNaN1 (a : Int) (w : World) : Calls Try.prog 106 #[.int .i64 a] w fun e w' => e = .returned (.bool false) ∧ w = w' := by
  have h : (a != a) = false := by simp
  go_enter Try.func106, Try.ntmps106
  go_wp2
  go_ret
  exact ⟨rfl, rfl⟩
theorem isNaN2 (a : Int) (w : World) : Calls Try.prog 108 #[.int .i64 a] w fun e w' => e = .returned (.bool false) ∧ w = w' := by
  have h : (a != a) = false := by simp
  go_enter Try.func108, Try.ntmps108
  go_wp2
  go_ret
  exact ⟨rfl, rfl⟩
theorem lessI (a b : Int) (w : World) : Calls Try.prog 105 #[.int .i64 a, .int .i64 b] w fun e w' => e = .returned (.bool (decide (a < b))) ∧ w = w' := by
  go_enter Try.func105, Try.ntmps105
  go_wp2_with fail
  refine (isNaN2 a w).mono ?_
  rintro e w' ⟨rfl, rfl⟩
  go_wp2
  go_ret
  exact ⟨rfl, rfl⟩

theorem half (s : Nat) (h : s ≤ 4000000) : IntKind.u64.wrap (s : Int) = (s : Int) := by
  rw [IntKind.wrap_u64]; omega

/-- What is left to search. -/
def Srch (m : List Int) (t : Int) (i j : Nat) : Prop := ris m = true → (∀ q x, m[q]? = some x → q < i → x < t) ∧ (∀ q x, m[q]? = some x → j ≤ q → t ≤ x)
theorem Srch.up {m : List Int} {t x : Int} {i j h : Nat} (H : Srch m t i j) (hx : m[h]? = some x) (hlt : x < t) : Srch m t (h + 1) j := by
  intro hr
  refine ⟨?_, (H hr).2⟩
  intro q y hy hq
  rcases Nat.lt_or_ge q h with h1 | h1
  · have := ris_lt hr hy hx h1; omega
  · obtain rfl : q = h := by omega
    rw [hx] at hy
    injection hy with hy
    omega
theorem Srch.down {m : List Int} {t x : Int} {i j h : Nat} (H : Srch m t i j) (hx : m[h]? = some x) (hlt : ¬ x < t) : Srch m t i h := by
  intro hr
  refine ⟨(H hr).1, ?_⟩
  intro q y hy hq
  rcases Nat.lt_or_ge h q with h1 | h1
  · have := ris_lt hr hx hy h1; omega
  · obtain rfl : q = h := by omega
    rw [hx] at hy
    injection hy with hy
    omega
theorem Srch.no {m : List Int} {t : Int} {i : Nat} (H : Srch m t i i) (hr : ris m = true) (hi : m[i]? ≠ some t) : t ∉ m := by
  intro hm
  obtain ⟨q, hq⟩ := List.mem_iff_getElem?.1 hm
  rcases Nat.lt_trichotomy q i with h | h | h
  · have := (H hr).1 q t hq h; omega
  · subst h; exact hi hq
  · have hq2 := (H hr).2 q t hq (by omega)
    have hl := (List.getElem?_eq_some_iff.1 hq).1
    have hx : m[i]? = some (m[i]'(by omega)) := List.getElem?_eq_getElem _
    have h1 := ris_lt hr hx hq h
    have h2 := (H hr).2 i _ hx (Nat.le_refl _)
    omega

set_option maxHeartbeats 400000 in
set_option maxRecDepth 100000 in
theorem bsearch (A : Option Addr) (n c : Nat) (m : List Int) (t : Int) (w : World) (hr : Hid (Rd w A (m.map (Value.int .i64)))) (hl : Hid (m.length = n)) (hn : n ≤ 1000000) :
    Calls Try.prog 97 #[.slice A n c, .int .i64 t] w fun e w' => ∃ (i : Nat) (b : Bool), e = .returned (.tuple #[.int .i64 i, .bool b]) ∧ i ≤ n ∧ (b = true → m[i]? = some t) ∧ (ris m = true → b = decide (t ∈ m)) ∧ w = w' := by
  go_enter Try.func97, Try.ntmps97
  go_wp2
  go_loopw [7, 8] (fun v7 v8 wr => ∃ (i j : Nat), i ≤ j ∧ j ≤ n ∧ v7 = .int .i64 i ∧ v8 = .int .i64 j ∧ Hid (Srch m t i j) ∧ w = wr) (fun v7 v8 _ => (intOf v8).toNat - (intOf v7).toNat)
  case atStart => exact ⟨0, n, Nat.zero_le _, Nat.le_refl _, rfl, rfl, fun _ => ⟨fun q x _ h => by omega, fun q x hx h => by have := (List.getElem?_eq_some_iff.1 hx).1; have := hl.out; omega⟩, rfl⟩
  case round =>
    obtain ⟨i, j, hij, hjn, rfl, rfl, HS, rfl⟩ := hrel
    by_cases hlt : i < j
    · obtain ⟨h, hh⟩ : ∃ h : Nat, (i + j) / 2 = h := ⟨_, rfl⟩
      have hh1 : i ≤ h := by omega
      have hh2 : h < j := by omega
      obtain ⟨b1, o1, x, rfl, hx, hc1⟩ := hr.out.getm hl.out (show h < n by omega)
      have HX := Lib.hid hx; clear hx
      go_wp2_with fail
      refine (lessI x t w).mono ?_
      rintro e w' ⟨rfl, rfl⟩
      by_cases hxt : x < t
      · have hd : decide (x < t) = true := by simpa using hxt
        rw [hd]
        clear hd
        have HXT := Lib.hid hxt; clear hxt
        go_wp2
        go_roundw
        case rel => exact ⟨h + 1, j, by omega, hjn, by go_num, rfl, HS.out.up HX.out HXT.out, by first | rfl | trivial⟩
        case measure => simp [intOf]; omega
      · have hd : decide (x < t) = false := by simpa using hxt
        rw [hd]
        clear hd
        have HXT := Lib.hid hxt; clear hxt
        go_wp2
        go_roundw
        case rel => exact ⟨i, h, hh1, by omega, rfl, by go_num, HS.out.down HX.out (by have := HXT.out; omega), by first | rfl | trivial⟩
        case measure => simp [intOf]; omega
    · obtain rfl : i = j := by omega
      clear hlt
      by_cases hin : i < n
      · obtain ⟨b1, o1, x, rfl, hx, hc1⟩ := hr.out.getm hl.out hin
        have HX := Lib.hid hx; clear hx
        by_cases hxt : x = t
        · subst hxt
          have hb : (x == x) = true := by simp
          go_wp2_with fail
          go_ret2
          exact ⟨i, true, rfl, hjn, fun _ => HX.out, fun _ => (decide_eq_true (List.mem_of_getElem? HX.out)).symm, rfl⟩
        · have hb : (x == t) = false := by simpa using hxt
          have HXT := Lib.hid hxt; clear hxt
          go_wp2_with fail
          refine (isNaN1 x w).mono ?_
          rintro e w' ⟨rfl, rfl⟩
          go_wp2_with fail
          go_ret2
          refine ⟨i, false, rfl, hjn, fun h => (by cases h), fun hris => ?_, rfl⟩
          rw [eq_comm, decide_eq_false_iff_not]
          exact HS.out.no hris (by rw [HX.out]; intro e; injection e with e; exact HXT.out e)
      · go_wp2_with fail
        go_ret2
        refine ⟨i, false, rfl, hjn, fun h => (by cases h), fun hris => ?_, rfl⟩
        rw [eq_comm, decide_eq_false_iff_not]
        refine HS.out.no hris ?_
        rw [List.getElem?_eq_none (by rw [hl.out]; omega)]
        intro e; cases e

theorem litsOf (v : Int) (b : Bool) (w : World) (h1 : 1 ≤ v) (h2 : v ≤ 1048576) : Calls Try.prog 98 #[.int .i64 v, .bool b] w fun e w' => e = .returned (.tuple #[.int .i64 (if b then -v else v), .int .i64 0]) ∧ w = w' := by
  cases b
  all_goals
    go_enter Try.func98, Try.ntmps98
    go_wp2
    go_ret2
    exact ⟨rfl, rfl⟩
theorem litsRight (l : Int) (w : World) (h1 : 1 ≤ l) (h2 : l ≤ 1048576) : Calls Try.prog 99 #[.int .i64 l] w fun e w' => e = .returned (.bool true) ∧ w = w' := by
  have hb : (l != 0) = true := by simp; omega
  go_enter Try.func99, Try.ntmps99
  go_wp2
  go_ret
  exact ⟨rfl, rfl⟩
theorem litsVar (l : Int) (w : World) (h1 : 1 ≤ l) (h2 : l ≤ 1048576) : Calls Try.prog 82 #[.int .i64 l] w fun e w' => e = .returned (.int .i64 l) ∧ w = w' := by
  go_enter Try.func82, Try.ntmps82
  go_wp2_with fail
  refine (litsRight l w h1 h2).mono ?_
  rintro e w' ⟨rfl, rfl⟩
  go_wp2
  go_ret
  refine ⟨ret_int ?_, rfl⟩
  omega

set_option maxHeartbeats 400000 in
set_option maxRecDepth 100000 in
theorem risC (A : Option Addr) (n c : Nat) (m : List Int) (w : World) (hr : Hid (Rd w A (m.map (Value.int .i64)))) (hl : Hid (m.length = n)) (hn : n ≤ 1000000) :
    Calls Try.prog 95 #[.slice A n c] w fun e w' => e = .returned (.bool (ris m)) ∧ w = w' := by
  go_enter Try.func95, Try.ntmps95
  go_wp2
  go_loopw [3, 8] (fun v3 v8 wr => ∃ (k : Nat) (last : Int), k ≤ n ∧ v3 = .int .i64 last ∧ v8 = .int .i64 k ∧ Hid (risF 0 (m.take k) = true) ∧ Hid ((m.take k).getLastD 0 = last) ∧ w = wr) (fun _ v8 _ => n - (intOf v8).toNat)
  case atStart => exact ⟨0, 0, Nat.zero_le _, rfl, rfl, rfl, rfl, rfl⟩
  case round =>
    obtain ⟨k, last, hk, rfl, rfl, HR, HL, rfl⟩ := hrel
    by_cases hlt : k < n
    · obtain ⟨b1, o1, x, rfl, hx, hc1⟩ := hr.out.getm hl.out hlt
      have HX := Lib.hid hx; clear hx
      have hsn : Hid (risF 0 (m.take (k + 1)) = decide (last < x ∧ x < 65536)) := by
        show _ = _
        rw [take_snoc HX.out, risF_snoc, HR.out, HL.out, Bool.true_and]
      have hno : Hid (¬ (last < x ∧ x < 65536) → ris m = false) := by
        intro h
        have h1 := hsn.out
        rw [decide_eq_false h] at h1
        have h2 := risF_app _ (m.drop (k + 1)) _ h1
        rwa [List.take_append_drop] at h2
      by_cases h1 : x ≤ last
      · go_wp2
        go_ret
        exact ⟨ret_bool (hno.out (by omega)).symm, rfl⟩
      · by_cases h2 : 65536 ≤ x
        · go_wp2
          go_ret
          exact ⟨ret_bool (hno.out (by omega)).symm, rfl⟩
        · go_wp2
          go_roundw
          case rel =>
            refine ⟨k + 1, x, by omega, rfl, by go_num, ?_, ?_, by first | rfl | trivial⟩
            · show _ = _
              rw [hsn.out, decide_eq_true_eq]; omega
            · show _ = _
              rw [take_snoc HX.out, List.getLastD_concat]
          case measure => simp [intOf]; omega
    · obtain rfl : k = n := by omega
      go_wp2
      go_ret
      refine ⟨ret_bool ?_, rfl⟩
      have h := HR.out
      rw [List.take_of_length_le (by rw [hl.out]; omega)] at h
      exact h.symm

/-- The literal of a reference; 0 if there is none. -/
def litI (m : List Int) (r : Int) : Int := if ris m = true ∧ 0 ≤ r ∧ r / 2 ∈ m then (if r % 2 = 1 then -((m.idxOf (r / 2) : Int) + 1) else (m.idxOf (r / 2) : Int) + 1) else 0
theorem nodup_of_ris {m : List Int} (h : ris m = true) : m.Nodup := List.nodup_iff_pairwise_ne.2 ((risF_lt m 0 h).2.imp (fun h => by omega))
theorem idx_of {m : List Int} (h : ris m = true) {i : Nat} {x : Int} (hi : m[i]? = some x) : m.idxOf x = i := by
  have hm := List.mem_of_getElem? hi
  have hlt := List.idxOf_lt_length_iff.2 hm
  have hg : m[m.idxOf x]? = some x := by rw [List.getElem?_eq_getElem hlt, List.getElem_idxOf]
  rcases Nat.lt_trichotomy (m.idxOf x) i with h1 | h1 | h1
  · have := ris_lt h hg hi h1; omega
  · exact h1
  · have := ris_lt h hi hg h1; omega

set_option maxHeartbeats 400000 in
set_option maxRecDepth 100000 in
theorem litC (A : Option Addr) (n c : Nat) (m : List Int) (r : Int) (w : World) (hr : Hid (Rd w A (m.map (Value.int .i64)))) (hl : Hid (m.length = n)) (hn : n ≤ 1000000) (h1 : I64 r) :
    Calls Try.prog 81 #[.slice A n c, .int .i64 r] w fun e w' => e = .returned (.tuple #[.int .i64 (litI m r), .bool (decide (litI m r ≠ 0))]) ∧ w = w' := by
  obtain ⟨h1a, h1b⟩ := h1
  by_cases h0 : r < 0
  · have hz : litI m r = 0 := by unfold litI; rw [if_neg]; omega
    rw [hz]
    clear hz
    go_enter Try.func81, Try.ntmps81
    go_wp2_with fail
    refine (bsearch A n c m _ w hr hl hn).mono ?_
    rintro e w' ⟨i, b, rfl, hi, hb1, hb2, rfl⟩
    clear hb1 hb2
    go_wp2_with fail
    refine (risC A n c m w hr hl hn).mono ?_
    rintro e w' ⟨rfl, rfl⟩
    generalize ris m = q
    cases q
    all_goals
      go_wp2
      go_ret2
      exact ⟨rfl, rfl⟩
  · obtain ⟨L, hL⟩ : ∃ L, litI m r = L := ⟨_, rfl⟩
    rw [hL]
    have HL := Lib.hid hL; clear hL
    go_enter Try.func81, Try.ntmps81
    go_wp2_with fail
    refine (bsearch A n c m _ w hr hl hn).mono ?_
    rintro e w' ⟨i, b, rfl, hi, hb1, hb2, rfl⟩
    have HB1 := Lib.hid hb1; have HB2 := Lib.hid hb2
    clear hb1 hb2
    go_wp2_with fail
    refine (risC A n c m w hr hl hn).mono ?_
    rintro e w' ⟨rfl, rfl⟩
    cases hq : ris m with
    | false =>
      obtain rfl : L = 0 := by rw [← HL.out]; unfold litI; rw [if_neg]; rw [hq]; intro h; cases h.1
      clear hq
      go_wp2
      go_ret2
      exact ⟨rfl, rfl⟩
    | true =>
      have hb := HB2.out hq
      have HQ := Lib.hid hq
      clear hq
      cases b with
      | false =>
        obtain rfl : L = 0 := by
          rw [← HL.out]
          unfold litI; rw [if_neg]
          intro h
          exact absurd h.2.2 (of_decide_eq_false hb.symm)
        clear hb
        go_wp2
        go_ret2
        exact ⟨rfl, rfl⟩
      | true =>
        have hz : L = if r % 2 = 1 then -((i : Int) + 1) else (i : Int) + 1 := by
          rw [← HL.out]
          unfold litI
          rw [if_pos ⟨HQ.out, by omega, of_decide_eq_true hb.symm⟩, idx_of HQ.out (HB1.out rfl)]
        clear hb
        by_cases hm : r % 2 = 1
        · have hm1 : (r % 2 == 1) = true := by simpa using hm
          rw [if_pos hm] at hz
          subst hz
          clear hm
          go_wp2_with fail
          refine (litsOf ((i : Int) + 1) true w (by omega) (by omega)).mono ?_
          rintro e w' ⟨rfl, rfl⟩
          go_wp2
          go_ret2
          refine ⟨?_, rfl⟩
          rw [decide_eq_true (show -((i : Int) + 1) ≠ 0 by omega)]
          rfl
        · have hm1 : (r % 2 == 1) = false := by simpa using hm
          rw [if_neg hm] at hz
          subst hz
          clear hm
          go_wp2_with fail
          refine (litsOf ((i : Int) + 1) false w (by omega) (by omega)).mono ?_
          rintro e w' ⟨rfl, rfl⟩
          go_wp2
          go_ret2
          refine ⟨?_, rfl⟩
          rw [decide_eq_true (show ((i : Int) + 1) ≠ 0 by omega)]
          rfl


/-- A node of a map is a node, and its sides have literals. -/
def nodeM (G : List Nd) (m : List Int) (n : Int) : Bool := decide (n < (G.length : Int)) && (match G[n.toNat]? with
  | some x => if x.k = 3 then decide (litI m x.l ≠ 0) && decide (litI m x.r ≠ 0) else true
  | none => true)
def mapR (G : List Nd) (m : List Int) : Bool := ris m && m.all (nodeM G m)
theorem mapR_no {G : List Nd} {m : List Int} {k : Nat} {x : Int} (h : m[k]? = some x) (hx : nodeM G m x = false) : mapR G m = false := by
  have : m.all (nodeM G m) = false := by
    rw [List.all_eq_false]
    exact ⟨x, List.mem_of_getElem? h, by simp [hx]⟩
  simp [mapR, this]

set_option maxHeartbeats 2000000 in
set_option maxRecDepth 100000 in
theorem tseRight (B g : Nat) (M : Int) (G : List Nd) (A : Option Addr) (n c : Nat) (m : List Int) (w : World) (h : Hid (GAt w B g M G)) (hok : Hid (GOk G)) (hgl : G.length ≤ 65536) (hg0 : 0 < G.length) (hr : Hid (Rd w A (m.map (Value.int .i64)))) (hl : Hid (m.length = n)) (hn : n ≤ 1000000) :
    Calls Try.prog 80 #[.pointer (some ⟨g, 0, none⟩), .slice A n c] w fun e w' => e = .returned (.bool (mapR G m)) ∧ Below w.heap.size w w' := by
  obtain ⟨T, hT⟩ : ∃ T, mapR G m = T := ⟨_, rfl⟩
  rw [hT]
  have HT := Lib.hid hT; clear hT
  go_enter Try.func80, Try.ntmps80
  go_wp2_with fail
  go_step3
  go_wp2_with fail
  refine (risC A n c m w hr hl hn).mono ?_
  rintro e w' ⟨rfl, rfl⟩
  obtain ⟨b, hb⟩ : ∃ b, ris m = b := ⟨_, rfl⟩
  rw [hb]
  have HRB := Lib.hid hb; clear hb
  go_wp2_with fail
  go_step3
  go_wp2_with fail
  go_loopw [5, 19] (fun v5 v19 wr => ∃ (k : Nat), k ≤ n ∧ v5 = .bool b ∧ v19 = .int .i64 k ∧ Hid ((m.take k).all (nodeM G m) = true) ∧ Hid (Below w.heap.size w wr)) (fun _ v19 _ => n - (intOf v19).toNat)
  case atStart => exact ⟨0, Nat.zero_le _, rfl, rfl, rfl, Below.refl _ _⟩
  case round =>
    obtain ⟨k, hk, rfl, rfl, HA, HB⟩ := hrel
    have HG := Lib.hid (h.out.below HB.out)
    have HRD := Lib.hid (hr.out.below HB.out)
    by_cases hlt : k < n
    · obtain ⟨b1, o1, x, rfl, hx, hc1⟩ := HRD.out.getm hl.out hlt
      have HX := Lib.hid hx; clear hx
      cases b with
      | false =>
        obtain rfl : T = false := by rw [← HT.out, mapR, HRB.out]; rfl
        go_wp2
        try rw [Exit.noGoto_ret]
        go_ret
        exact ⟨rfl, HB.out⟩
      | true =>
        have hx0 : 0 < x := ((risF_lt m 0 HRB.out).1 x (List.mem_of_getElem? HX.out)).1
        have hx1 : x < 65536 := ((risF_lt m 0 HRB.out).1 x (List.mem_of_getElem? HX.out)).2
        have HLEN := Lib.hid (glen B g M G wr HG.out)
        go_wp2_with fail
        refine HLEN.out.mono ?_
        rintro e w' ⟨rfl, rfl⟩
        clear HLEN
        by_cases hxl : (G.length : Int) ≤ x
        · obtain rfl : T = false := by
            rw [← HT.out]
            refine mapR_no HX.out ?_
            have : decide (x < (G.length : Int)) = false := by simp; omega
            simp [nodeM, this]
          go_wp2
          try rw [Exit.noGoto_ret]
          go_ret
          exact ⟨rfl, HB.out⟩
        · obtain ⟨y, hy⟩ : ∃ y, G[x.toNat]? = some y := ⟨_, List.getElem?_eq_getElem (show x.toNat < G.length by omega)⟩
          have hy2 : G[((2 * x) / 2).toNat]? = some y := by rw [← hy]; congr 1; omega
          have HY := Lib.hid hy; have HY2 := Lib.hid hy2
          clear hy hy2
          by_cases hk3 : y.k = 3
          · have hs := gsides_and B g M G (2 * x) y wr HG (by omega) (by omega) HY2 (Lib.hid hk3)
            obtain ⟨g1, g2, g3, g4⟩ := (hok.out _ _ HY.out).2 hk3
            have HK3 := Lib.hid hk3
            have HSD := Lib.hid hs
            clear hs hk3
            obtain ⟨yk, yl, yr⟩ := y
            dsimp only at g1 g2 g3 g4 HSD HK3
            go_wp2_with fail
            refine HSD.out.mono ?_
            rintro e w1 ⟨rfl, hb1⟩
            have HB1 := Lib.hid (bthen HB.out hb1)
            have HRD1 := Lib.hid (HRD.out.below hb1)
            clear hb1 HSD
            have hBK := Bk.new w1 35 #[.int .i64 yl, .int .i64 yr]
            have HB2 : Hid (Below w.heap.size w (w1.alloc (.cells #[.int .i64 yl, .int .i64 yr] 35))) := HB1.out.alloc (by have := HB1.out.size; omega) _
            have HRD2 := Lib.hid (HRD1.out.alloc (.cells #[.int .i64 yl, .int .i64 yr] 35))
            have k0 := hBK.cell 0
            have k1 := hBK.cell 1
            have HND : Hid (litI m yl ≠ 0 → litI m yr ≠ 0 → nodeM G m x = true) := by
              intro e1 e2
              have : decide (x < (G.length : Int)) = true := by simp; omega
              simp [nodeM, this, HY.out, HK3.out, e1, e2]
            have HNO : Hid (litI m yl = 0 ∨ litI m yr = 0 → nodeM G m x = false) := by
              intro e1
              have : decide (x < (G.length : Int)) = true := by simp; omega
              rcases e1 with e1 | e1 <;> simp [nodeM, this, HY.out, HK3.out, e1]
            clear hBK HB1 HRD1
            go_wp2_with fail
            generalize (w1.alloc (.cells #[.int .i64 yl, .int .i64 yr] 35)) = W2 at *
            generalize w1.heap.size = pb at *
            go_loopw [5, 45] (fun v5 v45 wq => ∃ (q : Nat), q ≤ 2 ∧ v5 = .bool true ∧ v45 = .int .i64 q ∧ Hid (0 < q → litI m yl ≠ 0) ∧ Hid (1 < q → litI m yr ≠ 0) ∧ W2 = wq) (fun _ v45 _ => 2 - (intOf v45).toNat)
            case atStart => exact ⟨0, by omega, rfl, rfl, fun h => by omega, fun h => by omega, rfl⟩
            case round =>
              obtain ⟨q, hq, rfl, rfl, Q0, Q1, rfl⟩ := hrel
              by_cases hq2 : q < 2
              · obtain ⟨z, hz⟩ : ∃ z, (if q = 0 then yl else yr) = z := ⟨_, rfl⟩
                have cz : W2.cell? ⟨pb, q, none⟩ = some (.int .i64 z) := by
                  rcases Nat.lt_or_ge 0 q with h0 | h0
                  · obtain rfl : q = 1 := by omega
                    rw [← hz]; exact k1
                  · obtain rfl : q = 0 := by omega
                    rw [← hz]; exact k0
                have hz1 : I64 z := by
                  rw [← hz]
                  unfold I64
                  have := (List.getElem?_eq_some_iff.1 HY.out).1
                  split <;> omega
                have HZ := Lib.hid hz; clear hz
                have HLC := Lib.hid (litC (some ⟨b1, o1, none⟩) n c m z W2 HRD2 hl hn hz1)
                clear hz1
                obtain ⟨L, hL⟩ : ∃ L, litI m z = L := ⟨_, rfl⟩
                rw [hL] at HLC
                by_cases hL0 : L = 0
                · obtain rfl : T = false := by
                    rw [← HT.out]
                    refine mapR_no HX.out (HNO.out ?_)
                    rw [hL0, ← HZ.out] at hL
                    split at hL
                    · exact .inl hL
                    · exact .inr hL
                  rw [hL0, show decide ((0 : Int) ≠ 0) = false from rfl] at HLC
                  clear hL hL0 k0 k1
                  go_wp2_with fail
                  refine HLC.out.mono ?_
                  rintro e w' ⟨rfl, rfl⟩
                  clear HLC cz
                  go_wp2
                  try rw [Exit.noGoto_ret]
                  go_ret
                  exact ⟨rfl, HB2.out⟩
                · rw [decide_eq_true hL0] at HLC
                  have HL := Lib.hid hL; have HL0 := Lib.hid hL0
                  clear hL hL0
                  go_wp2_with fail
                  refine HLC.out.mono ?_
                  rintro e w' ⟨rfl, rfl⟩
                  clear HLC cz
                  go_wp2
                  go_roundw
                  case rel =>
                    refine ⟨q + 1, by omega, rfl, by go_num, fun _ => ?_, fun h1 => ?_, by first | rfl | trivial⟩
                    · rcases Nat.lt_or_ge 0 q with h0 | h0
                      · exact Q0.out h0
                      · have hz := HZ.out
                        rw [if_pos (show q = 0 by omega)] at hz
                        rw [hz, HL.out]; exact HL0.out
                    · have hz := HZ.out
                      rw [if_neg (show ¬ q = 0 by omega)] at hz
                      rw [hz, HL.out]; exact HL0.out
                  case measure => simp [intOf]; omega
              · obtain rfl : q = 2 := by omega
                have HNX : Hid (nodeM G m x = true) := HND.out (Q0.out (by omega)) (Q1.out (by omega))
                clear k0 k1
                go_wp2
                go_roundw
                case rel =>
                  refine ⟨k + 1, by omega, rfl, by go_num, ?_, HB2⟩
                  show _ = _
                  rw [take_snoc HX.out, List.all_append, HA.out]
                  simp [HNX.out]
                case measure => simp [intOf]; omega
          · have hk3' : (y.k != 3) = true := by simpa using hk3
            have hs := gsides_no B g M G (2 * x) y wr HG (by omega) (by omega) HY2 hk3'
            have HSD := Lib.hid hs
            have HK3 := Lib.hid hk3
            clear hs hk3 hk3'
            go_wp2_with fail
            refine HSD.out.mono ?_
            rintro e w1 ⟨rfl, hb1⟩
            have HB1 := Lib.hid (bthen HB.out hb1)
            clear hb1 HSD
            go_wp2
            go_roundw
            case rel =>
              refine ⟨k + 1, by omega, rfl, by go_num, ?_, HB1⟩
              show _ = _
              rw [take_snoc HX.out, List.all_append, HA.out]
              have : decide (x < (G.length : Int)) = true := by simp; omega
              simp [nodeM, this, HY.out, HK3.out]
            case measure => simp [intOf]; omega
    · obtain rfl : n = k := by omega
      have ht : m.all (nodeM G m) = true := by
        have h := HA.out
        rwa [List.take_of_length_le (by rw [hl.out]; omega)] at h
      obtain rfl : T = b := by rw [← HT.out, mapR, HRB.out, ht, Bool.and_true]
      clear ht
      cases T with
      | false =>
        go_wp2
        try rw [Exit.noGoto_ret]
        go_ret
        exact ⟨rfl, HB.out⟩
      | true =>
        have HLEN := Lib.hid (glen B g M G wr HG.out)
        have hd : decide (0 < (G.length : Int)) = true := by simp; omega
        go_wp2_with fail
        refine HLEN.out.mono ?_
        rintro e w' ⟨rfl, rfl⟩
        clear HLEN
        go_wp2
        try rw [Exit.noGoto_ret]
        go_ret
        exact ⟨rfl, HB.out⟩

/-- What the inputs of a graph are in a model. -/
def inpV (m : List Int) (model : List Bool) (r : Int) : Bool := decide (litI m r ≠ 0) && model.getD ((litI m r).toNat - 1) false
def inpM (G : List Nd) (m : List Int) (model : List Bool) : List Bool := (inputsOf G).map (inpV m model)
def inpErr (G : List Nd) (m : List Int) (k : Nat) : Int := if mapR G m = true then (if k = m.length then 0 else 272) else 271
theorem inputsFrom_even (G : List Nd) (i : Nat) : ∀ x ∈ inputsFrom i G, x % 2 = 0 ∧ 0 ≤ x ∧ x ≤ 2 * (i + G.length : Nat) := by
  induction G generalizing i with
  | nil => simp [inputsFrom]
  | cons y G ih =>
    intro x hx
    unfold inputsFrom at hx
    simp only [List.length_cons]
    split at hx
    · rcases List.mem_cons.1 hx with rfl | hx
      · omega
      · have := ih (i + 1) x hx; omega
    · have := ih (i + 1) x hx; omega
theorem litI_even {m : List Int} {r : Int} (h : r % 2 = 0) (hn : litI m r ≠ 0) : 1 ≤ litI m r ∧ litI m r ≤ m.length := by
  unfold litI at hn ⊢
  split at hn
  · rename_i hc
    have := List.idxOf_lt_length_iff.2 hc.2.2
    rw [if_pos hc, if_neg (by omega)]
    omega
  · omega

def InpPost (T : Int) (l : List Bool) (w : World) (e : Ending) (w' : World) : Prop := ∃ A' k c', e = .returned (.tuple #[.slice A' k c', .int .i64 T]) ∧ (T = 0 → l.length = k ∧ Rd w' A' (l.map Value.bool)) ∧ Below w.heap.size w w'
set_option maxHeartbeats 2000000 in
set_option maxRecDepth 100000 in
theorem tseInputs (B g : Nat) (M : Int) (G : List Nd) (A : Option Addr) (n c : Nat) (m : List Int) (A2 : Option Addr) (n2 c2 : Nat) (model : List Bool) (w : World) (h : Hid (GAt w B g M G)) (hok : Hid (GOk G)) (hgl : G.length ≤ 65536) (hg0 : 0 < G.length) (hr : Hid (Rd w A (m.map (Value.int .i64)))) (hl : Hid (m.length = n)) (hn : n ≤ 1000000)
    (hr2 : Hid (Rd w A2 (model.map Value.bool))) (hl2 : Hid (model.length = n2)) (hn2 : n2 ≤ 1000000) :
    Calls Try.prog 45 #[.pointer (some ⟨g, 0, none⟩), .slice A n c, .slice A2 n2 c2] w (InpPost (inpErr G m n2) (inpM G m model) w) := by
  obtain ⟨T, hT⟩ : ∃ T, inpErr G m n2 = T := ⟨_, rfl⟩
  rw [hT]
  have HT := Lib.hid hT; clear hT
  have HLEN := Lib.hid (glen B g M G w h.out)
  have hd0 : ((G.length : Int) == 0) = false := by simp; intro e; simp [e] at hg0
  go_enter Try.func45, Try.ntmps45
  go_wp2_with fail
  refine HLEN.out.mono ?_
  rintro e w' ⟨rfl, rfl⟩
  clear HLEN
  go_wp2_with fail
  refine (tseRight B g M G A n c m w h hok hgl hg0 hr hl hn).mono ?_
  rintro e w1 ⟨rfl, hb1⟩
  have HB1 := Lib.hid hb1
  clear hb1
  cases hmr : mapR G m with
  | false =>
    obtain rfl : T = 271 := by rw [← HT.out, inpErr, hmr]; rfl
    clear hmr
    go_wp2
    go_ret2
    exact ⟨none, 0, 0, rfl, fun h => by omega, HB1.out⟩
  | true =>
    by_cases hnn : n2 = n
    · subst hnn
      obtain rfl : T = 0 := by rw [← HT.out, inpErr, hmr, hl.out]; simp
      have HMR := Lib.hid hmr; clear hmr
      have hne : ((n2 : Int) != (n2 : Int)) = false := by simp
      go_wp2_with fail
      refine (gInputs B g M G w1 (Lib.hid (h.out.below HB1.out)) hgl).mono ?_
      rintro e w2 ⟨AI, k2, cI, rfl, hk2, ho2, hb2⟩
      have HB2 := Lib.hid (bthen HB1.out hb2)
      have HI := Lib.hid (Rd.of_own ho2)
      have HK2 := Lib.hid hk2
      have hkl : k2 ≤ 65536 := by have := inputsOf_len G; omega
      clear hk2 ho2 hb2 HB1
      go_wp2_with fail
      go_loopw [8, 31] (fun v i wr => ∃ (k : Nat) (A' : Option Addr) (c' : Nat), k ≤ k2 ∧ i = .int .i64 k ∧ v = .slice A' k c' ∧ Hid (wr.ownsRow w2.heap.size 4 1 (.slice A' k c') k ((((inputsOf G).take k).map (inpV m model)).map Value.bool)) ∧ Hid (Below w2.heap.size w2 wr)) (fun _ i _ => k2 - (intOf i).toNat)
      case atStart => exact ⟨0, none, 0, Nat.zero_le _, rfl, rfl, World.ownsRow_nil _ _ _ _, Below.refl _ _⟩
      case round =>
        obtain ⟨k, A', c', hk, rfl, rfl, Ho, Hb⟩ := hrel
        have hsz : w2.heap.size ≤ wr.heap.size := Hb.out.size
        by_cases hlt : k < k2
        · obtain ⟨b1, o1, x, rfl, hx, hc1⟩ := (HI.out.below Hb.out).getm HK2.out hlt
          obtain ⟨e1, e2, e3⟩ := inputsFrom_even G 0 x (List.mem_of_getElem? hx)
          have HX := Lib.hid hx; clear hx
          have HBw := Lib.hid (bthen HB2.out Hb.out)
          have HLC := Lib.hid (litC A n2 c m x wr (Lib.hid (hr.out.below HBw.out)) hl hn ⟨by omega, by omega⟩)
          have HNX : Hid (∀ (b : Bool) (A3 : Option Addr) (c3 : Nat) (w1 : World), inpV m model x = b → w1.ownsRow w2.heap.size 4 1 (.slice A3 (k + 1) c3) (k + 1) (((((inputsOf G).take k).map (inpV m model)).map Value.bool) ++ [.bool b]) → w1.ownsRow w2.heap.size 4 1 (.slice A3 (k + 1) c3) (k + 1) ((((inputsOf G).take (k + 1)).map (inpV m model)).map Value.bool)) := by
            intro b A3 c3 w1 hb h
            rw [take_snoc HX.out, List.map_append, List.map_append]
            simp only [List.map_cons, List.map_nil, hb]
            exact h
          obtain ⟨L, hL⟩ : ∃ L, litI m x = L := ⟨_, rfl⟩
          rw [hL] at HLC
          by_cases hL0 : L = 0
          · subst hL0
            rw [show decide ((0 : Int) ≠ 0) = false from rfl] at HLC
            have HV : Hid (inpV m model x = false) := by show _ = _; simp [inpV, hL]
            clear hL
            go_wp2_with fail
            refine HLC.out.mono ?_
            rintro e w' ⟨rfl, rfl⟩
            clear HLC
            go_wp2_with (at_builtin; refine wpList_app el_bool rfl (.tmp 41) (.tmp 52) rfl w2.heap.size (.slice A' k c') k _ rfl (Ho.out.alloc _) (some ⟨wr.heap.size, 0, none⟩) 1 1 [.bool false] rfl (Rd.new _ #[_] _) rfl (by simp [Value.oneCell']) (by omega) (by simp; omega) ?_; intro A3 c3 w3 ho1 hg1 hat1; have Ho1 := Lib.hid ho1; have Hg1 := Lib.hid hg1; clear ho1 hg1 hat1)
            go_roundw
            case rel => exact ⟨k + 1, A3, c3, by omega, by go_num, rfl, HNX.out false A3 c3 _ HV.out Ho1.out, own_step Hb.out Ho.out _ Hg1.out⟩
            case measure => simp [intOf]; omega
          · rw [decide_eq_true hL0] at HLC
            obtain ⟨f1, f2⟩ := litI_even e1 (by rw [hL]; exact hL0)
            rw [hL, hl.out] at f2
            rw [hL] at f1
            obtain ⟨q, rfl⟩ : ∃ q : Nat, L = (q : Int) + 1 := ⟨(L - 1).toNat, by omega⟩
            obtain ⟨b2, o2, u, rfl, hu, hc2⟩ := (hr2.out.below HBw.out).getm hl2.out (show q < n2 by omega)
            have HV : Hid (inpV m model x = u) := by
              show _ = _
              have : ((q : Int) + 1).toNat - 1 = q := by omega
              rw [inpV, hL, decide_eq_true hL0, Bool.true_and, List.getD_eq_getElem?_getD, this, hu]
              rfl
            clear hL hu
            go_wp2_with fail
            refine HLC.out.mono ?_
            rintro e w' ⟨rfl, rfl⟩
            clear HLC
            go_wp2_with fail
            refine (litsVar ((q : Int) + 1) wr f1 (by omega)).mono ?_
            rintro e w' ⟨rfl, rfl⟩
            have hmx : max ((q : Int) + 1) 1 = (q : Int) + 1 := by omega
            go_wp2_with (at_builtin; refine wpList_app el_bool rfl (.tmp 41) (.tmp 52) rfl w2.heap.size (.slice A' k c') k _ rfl (Ho.out.alloc _) (some ⟨wr.heap.size, 0, none⟩) 1 1 [.bool u] rfl (Rd.new _ #[_] _) rfl (by simp [Value.oneCell']) (by omega) (by simp; omega) ?_; intro A3 c3 w3 ho1 hg1 hat1; have Ho1 := Lib.hid ho1; have Hg1 := Lib.hid hg1; clear ho1 hg1 hat1)
            go_roundw
            case rel => exact ⟨k + 1, A3, c3, by omega, by go_num, rfl, HNX.out u A3 c3 _ HV.out Ho1.out, own_step Hb.out Ho.out _ Hg1.out⟩
            case measure => simp [intOf]; omega
        · obtain rfl : k2 = k := by omega
          go_wp2
          go_ret2
          have h := Ho.out
          rw [List.take_of_length_le (by rw [HK2.out]; omega)] at h
          exact ⟨A', k2, c', rfl, fun _ => ⟨by rw [inpM, List.length_map]; exact HK2.out, Rd.of_own h⟩, bthen HB2.out Hb.out⟩
    · obtain rfl : T = 272 := by rw [← HT.out, inpErr, hmr, hl.out, if_pos rfl, if_neg hnn]
      have hne : ((n2 : Int) != (n : Int)) = true := by simp; omega
      clear hmr
      go_wp2
      go_ret2
      exact ⟨none, 0, 0, rfl, fun h => by omega, HB1.out⟩
end Go.Proofs.Ytamoniljgifggaa
