/-
  Contract of (*aig.Graph).and (written by gen/and.py).
-/
import Derived.Test.YtamoniljgifggaaMap
import Derived.Test.YtamoniljgifggaaPut
import Derived.Test.YtamoniljgifggaaSmall
import Derived.Deep.RegionHeld3
import Derived.Test.YtamoniljgifggaaOne
import Derived.IntWalk
set_option linter.unusedVariables false
set_option linter.unusedSimpArgs false
namespace Go.Proofs.Ytamoniljgifggaa
open Go.RowKit

/-- What is there behind an and that made a node. -/
def AndOk (B g mb n : Nat) (M : Int) (iv : Value) (xs : List Value) (L : List (Int × Int × Int)) (lo hi : Int) (nb : Nat) (w : World) (e : Ending) (w' : World) : Prop :=
  ∃ nb' c' d, e = .returned (.tuple #[.int .i64 (2 * n), .int .i64 0]) ∧ Bk w' g 45 #[.int .i64 M, .slice (some ⟨nb', 0, none⟩) (n + 1) c', .map (some mb), iv] ∧
    w'.ownsRow B 141 4 (.slice (some ⟨nb', 0, none⟩) (n + 1) c') (n + 1) (xs ++ [.int .u8 3, .int .i64 lo, .int .i64 hi, .int .i64 d]) ∧
    MapAt w' mb (L ++ [(lo, hi, (n : Int))]) ∧ (nb' = nb ∨ w.heap.size ≤ nb') ∧ Fr (fun b => b = g ∨ b = nb ∨ b = mb) w w'

set_option maxHeartbeats 400000 in
set_option maxRecDepth 100000 in
theorem and_E0 (g : Nat) (a : Int) (w : World) (ha : 0 ≤ a) (ha' : a ≤ 1000000) (h0 : (a == 0) = true) :
    Calls Try.prog 89 #[.pointer (some ⟨g, 0, none⟩), .int .i64 a, .int .i64 a] w fun e w' => e = .returned (.tuple #[.int .i64 0, .int .i64 0]) ∧ Below w.heap.size w w' := by
  go_enter Try.func89, Try.ntmps89
  go_wp2_with (go_at_call 102; refine (aigNot _ _ (by omega) (by omega)).mono ?_; rintro e w' ⟨rfl, rfl⟩)
  go_ret2
  exact ⟨rfl, (Below.refl _ w).alloc (Nat.le_refl _) _⟩

set_option maxHeartbeats 400000 in
set_option maxRecDepth 100000 in
theorem and_E1 (g : Nat) (a : Int) (w : World) (ha : 0 ≤ a) (ha' : a ≤ 1000000) (h0 : (a == 0) = false) (h1 : (a == notI a) = false) (h2 : (a == 1) = true) :
    Calls Try.prog 89 #[.pointer (some ⟨g, 0, none⟩), .int .i64 a, .int .i64 a] w fun e w' => e = .returned (.tuple #[.int .i64 a, .int .i64 0]) ∧ Below w.heap.size w w' := by
  go_enter Try.func89, Try.ntmps89
  go_wp2_with (go_at_call 102; refine (aigNot _ _ (by omega) (by omega)).mono ?_; rintro e w' ⟨rfl, rfl⟩)
  go_ret2
  exact ⟨rfl, (Below.refl _ w).alloc (Nat.le_refl _) _⟩

set_option maxHeartbeats 400000 in
set_option maxRecDepth 100000 in
theorem and_E2 (g : Nat) (a : Int) (w : World) (ha : 0 ≤ a) (ha' : a ≤ 1000000) (h0 : (a == 0) = false) (h1 : (a == notI a) = false) (h2 : (a == 1) = false) :
    Calls Try.prog 89 #[.pointer (some ⟨g, 0, none⟩), .int .i64 a, .int .i64 a] w fun e w' => e = .returned (.tuple #[.int .i64 a, .int .i64 0]) ∧ Below w.heap.size w w' := by
  go_enter Try.func89, Try.ntmps89
  go_wp2_with (go_at_call 102; refine (aigNot _ _ (by omega) (by omega)).mono ?_; rintro e w' ⟨rfl, rfl⟩)
  go_ret2
  exact ⟨rfl, (Below.refl _ w).alloc (Nat.le_refl _) _⟩


set_option maxHeartbeats 400000 in
set_option maxRecDepth 100000 in
theorem and_A1_ab (g : Nat) (a b : Int) (w : World) (ha : 0 ≤ a) (ha' : a ≤ 1000000) (hb : 0 ≤ b) (hb' : b ≤ 1000000) (hab : a < b) (h0 : (a == 0) = true) :
    Calls Try.prog 89 #[.pointer (some ⟨g, 0, none⟩), .int .i64 a, .int .i64 b] w fun e w' => e = .returned (.tuple #[.int .i64 0, .int .i64 0]) ∧ Below w.heap.size w w' := by
  go_enter Try.func89, Try.ntmps89
  go_wp2_with (go_at_call 102; refine (aigNot _ _ (by omega) (by omega)).mono ?_; rintro e w' ⟨rfl, rfl⟩)
  go_ret2
  exact ⟨rfl, (Below.refl _ w).alloc (Nat.le_refl _) _⟩

set_option maxHeartbeats 400000 in
set_option maxRecDepth 100000 in
theorem and_A2_ab (g : Nat) (a b : Int) (w : World) (ha : 0 ≤ a) (ha' : a ≤ 1000000) (hb : 0 ≤ b) (hb' : b ≤ 1000000) (hab : a < b) (h0 : (a == 0) = false) (h1 : (a == notI b) = true) :
    Calls Try.prog 89 #[.pointer (some ⟨g, 0, none⟩), .int .i64 a, .int .i64 b] w fun e w' => e = .returned (.tuple #[.int .i64 0, .int .i64 0]) ∧ Below w.heap.size w w' := by
  go_enter Try.func89, Try.ntmps89
  go_wp2_with (go_at_call 102; refine (aigNot _ _ (by omega) (by omega)).mono ?_; rintro e w' ⟨rfl, rfl⟩)
  go_ret2
  exact ⟨rfl, (Below.refl _ w).alloc (Nat.le_refl _) _⟩

set_option maxHeartbeats 400000 in
set_option maxRecDepth 100000 in
theorem and_B_ab (g : Nat) (a b : Int) (w : World) (ha : 0 ≤ a) (ha' : a ≤ 1000000) (hb : 0 ≤ b) (hb' : b ≤ 1000000) (hab : a < b) (h0 : (a == 0) = false) (h1 : (a == notI b) = false) (h2 : (a == 1) = true) :
    Calls Try.prog 89 #[.pointer (some ⟨g, 0, none⟩), .int .i64 a, .int .i64 b] w fun e w' => e = .returned (.tuple #[.int .i64 b, .int .i64 0]) ∧ Below w.heap.size w w' := by
  go_enter Try.func89, Try.ntmps89
  go_wp2_with (go_at_call 102; refine (aigNot _ _ (by omega) (by omega)).mono ?_; rintro e w' ⟨rfl, rfl⟩)
  go_ret2
  exact ⟨rfl, (Below.refl _ w).alloc (Nat.le_refl _) _⟩

set_option maxHeartbeats 400000 in
set_option maxRecDepth 100000 in
theorem and_C_ab (g mb : Nat) (L : List (Int × Int × Int)) (v : Int) (a b : Int) (w : World) (ha : 0 ≤ a) (ha' : a ≤ 1000000) (hb : 0 ≤ b) (hb' : b ≤ 1000000) (hab : a < b) (h0 : (a == 0) = false) (h1 : (a == notI b) = false) (h2 : (a == 1) = false) (h3 : (a == b) = false)
    (hgl : g < w.heap.size) (hm : w.cell? ⟨g, 2, none⟩ = some (.map (some mb))) (hM : Hid (MapAt w mb L)) (hl : Hid (lookS L a b = some v)) (hv : 0 ≤ v) (hv' : v ≤ 1000000) :
    Calls Try.prog 89 #[.pointer (some ⟨g, 0, none⟩), .int .i64 a, .int .i64 b] w fun e w' => e = .returned (.tuple #[.int .i64 (2 * v), .int .i64 0]) ∧ Below w.heap.size w w' := by
  have hlk : ∀ n, (Instr.lookup 42 (.map (some mb)) (.agg #[.int .i64 a, .int .i64 b]) true).run Try.prog ((w.alloc (.cells #[.int .i64 a, .int .i64 b] 139)).drewN n) = .ok (.tuple #[.int .i64 v, .bool true]) ((w.alloc (.cells #[.int .i64 a, .int .i64 b] 139)).drewN n) := by
    intro n
    have h := run_lookup_sides ((w.alloc (.cells #[.int .i64 a, .int .i64 b] 139)).drewN n) mb L (hM.out.fr (((Fr.refl (fun _ => False) w).alloc _).drewN n) (fun h => h)) a b
    rw [hl.out] at h
    exact h
  go_enter Try.func89, Try.ntmps89
  go_wp2_with (go_at_call 102; refine (aigNot _ _ (by omega) (by omega)).mono ?_; rintro e w' ⟨rfl, rfl⟩)
  go_quiet (fail)
  go_wp2
  go_ret2
  exact ⟨rfl, bdrewN ((Below.refl _ w).alloc (Nat.le_refl _) _) _⟩

set_option maxHeartbeats 4000000 in
set_option maxRecDepth 100000 in
theorem and_D_ab (B g nb mb c n : Nat) (M : Int) (iv : Value) (xs : List Value) (L : List (Int × Int × Int)) (d1 d2 : Int) (a b : Int) (w : World) (ha : 0 ≤ a) (ha' : a ≤ 1000000) (hb : 0 ≤ b) (hb' : b ≤ 1000000) (hab : a < b) (h0 : (a == 0) = false) (h1 : (a == notI b) = false) (h2 : (a == 1) = false) (h3 : (a == b) = false)
    (hg : Hid (Bk w g 45 #[.int .i64 M, .slice (some ⟨nb, 0, none⟩) n c, .map (some mb), iv]))
    (hown : Hid (w.ownsRow B 141 4 (.slice (some ⟨nb, 0, none⟩) n c) n xs)) (hB : B ≤ w.heap.size) (hlt : (n : Int) < M) (hM' : M ≤ 65536)
    (hd1 : w.cell? ⟨nb, (a / 2).toNat * 4 + 3, none⟩ = some (.int .i64 d1)) (hd2 : w.cell? ⟨nb, (b / 2).toNat * 4 + 3, none⟩ = some (.int .i64 d2)) (hna : a < 2 * n) (hnb : b < 2 * n) 
    (hM : Hid (MapAt w mb L)) (hl : Hid (lookS L a b = none)) :
    Calls Try.prog 89 #[.pointer (some ⟨g, 0, none⟩), .int .i64 a, .int .i64 b] w (AndOk B g mb n M iv xs L a b nb w) := by
  have hlk : ∀ n, (Instr.lookup 42 (.map (some mb)) (.agg #[.int .i64 a, .int .i64 b]) true).run Try.prog ((w.alloc (.cells #[.int .i64 a, .int .i64 b] 139)).drewN n) = .ok (.tuple #[.int .i64 0, .bool false]) ((w.alloc (.cells #[.int .i64 a, .int .i64 b] 139)).drewN n) := by
    intro n
    have h := run_lookup_sides ((w.alloc (.cells #[.int .i64 a, .int .i64 b] 139)).drewN n) mb L (hM.out.fr (((Fr.refl (fun _ => False) w).alloc _).drewN n) (fun h => h)) a b
    rw [hl.out] at h
    exact h
  have hgl : g < w.heap.size := hg.out.lt
  have hnl : nb < w.heap.size := by obtain ⟨cur, hcur⟩ := own_bk hown.out; exact hcur.lt
  have c1 : w.cell? ⟨g, 1, none⟩ = some (.slice (some ⟨nb, 0, none⟩) n c) := hg.out.cell 1
  have c2 : w.cell? ⟨g, 2, none⟩ = some (.map (some mb)) := hg.out.cell 2
  go_enter Try.func89, Try.ntmps89
  go_wp2_with (go_at_call 102; refine (aigNot _ _ (by omega) (by omega)).mono ?_; rintro e w' ⟨rfl, rfl⟩)
  go_quiet (fail)
  clear hlk
  go_wp2
  have hg1 := (hg.out.alloc (.cells #[.int .i64 a, .int .i64 b] 139)).drewN nq
  have hb1 := (Bk.new w 139 #[.int .i64 a, .int .i64 b]).drewN nq
  have ho1 : ((w.alloc (.cells #[.int .i64 a, .int .i64 b] 139)).drewN nq).ownsRow B 141 4 (.slice (some ⟨nb, 0, none⟩) n c) n xs := hown.out.alloc _
  have hf1 : Fr (fun b => b = g ∨ b = nb ∨ b = mb) w ((w.alloc (.cells #[.int .i64 a, .int .i64 b] 139)).drewN nq) := ((Fr.refl _ w).alloc _).drewN _
  have hm1 : MapAt ((w.alloc (.cells #[.int .i64 a, .int .i64 b] 139)).drewN nq) mb L := hM.out.fr (((Fr.refl (fun _ => False) w).alloc _).drewN nq) (fun h => h)
  have hs1 : B ≤ ((w.alloc (.cells #[.int .i64 a, .int .i64 b] 139)).drewN nq).heap.size := by simp; omega
  have e1 : ((w.alloc (.cells #[.int .i64 a, .int .i64 b] 139)).drewN nq).cell? ⟨nb, (a / 2).toNat * 4 + 3, none⟩ = some (.int .i64 d1) := (World.cell?_alloc_lt w _ _ hnl).trans hd1
  have e2 : ((w.alloc (.cells #[.int .i64 a, .int .i64 b] 139)).drewN nq).cell? ⟨nb, (b / 2).toNat * 4 + 3, none⟩ = some (.int .i64 d2) := (World.cell?_alloc_lt w _ _ hnl).trans hd2
  generalize ((w.alloc (.cells #[.int .i64 a, .int .i64 b] 139)).drewN nq) = W at *
  clear c1 c2 hd1 hd2
  have c1 : W.cell? ⟨g, 1, none⟩ = some (.slice (some ⟨nb, 0, none⟩) n c) := hg1.cell 1
  have c2 : W.cell? ⟨g, 2, none⟩ = some (.map (some mb)) := hg1.cell 2
  have k0 : W.cell? ⟨w.heap.size, 0, none⟩ = some (.int .i64 a) := hb1.cell 0
  have k1 : W.cell? ⟨w.heap.size, 1, none⟩ = some (.int .i64 b) := hb1.cell 1
  have Hg1 := Lib.hid hg1; have Hb1 := Lib.hid hb1; have Ho1 := Lib.hid ho1; have Hf1 := Lib.hid hf1; have Hm1 := Lib.hid hm1
  clear hg1 hb1 ho1 hf1 hm1
  have ia : a / 2 < (n : Int) := by omega
  have ia0 : 0 ≤ a / 2 := by omega
  have ib : b / 2 < (n : Int) := by omega
  have ib0 : 0 ≤ b / 2 := by omega
  have ta : a.tdiv 2 = a / 2 := Int.tdiv_eq_ediv_of_nonneg ha
  have tb : b.tdiv 2 = b / 2 := Int.tdiv_eq_ediv_of_nonneg hb
  have wa : IntKind.i64.wrap (a / 2) = a / 2 := IntWalk.i64_in _ (by omega)
  have wb : IntKind.i64.wrap (b / 2) = b / 2 := IntWalk.i64_in _ (by omega)
  obtain ⟨d, hd⟩ : ∃ d, (if d1 < d2 then d2 else d1) = d := ⟨_, rfl⟩
  refine wp_region_one 23 (by kernel_rfl) (by kernel_rfl) ?_
  simp only [List.take_succ_cons, List.take_zero, List.drop_succ_cons, List.drop_zero]
  repeat still_step
  refine wpStill_nil ?_
  refine wpOp_here rfl rfl (fun K hK => ?_)
  go_simp
  go_at_call 68
  refine (put_ok B g nb mb c n M iv xs _ _ _ _ _ Hg1.out.drew Ho1.out hs1 hlt hM').mono ?_
  rintro e w1 ⟨nb', c', rfl, hp1, hp2, hp3, hp4⟩
  have hne1 : nb ≠ mb := by obtain ⟨cur, hcur⟩ := own_bk Ho1.out; exact Hm1.out.ne hcur
  have hne2 : g ≠ mb := Hm1.out.ne Hg1.out
  have hm2 : MapAt w1.drew mb L := ((Hm1.out.fr ((Fr.refl (fun _ => False) W).drew) (fun h => h)).fr hp4 (by omega)).fr ((Fr.refl (fun _ => False) w1).drew) (fun h => h)
  obtain ⟨ob, hup, hm3⟩ := run_update_sides w1.drew mb L hm2 a b n hl.out
  have f1 : Fr (fun b => b = g ∨ b = nb ∨ b = mb) w w1 := (Hf1.out.drew).then hp4 (fun i _ h => by rcases h with h | h; exact .inl h; exact .inr (.inl h))
  have hmb : w.heap.size < w1.heap.size := Nat.lt_of_lt_of_le Hb1.out.lt (by simpa using hp4.size)
  have q0 : w1.cell? ⟨w.heap.size, 0, none⟩ = some (.int .i64 a) := ((Hb1.out.drew).fr hp4 (by omega)).cell 0
  have q1 : w1.cell? ⟨w.heap.size, 1, none⟩ = some (.int .i64 b) := ((Hb1.out.drew).fr hp4 (by omega)).cell 1
  have q2 : w1.cell? ⟨g, 2, none⟩ = some (.map (some mb)) := hp1.cell 2
  have Hp1 := Lib.hid hp1; have Hp2 := Lib.hid hp2; have Hp3 := Lib.hid hp3; have Hf := Lib.hid f1; have Hm3 := Lib.hid hm3
  have HW : Hid (w.heap.size ≤ W.drew.heap.size) := Nat.le_of_lt Hb1.out.lt
  clear hp1 hp2 hp3 hp4 f1 hm2 hm3 ta tb wa wb hd ia ia0 ib ib0
  refine hK _ _ ?_
  clear hK K
  repeat still_step
  refine wpStill_nil ?_
  go_wp2
  have t2 : (2 * (n : Int)).tdiv 2 = n := by rw [Int.tdiv_eq_ediv_of_nonneg (by omega)]; omega
  have wn : IntKind.i64.wrap (n : Int) = n := IntWalk.i64_in _ (by omega)
  refine wp_region_one 7 (by kernel_rfl) (by kernel_rfl) ?_
  simp only [List.take_succ_cons, List.take_zero, List.drop_succ_cons, List.drop_zero]
  repeat still_step
  refine wpStill_nil ?_
  refine wpOp_here rfl rfl (fun K hK => ?_)
  go_simp
  refine hK _ _ ?_
  clear hK K hup
  refine wpStill_nil ?_
  go_wp2
  go_ret2
  have fs : Fr (fun b => b = mb) w1.drew (ChangeMaps.setBlock w1.drew mb ob) := setBlock_fr (Fr.refl _ _) ob rfl
  have hml : mb < W.drew.heap.size := Hm1.out.lt
  have h3 := Hp3.out
  have hw := HW.out
  refine ⟨nb', c', IntKind.i64.wrap (1 + d), rfl, Hp1.out.drew.fr fs hne2, ?_, Hm3.out, by omega, setBlock_fr Hf.out.drew ob (.inr (.inr rfl))⟩
  exact own_fr (w := w1.drew) Hp2.out fs (fun k hk => by simp [Value.ownBlock] at hk; omega)


set_option maxHeartbeats 400000 in
set_option maxRecDepth 100000 in
theorem and_A1_ba (g : Nat) (a b : Int) (w : World) (ha : 0 ≤ a) (ha' : a ≤ 1000000) (hb : 0 ≤ b) (hb' : b ≤ 1000000) (hab : b < a) (h0 : (b == 0) = true) :
    Calls Try.prog 89 #[.pointer (some ⟨g, 0, none⟩), .int .i64 a, .int .i64 b] w fun e w' => e = .returned (.tuple #[.int .i64 0, .int .i64 0]) ∧ Below w.heap.size w w' := by
  go_enter Try.func89, Try.ntmps89
  go_wp2_with (go_at_call 102; refine (aigNot _ _ (by omega) (by omega)).mono ?_; rintro e w' ⟨rfl, rfl⟩)
  go_ret2
  exact ⟨rfl, (Below.refl _ w).alloc (Nat.le_refl _) _⟩

set_option maxHeartbeats 400000 in
set_option maxRecDepth 100000 in
theorem and_A2_ba (g : Nat) (a b : Int) (w : World) (ha : 0 ≤ a) (ha' : a ≤ 1000000) (hb : 0 ≤ b) (hb' : b ≤ 1000000) (hab : b < a) (h0 : (b == 0) = false) (h1 : (a == notI b) = true) :
    Calls Try.prog 89 #[.pointer (some ⟨g, 0, none⟩), .int .i64 a, .int .i64 b] w fun e w' => e = .returned (.tuple #[.int .i64 0, .int .i64 0]) ∧ Below w.heap.size w w' := by
  go_enter Try.func89, Try.ntmps89
  go_wp2_with (go_at_call 102; refine (aigNot _ _ (by omega) (by omega)).mono ?_; rintro e w' ⟨rfl, rfl⟩)
  go_ret2
  exact ⟨rfl, (Below.refl _ w).alloc (Nat.le_refl _) _⟩

set_option maxHeartbeats 400000 in
set_option maxRecDepth 100000 in
theorem and_B_ba (g : Nat) (a b : Int) (w : World) (ha : 0 ≤ a) (ha' : a ≤ 1000000) (hb : 0 ≤ b) (hb' : b ≤ 1000000) (hab : b < a) (h0 : (b == 0) = false) (h1 : (a == notI b) = false) (h2 : (b == 1) = true) :
    Calls Try.prog 89 #[.pointer (some ⟨g, 0, none⟩), .int .i64 a, .int .i64 b] w fun e w' => e = .returned (.tuple #[.int .i64 a, .int .i64 0]) ∧ Below w.heap.size w w' := by
  go_enter Try.func89, Try.ntmps89
  go_wp2_with (go_at_call 102; refine (aigNot _ _ (by omega) (by omega)).mono ?_; rintro e w' ⟨rfl, rfl⟩)
  go_ret2
  exact ⟨rfl, (Below.refl _ w).alloc (Nat.le_refl _) _⟩

set_option maxHeartbeats 400000 in
set_option maxRecDepth 100000 in
theorem and_C_ba (g mb : Nat) (L : List (Int × Int × Int)) (v : Int) (a b : Int) (w : World) (ha : 0 ≤ a) (ha' : a ≤ 1000000) (hb : 0 ≤ b) (hb' : b ≤ 1000000) (hab : b < a) (h0 : (b == 0) = false) (h1 : (a == notI b) = false) (h2 : (b == 1) = false) (h3 : (a == b) = false)
    (hgl : g < w.heap.size) (hm : w.cell? ⟨g, 2, none⟩ = some (.map (some mb))) (hM : Hid (MapAt w mb L)) (hl : Hid (lookS L b a = some v)) (hv : 0 ≤ v) (hv' : v ≤ 1000000) :
    Calls Try.prog 89 #[.pointer (some ⟨g, 0, none⟩), .int .i64 a, .int .i64 b] w fun e w' => e = .returned (.tuple #[.int .i64 (2 * v), .int .i64 0]) ∧ Below w.heap.size w w' := by
  have hlk : ∀ n, (Instr.lookup 42 (.map (some mb)) (.agg #[.int .i64 b, .int .i64 a]) true).run Try.prog ((w.alloc (.cells #[.int .i64 b, .int .i64 a] 139)).drewN n) = .ok (.tuple #[.int .i64 v, .bool true]) ((w.alloc (.cells #[.int .i64 b, .int .i64 a] 139)).drewN n) := by
    intro n
    have h := run_lookup_sides ((w.alloc (.cells #[.int .i64 b, .int .i64 a] 139)).drewN n) mb L (hM.out.fr (((Fr.refl (fun _ => False) w).alloc _).drewN n) (fun h => h)) b a
    rw [hl.out] at h
    exact h
  go_enter Try.func89, Try.ntmps89
  go_wp2_with (go_at_call 102; refine (aigNot _ _ (by omega) (by omega)).mono ?_; rintro e w' ⟨rfl, rfl⟩)
  go_quiet (fail)
  go_wp2
  go_ret2
  exact ⟨rfl, bdrewN ((Below.refl _ w).alloc (Nat.le_refl _) _) _⟩

set_option maxHeartbeats 4000000 in
set_option maxRecDepth 100000 in
theorem and_D_ba (B g nb mb c n : Nat) (M : Int) (iv : Value) (xs : List Value) (L : List (Int × Int × Int)) (d1 d2 : Int) (a b : Int) (w : World) (ha : 0 ≤ a) (ha' : a ≤ 1000000) (hb : 0 ≤ b) (hb' : b ≤ 1000000) (hab : b < a) (h0 : (b == 0) = false) (h1 : (a == notI b) = false) (h2 : (b == 1) = false) (h3 : (a == b) = false)
    (hg : Hid (Bk w g 45 #[.int .i64 M, .slice (some ⟨nb, 0, none⟩) n c, .map (some mb), iv]))
    (hown : Hid (w.ownsRow B 141 4 (.slice (some ⟨nb, 0, none⟩) n c) n xs)) (hB : B ≤ w.heap.size) (hlt : (n : Int) < M) (hM' : M ≤ 65536)
    (hd1 : w.cell? ⟨nb, (a / 2).toNat * 4 + 3, none⟩ = some (.int .i64 d1)) (hd2 : w.cell? ⟨nb, (b / 2).toNat * 4 + 3, none⟩ = some (.int .i64 d2)) (hna : a < 2 * n) (hnb : b < 2 * n) 
    (hM : Hid (MapAt w mb L)) (hl : Hid (lookS L b a = none)) :
    Calls Try.prog 89 #[.pointer (some ⟨g, 0, none⟩), .int .i64 a, .int .i64 b] w (AndOk B g mb n M iv xs L b a nb w) := by
  have hlk : ∀ n, (Instr.lookup 42 (.map (some mb)) (.agg #[.int .i64 b, .int .i64 a]) true).run Try.prog ((w.alloc (.cells #[.int .i64 b, .int .i64 a] 139)).drewN n) = .ok (.tuple #[.int .i64 0, .bool false]) ((w.alloc (.cells #[.int .i64 b, .int .i64 a] 139)).drewN n) := by
    intro n
    have h := run_lookup_sides ((w.alloc (.cells #[.int .i64 b, .int .i64 a] 139)).drewN n) mb L (hM.out.fr (((Fr.refl (fun _ => False) w).alloc _).drewN n) (fun h => h)) b a
    rw [hl.out] at h
    exact h
  have hgl : g < w.heap.size := hg.out.lt
  have hnl : nb < w.heap.size := by obtain ⟨cur, hcur⟩ := own_bk hown.out; exact hcur.lt
  have c1 : w.cell? ⟨g, 1, none⟩ = some (.slice (some ⟨nb, 0, none⟩) n c) := hg.out.cell 1
  have c2 : w.cell? ⟨g, 2, none⟩ = some (.map (some mb)) := hg.out.cell 2
  go_enter Try.func89, Try.ntmps89
  go_wp2_with (go_at_call 102; refine (aigNot _ _ (by omega) (by omega)).mono ?_; rintro e w' ⟨rfl, rfl⟩)
  go_quiet (fail)
  clear hlk
  go_wp2
  have hg1 := (hg.out.alloc (.cells #[.int .i64 b, .int .i64 a] 139)).drewN nq
  have hb1 := (Bk.new w 139 #[.int .i64 b, .int .i64 a]).drewN nq
  have ho1 : ((w.alloc (.cells #[.int .i64 b, .int .i64 a] 139)).drewN nq).ownsRow B 141 4 (.slice (some ⟨nb, 0, none⟩) n c) n xs := hown.out.alloc _
  have hf1 : Fr (fun b => b = g ∨ b = nb ∨ b = mb) w ((w.alloc (.cells #[.int .i64 b, .int .i64 a] 139)).drewN nq) := ((Fr.refl _ w).alloc _).drewN _
  have hm1 : MapAt ((w.alloc (.cells #[.int .i64 b, .int .i64 a] 139)).drewN nq) mb L := hM.out.fr (((Fr.refl (fun _ => False) w).alloc _).drewN nq) (fun h => h)
  have hs1 : B ≤ ((w.alloc (.cells #[.int .i64 b, .int .i64 a] 139)).drewN nq).heap.size := by simp; omega
  have e1 : ((w.alloc (.cells #[.int .i64 b, .int .i64 a] 139)).drewN nq).cell? ⟨nb, (a / 2).toNat * 4 + 3, none⟩ = some (.int .i64 d1) := (World.cell?_alloc_lt w _ _ hnl).trans hd1
  have e2 : ((w.alloc (.cells #[.int .i64 b, .int .i64 a] 139)).drewN nq).cell? ⟨nb, (b / 2).toNat * 4 + 3, none⟩ = some (.int .i64 d2) := (World.cell?_alloc_lt w _ _ hnl).trans hd2
  generalize ((w.alloc (.cells #[.int .i64 b, .int .i64 a] 139)).drewN nq) = W at *
  clear c1 c2 hd1 hd2
  have c1 : W.cell? ⟨g, 1, none⟩ = some (.slice (some ⟨nb, 0, none⟩) n c) := hg1.cell 1
  have c2 : W.cell? ⟨g, 2, none⟩ = some (.map (some mb)) := hg1.cell 2
  have k0 : W.cell? ⟨w.heap.size, 0, none⟩ = some (.int .i64 b) := hb1.cell 0
  have k1 : W.cell? ⟨w.heap.size, 1, none⟩ = some (.int .i64 a) := hb1.cell 1
  have Hg1 := Lib.hid hg1; have Hb1 := Lib.hid hb1; have Ho1 := Lib.hid ho1; have Hf1 := Lib.hid hf1; have Hm1 := Lib.hid hm1
  clear hg1 hb1 ho1 hf1 hm1
  have ia : a / 2 < (n : Int) := by omega
  have ia0 : 0 ≤ a / 2 := by omega
  have ib : b / 2 < (n : Int) := by omega
  have ib0 : 0 ≤ b / 2 := by omega
  have ta : a.tdiv 2 = a / 2 := Int.tdiv_eq_ediv_of_nonneg ha
  have tb : b.tdiv 2 = b / 2 := Int.tdiv_eq_ediv_of_nonneg hb
  have wa : IntKind.i64.wrap (a / 2) = a / 2 := IntWalk.i64_in _ (by omega)
  have wb : IntKind.i64.wrap (b / 2) = b / 2 := IntWalk.i64_in _ (by omega)
  obtain ⟨d, hd⟩ : ∃ d, (if d1 < d2 then d2 else d1) = d := ⟨_, rfl⟩
  refine wp_region_one 23 (by kernel_rfl) (by kernel_rfl) ?_
  simp only [List.take_succ_cons, List.take_zero, List.drop_succ_cons, List.drop_zero]
  repeat still_step
  refine wpStill_nil ?_
  refine wpOp_here rfl rfl (fun K hK => ?_)
  go_simp
  go_at_call 68
  refine (put_ok B g nb mb c n M iv xs _ _ _ _ _ Hg1.out.drew Ho1.out hs1 hlt hM').mono ?_
  rintro e w1 ⟨nb', c', rfl, hp1, hp2, hp3, hp4⟩
  have hne1 : nb ≠ mb := by obtain ⟨cur, hcur⟩ := own_bk Ho1.out; exact Hm1.out.ne hcur
  have hne2 : g ≠ mb := Hm1.out.ne Hg1.out
  have hm2 : MapAt w1.drew mb L := ((Hm1.out.fr ((Fr.refl (fun _ => False) W).drew) (fun h => h)).fr hp4 (by omega)).fr ((Fr.refl (fun _ => False) w1).drew) (fun h => h)
  obtain ⟨ob, hup, hm3⟩ := run_update_sides w1.drew mb L hm2 b a n hl.out
  have f1 : Fr (fun b => b = g ∨ b = nb ∨ b = mb) w w1 := (Hf1.out.drew).then hp4 (fun i _ h => by rcases h with h | h; exact .inl h; exact .inr (.inl h))
  have hmb : w.heap.size < w1.heap.size := Nat.lt_of_lt_of_le Hb1.out.lt (by simpa using hp4.size)
  have q0 : w1.cell? ⟨w.heap.size, 0, none⟩ = some (.int .i64 b) := ((Hb1.out.drew).fr hp4 (by omega)).cell 0
  have q1 : w1.cell? ⟨w.heap.size, 1, none⟩ = some (.int .i64 a) := ((Hb1.out.drew).fr hp4 (by omega)).cell 1
  have q2 : w1.cell? ⟨g, 2, none⟩ = some (.map (some mb)) := hp1.cell 2
  have Hp1 := Lib.hid hp1; have Hp2 := Lib.hid hp2; have Hp3 := Lib.hid hp3; have Hf := Lib.hid f1; have Hm3 := Lib.hid hm3
  have HW : Hid (w.heap.size ≤ W.drew.heap.size) := Nat.le_of_lt Hb1.out.lt
  clear hp1 hp2 hp3 hp4 f1 hm2 hm3 ta tb wa wb hd ia ia0 ib ib0
  refine hK _ _ ?_
  clear hK K
  repeat still_step
  refine wpStill_nil ?_
  go_wp2
  have t2 : (2 * (n : Int)).tdiv 2 = n := by rw [Int.tdiv_eq_ediv_of_nonneg (by omega)]; omega
  have wn : IntKind.i64.wrap (n : Int) = n := IntWalk.i64_in _ (by omega)
  refine wp_region_one 7 (by kernel_rfl) (by kernel_rfl) ?_
  simp only [List.take_succ_cons, List.take_zero, List.drop_succ_cons, List.drop_zero]
  repeat still_step
  refine wpStill_nil ?_
  refine wpOp_here rfl rfl (fun K hK => ?_)
  go_simp
  refine hK _ _ ?_
  clear hK K hup
  refine wpStill_nil ?_
  go_wp2
  go_ret2
  have fs : Fr (fun b => b = mb) w1.drew (ChangeMaps.setBlock w1.drew mb ob) := setBlock_fr (Fr.refl _ _) ob rfl
  have hml : mb < W.drew.heap.size := Hm1.out.lt
  have h3 := Hp3.out
  have hw := HW.out
  refine ⟨nb', c', IntKind.i64.wrap (1 + d), rfl, Hp1.out.drew.fr fs hne2, ?_, Hm3.out, by omega, setBlock_fr Hf.out.drew ob (.inr (.inr rfl))⟩
  exact own_fr (w := w1.drew) Hp2.out fs (fun k hk => by simp [Value.ownBlock] at hk; omega)


end Go.Proofs.Ytamoniljgifggaa
