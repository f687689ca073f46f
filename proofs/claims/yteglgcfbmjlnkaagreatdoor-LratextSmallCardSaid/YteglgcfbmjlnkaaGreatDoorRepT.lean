/-
  slices.Repeat of one element, at int and at steps.
-/
import Derived.Test.YteglgcfbmjlnkaaGreatDoorReadC
import Derived.Test.YteglgcfbmjlnkaaGreatDoorOneQ
import Derived.Test.YteglgcfbmjlnkaaGreatDoorShelf
import Derived.Lib.SlBuf
import Derived.Laws.CopyRow
import Derived.Laws.CopyOwn
set_option linter.unusedVariables false
set_option linter.unusedSimpArgs false
namespace Go.Proofs.YteglgcfbmjlnkaaGreatDoor
open Go.RowKit

/-- The cells of k equal elements. -/
def rep (pat : List Value) (k : Nat) : List Value := (List.replicate k pat).flatten
theorem rep_len (pat : List Value) (k : Nat) : (rep pat k).length = k * pat.length := by
  unfold rep
  simp
theorem rep_add (pat : List Value) (a b : Nat) : rep pat (a + b) = rep pat a ++ rep pat b := by
  unfold rep
  rw [← List.replicate_append_replicate, List.flatten_append]
theorem rep_take (pat : List Value) {a b : Nat} (h : a ≤ b) : (rep pat b).take (a * pat.length) = rep pat a := by
  obtain ⟨c, rfl⟩ := Nat.exists_eq_add_of_le h
  rw [rep_add, List.take_append_of_le_length (by rw [rep_len]; exact Nat.le_refl _), List.take_of_length_le (by rw [rep_len]; exact Nat.le_refl _)]
theorem rep_one (pat : List Value) {k : Nat} (h : ∀ v ∈ pat, v.oneCell' = true) : ∀ v ∈ rep pat k, v.oneCell' = true := by
  intro v hv
  unfold rep at hv
  obtain ⟨l, hl, hv⟩ := List.mem_flatten.1 hv
  rw [(List.mem_replicate.1 hl).2] at hv
  exact h v hv
theorem run_copySz {P : Program} (W : World) (dT sT ty elem : TypeId) (sz g o dLen dCap h so sLen sCap : Nat) (cur : Array Value) (t : TypeId) (cs : List Value) (hu : P.underlying dT = some (.slice elem)) (hs : (P.info? elem).map (·.size) = some sz) (hk : Bk W g t cur) (hn : Nat.min sLen dLen * sz = cs.length)
    (hsrc : ∀ (j : Nat) v, cs[j]? = some v → W.cell? ⟨h, so + j, none⟩ = some v) (hfit : o + cs.length ≤ cur.size) (h1 : ∀ v ∈ cs, v.oneCell' = true) :
    (Builtin.copy_ #[dT, sT] ty #[.slice (some ⟨g, o, none⟩) dLen dCap, .slice (some ⟨h, so, none⟩) sLen sCap]).run P W = .ok (goInt (Nat.min sLen dLen : Nat)) (W.setRow g (cur.toList.take o ++ cs ++ cur.toList.drop (o + cs.length)).toArray) := by
  have hl := run_loadCells_list (P := P) W ⟨h, so, none⟩ cs (fun j v hj => by
    have := hsrc j v hj
    rw [show (⟨h, so, none⟩ : Addr).add j = ⟨h, so + j, none⟩ by unfold Addr.add; split <;> simp_all]
    exact this)
  have hst := run_storeCells_at P g o t cs 0 cur W hk (by simpa using hfit) h1
  cases hq : P.info? elem with
  | none => simp [hq] at hs
  | some i =>
    have hi : i.size = sz := by simpa [hq] using hs
    simp [Builtin.copy_, run_underlying hu, Builtin.lenOf, Builtin.firstCells, sizeOf, typeInfo, hq, hi, hn, hl, hst]
theorem bk_setRow {w : World} {g : Nat} {t : TypeId} {cur : Array Value} (h : Bk w g t cur) (cs : Array Value) : Bk (w.setRow g cs) g t cs := setRow_heap w g cur cs t _ h
theorem below_setRow' {B g : Nat} {w0 w : World} (hb : Below B w0 w) (hBg : B ≤ g) (cs : Array Value) : Below B w0 (w.setRow g cs) :=
  hb.trans ⟨rfl, rfl, rfl, by simp [World.setRow], fun k hk => setRow_other w g k cs (by omega)⟩
/-- The row under way: N elements, the first k are the pattern. -/
structure RepAt (w0 : World) (g : Nat) (t : TypeId) (pat : List Value) (N k : Nat) (wr : World) : Prop where
  bk : ∃ cur, Bk wr g t cur ∧ cur.size = N * pat.length ∧ cur.toList.take (k * pat.length) = rep pat k
  bel : Below w0.heap.size w0 wr
theorem RepAt.drew {w0 wr : World} {g : Nat} {t : TypeId} {pat : List Value} {N k : Nat} (h : RepAt w0 g t pat N k wr) : RepAt w0 g t pat N k wr.drew := ⟨h.bk, h.bel.drew⟩
theorem RepAt.copy {P : Program} {w0 wr : World} {g : Nat} {t : TypeId} {pat : List Value} {N k m : Nat} (h : RepAt w0 g t pat N k wr) (h0 : w0.heap.size ≤ g) (h1 : ∀ v ∈ pat, v.oneCell' = true) (hkN : k < N) (hm : Nat.min k (N - k) = m) (dT sT ty : TypeId) (c c' : Nat) (elem : TypeId) (hu : P.underlying dT = some (.slice elem)) (hs : (P.info? elem).map (·.size) = some pat.length) :
    ∃ w', (Builtin.copy_ #[dT, sT] ty #[.slice (some ⟨g, k * pat.length, none⟩) (N - k) c, .slice (some ⟨g, 0, none⟩) k c']).run P wr = .ok (goInt (m : Nat)) w' ∧ RepAt w0 g t pat N (k + m) w' := by
  obtain ⟨cur, hk, hsz, htk⟩ := h.bk
  have hmk : m ≤ k := by rw [← hm]; exact Nat.min_le_left _ _
  have hmN : m ≤ N - k := by rw [← hm]; exact Nat.min_le_right _ _
  have hmul : (k + m) * pat.length ≤ N * pat.length := Nat.mul_le_mul_right _ (by omega)
  have hmul2 : m * pat.length ≤ k * pat.length := Nat.mul_le_mul_right _ hmk
  rw [Nat.add_mul] at hmul
  have hsrc : ∀ (j : Nat) v, (rep pat m)[j]? = some v → wr.cell? ⟨g, 0 + j, none⟩ = some v := fun j v hj => by
    have hjl : j < m * pat.length := by
      have := (List.getElem?_eq_some_iff.1 hj).1
      rwa [rep_len] at this
    rw [Nat.zero_add, hk.cell, ← Array.getElem?_toList]
    have h2 : (cur.toList.take (m * pat.length))[j]? = some v := by
      rw [← hj, ← rep_take pat hmk, ← htk, List.take_take, Nat.min_eq_left hmul2]
    rwa [List.getElem?_take, if_pos hjl] at h2
  have hrun := run_copySz wr dT sT ty elem pat.length g (k * pat.length) (N - k) c g 0 k c' cur t (rep pat m) hu hs hk (by rw [hm, rep_len]) hsrc (by rw [rep_len, hsz]; exact hmul) (rep_one pat h1)
  rw [hm] at hrun
  refine ⟨_, hrun, ⟨_, bk_setRow hk _, ?_, ?_⟩, below_setRow' h.bel h0 _⟩
  · simp only [List.size_toArray, List.length_append, List.length_take, List.length_drop, Array.length_toList, rep_len, hsz]
    omega
  · rw [Nat.add_mul]
    show ((cur.toList.take (k * pat.length) ++ rep pat m ++ cur.toList.drop (k * pat.length + (rep pat m).length))).take (k * pat.length + m * pat.length) = _
    rw [htk, ← rep_add, List.take_append_of_le_length (by rw [rep_len, Nat.add_mul]; exact Nat.le_refl _), List.take_of_length_le (by rw [rep_len, Nat.add_mul]; exact Nat.le_refl _)]
theorem Ints_infoR : (Tryz.prog.info? 3).map (fun i => (i.zero, i.size, i.bytes)) = some (some (.int .i64 0), 1, 8) := by kernel_rfl
theorem slTInts (g N k : Nat) (hk : k < N) (w : World) : (Instr.sliceAt 28 (.slice (some ⟨g, 0, none⟩) N N) (some (.int .i64 (k : Int))) none none).run Tryz.prog w = .ok (.slice (some ⟨g, k, none⟩) (N - k) (N - k)) w := by
  have h1 : (0 : Int) ≤ (k : Int) := by omega
  have h2 : (k : Int) ≤ (N : Int) := by omega
  have h3 : ¬ N = k := by omega
  go_simp
theorem slHInts (g N k : Nat) (hk : k < N) (w : World) : (Instr.sliceAt 28 (.slice (some ⟨g, 0, none⟩) N N) none (some (.int .i64 (k : Int))) none).run Tryz.prog w = .ok (.slice (some ⟨g, 0, none⟩) k N) w := by
  have h1 : (0 : Int) ≤ (k : Int) := by omega
  have h2 : (k : Int) ≤ (N : Int) := by omega
  have h3 : ¬ N = 0 := by omega
  go_simp
set_option maxRecDepth 100000 in
set_option maxHeartbeats 1000000 in
theorem repeatInts (b : Nat) (pat : List Value) (N : Nat) (w : World) (hp : pat.length = 1) (h1 : ∀ v ∈ pat, v.oneCell' = true) (hb : Hid (Bk w b 3 pat.toArray)) (h0 : 0 < N) (hN : N ≤ 1000000) :
    Calls Tryz.prog 10 #[.slice (some ⟨b, 0, none⟩) 1 1, .int .i64 N] w fun e w' => ∃ g cur, e = .returned (.slice (some ⟨g, 0, none⟩) N N) ∧ w.heap.size ≤ g ∧ Bk w' g 3 cur ∧ cur.toList = rep pat N ∧ Below w.heap.size w w' := by
  obtain ⟨i, hi, hz, hs, hby⟩ := info_parts Ints_infoR
  have hmk := fun W : World => run_make (P := Tryz.prog) W 28 3 i _ Tryz.underlying28 hi hz .i64 .i64 (N : Int) (N : Int) (by omega) (Int.le_refl _) (by rw [hby]; omega) (by omega)
  simp only [Int.toNat_natCast] at hmk
  obtain ⟨zc, hzc⟩ : ∃ zc : Array Value, madeCells ((.int .i64 0) : Value).cells (N * i.size) = zc := ⟨_, rfl⟩
  have hzs : zc.size = N * pat.length := by rw [← hzc, size_madeCells, hs, hp]
  rw [hzc] at hmk
  have hsize : (Tryz.prog.info? 3).map (·.size) = some pat.length := by rw [hp, hi]; simp [hs]
  have hM : Calls Tryz.prog 32 #[.int .u64 1, .int .u64 (N : Int)] w fun e w' => e = .returned (.tuple #[.int .u64 0, .int .u64 (N : Int)]) ∧ w = w' := by
    have hm := Tryz.bits_Mul 1 N (by decide) (by omega) w
    rw [show 1 * N / 18446744073709551616 = 0 by omega, show 1 * N % 18446744073709551616 = N by omega] at hm
    exact hm.mono fun e w' h => ⟨h.1, h.2.symm⟩
  have HM := Lib.hid hM
  have HMK := Lib.hid hmk
  clear hmk hM hzc hi hz hs hby
  have hw1 : IntKind.i64.wrap (N : Int) = (N : Int) := by rw [IntKind.wrap_i64]; omega
  have hw2 : IntKind.u64.wrap (N : Int) = (N : Int) := by rw [IntKind.wrap_u64]; omega
  have hn0 : decide ((N : Int) < 0) = false := by simp
  have hn1 : decide ((9223372036854775807 : Int) < (N : Int)) = false := by simp; omega
  go_enter Tryz.func10, Tryz.ntmps10
  go_wp2_with fail
  refine HM.out.mono ?_
  rintro e w1 ⟨rfl, rfl⟩
  dsimp only
  have hmk := HMK.out
  go_upto_region 7 with fail
  have HK0 : Hid (RepAt w w.heap.size 3 pat N 0 (w.alloc (.cells zc 3))) := ⟨⟨zc, Bk.new w 3 zc, hzs, by rw [Nat.zero_mul]; rfl⟩, balloc (Below.refl _ _) _⟩
  have hbl := hb.out.lt
  have HBs := Lib.hid (hb.out.alloc (.cells zc 3))
  obtain ⟨g, hg⟩ : ∃ g, w.heap.size = g := ⟨_, rfl⟩
  have hgb : b < g := by omega
  clear hmk HMK HM hbl
  have hW : w.heap.size ≤ g := by omega
  obtain ⟨W1, hW1⟩ : ∃ W1, w.alloc (.cells zc 3) = W1 := ⟨_, rfl⟩
  have HK1 : Hid (RepAt w g 3 pat N 0 W1) := by rw [← hW1, ← hg]; exact HK0
  rw [hW1] at HBs ⊢
  rw [hg]
  clear HK0 hW1 hg
  have hcp1 : ∃ W2, (∀ ty, (Builtin.copy_ #[28, 28] ty #[.slice (some ⟨g, 0, none⟩) N N, .slice (some ⟨b, 0, none⟩) 1 1]).run Tryz.prog W1 = .ok (goInt (1 : Nat)) W2) ∧ RepAt w g 3 pat N 1 W2 := by
    obtain ⟨cur, hk, hsz, htk⟩ := HK1.out.bk
    have hmn : Nat.min 1 N = 1 := by show min 1 N = 1; omega
    have hpN : pat.length ≤ N * pat.length := Nat.le_mul_of_pos_left _ h0
    have hrun := fun ty => run_copySz W1 28 28 ty 3 pat.length g 0 N N b 0 1 1 cur 3 pat Tryz.underlying28 hsize hk (by rw [hmn, Nat.one_mul]) (fun j v hj => by
      rw [Nat.zero_add, HBs.out.cell, List.getElem?_toArray]
      exact hj) (by rw [hsz]; omega) h1
    rw [hmn] at hrun
    refine ⟨_, hrun, ⟨_, bk_setRow hk _, ?_, ?_⟩, below_setRow' HK1.out.bel hW _⟩
    · simp only [List.size_toArray, List.length_append, List.length_take, List.length_drop, Array.length_toList, hsz]
      omega
    · rw [Nat.one_mul]
      simp [rep]
  obtain ⟨W2, hcp1, hK2⟩ := hcp1
  have HK2 := Lib.hid hK2
  clear hK2 HK1 HBs hb
  go_upto_region 8 with (at_builtin; refine Lib.wpList_copy_run _ rfl _ _ 28 28 rfl _ _ rfl rfl (hcp1 _) ?_)
  clear hcp1
  go_loopw [8] (fun v8 wr => ∃ (k : Nat), 1 ≤ k ∧ k ≤ N ∧ v8 = .int .i64 k ∧ Hid (RepAt w g 3 pat N k wr)) (fun v8 _ => N - (intOf v8).toNat)
  case atStart => exact ⟨1, Nat.le_refl _, h0, rfl, HK2⟩
  case round =>
    obtain ⟨k, hk1, hk, rfl, HR⟩ := hrel
    by_cases hlt : k < N
    · have e1 : decide ((k : Int) < (N : Int)) = true := by simp; omega
      have hkN : (k : Int) < (N : Int) := by omega
      obtain ⟨m, hm⟩ : ∃ m, Nat.min k (N - k) = m := ⟨_, rfl⟩
      have hm1 : 1 ≤ m := by rw [← hm]; show 1 ≤ min k (N - k); omega
      have hmN : k + m ≤ N := by rw [← hm]; show k + min k (N - k) ≤ N; omega
      have hcp := fun ty => RepAt.copy (P := Tryz.prog) HR.out.drew hW h1 hlt hm 28 28 ty (N - k) N 3 Tryz.underlying28 hsize
      rw [hp] at hcp
      simp only [Nat.mul_one] at hcp
      have hne1 : ¬ N = k := by omega
      have hne2 : ¬ N = 0 := by omega
      have hne3 : (0 : Int) ≤ (k : Int) := by omega
      have hne4 : (k : Int) ≤ (N : Int) := by omega
      have hsl1 := slTInts g N k hlt
      have hsl2 := slHInts g N k hlt
      go_wp2_with fail
      obtain ⟨W3, hr3, hR3⟩ := hcp 3
      have HR3 := Lib.hid hR3
      clear hcp hR3
      go_region
      all_goals
        clear hr3
        go_wp2_with fail
        go_roundw
        case rel => exact ⟨k + m, by omega, by omega, by go_num, HR3⟩
        case measure => simp [intOf]; omega
    · have hkn : k = N := by omega
      subst hkn
      have e1 : decide ((k : Int) < (k : Int)) = false := by simp
      go_wp2_with fail
      go_ret
      obtain ⟨cur, hkk, hsz, htk⟩ := HR.out.bk
      refine ⟨g, cur, rfl, hW, hkk, ?_, HR.out.bel⟩
      rw [← htk, List.take_of_length_le (by rw [Array.length_toList, hsz]; exact Nat.le_refl _)]
theorem Steps_infoR : (Tryz.prog.info? 33).map (fun i => (i.zero, i.size, i.bytes)) = some (some (.agg #[.bool false, .int .i64 0, .slice none 0 0, .slice none 0 0]), 4, 64) := by kernel_rfl
theorem slTSteps (g N k : Nat) (hk : k < N) (w : World) : (Instr.sliceAt 22 (.slice (some ⟨g, 0, none⟩) N N) (some (.int .i64 (k : Int))) none none).run Tryz.prog w = .ok (.slice (some ⟨g, k * 4, none⟩) (N - k) (N - k)) w := by
  have h1 : (0 : Int) ≤ (k : Int) := by omega
  have h2 : (k : Int) ≤ (N : Int) := by omega
  have h3 : ¬ N = k := by omega
  go_simp
theorem slHSteps (g N k : Nat) (hk : k < N) (w : World) : (Instr.sliceAt 22 (.slice (some ⟨g, 0, none⟩) N N) none (some (.int .i64 (k : Int))) none).run Tryz.prog w = .ok (.slice (some ⟨g, 0, none⟩) k N) w := by
  have h1 : (0 : Int) ≤ (k : Int) := by omega
  have h2 : (k : Int) ≤ (N : Int) := by omega
  have h3 : ¬ N = 0 := by omega
  go_simp
set_option maxRecDepth 100000 in
set_option maxHeartbeats 1000000 in
theorem repeatSteps (b : Nat) (pat : List Value) (N : Nat) (w : World) (hp : pat.length = 4) (h1 : ∀ v ∈ pat, v.oneCell' = true) (hb : Hid (Bk w b 33 pat.toArray)) (h0 : 0 < N) (hN : N ≤ 1000000) :
    Calls Tryz.prog 11 #[.slice (some ⟨b, 0, none⟩) 1 1, .int .i64 N] w fun e w' => ∃ g cur, e = .returned (.slice (some ⟨g, 0, none⟩) N N) ∧ w.heap.size ≤ g ∧ Bk w' g 33 cur ∧ cur.toList = rep pat N ∧ Below w.heap.size w w' := by
  obtain ⟨i, hi, hz, hs, hby⟩ := info_parts Steps_infoR
  have hmk := fun W : World => run_make (P := Tryz.prog) W 22 33 i _ Tryz.underlying22 hi hz .i64 .i64 (N : Int) (N : Int) (by omega) (Int.le_refl _) (by rw [hby]; omega) (by omega)
  simp only [Int.toNat_natCast] at hmk
  obtain ⟨zc, hzc⟩ : ∃ zc : Array Value, madeCells ((.agg #[.bool false, .int .i64 0, .slice none 0 0, .slice none 0 0]) : Value).cells (N * i.size) = zc := ⟨_, rfl⟩
  have hzs : zc.size = N * pat.length := by rw [← hzc, size_madeCells, hs, hp]
  rw [hzc] at hmk
  have hsize : (Tryz.prog.info? 33).map (·.size) = some pat.length := by rw [hp, hi]; simp [hs]
  have hM : Calls Tryz.prog 32 #[.int .u64 1, .int .u64 (N : Int)] w fun e w' => e = .returned (.tuple #[.int .u64 0, .int .u64 (N : Int)]) ∧ w = w' := by
    have hm := Tryz.bits_Mul 1 N (by decide) (by omega) w
    rw [show 1 * N / 18446744073709551616 = 0 by omega, show 1 * N % 18446744073709551616 = N by omega] at hm
    exact hm.mono fun e w' h => ⟨h.1, h.2.symm⟩
  have HM := Lib.hid hM
  have HMK := Lib.hid hmk
  clear hmk hM hzc hi hz hs hby
  have hw1 : IntKind.i64.wrap (N : Int) = (N : Int) := by rw [IntKind.wrap_i64]; omega
  have hw2 : IntKind.u64.wrap (N : Int) = (N : Int) := by rw [IntKind.wrap_u64]; omega
  have hn0 : decide ((N : Int) < 0) = false := by simp
  have hn1 : decide ((9223372036854775807 : Int) < (N : Int)) = false := by simp; omega
  go_enter Tryz.func11, Tryz.ntmps11
  go_wp2_with fail
  refine HM.out.mono ?_
  rintro e w1 ⟨rfl, rfl⟩
  dsimp only
  have hmk := HMK.out
  go_upto_region 7 with fail
  have HK0 : Hid (RepAt w w.heap.size 33 pat N 0 (w.alloc (.cells zc 33))) := ⟨⟨zc, Bk.new w 33 zc, hzs, by rw [Nat.zero_mul]; rfl⟩, balloc (Below.refl _ _) _⟩
  have hbl := hb.out.lt
  have HBs := Lib.hid (hb.out.alloc (.cells zc 33))
  obtain ⟨g, hg⟩ : ∃ g, w.heap.size = g := ⟨_, rfl⟩
  have hgb : b < g := by omega
  clear hmk HMK HM hbl
  have hW : w.heap.size ≤ g := by omega
  obtain ⟨W1, hW1⟩ : ∃ W1, w.alloc (.cells zc 33) = W1 := ⟨_, rfl⟩
  have HK1 : Hid (RepAt w g 33 pat N 0 W1) := by rw [← hW1, ← hg]; exact HK0
  rw [hW1] at HBs ⊢
  rw [hg]
  clear HK0 hW1 hg
  have hcp1 : ∃ W2, (∀ ty, (Builtin.copy_ #[22, 22] ty #[.slice (some ⟨g, 0, none⟩) N N, .slice (some ⟨b, 0, none⟩) 1 1]).run Tryz.prog W1 = .ok (goInt (1 : Nat)) W2) ∧ RepAt w g 33 pat N 1 W2 := by
    obtain ⟨cur, hk, hsz, htk⟩ := HK1.out.bk
    have hmn : Nat.min 1 N = 1 := by show min 1 N = 1; omega
    have hpN : pat.length ≤ N * pat.length := Nat.le_mul_of_pos_left _ h0
    have hrun := fun ty => run_copySz W1 22 22 ty 33 pat.length g 0 N N b 0 1 1 cur 33 pat Tryz.underlying22 hsize hk (by rw [hmn, Nat.one_mul]) (fun j v hj => by
      rw [Nat.zero_add, HBs.out.cell, List.getElem?_toArray]
      exact hj) (by rw [hsz]; omega) h1
    rw [hmn] at hrun
    refine ⟨_, hrun, ⟨_, bk_setRow hk _, ?_, ?_⟩, below_setRow' HK1.out.bel hW _⟩
    · simp only [List.size_toArray, List.length_append, List.length_take, List.length_drop, Array.length_toList, hsz]
      omega
    · rw [Nat.one_mul]
      simp [rep]
  obtain ⟨W2, hcp1, hK2⟩ := hcp1
  have HK2 := Lib.hid hK2
  clear hK2 HK1 HBs hb
  go_upto_region 8 with (at_builtin; refine Lib.wpList_copy_run _ rfl _ _ 22 22 rfl _ _ rfl rfl (hcp1 _) ?_)
  clear hcp1
  go_loopw [8] (fun v8 wr => ∃ (k : Nat), 1 ≤ k ∧ k ≤ N ∧ v8 = .int .i64 k ∧ Hid (RepAt w g 33 pat N k wr)) (fun v8 _ => N - (intOf v8).toNat)
  case atStart => exact ⟨1, Nat.le_refl _, h0, rfl, HK2⟩
  case round =>
    obtain ⟨k, hk1, hk, rfl, HR⟩ := hrel
    by_cases hlt : k < N
    · have e1 : decide ((k : Int) < (N : Int)) = true := by simp; omega
      have hkN : (k : Int) < (N : Int) := by omega
      obtain ⟨m, hm⟩ : ∃ m, Nat.min k (N - k) = m := ⟨_, rfl⟩
      have hm1 : 1 ≤ m := by rw [← hm]; show 1 ≤ min k (N - k); omega
      have hmN : k + m ≤ N := by rw [← hm]; show k + min k (N - k) ≤ N; omega
      have hcp := fun ty => RepAt.copy (P := Tryz.prog) HR.out.drew hW h1 hlt hm 22 22 ty (N - k) N 33 Tryz.underlying22 hsize
      rw [hp] at hcp
      skip
      have hne1 : ¬ N = k := by omega
      have hne2 : ¬ N = 0 := by omega
      have hne3 : (0 : Int) ≤ (k : Int) := by omega
      have hne4 : (k : Int) ≤ (N : Int) := by omega
      have hsl1 := slTSteps g N k hlt
      have hsl2 := slHSteps g N k hlt
      go_wp2_with fail
      obtain ⟨W3, hr3, hR3⟩ := hcp 3
      have HR3 := Lib.hid hR3
      clear hcp hR3
      go_region
      all_goals
        clear hr3
        go_wp2_with fail
        go_roundw
        case rel => exact ⟨k + m, by omega, by omega, by go_num, HR3⟩
        case measure => simp [intOf]; omega
    · have hkn : k = N := by omega
      subst hkn
      have e1 : decide ((k : Int) < (k : Int)) = false := by simp
      go_wp2_with fail
      go_ret
      obtain ⟨cur, hkk, hsz, htk⟩ := HR.out.bk
      refine ⟨g, cur, rfl, hW, hkk, ?_, HR.out.bel⟩
      rw [← htk, List.take_of_length_le (by rw [Array.length_toList, hsz]; exact Nat.le_refl _)]
end Go.Proofs.YteglgcfbmjlnkaaGreatDoor
