/-
  salvorlaw06.DimacsSmall: the walk.
-/
import Derived.Test.YtkpcpclaadgnbaaGreatDoorReadsW6
import Derived.Test.YtkpcpclaadgnbaaGreatDoorWritesW6
import Derived.Test.YtkpcpclaadgnbaaGreatDoorSmP6
import Derived.Deep.RegionHeld3
import Derived.BigRegion
set_option linter.unusedVariables false
set_option linter.unusedSimpArgs false
namespace Go.Proofs.YtkpcpclaadgnbaaGreatDoor
open Go.RowKit Go.Shelf

def tenA : Array Value := #[.string ⟨#[48]⟩, .string ⟨#[49]⟩, .string ⟨#[45, 49]⟩, .string ⟨#[50]⟩, .string ⟨#[51]⟩, .string ⟨#[120]⟩, .string ⟨#[99]⟩, .string ⟨#[]⟩, .string ⟨#[45, 48]⟩, .string ⟨#[48, 49]⟩]
theorem tenA_at (r : Nat) (h : r < 10) : ∃ s : ByteArray, tenA[r]? = some (.string s) ∧ s.size ≤ 30 := by
  obtain rfl | rfl | rfl | rfl | rfl | rfl | rfl | rfl | rfl | rfl : r = 0 ∨ r = 1 ∨ r = 2 ∨ r = 3 ∨ r = 4 ∨ r = 5 ∨ r = 6 ∨ r = 7 ∨ r = 8 ∨ r = 9 := by omega
  all_goals exact ⟨_, rfl, by decide⟩
def betA : Array Value := #[.string ⟨#[32]⟩, .string ⟨#[10]⟩, .string ⟨#[32, 32]⟩, .string ⟨#[10, 99, 32, 48, 10]⟩, .string ⟨#[32, 10, 32]⟩]
theorem betA_at (r : Nat) (h : r < 5) : ∃ s : ByteArray, betA[r]? = some (.string s) ∧ s.size ≤ 30 := by
  obtain rfl | rfl | rfl | rfl | rfl : r = 0 ∨ r = 1 ∨ r = 2 ∨ r = 3 ∨ r = 4 := by omega
  all_goals exact ⟨_, rfl, by decide⟩
def thrA : Array Value := #[.string ⟨#[48]⟩, .string ⟨#[49]⟩, .string ⟨#[50]⟩]
theorem thrA_at (r : Nat) (h : r < 3) : ∃ s : ByteArray, thrA[r]? = some (.string s) ∧ s.size ≤ 30 := by
  obtain rfl | rfl | rfl : r = 0 ∨ r = 1 ∨ r = 2 := by omega
  all_goals exact ⟨_, rfl, by decide⟩
def aaA : Array Value := #[.string ⟨#[]⟩, .string ⟨#[48]⟩, .string ⟨#[45, 49]⟩, .string ⟨#[43, 49]⟩, .string ⟨#[49, 48, 52, 56, 53, 55, 54]⟩, .string ⟨#[49, 48, 52, 56, 53, 55, 55]⟩, .string ⟨#[48, 49]⟩, .string ⟨#[57, 57, 57, 57, 57, 57, 57, 57, 57, 57, 57, 57, 57, 57, 57, 57, 57, 57, 57, 57]⟩, .string ⟨#[49, 32]⟩, .string ⟨#[32, 49]⟩]
theorem aaA_at (r : Nat) (h : r < 10) : ∃ s : ByteArray, aaA[r]? = some (.string s) ∧ s.size ≤ 30 := by
  obtain rfl | rfl | rfl | rfl | rfl | rfl | rfl | rfl | rfl | rfl : r = 0 ∨ r = 1 ∨ r = 2 ∨ r = 3 ∨ r = 4 ∨ r = 5 ∨ r = 6 ∨ r = 7 ∨ r = 8 ∨ r = 9 := by omega
  all_goals exact ⟨_, rfl, by decide⟩
def bbA : Array Value := #[.string ⟨#[48]⟩, .string ⟨#[45, 49]⟩, .string ⟨#[50, 54, 50, 49, 52, 52]⟩, .string ⟨#[50, 54, 50, 49, 52, 53]⟩, .string ⟨#[48, 48]⟩, .string ⟨#[]⟩, .string ⟨#[57, 57, 57, 57, 57, 57, 57, 57, 57, 57, 57, 57, 57, 57, 57, 57, 57, 57, 57, 57]⟩, .string ⟨#[49, 32, 49]⟩, .string ⟨#[49, 32]⟩]
theorem bbA_at (r : Nat) (h : r < 9) : ∃ s : ByteArray, bbA[r]? = some (.string s) ∧ s.size ≤ 30 := by
  obtain rfl | rfl | rfl | rfl | rfl | rfl | rfl | rfl | rfl : r = 0 ∨ r = 1 ∨ r = 2 ∨ r = 3 ∨ r = 4 ∨ r = 5 ∨ r = 6 ∨ r = 7 ∨ r = 8 := by omega
  all_goals exact ⟨_, rfl, by decide⟩
def nnA : Array Value := #[.int .i64 (-9223372036854775808), .int .i64 (-1), .int .i64 (0), .int .i64 (262144), .int .i64 (262145), .int .i64 (1048576), .int .i64 (1048577), .int .i64 (9223372036854775807)]
theorem nnA_at (r : Nat) (h : r < 8) : ∃ n : Int, nnA[r]? = some (.int .i64 n) ∧ I64 n := by
  obtain rfl | rfl | rfl | rfl | rfl | rfl | rfl | rfl : r = 0 ∨ r = 1 ∨ r = 2 ∨ r = 3 ∨ r = 4 ∨ r = 5 ∨ r = 6 ∨ r = 7 := by omega
  all_goals exact ⟨_, rfl, by decide, by decide⟩
theorem repeatC (s : ByteArray) (n : Nat) (w : World) (hs : s.size ≤ 10) (hn : n ≤ 5000000) :
    Calls Tryz.prog 32 #[.string s, .int .i64 (n : Int)] w fun e w' => e = .returned (.string (str (Lib.repeatL s.data.toList n))) ∧ Below w.heap.size w w' := by
  have h1 := Nat.mul_le_mul hs hn
  refine (Tryz.strings_Repeat s n w (by omega) (by omega)).mono ?_
  rintro e w' ⟨rfl, hb⟩
  exact ⟨rfl, hb⟩
def zerosC : Array Value := madeCells #[.int .i64 0] 2000
theorem zerosC_size : zerosC.size = 2000 := size_madeCells _ _
theorem makeCl (w : World) : (Instr.makeSlice 55 (.int .i64 2000) (.int .i64 2000)).run Tryz.prog w = .ok (.slice (some ⟨w.heap.size, 0, none⟩) 2000 2000) (w.alloc (.cells zerosC 53)) := by
  obtain ⟨i, h1, h2, h3, h4⟩ := info_parts (P := Tryz.prog) (e := 53) (z := .int .i64 0) (size := 1) (bytes := 8) (by kernel_rfl)
  have h := run_make (P := Tryz.prog) w 55 53 i (.int .i64 0) Tryz.underlying55 h1 h2 .i64 .i64 2000 2000 (by omega) (by omega) (by rw [h4]; decide) (by omega)
  rw [h3] at h
  exact h
/-- A row that is filled from its beginning. -/
def FillR (w : World) (g k : Nat) : Prop := ∃ cs : Array Value, Bk w g 53 cs ∧ cs.size = 2000 ∧ (∀ j, j < k → cs[j]? = some (.int .i64 (-1048576)))
theorem FillR.put {w : World} {g k : Nat} (h : FillR w g k) (hk : k < 2000) : FillR (w.setCell ⟨g, k, none⟩ (.int .i64 (-1048576))) g (k + 1) := by
  obtain ⟨cs, h1, h2, h3⟩ := h
  refine ⟨_, h1.put k _, by simp [h2], fun j hj => ?_⟩
  by_cases hjk : k = j
  · subst hjk
    rw [Array.getElem?_setIfInBounds_self_of_lt (by omega)]
  · rw [Array.getElem?_setIfInBounds_ne hjk]
    exact h3 j (by omega)
theorem FillR.cell {w : World} {g k : Nat} (h : FillR w g k) (hk : k < 2000) : (∃ u, w.cell? ⟨g, k, none⟩ = some u) ∧ w.frozen? ⟨g, k, none⟩ = false := by
  obtain ⟨cs, h1, h2, _⟩ := h
  exact ⟨⟨_, (h1.cell k).trans (Array.getElem?_eq_getElem (by omega))⟩, h1.frozen k⟩
theorem FillR.own {w : World} {g B : Nat} (h : FillR w g 2000) (hB : B ≤ g) : w.ownsRow B 53 1 (.slice (some ⟨g, 0, none⟩) 2000 2000) 2000 (lowC.map (Value.int .i64)) := by
  obtain ⟨cs, h1, h2, h3⟩ := h
  refine ⟨by rw [List.length_map, low_len], .inr ⟨g, 2000, cs, rfl, hB, h1, Nat.le_refl _, by unfold maxLen; omega, by omega, ?_⟩⟩
  refine List.ext_getElem? (fun j => ?_)
  rw [List.getElem?_take]
  by_cases hj : j < 2000
  · rw [if_pos (by omega), Array.getElem?_toList, h3 j hj, List.getElem?_map]
    have : lowC[j]? = some (-1048576) := by
      unfold lowC
      rw [List.getElem?_replicate, if_pos hj]
    rw [this]
    rfl
  · rw [if_neg (by omega), List.getElem?_eq_none (by rw [List.length_map, low_len]; omega)]
theorem five_at {x0 x1 x2 x3 x4 : ByteArray} (h0 : x0.size ≤ 2000) (h1 : x1.size ≤ 2000) (h2 : x2.size ≤ 2000) (h3 : x3.size ≤ 2000) (h4 : x4.size ≤ 2000) (r : Nat) (h : r < 5) : ∃ s : ByteArray, (#[Value.string x0, .string x1, .string x2, .string x3, .string x4] : Array Value)[r]? = some (.string s) ∧ s.size ≤ 2000 := by
  obtain rfl | rfl | rfl | rfl | rfl : r = 0 ∨ r = 1 ∨ r = 2 ∨ r = 3 ∨ r = 4 := by omega
  · exact ⟨_, rfl, h0⟩
  · exact ⟨_, rfl, h1⟩
  · exact ⟨_, rfl, h2⟩
  · exact ⟨_, rfl, h3⟩
  · exact ⟨_, rfl, h4⟩
theorem pair_cls (w : World) (n : Int) (hn : I64 n) : ClsAt (((w.alloc (.cells #[.int .i64 1] 3)).alloc (.cells #[.int .i64 n] 3)).alloc (.cells #[.slice (some ⟨w.heap.size, 0, none⟩) 1 1, .slice (some ⟨w.heap.size + 1, 0, none⟩) 1 1] 61)) (some ⟨w.heap.size + 1 + 1, 0, none⟩) 2 [(⟨some ⟨w.heap.size, 0, none⟩, 1, 1⟩, [1]), (⟨some ⟨w.heap.size + 1, 0, none⟩, 1, 1⟩, [n])] := by
  have k0 := ((Bk.new w 3 #[.int .i64 1]).alloc (.cells #[.int .i64 n] 3)).alloc (.cells #[.slice (some ⟨w.heap.size, 0, none⟩) 1 1, .slice (some ⟨w.heap.size + 1, 0, none⟩) 1 1] 61)
  have k1 := (Bk.newAt6 (w.alloc (.cells #[.int .i64 1] 3)) 3 #[.int .i64 n] (w.heap.size + 1) (by simp)).alloc (.cells #[.slice (some ⟨w.heap.size, 0, none⟩) 1 1, .slice (some ⟨w.heap.size + 1, 0, none⟩) 1 1] 61)
  have k2 := Bk.newAt6 ((w.alloc (.cells #[.int .i64 1] 3)).alloc (.cells #[.int .i64 n] 3)) 61 #[.slice (some ⟨w.heap.size, 0, none⟩) 1 1, .slice (some ⟨w.heap.size + 1, 0, none⟩) 1 1] (w.heap.size + 1 + 1) (by simp)
  refine ⟨Rd.of_bk k2 rfl, rfl, fun i p hi => ?_, by omega⟩
  match i, hi with
  | 0, hi => obtain rfl := Option.some.inj hi; exact ints1 k0 (i64_small 1 (by decide) (by decide))
  | 1, hi => obtain rfl := Option.some.inj hi; exact ints1 k1 hn
  | i + 2, hi => cases hi
theorem cat_long (x y : ByteArray) (L : List UInt8) : ((x ++ str L) ++ y).data.toList = x.data.toList ++ L ++ y.data.toList := by
  rw [cat_data, cat_data, str_data]
theorem long_parts : ∃ (LL : List UInt8) (fL : Fm), LL.length ≤ 10000 ∧ readD ((((⟨#[112, 32, 99, 110, 102, 32, 49, 32, 49, 10]⟩ : ByteArray) ++ str LL) ++ ⟨#[48, 10]⟩).data.toList) = (fL, 0, 0) ∧ readD ((((⟨#[112, 32, 99, 110, 102, 32, 49, 32, 49, 10]⟩ : ByteArray) ++ str LL) ++ ⟨#[10, 49, 32, 48, 10]⟩).data.toList) = (F0, 3, 5) ∧ ∀ w : World, Calls Tryz.prog 32 #[.string ⟨#[49, 32]⟩, .int .i64 4096] w fun e w' => e = .returned (.string (str LL)) ∧ Below w.heap.size w w' := by
  have h1 := long_one
  have h2 := long_two
  have h3 : (Lib.repeatL [49, 32] 4096).length ≤ 10000 := by rw [Lib.repeatL_length]; decide
  have h4 : ∀ w : World, Calls Tryz.prog 32 #[.string ⟨#[49, 32]⟩, .int .i64 4096] w fun e w' => e = .returned (.string (str (Lib.repeatL [49, 32] 4096))) ∧ Below w.heap.size w w' := fun w => repeatC ⟨#[49, 32]⟩ 4096 w (by decide) (by omega)
  generalize Lib.repeatL [49, 32] 4096 = LL at h1 h2 h3 h4
  generalize fmL = fL at h1
  refine ⟨LL, fL, h3, ?_, ?_, h4⟩
  · rw [cat_long]
    exact h1
  · rw [cat_long]
    exact h2
theorem space_parts : ∃ SS : ByteArray, SS.size = 4194305 ∧ ∀ w : World, Calls Tryz.prog 32 #[.string ⟨#[32]⟩, .int .i64 4194305] w fun e w' => e = .returned (.string SS) ∧ Below w.heap.size w w' :=
  ⟨str (Lib.repeatL [32] 4194305), by rw [str_size, Lib.repeatL_length]; rfl, fun w => repeatC ⟨#[32]⟩ 4194305 w (by decide) (by omega)⟩
theorem rep_snoc (k : Nat) : List.replicate (k + 1) lowC = List.replicate k lowC ++ [lowC] := List.replicate_succ'
theorem low_i64 : ∀ u ∈ lowC, I64 u := by
  intro u hu
  have : u = -1048576 := List.eq_of_mem_replicate hu
  rw [this]
  exact ⟨by decide, by decide⟩
theorem cls_none (w : World) : ClsAt w none 0 [] := cls_nil w
set_option maxRecDepth 100000 in
set_option maxHeartbeats 8000000 in
theorem mainSmall6 (w : World) (hv : Hid (Vars w)) : Calls Tryz.prog 9 #[] w fun e w' => e = .returned (.bool true) ∧ Below w.heap.size w w' := by
  have HT0 : Hid (Bk ((w.alloc (.cells #[.string ⟨#[48]⟩, .string ⟨#[49]⟩, .string ⟨#[45, 49]⟩, .string ⟨#[50]⟩, .string ⟨#[51]⟩, .string ⟨#[120]⟩, .string ⟨#[99]⟩, .string ⟨#[]⟩, .string ⟨#[45, 48]⟩, .string ⟨#[48, 49]⟩] 9)).alloc (.cells #[.string ⟨#[32]⟩, .string ⟨#[10]⟩, .string ⟨#[32, 32]⟩, .string ⟨#[10, 99, 32, 48, 10]⟩, .string ⟨#[32, 10, 32]⟩] 9)) w.heap.size 9 tenA) := (Bk.new w 9 tenA).alloc _
  have hg0 := Bk.new (w.alloc (.cells tenA 9)) 9 betA
  rw [World.size_alloc] at hg0
  have HG0 : Hid (Bk ((w.alloc (.cells #[.string ⟨#[48]⟩, .string ⟨#[49]⟩, .string ⟨#[45, 49]⟩, .string ⟨#[50]⟩, .string ⟨#[51]⟩, .string ⟨#[120]⟩, .string ⟨#[99]⟩, .string ⟨#[]⟩, .string ⟨#[45, 48]⟩, .string ⟨#[48, 49]⟩] 9)).alloc (.cells #[.string ⟨#[32]⟩, .string ⟨#[10]⟩, .string ⟨#[32, 32]⟩, .string ⟨#[10, 99, 32, 48, 10]⟩, .string ⟨#[32, 10, 32]⟩] 9)) (w.heap.size + 1) 9 betA) := hg0
  have HB0 : Hid (Below w.heap.size w ((w.alloc (.cells #[.string ⟨#[48]⟩, .string ⟨#[49]⟩, .string ⟨#[45, 49]⟩, .string ⟨#[50]⟩, .string ⟨#[51]⟩, .string ⟨#[120]⟩, .string ⟨#[99]⟩, .string ⟨#[]⟩, .string ⟨#[45, 48]⟩, .string ⟨#[48, 49]⟩] 9)).alloc (.cells #[.string ⟨#[32]⟩, .string ⟨#[10]⟩, .string ⟨#[32, 32]⟩, .string ⟨#[10, 99, 32, 48, 10]⟩, .string ⟨#[32, 10, 32]⟩] 9))) := balloc (balloc (Below.refl _ _) _) _
  clear hg0
  go_enter Tryz.func9, Tryz.ntmps9
  go_upto_region 3 with fail
  generalize ((w.alloc (.cells #[.string ⟨#[48]⟩, .string ⟨#[49]⟩, .string ⟨#[45, 49]⟩, .string ⟨#[50]⟩, .string ⟨#[51]⟩, .string ⟨#[120]⟩, .string ⟨#[99]⟩, .string ⟨#[]⟩, .string ⟨#[45, 48]⟩, .string ⟨#[48, 49]⟩] 9)).alloc (.cells #[.string ⟨#[32]⟩, .string ⟨#[10]⟩, .string ⟨#[32, 32]⟩, .string ⟨#[10, 99, 32, 48, 10]⟩, .string ⟨#[32, 10, 32]⟩] 9)) = W0 at *
  obtain ⟨b, hb⟩ : ∃ b, w.heap.size = b := ⟨_, rfl⟩
  rw [hb] at HT0 HG0 ⊢
  have HBE := Lib.hid hb
  clear hb
  go_upto_block 0 with fail
  go_cut [] (fun wx => Hid (Below W0.heap.size W0 wx))
  case first =>
    go_upto_region 4 with fail
    go_loopw [31] (fun v31 wr => ∃ k : Nat, k ≤ 10000 ∧ v31 = .int .i64 k ∧ Hid (Below W0.heap.size W0 wr)) (fun v31 _ => 10000 - (intOf v31).toNat)
    case atStart => exact ⟨0, Nat.zero_le _, rfl, Below.refl _ _⟩
    case round =>
      obtain ⟨k, hk, rfl, HB⟩ := hrel
      by_cases hlt : k < 10000
      · have e1 : decide ((k : Int) < 10000) = true := by simp; omega
        have hki : (k : Int) < 10000 := by omega
        have HTr := Lib.hid (bkbel HT0.out HB.out)
        have HGr := Lib.hid (bkbel HG0.out HB.out)
        obtain ⟨p5, hp5⟩ : ∃ r, k % 5 = r := ⟨_, rfl⟩
        have p5a : (k : Int).tmod 5 = (p5 : Int) := by rw [Int.tmod_eq_emod_of_nonneg (by omega)]; omega
        have p5b : (k : Int) % 5 = (p5 : Int) := by omega
        have p5c : IntKind.i64.wrap (p5 : Int) = (p5 : Int) := by rw [IntKind.wrap_i64]; omega
        have p5d : (p5 : Int) < 5 := by omega
        have p5n : p5 < 5 := by omega
        clear hp5
        obtain ⟨d7, hd7⟩ : ∃ r, k / 7 = r := ⟨_, rfl⟩
        have d7a : (k : Int).tdiv 7 = (d7 : Int) := by rw [Int.tdiv_eq_ediv_of_nonneg (by omega)]; omega
        have d7b : (k : Int) / 7 = (d7 : Int) := by omega
        have d7c : IntKind.i64.wrap (d7 : Int) = (d7 : Int) := by rw [IntKind.wrap_i64]; omega
        have d7n : d7 ≤ 10000 / 7 := by omega
        clear hd7
        obtain ⟨p7, hp7⟩ : ∃ r, d7 % 3 = r := ⟨_, rfl⟩
        have p7a : (d7 : Int).tmod 3 = (p7 : Int) := by rw [Int.tmod_eq_emod_of_nonneg (by omega)]; omega
        have p7b : (d7 : Int) % 3 = (p7 : Int) := by omega
        have p7c : IntKind.i64.wrap (p7 : Int) = (p7 : Int) := by rw [IntKind.wrap_i64]; omega
        have p7d : (p7 : Int) < 3 := by omega
        have p7n : p7 < 3 := by omega
        clear hp7
        obtain ⟨p1, hp1⟩ : ∃ r, k % 10 = r := ⟨_, rfl⟩
        have p1a : (k : Int).tmod 10 = (p1 : Int) := by rw [Int.tmod_eq_emod_of_nonneg (by omega)]; omega
        have p1b : (k : Int) % 10 = (p1 : Int) := by omega
        have p1c : IntKind.i64.wrap (p1 : Int) = (p1 : Int) := by rw [IntKind.wrap_i64]; omega
        have p1d : (p1 : Int) < 10 := by omega
        have p1n : p1 < 10 := by omega
        clear hp1
        obtain ⟨d10, hd10⟩ : ∃ r, k / 10 = r := ⟨_, rfl⟩
        have d10a : (k : Int).tdiv 10 = (d10 : Int) := by rw [Int.tdiv_eq_ediv_of_nonneg (by omega)]; omega
        have d10b : (k : Int) / 10 = (d10 : Int) := by omega
        have d10c : IntKind.i64.wrap (d10 : Int) = (d10 : Int) := by rw [IntKind.wrap_i64]; omega
        have d10n : d10 ≤ 10000 / 10 := by omega
        clear hd10
        obtain ⟨p10, hp10⟩ : ∃ r, d10 % 10 = r := ⟨_, rfl⟩
        have p10a : (d10 : Int).tmod 10 = (p10 : Int) := by rw [Int.tmod_eq_emod_of_nonneg (by omega)]; omega
        have p10b : (d10 : Int) % 10 = (p10 : Int) := by omega
        have p10c : IntKind.i64.wrap (p10 : Int) = (p10 : Int) := by rw [IntKind.wrap_i64]; omega
        have p10d : (p10 : Int) < 10 := by omega
        have p10n : p10 < 10 := by omega
        clear hp10
        obtain ⟨d3, hd3⟩ : ∃ r, k / 3 = r := ⟨_, rfl⟩
        have d3a : (k : Int).tdiv 3 = (d3 : Int) := by rw [Int.tdiv_eq_ediv_of_nonneg (by omega)]; omega
        have d3b : (k : Int) / 3 = (d3 : Int) := by omega
        have d3c : IntKind.i64.wrap (d3 : Int) = (d3 : Int) := by rw [IntKind.wrap_i64]; omega
        have d3n : d3 ≤ 10000 / 3 := by omega
        clear hd3
        obtain ⟨p3, hp3⟩ : ∃ r, d3 % 5 = r := ⟨_, rfl⟩
        have p3a : (d3 : Int).tmod 5 = (p3 : Int) := by rw [Int.tmod_eq_emod_of_nonneg (by omega)]; omega
        have p3b : (d3 : Int) % 5 = (p3 : Int) := by omega
        have p3c : IntKind.i64.wrap (p3 : Int) = (p3 : Int) := by rw [IntKind.wrap_i64]; omega
        have p3d : (p3 : Int) < 5 := by omega
        have p3n : p3 < 5 := by omega
        clear hp3
        obtain ⟨d100, hd100⟩ : ∃ r, k / 100 = r := ⟨_, rfl⟩
        have d100a : (k : Int).tdiv 100 = (d100 : Int) := by rw [Int.tdiv_eq_ediv_of_nonneg (by omega)]; omega
        have d100b : (k : Int) / 100 = (d100 : Int) := by omega
        have d100c : IntKind.i64.wrap (d100 : Int) = (d100 : Int) := by rw [IntKind.wrap_i64]; omega
        have d100n : d100 ≤ 10000 / 100 := by omega
        clear hd100
        obtain ⟨p100, hp100⟩ : ∃ r, d100 % 10 = r := ⟨_, rfl⟩
        have p100a : (d100 : Int).tmod 10 = (p100 : Int) := by rw [Int.tmod_eq_emod_of_nonneg (by omega)]; omega
        have p100b : (d100 : Int) % 10 = (p100 : Int) := by omega
        have p100c : IntKind.i64.wrap (p100 : Int) = (p100 : Int) := by rw [IntKind.wrap_i64]; omega
        have p100d : (p100 : Int) < 10 := by omega
        have p100n : p100 < 10 := by omega
        clear hp100
        obtain ⟨d1000, hd1000⟩ : ∃ r, k / 1000 = r := ⟨_, rfl⟩
        have d1000a : (k : Int).tdiv 1000 = (d1000 : Int) := by rw [Int.tdiv_eq_ediv_of_nonneg (by omega)]; omega
        have d1000b : (k : Int) / 1000 = (d1000 : Int) := by omega
        have d1000c : IntKind.i64.wrap (d1000 : Int) = (d1000 : Int) := by rw [IntKind.wrap_i64]; omega
        have d1000n : d1000 ≤ 10000 / 1000 := by omega
        clear hd1000
        have d1000n2 : d1000 < 10 := by omega
        have d1000d : (d1000 : Int) < 10 := by omega
        obtain ⟨s5, hs5, s5z⟩ := betA_at p5 p5n
        have s5y : wr.cell? ⟨b + 1, p5, none⟩ = some (.string s5) := bk_at HGr.out hs5
        clear hs5
        obtain ⟨s1, hs1, s1z⟩ := tenA_at p1 p1n
        have s1y : wr.cell? ⟨b, p1, none⟩ = some (.string s1) := bk_at HTr.out hs1
        clear hs1
        obtain ⟨s10, hs10, s10z⟩ := tenA_at p10 p10n
        have s10y : wr.cell? ⟨b, p10, none⟩ = some (.string s10) := bk_at HTr.out hs10
        clear hs10
        obtain ⟨s3, hs3, s3z⟩ := betA_at p3 p3n
        have s3y : wr.cell? ⟨b + 1, p3, none⟩ = some (.string s3) := bk_at HGr.out hs3
        clear hs3
        obtain ⟨s100, hs100, s100z⟩ := tenA_at p100 p100n
        have s100y : wr.cell? ⟨b, p100, none⟩ = some (.string s100) := bk_at HTr.out hs100
        clear hs100
        obtain ⟨s1000, hs1000, s1000z⟩ := tenA_at d1000 d1000n2
        have s1000y : wr.cell? ⟨b, d1000, none⟩ = some (.string s1000) := bk_at HTr.out hs1000
        clear hs1000
        obtain ⟨s7, hs7, s7z⟩ := thrA_at p7 p7n
        have s7y : (wr.alloc (.cells #[.string ⟨#[48]⟩, .string ⟨#[49]⟩, .string ⟨#[50]⟩] 9)).cell? ⟨wr.heap.size, p7, none⟩ = some (.string s7) := bk_at (Bk.new wr 9 thrA) hs7
        have hbl := HTr.out.lt
        have hgl := HGr.out.lt
        clear hs7
        have z0 : ((⟨#[112, 32, 99, 110, 102, 32, 50, 32]⟩ : ByteArray) ++ s7).size ≤ 60 := by rw [cat_size]; show 8 + _ ≤ _; omega
        have z1 : (((⟨#[112, 32, 99, 110, 102, 32, 50, 32]⟩ : ByteArray) ++ s7) ++ (⟨#[10]⟩ : ByteArray)).size ≤ 120 := by rw [cat_size]; show _ + 1 ≤ _; omega
        have z2 : ((((⟨#[112, 32, 99, 110, 102, 32, 50, 32]⟩ : ByteArray) ++ s7) ++ (⟨#[10]⟩ : ByteArray)) ++ s1).size ≤ 180 := by rw [cat_size]; omega
        have z3 : (((((⟨#[112, 32, 99, 110, 102, 32, 50, 32]⟩ : ByteArray) ++ s7) ++ (⟨#[10]⟩ : ByteArray)) ++ s1) ++ s5).size ≤ 240 := by rw [cat_size]; omega
        have z4 : ((((((⟨#[112, 32, 99, 110, 102, 32, 50, 32]⟩ : ByteArray) ++ s7) ++ (⟨#[10]⟩ : ByteArray)) ++ s1) ++ s5) ++ s10).size ≤ 300 := by rw [cat_size]; omega
        have z5 : (((((((⟨#[112, 32, 99, 110, 102, 32, 50, 32]⟩ : ByteArray) ++ s7) ++ (⟨#[10]⟩ : ByteArray)) ++ s1) ++ s5) ++ s10) ++ s3).size ≤ 360 := by rw [cat_size]; omega
        have z6 : ((((((((⟨#[112, 32, 99, 110, 102, 32, 50, 32]⟩ : ByteArray) ++ s7) ++ (⟨#[10]⟩ : ByteArray)) ++ s1) ++ s5) ++ s10) ++ s3) ++ s100).size ≤ 420 := by rw [cat_size]; omega
        have z7 : (((((((((⟨#[112, 32, 99, 110, 102, 32, 50, 32]⟩ : ByteArray) ++ s7) ++ (⟨#[10]⟩ : ByteArray)) ++ s1) ++ s5) ++ s10) ++ s3) ++ s100) ++ s5).size ≤ 480 := by rw [cat_size]; omega
        have z8 : ((((((((((⟨#[112, 32, 99, 110, 102, 32, 50, 32]⟩ : ByteArray) ++ s7) ++ (⟨#[10]⟩ : ByteArray)) ++ s1) ++ s5) ++ s10) ++ s3) ++ s100) ++ s5) ++ s1000).size ≤ 540 := by rw [cat_size]; omega
        have zc1 : (⟨#[112, 32, 99, 110, 102, 32, 50, 32]⟩ : ByteArray).size = 8 := rfl
        have zc2 : (⟨#[10]⟩ : ByteArray).size = 1 := rfl
        go_upto_region 7 with fail
        go_cut [5] (fun v5 wx => ∃ s : ByteArray, v5 = .string s ∧ s.size ≤ 2000 ∧ Hid (Below wr.heap.size wr wx))
        case first =>
          rename_i J1 K1 hR1 hM1
          revert hR1 hM1
          repeat (rename ∀ (a' : Act) (w' : World), _ → _ => hZ; clear hZ)
          intro hR1 hM1
          go_region
          all_goals
            go_wp2_with fail
            go_meet
            exact ⟨_, rfl, by omega, (balloc (Below.refl _ _) _).drew⟩
        case rest =>
        obtain ⟨s, rfl, hss, hbx⟩ := hcut
        have HBs := Lib.hid (bthen HB.out hbx.out)
        have HM := Lib.hid (reads6 s wc (Lib.hid (hv.out.below (by have h := HB0.out; exact bthen h HBs.out))) hss)
        clear hbx HTr HGr p5a p5b p5c p5d p5n d7a d7b d7c d7n p7a p7b p7c p7d p7n p1a p1b p1c p1d p1n d10a d10b d10c d10n p10a p10b p10c p10d p10n d3a d3b d3c d3n p3a p3b p3c p3d p3n d100a d100b d100c d100n p100a p100b p100c p100d p100n d1000a d1000b d1000c d1000n d1000n2 d1000d s5y s5z s1y s1z s10y s10z s3y s3z s100y s100z s1000y s1000z s7y s7z hbl hgl z0 z1 z2 z3 z4 z5 z6 z7 z8 zc1 zc2
        go_wp2_with fail
        refine HM.out.mono ?_
        rintro e w5 ⟨rfl, hb⟩
        have HB5 := Lib.hid (bthen HBs.out hb)
        clear hb
        go_wp2_with fail
        go_roundw
        case rel => exact ⟨k + 1, by omega, by go_num, HB5⟩
        case measure => simp [intOf]; omega
      · have e1 : decide ((k : Int) < 10000) = false := by simp; omega
        go_wp2_with fail
        go_meet
        exact HB
  case rest =>
  have HB1 := Lib.hid (bthen HB0.out hcut.out)
  clear HB0 hcut HT0 HG0 HBE
  generalize wc = W1 at *
  have HB1' : Hid (Below w.heap.size w W1) := HB1.out
  clear HB1
  -- headers with numbers at their limits
  have HA0 := Lib.hid (Bk.new W1 9 aaA)
  have HBa : Hid (Below W1.heap.size W1 (W1.alloc (.cells #[.string ⟨#[]⟩, .string ⟨#[48]⟩, .string ⟨#[45, 49]⟩, .string ⟨#[43, 49]⟩, .string ⟨#[49, 48, 52, 56, 53, 55, 54]⟩, .string ⟨#[49, 48, 52, 56, 53, 55, 55]⟩, .string ⟨#[48, 49]⟩, .string ⟨#[57, 57, 57, 57, 57, 57, 57, 57, 57, 57, 57, 57, 57, 57, 57, 57, 57, 57, 57, 57]⟩, .string ⟨#[49, 32]⟩, .string ⟨#[32, 49]⟩] 9))) := balloc (Below.refl _ _) _
  go_upto_block 2 with fail
  have HB2 := Lib.hid (bthen HB1'.out HBa.out)
  clear HBa HB1'
  have HA0' : Hid (Bk (W1.alloc (.cells #[.string ⟨#[]⟩, .string ⟨#[48]⟩, .string ⟨#[45, 49]⟩, .string ⟨#[43, 49]⟩, .string ⟨#[49, 48, 52, 56, 53, 55, 54]⟩, .string ⟨#[49, 48, 52, 56, 53, 55, 55]⟩, .string ⟨#[48, 49]⟩, .string ⟨#[57, 57, 57, 57, 57, 57, 57, 57, 57, 57, 57, 57, 57, 57, 57, 57, 57, 57, 57, 57]⟩, .string ⟨#[49, 32]⟩, .string ⟨#[32, 49]⟩] 9)) W1.heap.size 9 aaA) := HA0.out
  clear HA0
  generalize (W1.alloc (.cells #[.string ⟨#[]⟩, .string ⟨#[48]⟩, .string ⟨#[45, 49]⟩, .string ⟨#[43, 49]⟩, .string ⟨#[49, 48, 52, 56, 53, 55, 54]⟩, .string ⟨#[49, 48, 52, 56, 53, 55, 55]⟩, .string ⟨#[48, 49]⟩, .string ⟨#[57, 57, 57, 57, 57, 57, 57, 57, 57, 57, 57, 57, 57, 57, 57, 57, 57, 57, 57, 57]⟩, .string ⟨#[49, 32]⟩, .string ⟨#[32, 49]⟩] 9)) = W2 at *
  obtain ⟨ba, hba⟩ : ∃ ba, W1.heap.size = ba := ⟨_, rfl⟩
  rw [hba] at HA0' ⊢
  clear hba
  go_cut [] (fun wx => Hid (Below W2.heap.size W2 wx))
  case first =>
    go_upto_region 12 with fail
    go_loopw [90] (fun v90 wr => ∃ k : Nat, k ≤ 10 ∧ v90 = .int .i64 k ∧ Hid (Below W2.heap.size W2 wr)) (fun v90 _ => 10 - (intOf v90).toNat)
    case atStart => exact ⟨0, Nat.zero_le _, rfl, Below.refl _ _⟩
    case round =>
      obtain ⟨k, hk, rfl, HB⟩ := hrel
      by_cases hlt : k < 10
      · have e1 : decide ((k : Int) < 10) = true := by simp; omega
        have hki : (k : Int) < 10 := by omega
        obtain ⟨sa, hsa, saz⟩ := aaA_at k hlt
        have say : wr.cell? ⟨ba, k, none⟩ = some (.string sa) := bk_at (bkbel HA0'.out HB.out) hsa
        have HB3 : Hid (Below W2.heap.size W2 (wr.alloc (.cells #[.string ⟨#[48]⟩, .string ⟨#[45, 49]⟩, .string ⟨#[50, 54, 50, 49, 52, 52]⟩, .string ⟨#[50, 54, 50, 49, 52, 53]⟩, .string ⟨#[48, 48]⟩, .string ⟨#[]⟩, .string ⟨#[57, 57, 57, 57, 57, 57, 57, 57, 57, 57, 57, 57, 57, 57, 57, 57, 57, 57, 57, 57]⟩, .string ⟨#[49, 32, 49]⟩, .string ⟨#[49, 32]⟩] 9))) := balloc HB.out _
        have HC3 : Hid (Bk (wr.alloc (.cells #[.string ⟨#[48]⟩, .string ⟨#[45, 49]⟩, .string ⟨#[50, 54, 50, 49, 52, 52]⟩, .string ⟨#[50, 54, 50, 49, 52, 53]⟩, .string ⟨#[48, 48]⟩, .string ⟨#[]⟩, .string ⟨#[57, 57, 57, 57, 57, 57, 57, 57, 57, 57, 57, 57, 57, 57, 57, 57, 57, 57, 57, 57]⟩, .string ⟨#[49, 32, 49]⟩, .string ⟨#[49, 32]⟩] 9)) wr.heap.size 9 bbA) := Bk.new wr 9 bbA
        clear hsa
        go_upto_block 4 with fail
        generalize (wr.alloc (.cells #[.string ⟨#[48]⟩, .string ⟨#[45, 49]⟩, .string ⟨#[50, 54, 50, 49, 52, 52]⟩, .string ⟨#[50, 54, 50, 49, 52, 53]⟩, .string ⟨#[48, 48]⟩, .string ⟨#[]⟩, .string ⟨#[57, 57, 57, 57, 57, 57, 57, 57, 57, 57, 57, 57, 57, 57, 57, 57, 57, 57, 57, 57]⟩, .string ⟨#[49, 32, 49]⟩, .string ⟨#[49, 32]⟩] 9)) = w3 at *
        obtain ⟨bb, hbb⟩ : ∃ bb, wr.heap.size = bb := ⟨_, rfl⟩
        rw [hbb] at HC3 ⊢
        clear hbb say
        go_upto_region 15 with fail
        go_loopw [96] (fun v96 wr2 => ∃ k2 : Nat, k2 ≤ 9 ∧ v96 = .int .i64 k2 ∧ Hid (Below W2.heap.size W2 wr2) ∧ Hid (Bk wr2 bb 9 bbA)) (fun v96 _ => 9 - (intOf v96).toNat)
        case atStart => exact ⟨0, Nat.zero_le _, rfl, HB3, HC3⟩
        case round =>
          obtain ⟨k2, hk2, rfl, HB4, HC4⟩ := hrel
          by_cases hlt2 : k2 < 9
          · have e2 : decide ((k2 : Int) < 9) = true := by simp; omega
            have hki2 : (k2 : Int) < 9 := by omega
            obtain ⟨sb, hsb, sbz⟩ := bbA_at k2 hlt2
            have sby : wr.cell? ⟨bb, k2, none⟩ = some (.string sb) := bk_at HC4.out hsb
            have g0a : (⟨#[112, 32, 99, 110, 102, 32]⟩ : ByteArray).size = 6 := rfl
            have g0b : ((⟨#[112, 32, 99, 110, 102, 32]⟩ : ByteArray) ++ sa).size ≤ 60 := by rw [cat_size]; omega
            have g0c : (((⟨#[112, 32, 99, 110, 102, 32]⟩ : ByteArray) ++ sa) ++ ⟨#[32]⟩).size ≤ 61 := by rw [cat_size]; show _ + 1 ≤ _; omega
            have g0d : ((((⟨#[112, 32, 99, 110, 102, 32]⟩ : ByteArray) ++ sa) ++ ⟨#[32]⟩) ++ sb).size ≤ 100 := by rw [cat_size]; omega
            have g1a : (⟨#[112, 32, 32, 99, 110, 102, 32]⟩ : ByteArray).size = 7 := rfl
            have g1b : ((⟨#[112, 32, 32, 99, 110, 102, 32]⟩ : ByteArray) ++ sa).size ≤ 60 := by rw [cat_size]; omega
            have g1c : (((⟨#[112, 32, 32, 99, 110, 102, 32]⟩ : ByteArray) ++ sa) ++ ⟨#[32]⟩).size ≤ 61 := by rw [cat_size]; show _ + 1 ≤ _; omega
            have g1d : ((((⟨#[112, 32, 32, 99, 110, 102, 32]⟩ : ByteArray) ++ sa) ++ ⟨#[32]⟩) ++ sb).size ≤ 100 := by rw [cat_size]; omega
            have g2a : (⟨#[99, 10, 32, 10, 10, 112, 32, 99, 110, 102, 32]⟩ : ByteArray).size = 11 := rfl
            have g2b : ((⟨#[99, 10, 32, 10, 10, 112, 32, 99, 110, 102, 32]⟩ : ByteArray) ++ sa).size ≤ 60 := by rw [cat_size]; omega
            have g2c : (((⟨#[99, 10, 32, 10, 10, 112, 32, 99, 110, 102, 32]⟩ : ByteArray) ++ sa) ++ ⟨#[32]⟩).size ≤ 61 := by rw [cat_size]; show _ + 1 ≤ _; omega
            have g2d : ((((⟨#[99, 10, 32, 10, 10, 112, 32, 99, 110, 102, 32]⟩ : ByteArray) ++ sa) ++ ⟨#[32]⟩) ++ sb).size ≤ 100 := by rw [cat_size]; omega
            have g3a : (⟨#[113, 32, 99, 110, 102, 32]⟩ : ByteArray).size = 6 := rfl
            have g3b : ((⟨#[113, 32, 99, 110, 102, 32]⟩ : ByteArray) ++ sa).size ≤ 60 := by rw [cat_size]; omega
            have g3c : (((⟨#[113, 32, 99, 110, 102, 32]⟩ : ByteArray) ++ sa) ++ ⟨#[32]⟩).size ≤ 61 := by rw [cat_size]; show _ + 1 ≤ _; omega
            have g3d : ((((⟨#[113, 32, 99, 110, 102, 32]⟩ : ByteArray) ++ sa) ++ ⟨#[32]⟩) ++ sb).size ≤ 100 := by rw [cat_size]; omega
            have gsp : (⟨#[32]⟩ : ByteArray).size = 1 := rfl
            have gnl : (⟨#[10, 48, 10]⟩ : ByteArray).size = 3 := rfl
            have g4 : (((((⟨#[112, 32, 99, 110, 102, 32]⟩ : ByteArray) ++ sa) ++ ⟨#[32]⟩) ++ sb) ++ ⟨#[10, 48, 10]⟩).size ≤ 110 := by rw [cat_size]; omega
            have HFV := Lib.hid (five_at (Nat.le_trans g0d (by omega)) (Nat.le_trans g1d (by omega)) (Nat.le_trans g4 (by omega)) (Nat.le_trans g2d (by omega)) (Nat.le_trans g3d (by omega)))
            have HB5 : Hid (Below W2.heap.size W2 (wr.alloc (.cells #[.string ((((⟨#[112, 32, 99, 110, 102, 32]⟩ : ByteArray) ++ sa) ++ ⟨#[32]⟩) ++ sb), .string ((((⟨#[112, 32, 32, 99, 110, 102, 32]⟩ : ByteArray) ++ sa) ++ ⟨#[32]⟩) ++ sb), .string (((((⟨#[112, 32, 99, 110, 102, 32]⟩ : ByteArray) ++ sa) ++ ⟨#[32]⟩) ++ sb) ++ ⟨#[10, 48, 10]⟩), .string ((((⟨#[99, 10, 32, 10, 10, 112, 32, 99, 110, 102, 32]⟩ : ByteArray) ++ sa) ++ ⟨#[32]⟩) ++ sb), .string ((((⟨#[113, 32, 99, 110, 102, 32]⟩ : ByteArray) ++ sa) ++ ⟨#[32]⟩) ++ sb)] 9))) := balloc HB4.out _
            have HC5 : Hid (Bk (wr.alloc (.cells #[.string ((((⟨#[112, 32, 99, 110, 102, 32]⟩ : ByteArray) ++ sa) ++ ⟨#[32]⟩) ++ sb), .string ((((⟨#[112, 32, 32, 99, 110, 102, 32]⟩ : ByteArray) ++ sa) ++ ⟨#[32]⟩) ++ sb), .string (((((⟨#[112, 32, 99, 110, 102, 32]⟩ : ByteArray) ++ sa) ++ ⟨#[32]⟩) ++ sb) ++ ⟨#[10, 48, 10]⟩), .string ((((⟨#[99, 10, 32, 10, 10, 112, 32, 99, 110, 102, 32]⟩ : ByteArray) ++ sa) ++ ⟨#[32]⟩) ++ sb), .string ((((⟨#[113, 32, 99, 110, 102, 32]⟩ : ByteArray) ++ sa) ++ ⟨#[32]⟩) ++ sb)] 9)) bb 9 bbA) := HC4.out.alloc _
            have HV5 : Hid (Bk (wr.alloc (.cells #[.string ((((⟨#[112, 32, 99, 110, 102, 32]⟩ : ByteArray) ++ sa) ++ ⟨#[32]⟩) ++ sb), .string ((((⟨#[112, 32, 32, 99, 110, 102, 32]⟩ : ByteArray) ++ sa) ++ ⟨#[32]⟩) ++ sb), .string (((((⟨#[112, 32, 99, 110, 102, 32]⟩ : ByteArray) ++ sa) ++ ⟨#[32]⟩) ++ sb) ++ ⟨#[10, 48, 10]⟩), .string ((((⟨#[99, 10, 32, 10, 10, 112, 32, 99, 110, 102, 32]⟩ : ByteArray) ++ sa) ++ ⟨#[32]⟩) ++ sb), .string ((((⟨#[113, 32, 99, 110, 102, 32]⟩ : ByteArray) ++ sa) ++ ⟨#[32]⟩) ++ sb)] 9)) wr.heap.size 9 #[.string ((((⟨#[112, 32, 99, 110, 102, 32]⟩ : ByteArray) ++ sa) ++ ⟨#[32]⟩) ++ sb), .string ((((⟨#[112, 32, 32, 99, 110, 102, 32]⟩ : ByteArray) ++ sa) ++ ⟨#[32]⟩) ++ sb), .string (((((⟨#[112, 32, 99, 110, 102, 32]⟩ : ByteArray) ++ sa) ++ ⟨#[32]⟩) ++ sb) ++ ⟨#[10, 48, 10]⟩), .string ((((⟨#[99, 10, 32, 10, 10, 112, 32, 99, 110, 102, 32]⟩ : ByteArray) ++ sa) ++ ⟨#[32]⟩) ++ sb), .string ((((⟨#[113, 32, 99, 110, 102, 32]⟩ : ByteArray) ++ sa) ++ ⟨#[32]⟩) ++ sb)]) := Bk.new wr _ _
            clear hsb
            go_upto_block 6 with fail
            generalize (wr.alloc (.cells #[.string ((((⟨#[112, 32, 99, 110, 102, 32]⟩ : ByteArray) ++ sa) ++ ⟨#[32]⟩) ++ sb), .string ((((⟨#[112, 32, 32, 99, 110, 102, 32]⟩ : ByteArray) ++ sa) ++ ⟨#[32]⟩) ++ sb), .string (((((⟨#[112, 32, 99, 110, 102, 32]⟩ : ByteArray) ++ sa) ++ ⟨#[32]⟩) ++ sb) ++ ⟨#[10, 48, 10]⟩), .string ((((⟨#[99, 10, 32, 10, 10, 112, 32, 99, 110, 102, 32]⟩ : ByteArray) ++ sa) ++ ⟨#[32]⟩) ++ sb), .string ((((⟨#[113, 32, 99, 110, 102, 32]⟩ : ByteArray) ++ sa) ++ ⟨#[32]⟩) ++ sb)] 9)) = w5 at *
            obtain ⟨b5, hb5⟩ : ∃ b5, wr.heap.size = b5 := ⟨_, rfl⟩
            rw [hb5] at HV5 ⊢
            clear hb5 sby HB4 HC4
            go_upto_region 18 with fail
            go_loopw [128] (fun v128 wr3 => ∃ k3 : Nat, k3 ≤ 5 ∧ v128 = .int .i64 k3 ∧ Hid (Below W2.heap.size W2 wr3) ∧ Hid (Bk wr3 bb 9 bbA) ∧ Hid (Bk wr3 b5 9 #[.string ((((⟨#[112, 32, 99, 110, 102, 32]⟩ : ByteArray) ++ sa) ++ ⟨#[32]⟩) ++ sb), .string ((((⟨#[112, 32, 32, 99, 110, 102, 32]⟩ : ByteArray) ++ sa) ++ ⟨#[32]⟩) ++ sb), .string (((((⟨#[112, 32, 99, 110, 102, 32]⟩ : ByteArray) ++ sa) ++ ⟨#[32]⟩) ++ sb) ++ ⟨#[10, 48, 10]⟩), .string ((((⟨#[99, 10, 32, 10, 10, 112, 32, 99, 110, 102, 32]⟩ : ByteArray) ++ sa) ++ ⟨#[32]⟩) ++ sb), .string ((((⟨#[113, 32, 99, 110, 102, 32]⟩ : ByteArray) ++ sa) ++ ⟨#[32]⟩) ++ sb)])) (fun v128 _ => 5 - (intOf v128).toNat)
            case atStart => exact ⟨0, Nat.zero_le _, rfl, HB5, HC5, HV5⟩
            case round =>
              obtain ⟨k3, hk3, rfl, HB6, HC6, HV6⟩ := hrel
              by_cases hlt3 : k3 < 5
              · have e3 : decide ((k3 : Int) < 5) = true := by simp; omega
                have hki3 : (k3 : Int) < 5 := by omega
                obtain ⟨s, hs5, ssz⟩ := HFV.out k3 hlt3
                have sy : wr.cell? ⟨b5, k3, none⟩ = some (.string s) := bk_at HV6.out hs5
                have HM := Lib.hid (reads6 s wr (Lib.hid (hv.out.below (bthen HB2.out HB6.out))) ssz)
                clear hs5
                go_wp2_with fail
                refine HM.out.mono ?_
                rintro e w6 ⟨rfl, hb⟩
                have HB7 := Lib.hid (bthen HB6.out hb)
                have HC7 := Lib.hid (bkbel HC6.out hb)
                have HV7 := Lib.hid (bkbel HV6.out hb)
                clear hb HB6 HC6 HV6 HM sy
                go_wp2_with fail
                go_roundw
                case rel => exact ⟨k3 + 1, by omega, by go_num, HB7, HC7, HV7⟩
                case measure => simp [intOf]; omega
              · have e3 : decide ((k3 : Int) < 5) = false := by simp; omega
                go_wp2_with fail
                go_roundw
                case rel => exact ⟨k2 + 1, by omega, by go_num, HB6, HC6⟩
                case measure => simp [intOf]; omega
          · have e2 : decide ((k2 : Int) < 9) = false := by simp; omega
            go_wp2_with fail
            go_roundw
            case rel => exact ⟨k + 1, by omega, by go_num, HB4⟩
            case measure => simp [intOf]; omega
      · have e1 : decide ((k : Int) < 10) = false := by simp; omega
        go_wp2_with fail
        go_meet
        exact HB
  case rest =>
  have HB3 : Hid (Below w.heap.size w wc) := bthen HB2.out hcut.out
  clear HB2 hcut HA0'
  generalize wc = W3 at *
  -- numbers through writes
  have HN0 : Hid (Bk (W3.alloc (.cells #[.int .i64 (-9223372036854775808), .int .i64 (-1), .int .i64 (0), .int .i64 (262144), .int .i64 (262145), .int .i64 (1048576), .int .i64 (1048577), .int .i64 (9223372036854775807)] 3)) W3.heap.size 3 nnA) := Bk.new W3 3 nnA
  have HB4 : Hid (Below w.heap.size w (W3.alloc (.cells #[.int .i64 (-9223372036854775808), .int .i64 (-1), .int .i64 (0), .int .i64 (262144), .int .i64 (262145), .int .i64 (1048576), .int .i64 (1048577), .int .i64 (9223372036854775807)] 3))) := balloc HB3.out _
  clear HB3
  go_upto_block 8 with fail
  generalize (W3.alloc (.cells #[.int .i64 (-9223372036854775808), .int .i64 (-1), .int .i64 (0), .int .i64 (262144), .int .i64 (262145), .int .i64 (1048576), .int .i64 (1048577), .int .i64 (9223372036854775807)] 3)) = W4 at *
  obtain ⟨bn, hbn⟩ : ∃ bn, W3.heap.size = bn := ⟨_, rfl⟩
  rw [hbn] at HN0 ⊢
  clear hbn
  go_cut [] (fun wx => Hid (Below W4.heap.size W4 wx))
  case first =>
    go_upto_region 26 with fail
    go_loopw [140] (fun v140 wr => ∃ k : Nat, k ≤ 8 ∧ v140 = .int .i64 k ∧ Hid (Below W4.heap.size W4 wr)) (fun v140 _ => 8 - (intOf v140).toNat)
    case atStart => exact ⟨0, Nat.zero_le _, rfl, Below.refl _ _⟩
    case round =>
      obtain ⟨k, hk, rfl, HB⟩ := hrel
      by_cases hlt : k < 8
      · have e1 : decide ((k : Int) < 8) = true := by simp; omega
        have hki : (k : Int) < 8 := by omega
        obtain ⟨n, hn, hni⟩ := nnA_at k hlt
        have ny : wr.cell? ⟨bn, k, none⟩ = some (.int .i64 n) := bk_at (bkbel HN0.out HB.out) hn
        have HNI := Lib.hid hni
        clear hn hni
        go_wp2_with fail
        refine (writes6 n none 0 0 [] n 0 wr (Lib.hid (hv.out.below (bthen HB4.out HB.out))) (Lib.hid (cls_none _)) (by omega) (Lib.hid (by decide))).mono ?_
        rintro e w6 ⟨rfl, hb⟩
        have HB5 := Lib.hid (bthen HB.out hb)
        clear hb ny
        go_wp2_with fail
        refine (writes6 1 none 0 0 [] 0 n w6 (Lib.hid (hv.out.below (bthen HB4.out HB5.out))) (Lib.hid (cls_none _)) (by omega) (Lib.hid (by decide))).mono ?_
        rintro e w7 ⟨rfl, hb⟩
        have HB6 := Lib.hid (bthen HB5.out hb)
        clear hb HB5
        have HP := Lib.hid (pair_cls w7 n HNI.out)
        have HB7 : Hid (Below W4.heap.size W4 (((w7.alloc (.cells #[.int .i64 1] 3)).alloc (.cells #[.int .i64 n] 3)).alloc (.cells #[.slice (some ⟨w7.heap.size, 0, none⟩) 1 1, .slice (some ⟨w7.heap.size + 1, 0, none⟩) 1 1] 61))) := balloc (balloc (balloc HB6.out _) _) _
        have HOF := Lib.hid (ofC 3 _ 2 2 _ _ HP (by omega))
        clear HP
        go_wp2_with fail
        refine HOF.out.mono ?_
        rintro e w8 hp1
        obtain ⟨v8, A8, n8, c8, Q8, rfl, hc8, hq8, hb⟩ := hp1.v
        have hcl8 : clsOf Q8 = [[1], [n]] := by
          have h1 := congrArg Fm.cls hq8
          exact h1
        have hn8 : n8 = 2 := by
          rw [← hc8.len, ← clsOf_len, hcl8]
          rfl
        subst hn8
        have HC8 := Lib.hid hc8
        have HS8 : Hid (((clsOf Q8).map List.length).sum ≤ 1000) := by
          show _ ≤ _
          rw [hcl8]
          simp
        have HB8 := Lib.hid (bthen HB7.out hb)
        clear hc8 hq8 hcl8 hb hp1 HB7 HOF
        go_wp2_with fail
        refine (writes6 v8 A8 2 c8 Q8 n n w8 (Lib.hid (hv.out.below (bthen HB4.out HB8.out))) HC8 (by omega) HS8).mono ?_
        rintro e w9 ⟨rfl, hb⟩
        have HB9 := Lib.hid (bthen HB8.out hb)
        clear hb HC8 HS8
        go_wp2_with fail
        go_roundw
        case rel => exact ⟨k + 1, by omega, by go_num, HB9⟩
        case measure => simp [intOf]; omega
      · have e1 : decide ((k : Int) < 8) = false := by simp; omega
        go_wp2_with fail
        go_meet
        exact HB
  case rest =>
  have HB5 : Hid (Below w.heap.size w wc) := bthen HB4.out hcut.out
  clear HB4 hcut HN0
  generalize wc = W5 at *
  -- long texts
  obtain ⟨LL, fL, hLl, hL1, hL2, hLC⟩ := long_parts
  obtain ⟨SS, hSS, hSC⟩ := space_parts
  have HL1 := Lib.hid hL1
  have HL2 := Lib.hid hL2
  have HLC := Lib.hid hLC
  have HSC := Lib.hid hSC
  have HS3 : Hid (readD SS.data.toList = (F0, 0, 3)) := long_three (by rw [data_len, hSS]; omega)
  have hSz : SS.size ≤ 20000000 := by rw [hSS]; decide
  clear hL1 hL2 hLC hSC hSS
  have hll : (str LL).size ≤ 10000 := by rw [str_size]; exact hLl
  clear hLl
  have l0 : (⟨#[112, 32, 99, 110, 102, 32, 49, 32, 49, 10]⟩ : ByteArray).size = 10 := rfl
  have l1 : ((⟨#[112, 32, 99, 110, 102, 32, 49, 32, 49, 10]⟩ : ByteArray) ++ str LL).size ≤ 10010 := by rw [cat_size]; omega
  have l2 : (⟨#[48, 10]⟩ : ByteArray).size = 2 := rfl
  have l3 : (((⟨#[112, 32, 99, 110, 102, 32, 49, 32, 49, 10]⟩ : ByteArray) ++ str LL) ++ ⟨#[48, 10]⟩).size ≤ 10012 := by rw [cat_size]; omega
  have l4 : (⟨#[10, 49, 32, 48, 10]⟩ : ByteArray).size = 5 := rfl
  have l5 : (((⟨#[112, 32, 99, 110, 102, 32, 49, 32, 49, 10]⟩ : ByteArray) ++ str LL) ++ ⟨#[10, 49, 32, 48, 10]⟩).size ≤ 10015 := by rw [cat_size]; omega
  go_wp2_with fail
  refine (HLC.out W5).mono ?_
  rintro e w6 ⟨rfl, hb⟩
  have HB6 := Lib.hid (bthen HB5.out hb)
  clear hb HB5
  have HR1 := Lib.hid (readV6 (((⟨#[112, 32, 99, 110, 102, 32, 49, 32, 49, 10]⟩ : ByteArray) ++ str LL) ++ ⟨#[48, 10]⟩) w6 (Lib.hid (hv.out.below HB6.out)) (Nat.le_trans l3 (by decide)) (fL, 0, 0) HL1)
  go_wp2_with fail
  refine HR1.out.mono ?_
  rintro e w7 ⟨v7, A7, n7, c7, Q7, rfl, hc7, hq7, hb⟩
  have HB7 : Hid (Below w.heap.size w (w7.alloc (.cells #[.int .i64 v7, .slice A7 n7 c7] 24))) := balloc (bthen HB6.out hb) _
  clear hc7 hq7 hb HB6 HR1
  dsimp only
  go_upto_region 33 with fail
  generalize (w7.alloc (.cells #[.int .i64 v7, .slice A7 n7 c7] 24)) = W7 at *
  have HR2 := Lib.hid (readV6 (((⟨#[112, 32, 99, 110, 102, 32, 49, 32, 49, 10]⟩ : ByteArray) ++ str LL) ++ ⟨#[10, 49, 32, 48, 10]⟩) W7 (Lib.hid (hv.out.below HB7.out)) (Nat.le_trans l5 (by decide)) (F0, 3, 5) HL2)
  go_wp2_with fail
  refine HR2.out.mono ?_
  rintro e w8 ⟨v8, A8, n8, c8, Q8, rfl, hc8, hq8, hb⟩
  have HB8 : Hid (Below w.heap.size w (w8.alloc (.cells #[.int .i64 v8, .slice A8 n8 c8] 24))) := balloc (bthen HB7.out hb) _
  clear hc8 hq8 hb HB7 HR2
  dsimp only
  go_upto_region 34 with fail
  generalize (w8.alloc (.cells #[.int .i64 v8, .slice A8 n8 c8] 24)) = W8 at *
  go_wp2_with fail
  refine (HSC.out W8).mono ?_
  rintro e w9 ⟨rfl, hb⟩
  have HB9 := Lib.hid (bthen HB8.out hb)
  clear hb HB8
  have HR3 := Lib.hid (readV6 SS w9 (Lib.hid (hv.out.below HB9.out)) hSz (F0, 0, 3) HS3)
  go_wp2_with fail
  refine HR3.out.mono ?_
  rintro e w10 ⟨v9, A9, n9, c9, Q9, rfl, hc9, hq9, hb⟩
  have HBa : Hid (Below w.heap.size w (w10.alloc (.cells #[.int .i64 v9, .slice A9 n9 c9] 24))) := balloc (bthen HB9.out hb) _
  clear hc9 hq9 hb HB9 l0 l1 l2 l3 l4 l5 hll HL1 HL2 HLC HSC HS3 hSz
  dsimp only
  go_upto_region 35 with fail
  generalize (w10.alloc (.cells #[.int .i64 v9, .slice A9 n9 c9] 24)) = Wa at *
  -- a long formula
  have HF0 : Hid (FmB Wa Wa.heap.size 1048576 none 0 [] [] (Wa.alloc (.cells #[.int .i64 1048576, .slice none 0 0] 24))) := by
    exact ⟨Bk.new Wa _ _, World.ownsRow_nil _ _ _ _, rfl, fun q hq => (by cases hq), balloc (Below.refl _ _) _⟩
  go_upto_block 10 with fail
  generalize (Wa.alloc (.cells #[.int .i64 1048576, .slice none 0 0] 24)) = Wb at *
  obtain ⟨p, hp⟩ : ∃ p, Wa.heap.size = p := ⟨_, rfl⟩
  have hpw : Wa.heap.size ≤ p := by omega
  have hpw2 : p ≤ Wa.heap.size := by omega
  rw [hp] at HF0 ⊢
  clear hp
  go_cut [] (fun wx => ∃ (A : Option Addr) (c : Nat) (Q : List (SV × List Int)), Hid (FmB Wa p 1048576 A c Q (List.replicate 300 lowC) wx))
  case first =>
    go_upto_region 38 with fail
    go_loopw [191] (fun v191 wr => ∃ (k : Nat) (A : Option Addr) (c : Nat) (Q : List (SV × List Int)), k ≤ 300 ∧ v191 = .int .i64 k ∧ Hid (FmB Wa p 1048576 A c Q (List.replicate k lowC) wr)) (fun v191 _ => 300 - (intOf v191).toNat)
    case atStart => exact ⟨0, none, 0, [], Nat.zero_le _, rfl, HF0⟩
    case round =>
      obtain ⟨k, A, c, Q, hk, rfl, HF⟩ := hrel
      by_cases hlt : k < 300
      · have e1 : decide ((k : Int) < 300) = true := by simp; omega
        have hki : (k : Int) < 300 := by omega
        have hcl : (List.replicate k lowC).length = k := List.length_replicate
        have hbox := HF.out.box
        have hown := HF.out.own
        rw [hcl] at hbox hown
        have HBX := Lib.hid hbox
        have HOWN := Lib.hid hown
        have HCL := Lib.hid hcl
        have hpl := hbox.lt
        clear hbox hown hcl
        have RM := fun w => makeCl w
        have HFI : Hid (FillR (wr.alloc (.cells zerosC 53)) wr.heap.size 0) := ⟨zerosC, Bk.new wr _ _, zerosC_size, fun j hj => by omega⟩
        have HBF : Hid (Below wr.heap.size wr (wr.alloc (.cells zerosC 53))) := balloc (Below.refl _ _) _
        obtain ⟨g, hg⟩ : ∃ g, wr.heap.size = g := ⟨_, rfl⟩
        have HGE := Lib.hid hg
        have hgs : g ≤ wr.heap.size := by omega
        go_upto_block 12 with fail
        clear RM
        generalize (wr.alloc (.cells zerosC 53)) = w3 at *
        rw [hg] at HFI
        first | rw [hg] | skip
        clear hg
        have HBF2 : Hid (Below g wr w3) := HBF.out.mono hgs
        go_cut [] (fun wx => Hid (FillR wx g 2000) ∧ Hid (Below g wr wx))
        case first =>
          go_upto_region 41 with fail
          go_loopw [196] (fun v196 wr2 => ∃ j : Nat, j ≤ 2000 ∧ v196 = .int .i64 j ∧ Hid (FillR wr2 g j) ∧ Hid (Below g wr wr2)) (fun v196 _ => 2000 - (intOf v196).toNat)
          case atStart => exact ⟨0, Nat.zero_le _, rfl, HFI, HBF2⟩
          case round =>
            obtain ⟨j, hj, rfl, HFJ, HBJ⟩ := hrel
            by_cases hjt : j < 2000
            · have e2 : decide ((j : Int) < 2000) = true := by simp; omega
              have hji : (j : Int) < 2000 := by omega
              obtain ⟨⟨u, hu⟩, hf⟩ := HFJ.out.cell hjt
              have HP := Lib.hid (HFJ.out.put hjt)
              have HBP := Lib.hid (HBJ.out.setCell (p := ⟨g, j, none⟩) (Nat.le_refl _) (.int .i64 (-1048576)))
              go_wp2_with fail
              go_roundw
              case rel => exact ⟨j + 1, by omega, by go_num, HP, HBP⟩
              case measure => simp [intOf]; omega
            · obtain rfl : j = 2000 := by omega
              have e2 : decide (((2000 : Nat) : Int) < 2000) = false := by decide
              go_wp2_with fail
              go_meet
              exact ⟨HFJ, HBJ⟩
        case rest =>
        obtain ⟨HFJ, HBJ⟩ := hcut
        generalize wc = wz at *
        have HBZ : Hid (Below wr.heap.size wr wz) := by have h := HGE.out; rw [h]; exact HBJ.out
        have HRO := Lib.hid (HFJ.out.own (B := g) (Nat.le_refl _))
        have HBX2 := Lib.hid (bkbel HBX.out HBZ.out)
        have HOW2 := Lib.hid (own_bel HOWN.out HBZ.out)
        have hwzs := HBZ.out.size
        have hfsz := HF.out.bel.size
        clear HFI HBF HBF2 HFJ HBJ
        obtain ⟨y0, y1⟩ := cells2 HBX2.out
        go_wp2_with (at_builtin; refine wpList_app el_cls rfl (.tmp 204) (.tmp 206) rfl (p + 1) (.slice A k c) k (Q.map slV) rfl (HOW2.out.alloc _) (some ⟨wz.heap.size, 0, none⟩) 1 1 [.slice (some ⟨g, 0, none⟩) 2000 2000] rfl (Rd.new _ #[_] _) rfl (by simp [Value.oneCell']) (by omega) (by simp; omega) ?_; intro A5 c5 w5 ho5 hg5 hat5; have HX5 := Lib.hid (grown_box (HBX2.out.alloc (.cells #[.slice (some ⟨g, 0, none⟩) 2000 2000] 55)) (HOW2.out.alloc (.cells #[.slice (some ⟨g, 0, none⟩) 2000 2000] 55)) (Nat.lt_succ_self _) hg5); have q1 := HX5.out.cell 1; have f1 := HX5.out.frozen 1; have HO5 := Lib.hid ho5; have HG5 := Lib.hid hg5; clear ho5 hg5 hat5)
        go_roundw
        case rel =>
          have hcl := HCL.out
          have hp5 := HF.out.push (A' := A5) (c' := c5) hpw HBZ.out low_len (by omega) low_i64 HRO.out (by rw [hcl]; exact HG5.out) (by rw [hcl]; exact HO5.out)
          rw [hcl, ← rep_snoc] at hp5
          exact ⟨k + 1, A5, c5, _, by omega, by go_num, hp5⟩
        case measure => simp [intOf]; omega
      · obtain rfl : k = 300 := by omega
        have e1 : decide (((300 : Nat) : Int) < 300) = false := by decide
        go_wp2_with fail
        go_meet
        exact ⟨A, c, Q, HF⟩
  case rest =>
  obtain ⟨A, c, Q, HF⟩ := hcut
  generalize wc = Wc at *
  have hbox := HF.out.box
  have hclA := HF.out.out (by rw [List.length_replicate]; omega)
  have HCQ : Hid (clsOf Q = List.replicate 300 lowC) := HF.out.cls
  rw [List.length_replicate] at hbox hclA
  have HBb : Hid (Below w.heap.size w Wc) := bthen HBa.out HF.out.bel
  have HCA := Lib.hid hclA
  have HWM : Hid (writeD ⟨1048576, clsOf Q⟩ = ([], 3)) := by
    show _ = _
    rw [HCQ.out]
    exact many_write
  clear hclA HF HF0 HBa
  obtain ⟨y0, y1⟩ := cells2 hbox
  have HWR := Lib.hid (writeD6 1048576 A 300 c Q Wc HCA (Lib.hid (hv.out.below HBb.out)))
  clear hbox
  rw [HWM.out] at HWR
  clear HWM HCQ HCA
  go_wp2_with fail
  refine HWR.out.mono ?_
  rintro e wd ⟨rfl, hb⟩
  have HBc := Lib.hid (bthen HBb.out hb)
  clear hb HWR y0 y1
  dsimp only
  go_wp2_with fail
  refine (awake6 wd (Lib.hid (hv.out.below HBc.out))).mono ?_
  rintro e we ⟨rfl, hb⟩
  have HBd := Lib.hid (bthen HBc.out hb)
  clear hb
  go_wp2
  go_ret
  exact ⟨rfl, HBd.out⟩
end Go.Proofs.YtkpcpclaadgnbaaGreatDoor
