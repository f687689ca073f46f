/-
  What the listed variables hold; strings.Cut at a colon; Reserved.
-/
import Derived.Test.YtehcpcpmcngnjaaDoorBase30
import Derived.Test.YtehcpcpmcngnjaaDoorPars
import Derived.Lib.LaidTab
set_option linter.unusedVariables false
set_option linter.unusedSimpArgs false
namespace Go.Proofs.YtehcpcpmcngnjaaDoor
open Go.RowKit Go.PlainAid

/-- What the listed variables hold. -/
structure Vars (w : World) : Prop where
  max : ∃ m, w.cell? ⟨0, 0, none⟩ = some (.int .i64 m)
  asc : Lib.TabIs Tryd.prog w "strings.asciiSpace" .u8 Lib.asciiSpaceTab
theorem gascii : Tryd.prog.globalNamed "strings.asciiSpace" = some 1 := by kernel_rfl
theorem Vars.lt {w : World} (h : Vars w) : 0 < w.heap.size ∧ 1 < w.heap.size := by
  obtain ⟨⟨m, h1⟩, h2⟩ := h
  refine ⟨World.block_lt_of_cell? w _ h1, ?_⟩
  unfold Lib.TabIs World.var? at h2
  rw [gascii, Option.bind_some] at h2
  rcases Nat.lt_or_ge 1 w.heap.size with h | h
  · exact h
  · rw [Array.getElem?_eq_none h] at h2; cases h2
theorem Vars.fr {F : Nat → Prop} {w w' : World} (h : Vars w) (hf : Fr F w w') (h0 : ¬ F 0) (h1 : ¬ F 1) : Vars w' := by
  obtain ⟨l0, l1⟩ := h.lt
  obtain ⟨⟨m, h2⟩, h3⟩ := h
  refine ⟨⟨m, (hf.cell (p := ⟨0, 0, none⟩) l0 h0).trans h2⟩, ?_⟩
  unfold Lib.TabIs World.var? at h3 ⊢
  rw [gascii, Option.bind_some] at h3 ⊢
  rw [hf.block _ l1 h1]
  exact h3
theorem Vars.below {w w' : World} (h : Vars w) (hb : Below w.heap.size w w') : Vars w' := h.fr (Fr.of_below (F := fun _ => False) hb) (fun h => h) (fun h => h)
/-! ### Cut -/
theorem index_none1 (c : UInt8) : ∀ (s : List UInt8), (cut1 c s).2.2 = false → Lib.index s [c] = -1 ∧ cut1 c s = (s, [], false)
  | [], _ => ⟨rfl, rfl⟩
  | b :: l, h => by
    unfold cut1 at h ⊢
    by_cases hb : b = c
    · rw [if_pos hb] at h; cases h
    · rw [if_neg hb] at h ⊢
      obtain ⟨h1, h2⟩ := index_none1 c l h
      have hcb : ¬ c = b := fun e => hb e.symm
      refine ⟨?_, by rw [h2]⟩
      unfold Lib.index
      rw [h1, if_neg (by simp [List.isPrefixOf, hcb])]
      rfl
theorem index_some1 (c : UInt8) : ∀ (s : List UInt8), (cut1 c s).2.2 = true → ∃ n : Nat, Lib.index s [c] = (n : Int) ∧ s.take n = (cut1 c s).1 ∧ s.drop (n + 1) = (cut1 c s).2.1
  | [], h => by cases h
  | b :: l, h => by
    unfold cut1 at h ⊢
    by_cases hb : b = c
    · rw [if_pos hb]
      refine ⟨0, ?_, rfl, rfl⟩
      subst hb
      unfold Lib.index
      simp [List.isPrefixOf]
    · rw [if_neg hb] at h ⊢
      obtain ⟨n, h1, h2, h3⟩ := index_some1 c l h
      have hcb : ¬ c = b := fun e => hb e.symm
      refine ⟨n + 1, ?_, by rw [List.take_succ_cons, h2], by rw [List.drop_succ_cons, h3]⟩
      unfold Lib.index
      rw [h1, if_neg (by simp [List.isPrefixOf, hcb]), if_neg (by simp)]
      rfl
theorem cut_one (c : UInt8) (s : List UInt8) : Lib.cut s [c] = cut1 c s := by
  unfold Lib.cut
  cases h : (cut1 c s).2.2 with
  | false =>
    obtain ⟨h1, h2⟩ := index_none1 c s h
    rw [h1, h2]
    rfl
  | true =>
    obtain ⟨n, h1, h2, h3⟩ := index_some1 c s h
    rw [h1, if_pos (by omega), Int.toNat_natCast, h2, show n + [c].length = n + 1 from rfl, h3, ← h]
theorem cut1_len (c : UInt8) : ∀ (s : List UInt8), (cut1 c s).1.length ≤ s.length ∧ (cut1 c s).2.1.length ≤ s.length
  | [] => ⟨Nat.le_refl _, Nat.le_refl _⟩
  | b :: l => by
    have := cut1_len c l
    unfold cut1
    split
    · simp
    · simp only [List.length_cons]; omega
theorem cutC (s : ByteArray) (w : World) (hs : s.size ≤ 100000000) (hv : Hid (Vars w)) : Calls Tryd.prog 74 #[.string s, .string ⟨#[58]⟩] w fun e w' => e = .returned (.tuple #[.string (str (cut1 58 s.data.toList).1), .string (str (cut1 58 s.data.toList).2.1), .bool (cut1 58 s.data.toList).2.2]) ∧ Below w.heap.size w w' := by
  obtain ⟨m, hm⟩ := hv.out.max
  refine (Tryd.strings_Cut s ⟨#[58]⟩ m w (by omega) hm).mono ?_
  rintro e w' ⟨rfl, n, rfl⟩
  rw [show Lib.cut s.data.toList (⟨#[58]⟩ : ByteArray).data.toList = cut1 58 s.data.toList from cut_one 58 _]
  exact ⟨rfl, below_drewN _ _⟩
/-! ### Reserved -/
def resvS : List UInt8 := [32, 100, 101, 118, 105, 99, 101, 32, 119, 105, 100, 116, 104, 32, 105, 110, 112, 117, 116, 32, 103, 104, 111, 115, 116, 32, 118, 97, 114, 32, 97, 114, 114, 97, 121, 32, 114, 101, 113, 117, 105, 114, 101, 32, 105, 110, 105, 116, 32, 112, 114, 111, 99, 32, 119, 111, 114, 107, 32, 114, 101, 99, 111, 118, 101, 114, 32, 105, 110, 118, 97, 114, 105, 97, 110, 116, 32, 102, 108, 117, 115, 104, 32, 98, 97, 114, 114, 105, 101, 114, 32, 119, 114, 105, 116, 101, 32, 105, 102, 32, 101, 108, 115, 101, 32, 119, 104, 105, 108, 101, 32, 98, 111, 117, 110, 100, 32, 99, 97, 108, 108, 32, 100, 105, 115, 107, 32]
set_option maxRecDepth 100000 in
theorem resv_fields : Lib.fields resvS = resvW := by decide +kernel
theorem resv_ascii : ∀ (j : Nat) (b : UInt8), resvS[j]? = some b → b.toNat < 128 := by
  have h : ∀ b ∈ resvS, b.toNat < 128 := by decide +kernel
  intro j b hb
  exact h b (List.mem_of_getElem? hb)
theorem resv_contains (x : List UInt8) : Lib.containsS (resvW.map str) (str x) = resvB x := by
  unfold resvB
  rw [Bool.eq_iff_iff, Lib.containsS_iff, List.contains_iff_mem, List.mem_map]
  constructor
  · rintro ⟨y, hy, e⟩
    rw [← str_inj e]
    exact hy
  · intro h
    exact ⟨x, h, rfl⟩
set_option maxRecDepth 100000 in
theorem resvC (x : List UInt8) (w : World) (hv : Hid (Vars w)) : Calls Tryd.prog 76 #[.string (str x)] w fun e w' => e = .returned (.bool (resvB x)) ∧ Below w.heap.size w w' := by
  have hF := Tryd.strings_Fields (str resvS) w (by decide) resv_ascii hv.out.asc
  rw [show (str resvS).data.toList = resvS from rfl, resv_fields] at hF
  have HF := Lib.hid hF
  have hC : ∀ w', Bk w' w.heap.size 9 (resvW.map fun l => Value.string (str l)).toArray → Calls Tryd.prog 80 #[.slice (some ⟨w.heap.size, 0, none⟩) resvW.length resvW.length, .string (str x)] w' fun e w'' => e = .returned (.bool (resvB x)) ∧ w'' = w' := fun w' hb => by
    have h1 := Tryd.slices_Contains_string w.heap.size 0 resvW.length resvW.length (resvW.map str) (str x) w' (by rw [List.length_map]; exact Nat.le_refl _) (by decide) (fun j hj => by
      have h2 := hb.cell (0 + j)
      rw [h2]
      rw [List.length_map] at hj
      simp [List.getD_eq_getElem?_getD, hj])
    rw [List.take_of_length_le (by rw [List.length_map]; exact Nat.le_refl _), resv_contains] at h1
    exact h1
  have HC := Lib.hid hC
  have HB : Hid (Below w.heap.size w (w.alloc (.cells (resvW.map fun l => Value.string (str l)).toArray 9))) := balloc (Below.refl _ _) _
  have HK := Lib.hid (Bk.new w 9 (resvW.map fun l => Value.string (str l)).toArray)
  have hx : (⟨#[32, 100, 101, 118, 105, 99, 101, 32, 119, 105, 100, 116, 104, 32, 105, 110, 112, 117, 116, 32, 103, 104, 111, 115, 116, 32, 118, 97, 114, 32, 97, 114, 114, 97, 121, 32, 114, 101, 113, 117, 105, 114, 101, 32, 105, 110, 105, 116, 32, 112, 114, 111, 99, 32, 119, 111, 114, 107, 32, 114, 101, 99, 111, 118, 101, 114, 32, 105, 110, 118, 97, 114, 105, 97, 110, 116, 32, 102, 108, 117, 115, 104, 32, 98, 97, 114, 114, 105, 101, 114, 32, 119, 114, 105, 116, 101, 32, 105, 102, 32, 101, 108, 115, 101, 32, 119, 104, 105, 108, 101, 32, 98, 111, 117, 110, 100, 32, 99, 97, 108, 108, 32, 100, 105, 115, 107, 32]⟩ : ByteArray) = str resvS := rfl
  clear hF hC
  go_enter Tryd.func76, Tryd.ntmps76
  go_wp2_with fail
  refine HF.out.mono ?_
  rintro e w' ⟨rfl, rfl⟩
  go_wp2_with fail
  refine (HC.out _ HK.out).mono ?_
  rintro e w' ⟨rfl, rfl⟩
  go_wp2_with fail
  go_ret
  exact ⟨rfl, HB.out⟩
end Go.Proofs.YtehcpcpmcngnjaaDoor
