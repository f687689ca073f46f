/-
  What the listed package variables hold; Itoa, Atoi, Split, HasPrefix over this translation.
-/
import Derived.Test.YtkpcpclaadgnbaaGreatDoorBld
import Derived.Test.YtkpcpclaadgnbaaGreatDoorLrat
import Derived.WalkSmall
import Derived.Lib.SplitLaws
set_option linter.unusedVariables false
set_option linter.unusedSimpArgs false
namespace Go.Proofs.YtkpcpclaadgnbaaGreatDoor
open Go.RowKit

/-- A string of bytes. -/
def str (l : List UInt8) : ByteArray := ⟨l.toArray⟩
theorem str_data (l : List UInt8) : (str l).data.toList = l := rfl
theorem str_size (l : List UInt8) : (str l).size = l.length := by show l.toArray.size = l.length; simp only [List.size_toArray]
theorem str_of (s : ByteArray) : str s.data.toList = s := by unfold str; rw [Array.toArray_toList]
theorem data_inj {s t : ByteArray} (h : s.data.toList = t.data.toList) : s = t := by rw [← str_of s, ← str_of t, h]
theorem data_len (s : ByteArray) : s.data.toList.length = s.size := by show _ = s.data.size; simp only [Array.length_toList]

/-- What the listed variables hold. -/
structure Vars (w : World) : Prop where
  pow : Lib.TabIs Tryz.prog w "internal/strconv.uint64pow10" .u64 Lib.pow10Tab
  syn : ∃ tp p, w.var? Tryz.prog "strconv.ErrSyntax" = some #[.iface tp p]
  rng : ∃ tp p, w.var? Tryz.prog "strconv.ErrRange" = some #[.iface tp p]
  max : ∃ m, w.cell? ⟨2, 0, none⟩ = some (.int .i64 m)
theorem var_lt {w : World} {n : String} {g : Nat} {cs : Array Value} (hg : Tryz.prog.globalNamed n = some g) (hv : w.var? Tryz.prog n = some cs) : g < w.heap.size := by
  unfold World.var? at hv
  rw [hg, Option.bind_some] at hv
  rcases Nat.lt_or_ge g w.heap.size with h | h
  · exact h
  · rw [Array.getElem?_eq_none h] at hv; cases hv
theorem gpow : Tryz.prog.globalNamed "internal/strconv.uint64pow10" = some 3 := by kernel_rfl
theorem gsyn : Tryz.prog.globalNamed "strconv.ErrSyntax" = some 6 := by kernel_rfl
theorem grng : Tryz.prog.globalNamed "strconv.ErrRange" = some 7 := by kernel_rfl
theorem Vars.below {w w' : World} (h : Vars w) (hb : Below w.heap.size w w') : Vars w' := by
  obtain ⟨h1, ⟨t2, p2, h2⟩, ⟨t3, p3, h3⟩, m, h4⟩ := h
  refine ⟨var?_below hb gpow (var_lt gpow h1) h1, ⟨t2, p2, var?_below hb gsyn (var_lt gsyn h2) h2⟩, ⟨t3, p3, var?_below hb grng (var_lt grng h3) h3⟩, m, ?_⟩
  rw [hb.cell (p := ⟨2, 0, none⟩) (World.block_lt_of_cell? w _ h4), h4]
theorem Vars.alloc {w : World} (h : Vars w) (o : Obj) : Vars (w.alloc o) := h.below ((Below.refl _ _).alloc (Nat.le_refl _) _)

theorem balloc {w w1 : World} (h : Below w.heap.size w w1) (o : Obj) : Below w.heap.size w (w1.alloc o) := h.alloc h.size o
theorem bkbel {w w' : World} {g : Nat} {t : TypeId} {cs : Array Value} (h : Bk w g t cs) (hb : Below w.heap.size w w') : Bk w' g t cs := h.below hb h.lt

theorem bgrow (w : World) (os : Array Obj) : Below w.heap.size w (Sort.grow w os) := ⟨rfl, rfl, rfl, by simp [Sort.grow], fun k hk => by simp [Sort.grow, Array.getElem?_append_left hk]⟩
theorem itoaC (n : Int) (w : World) (hn : Hid (I64 n)) (hv : Hid (Vars w)) : Calls Tryz.prog 25 #[.int .i64 n] w fun e w' => e = .returned (.string (str (Lib.itoa n))) ∧ Below w.heap.size w w' := by
  refine (Tryz.strconv_Itoa n hn.out.1 hn.out.2 w hv.out.pow).mono ?_
  rintro e w' ⟨rfl, k, os, rfl⟩
  refine ⟨rfl, ?_⟩
  exact Below.trans (b := w.drewN k) (Below.refl w.heap.size w |>.trans ⟨rfl, rfl, rfl, Nat.le_refl _, fun _ _ => rfl⟩) (bgrow (w.drewN k) os)
theorem atoi_ok (s : ByteArray) (n : Int) (w : World) (h : Hid (Lib.atoiAll s.data.toList = .ok n)) (hs : s.size ≤ 281474976710656) : Calls Tryz.prog 74 #[.string s] w fun e w' => e = .returned (.tuple #[.int .i64 n, .nilIface]) ∧ Below w.heap.size w w' := by
  refine (Tryz.strconv_Atoi_ok s (by omega) n h.out w).mono ?_
  rintro e w' ⟨rfl, rfl | ⟨t, rfl⟩⟩
  · exact ⟨rfl, Below.refl _ _⟩
  · exact ⟨rfl, by unfold Lib.bytesWorld; exact Lib.below_freeze (B := w.heap.size) (p := ⟨w.heap.size, (Lib.bytesCells w 5 t).size, none⟩) (((Below.refl w.heap.size w).drew).alloc (Nat.le_refl _) _) (Nat.le_refl _) _⟩
theorem atoi_no (s : ByteArray) (w : World) (h : Hid (∀ n, Lib.atoiAll s.data.toList ≠ .ok n)) (hs : s.size ≤ 281474976710656) (hv : Hid (Vars w)) : Calls Tryz.prog 74 #[.string s] w fun e w' => ∃ (x : Int) (N : Nat), e = .returned (.tuple #[.int .i64 x, .iface 176 (.pointer (some ⟨N, 0, none⟩))]) ∧ Below w.heap.size w w' := by
  cases ha : Lib.atoiAll s.data.toList with
  | ok n => exact absurd ha (h.out n)
  | range =>
    obtain ⟨tp, p, h1⟩ := hv.out.rng
    exact (Tryz.strconv_Atoi_range_var s hs ha tp p w h1).mono fun e w' ⟨N, he, _, _, hb⟩ => ⟨_, N, he, hb⟩
  | _ =>
    obtain ⟨tp, p, h1⟩ := hv.out.syn
    exact (Tryz.strconv_Atoi_syntax_var s hs ha tp p w h1).mono fun e w' ⟨N, he, _, _, hb⟩ => ⟨0, N, he, hb⟩
/-- The pieces of a string between bytes c. -/
def pieces (s : ByteArray) (c : UInt8) : List ByteArray := Lib.splitB (str [c]) 0 (Lib.countB s (str [c])) s
theorem pieces_data (s : ByteArray) (c : UInt8) : (pieces s c).map (·.data.toList) = Lib.split s.data.toList [c] := by
  unfold pieces Lib.split
  rw [Lib.splitB_data, str_data]
  rfl
theorem pieces_len (s : ByteArray) (c : UInt8) : (pieces s c).length = Lib.countB s (str [c]) + 1 := Lib.splitB_all _ (by rw [str_size]; simp) 0 _ s rfl
theorem splitC (s : ByteArray) (c : UInt8) (w : World) (hs : s.size ≤ 4000000000) (hv : Hid (Vars w)) : Calls Tryz.prog 24 #[.string s, .string (str [c])] w fun e w' => e = .returned (.slice (some ⟨w.heap.size, 0, none⟩) (pieces s c).length (pieces s c).length) ∧ w' = w.alloc (.cells ((pieces s c).map Value.string).toArray 9) := by
  obtain ⟨m, hm⟩ := hv.out.max
  rw [pieces_len]
  exact Tryz.strings_Split s (str [c]) m w (by omega) hm (by rw [str_size]; simp)
end Go.Proofs.YtkpcpclaadgnbaaGreatDoor
