/-
  Lemmas for salvorlaw42.DecodeSmall (written by gen/small.py).
-/
import Derived.Test.YtamoniljgifggaaSm
import Derived.Test.YtamoniljgifggaaMainA
import Derived.Deep.DeepCutAuto
import Derived.Deep.CutBlock
import Derived.Deep.RegionHeld3
set_option linter.unusedVariables false
set_option linter.unusedSimpArgs false
namespace Go.Proofs.Ytamoniljgifggaa
open Go.RowKit

/-- A box with a result in numbers. -/
def rawCells (v : RawV) (x : RawP) : Array Value := #[.int .u8 x.inp, .slice v.A.A v.A.n v.A.c, .slice v.W.A v.W.n v.W.c, .slice v.O.A v.O.n v.O.c, .slice v.K.A v.K.n v.K.c, .slice v.C.A v.C.n v.C.c, .slice v.R.A v.R.n v.R.c, .int .i64 x.req, .int .i64 x.bey, .int .i64 x.hol]
def exV (b : Nat) : RawV := ⟨⟨some ⟨b, 0, none⟩, 1, 1⟩, ⟨some ⟨b + 2, 0, none⟩, 1, 1⟩, [⟨some ⟨b + 1, 0, none⟩, 2, 2⟩], ⟨some ⟨b + 3, 0, none⟩, 2, 2⟩, ⟨some ⟨b + 4, 0, none⟩, 2, 2⟩, ⟨some ⟨b + 5, 0, none⟩, 2, 2⟩, ⟨some ⟨b + 6, 0, none⟩, 1, 1⟩⟩
def exX (o1 o2 : OpR) (k1 k2 c1 c2 : Int) : RawP := ⟨6, [(7, 9)], [[2, 4]], [o1, o2], [k1, k2], [c1, c2], [13], 1, 14, 3⟩
theorem Rd.of_bk {w : World} {g : Nat} {t : TypeId} {cs : Array Value} {xs : List Value} (h : Bk w g t cs) (hx : xs = cs.toList) : Rd w (some ⟨g, 0, none⟩) xs := fun _ =>
  ⟨g, 0, cs, t, (0, 0), rfl, h, fun j u hu => by rw [hx] at hu; simpa using hu⟩
theorem i64_small (r : Int) (h1 : -1000000 ≤ r) (h2 : r ≤ 1000000) : I64 r := ⟨by omega, by omega⟩
theorem ints2 {w : World} {g c : Nat} {t : TypeId} {a b : Int} (h : Bk w g t #[.int .i64 a, .int .i64 b]) (ha : I64 a) (hb : I64 b) : IntsAt w ⟨some ⟨g, 0, none⟩, 2, c⟩ [a, b] :=
  ⟨Rd.of_bk h rfl, rfl, fun u hu => by
    simp only [List.mem_cons, List.not_mem_nil, or_false] at hu
    rcases hu with rfl | rfl <;> assumption⟩
/-- The blocks of a result like the example. -/
structure ExG (w : World) (b : Nat) (o1 o2 : OpR) (k1 k2 c1 c2 : Int) : Prop where
  e0 : Bk w b 99 #[.int .i64 7, .int .i64 9]
  e1 : Bk w (b + 1) 3 #[.int .i64 2, .int .i64 4]
  e2 : Bk w (b + 2) 25 #[.slice (some ⟨b + 1, 0, none⟩) 2 2]
  e3 : Bk w (b + 3) 37 #[.int .u8 o1.kind, .int .i64 o1.done, .int .i64 o1.sel, .int .i64 o1.write, .int .u8 o2.kind, .int .i64 o2.done, .int .i64 o2.sel, .int .i64 o2.write]
  e4 : Bk w (b + 4) 3 #[.int .i64 k1, .int .i64 k2]
  e5 : Bk w (b + 5) 3 #[.int .i64 c1, .int .i64 c2]
  e6 : Bk w (b + 6) 3 #[.int .i64 13]
theorem ExBk.g {w : World} {b : Nat} (h : ExBk w b) : ExG w b ⟨3, 1, 6, 0⟩ ⟨3, 1, 8, 1⟩ 10 12 7 14 := ⟨h.k0, h.k1, h.k2, h.k3, h.k4, h.k5, h.k6⟩
theorem ExG.below {w w' : World} {b : Nat} {o1 o2 : OpR} {k1 k2 c1 c2 : Int} (h : ExG w b o1 o2 k1 k2 c1 c2) (hb : Below w.heap.size w w') : ExG w' b o1 o2 k1 k2 c1 c2 :=
  ⟨bkbel h.e0 hb, bkbel h.e1 hb, bkbel h.e2 hb, bkbel h.e3 hb, bkbel h.e4 hb, bkbel h.e5 hb, bkbel h.e6 hb⟩
theorem ExG.far {w : World} {b : Nat} {o1 o2 : OpR} {k1 k2 c1 c2 : Int} (h : ExG w b o1 o2 k1 k2 c1 c2) {p : Addr} (hp : p.block < b ∨ b + 6 < p.block) (u : Value) : ExG (w.setCell p u) b o1 o2 k1 k2 c1 c2 :=
  ⟨h.e0.far (by omega) u, h.e1.far (by omega) u, h.e2.far (by omega) u, h.e3.far (by omega) u, h.e4.far (by omega) u, h.e5.far (by omega) u, h.e6.far (by omega) u⟩
def OpOk (o : OpR) : Prop := I64 o.done ∧ I64 o.sel ∧ I64 o.write ∧ 0 ≤ o.kind ∧ o.kind ≤ 255
theorem ExG.raw {w : World} {b : Nat} {o1 o2 : OpR} {k1 k2 c1 c2 : Int} (h : ExG w b o1 o2 k1 k2 c1 c2) (h1 : OpOk o1) (h2 : OpOk o2) (h3 : I64 k1) (h4 : I64 k2) (h5 : I64 c1) (h6 : I64 c2) : RawAt w (exV b) (exX o1 o2 k1 k2 c1 c2) := by
  refine ⟨by show 6 ≤ 255; omega, Rd.of_bk h.e0 rfl, rfl, ?_, ⟨Rd.of_bk h.e2 rfl, rfl, rfl, ?_⟩, Rd.of_bk h.e3 rfl, rfl, ?_, ints2 h.e4 h3 h4, ints2 h.e5 h5 h6, ⟨Rd.of_bk h.e6 rfl, rfl, ?_⟩, ⟨i64_small 1 (by omega) (by omega), i64_small 14 (by omega) (by omega), i64_small 3 (by omega) (by omega)⟩, by simp [exV]⟩
  · intro p hp
    have : p = (7, 9) := by simpa [exX] using hp
    subst this
    exact ⟨i64_small 7 (by omega) (by omega), i64_small 9 (by omega) (by omega)⟩
  · intro i s l hs hl
    match i, hs, hl with
    | 0, hs, hl =>
      have h1 : s = ⟨some ⟨b + 1, 0, none⟩, 2, 2⟩ := by simpa [exV] using hs.symm
      have h2 : l = [2, 4] := by simpa [exX] using hl.symm
      subst h1; subst h2
      exact ⟨ints2 h.e1 (i64_small 2 (by omega) (by omega)) (i64_small 4 (by omega) (by omega)), by simp⟩
    | i + 1, hs, _ => simp [exV] at hs
  · intro o ho
    have : o = o1 ∨ o = o2 := by simpa [exX] using ho
    rcases this with rfl | rfl
    · exact h1
    · exact h2
  · intro u hu
    have : u = 13 := by simpa [exX] using hu
    subst this
    exact i64_small 13 (by omega) (by omega)
theorem ok1 : OpOk ⟨3, 1, 6, 0⟩ := ⟨i64_small _ (by decide) (by decide), i64_small _ (by decide) (by decide), i64_small _ (by decide) (by decide), by decide, by decide⟩
theorem ok2 : OpOk ⟨3, 1, 8, 1⟩ := ⟨i64_small _ (by decide) (by decide), i64_small _ (by decide) (by decide), i64_small _ (by decide) (by decide), by decide, by decide⟩

theorem Rd.tail1 {w : World} {b off : Nat} {l : List Bool} (h : Rd w (some ⟨b, off, none⟩) (l.map Value.bool)) : Rd w (some ⟨b, off + 1, none⟩) (l.tail.map Value.bool) := fun hx => by
  cases l with
  | nil => simp at hx
  | cons x l =>
    obtain ⟨b', off', cs, t, fr, e, hb, hc⟩ := h (by simp)
    injection e with e
    injection e with e1 e2
    subst e1; subst e2
    refine ⟨b, off + 1, cs, t, fr, rfl, hb, fun j u hu => ?_⟩
    have := hc (j + 1) u (by simpa using hu)
    rw [show off + 1 + j = off + (j + 1) by omega]
    exact this
theorem slH28 (A : Option Addr) (n c : Nat) (h : Int) (r : Nat) (hr : h = r) (hc : r ≤ c) (w : World) : (Instr.sliceAt 28 (.slice A n c) none (some (.int .i64 h)) none).run Try.prog w = .ok (.slice A r c) w := by
  subst hr
  have h1 : (0 : Int) ≤ (r : Int) := by omega
  have h2 : (r : Int) ≤ (c : Int) := by omega
  go_simp
theorem slH25 (A : Option Addr) (n c : Nat) (h : Int) (r : Nat) (hr : h = r) (hc : r ≤ c) (w : World) : (Instr.sliceAt 25 (.slice A n c) none (some (.int .i64 h)) none).run Try.prog w = .ok (.slice A r c) w := by
  subst hr
  have h1 : (0 : Int) ≤ (r : Int) := by omega
  have h2 : (r : Int) ≤ (c : Int) := by omega
  go_simp
theorem slL28 (b n c : Nat) (hn : 1 ≤ n) (hc : 2 ≤ c) (w : World) : (Instr.sliceAt 28 (.slice (some ⟨b, 0, none⟩) n c) (some (.int .i64 1)) none none).run Try.prog w = .ok (.slice (some ⟨b, 1, none⟩) (n - 1) (c - 1)) w := by
  have h1 : (1 : Int) ≤ (n : Int) := by omega
  have h2 : ¬ c = 1 := by omega
  go_simp
theorem nine_at (i : Nat) (h : i < 9) : ∃ n : Int, (#[.int .i64 (-9223372036854775808), .int .i64 (-1), .int .i64 0, .int .i64 1, .int .i64 3, .int .i64 14, .int .i64 15, .int .i64 16, .int .i64 9223372036854775807] : Array Value)[i]? = some (.int .i64 n) ∧ I64 n := by
  match i, h with
  | 0, _ => exact ⟨_, rfl, by decide, by decide⟩
  | 1, _ => exact ⟨_, rfl, by decide, by decide⟩
  | 2, _ => exact ⟨_, rfl, by decide, by decide⟩
  | 3, _ => exact ⟨_, rfl, by decide, by decide⟩
  | 4, _ => exact ⟨_, rfl, by decide, by decide⟩
  | 5, _ => exact ⟨_, rfl, by decide, by decide⟩
  | 6, _ => exact ⟨_, rfl, by decide, by decide⟩
  | 7, _ => exact ⟨_, rfl, by decide, by decide⟩
  | 8, _ => exact ⟨_, rfl, by decide, by decide⟩
theorem opOk (a b c d : Int) (h1 : I64 b) (h2 : I64 c) (h3 : I64 d) (h4 : 0 ≤ a) (h5 : a ≤ 255) : OpOk ⟨a, b, c, d⟩ := ⟨h1, h2, h3, h4, h5⟩
theorem u8_lo (n : Int) : 0 ≤ IntKind.u8.wrap n := by rw [IntKind.wrap_u8]; omega
theorem u8_hi (n : Int) : IntKind.u8.wrap n ≤ 255 := by rw [IntKind.wrap_u8]; omega
theorem one64 (r : Int) (h : I64 r) : ∀ u ∈ [r], I64 u := by
  intro u hu
  have : u = r := by simpa using hu
  subst this
  exact h
theorem RawAt.words' {w : World} {v : RawV} {x : RawP} (h : RawAt w v x) (W : SV) (S : List SV) (l : List (List Int)) (hl : ListsAt w W.A W.n S l) (hn : W.n ≤ 20) : RawAt w { v with W := W, S := S } { x with words := l } :=
  ⟨h.inp, h.ands, h.andsn, h.andsw, hl, h.ops, h.opsn, h.opsw, h.keep, h.cached, h.rules, h.nums, ⟨h.small.1, hn, h.small.2.2⟩⟩
theorem RawAt.rules' {w : World} {v : RawV} {x : RawP} (h : RawAt w v x) (R : SV) (l : List Int) (hl : IntsAt w R l) (hn : R.n ≤ 20) : RawAt w { v with R := R } { x with rules := l } :=
  ⟨h.inp, h.ands, h.andsn, h.andsw, h.words, h.ops, h.opsn, h.opsw, h.keep, h.cached, hl, h.nums, ⟨h.small.1, h.small.2.1, h.small.2.2.1, h.small.2.2.2.1, h.small.2.2.2.2.1, hn⟩⟩
theorem RawAt.keep' {w : World} {v : RawV} {x : RawP} (h : RawAt w v x) (R : SV) (l : List Int) (hl : IntsAt w R l) (hn : R.n ≤ 20) : RawAt w { v with K := R } { x with keep := l } :=
  ⟨h.inp, h.ands, h.andsn, h.andsw, h.words, h.ops, h.opsn, h.opsw, hl, h.cached, h.rules, h.nums, ⟨h.small.1, h.small.2.1, h.small.2.2.1, hn, h.small.2.2.2.2.1, h.small.2.2.2.2.2⟩⟩
theorem RawAt.nums' {w : World} {v : RawV} {x : RawP} (h : RawAt w v x) (a b c : Int) (hn : I64 a ∧ I64 b ∧ I64 c) : RawAt w v { x with req := a, bey := b, hol := c } :=
  ⟨h.inp, h.ands, h.andsn, h.andsw, h.words, h.ops, h.opsn, h.opsw, h.keep, h.cached, h.rules, hn, h.small⟩
theorem lists1 {w : World} {g1 g2 : Nat} {t1 t2 : TypeId} {a b : Int} (h1 : Bk w g1 t1 #[.int .i64 a, .int .i64 b]) (h2 : Bk w g2 t2 #[.slice (some ⟨g1, 0, none⟩) 2 2]) (ha : I64 a) (hb : I64 b) : ListsAt w (some ⟨g2, 0, none⟩) 1 [⟨some ⟨g1, 0, none⟩, 2, 2⟩] [[a, b]] :=
  ⟨Rd.of_bk h2 rfl, rfl, rfl, fun i s l hs hl => by
    match i, hs, hl with
    | 0, hs, hl =>
      have h1' : s = ⟨some ⟨g1, 0, none⟩, 2, 2⟩ := by simpa using hs.symm
      have h2' : l = [a, b] := by simpa using hl.symm
      subst h1'; subst h2'
      exact ⟨ints2 h1 ha hb, by simp⟩
    | i + 1, hs, _ => simp at hs⟩
theorem and_one (n : Int) : ∃ a : Nat, a ≤ 1 ∧ bits .and .i64 n 1 = (a : Int) := by
  refine ⟨(BitVec.ofInt 64 n &&& BitVec.ofInt 64 1).toNat, ?_, ?_⟩
  · rw [BitVec.toNat_and]
    have : (BitVec.ofInt 64 1).toNat = 1 := by decide
    rw [this]
    exact Nat.and_le_right
  · show IntKind.i64.wrap ((BitVec.ofInt 64 n &&& BitVec.ofInt 64 1).toNat : Int) = _
    have h1 : (BitVec.ofInt 64 n &&& BitVec.ofInt 64 1).toNat ≤ 1 := by
      rw [BitVec.toNat_and]
      have : (BitVec.ofInt 64 1).toNat = 1 := by decide
      rw [this]
      exact Nat.and_le_right
    rw [IntKind.wrap_i64]
    omega
def z17 : List Bool := List.replicate 17 false
theorem rdA1 (w : World) (u : Value) (t : TypeId) (n : Nat) (h : w.heap.size = n) : Rd (w.alloc (.cells #[u] t)) (some ⟨n, 0, none⟩) [u] := Rd.newAt w #[u] t n h
theorem rdA2 (w : World) (u v : Value) (t : TypeId) (n : Nat) (h : w.heap.size = n) : Rd (w.alloc (.cells #[u, v] t)) (some ⟨n, 0, none⟩) [u, v] := Rd.newAt w #[u, v] t n h
def z6 : List Bool := List.replicate 6 false
theorem make6 (w : World) : (Instr.makeSlice 28 (.int .i64 6) (.int .i64 6)).run Try.prog w = .ok (.slice (some ⟨w.heap.size, 0, none⟩) 6 6) (w.alloc (.cells (bcells z6) 4)) := makeBools 6 (by omega) w
theorem rd6 (w : World) : Rd (w.alloc (.cells (bcells z6) 4)) (some ⟨w.heap.size, 0, none⟩) (z6.map Value.bool) := Rd.newAt w (bcells z6) 4 _ rfl
theorem make17 (w : World) : (Instr.makeSlice 25 (.int .i64 17) (.int .i64 17)).run Try.prog w = .ok (.slice (some ⟨w.heap.size, 0, none⟩) 17 17) (w.alloc (.cells (icells z17) 3)) := makeInts 17 (by omega) w
theorem lists3a {w : World} {g1 g2 g3 g4 : Nat} {t1 t2 : TypeId} (h1 : Bk w g1 t1 #[.int .i64 2, .int .i64 4]) (h2 : Bk w g4 t2 #[.slice (some ⟨g1, 0, none⟩) 2 2, .slice (some ⟨g2, 0, none⟩) 0 0, .slice (some ⟨g3, 0, none⟩) 17 17]) : ListsAt w (some ⟨g4, 0, none⟩) 1 [⟨some ⟨g1, 0, none⟩, 2, 2⟩] [[2, 4]] :=
  ⟨Rd.take (Rd.of_bk (xs := [.slice (some ⟨g1, 0, none⟩) 2 2, .slice (some ⟨g2, 0, none⟩) 0 0, .slice (some ⟨g3, 0, none⟩) 17 17]) h2 rfl) 1, rfl, rfl, fun i s l hs hl => by
    match i, hs, hl with
    | 0, hs, hl =>
      have h1' : s = ⟨some ⟨g1, 0, none⟩, 2, 2⟩ := by simpa using hs.symm
      have h2' : l = [2, 4] := by simpa using hl.symm
      subst h1'; subst h2'
      exact ⟨ints2 h1 (i64_small _ (by decide) (by decide)) (i64_small _ (by decide) (by decide)), by simp⟩
    | i + 1, hs, _ => simp at hs⟩
theorem lists3b {w : World} {g1 g2 g3 g4 : Nat} {t1 t2 t3 : TypeId} (h1 : Bk w g1 t1 #[.int .i64 2, .int .i64 4]) (h3 : Bk w g3 t3 (icells z17)) (h2 : Bk w g4 t2 #[.slice (some ⟨g1, 0, none⟩) 2 2, .slice (some ⟨g2, 0, none⟩) 0 0, .slice (some ⟨g3, 0, none⟩) 17 17]) : ListsAt w (some ⟨g4, 0, none⟩) 3 [⟨some ⟨g1, 0, none⟩, 2, 2⟩, ⟨some ⟨g2, 0, none⟩, 0, 0⟩, ⟨some ⟨g3, 0, none⟩, 17, 17⟩] [[2, 4], [], List.replicate 17 0] :=
  ⟨Rd.of_bk h2 rfl, rfl, rfl, fun i s l hs hl => by
    match i, hs, hl with
    | 0, hs, hl =>
      have h1' : s = ⟨some ⟨g1, 0, none⟩, 2, 2⟩ := by simpa using hs.symm
      have h2' : l = [2, 4] := by simpa using hl.symm
      subst h1'; subst h2'
      exact ⟨ints2 h1 (i64_small _ (by decide) (by decide)) (i64_small _ (by decide) (by decide)), by simp⟩
    | 1, hs, hl =>
      have h1' : s = ⟨some ⟨g2, 0, none⟩, 0, 0⟩ := by simpa using hs.symm
      have h2' : l = [] := by simpa using hl.symm
      subst h1'; subst h2'
      exact ⟨⟨Rd.nil, rfl, fun u hu => by cases hu⟩, by simp⟩
    | 2, hs, hl =>
      have h1' : s = ⟨some ⟨g3, 0, none⟩, 17, 17⟩ := by simpa using hs.symm
      have h2' : l = List.replicate 17 0 := by simpa using hl.symm
      subst h1'; subst h2'
      refine ⟨⟨Rd.of_bk h3 rfl, rfl, fun u hu => ?_⟩, by simp⟩
      have := List.eq_of_mem_replicate hu
      subst this
      exact i64_small _ (by decide) (by decide)
    | i + 3, hs, _ => simp at hs⟩
theorem u32_one (r : Int) (h0 : 0 ≤ r) (h1 : r ≤ 1000) : ∀ u ∈ [r], U32 u := by
  intro u hu
  have : u = r := by simpa using hu
  subst this
  exact ⟨h0, by omega⟩
theorem Rd.takeB {w : World} {A : Option Addr} {l : List Bool} (h : Rd w A (l.map Value.bool)) (n : Nat) : Rd w A ((l.take n).map Value.bool) := by
  rw [List.map_take]
  exact h.take n

end Go.Proofs.Ytamoniljgifggaa
