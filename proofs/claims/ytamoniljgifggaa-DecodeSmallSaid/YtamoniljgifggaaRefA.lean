/-
  Contract of the reference's And (layer 20).
-/
import Derived.Test.YtamoniljgifggaaRefG
set_option linter.unusedVariables false
set_option linter.unusedSimpArgs false
namespace Go.Proofs.Ytamoniljgifggaa
open Go.RowKit

theorem ents_take_append (G : List Nd) (k : Nat) : ents G = ents (G.take k) ++ entsFrom (0 + (G.take k).length) (G.drop k) := by
  rw [ents, ents, ← entsFrom_append, List.take_append_drop]
theorem look_miss {G : List Nd} {k : Nat} {x : Nd} {lo hi : Int} (hx : G[k]? = some x) (hn : ¬ (x.k = 3 ∧ x.l = lo ∧ x.r = hi)) (h : lookS (ents (G.take k)) lo hi = none) : lookS (ents (G.take (k + 1))) lo hi = none := by
  rw [take_snoc hx, ents_snoc]
  split
  · rename_i h3
    rw [lookS_append, h]
    simp only [lookS, Option.none_or, Option.map_eq_none_iff, List.find?_cons, List.find?_nil]
    have : (x.l == lo && x.r == hi) = false := by
      rw [Bool.and_eq_false_iff]
      by_cases hl : x.l = lo
      · right
        simp only [beq_eq_false_iff_ne, ne_eq]
        exact fun hr => hn ⟨h3, hl, hr⟩
      · left
        simpa using hl
    simp [this]
  · exact h
theorem look_hit {G : List Nd} {k : Nat} {x : Nd} {lo hi : Int} (hx : G[k]? = some x) (h3 : x.k = 3) (hl : x.l = lo) (hr : x.r = hi) (h : lookS (ents (G.take k)) lo hi = none) : lookS (ents G) lo hi = some (k : Int) := by
  have hk : k < G.length := (List.getElem?_eq_some_iff.1 hx).1
  rw [ents_take_append G (k + 1), lookS_append, take_snoc hx, ents_snoc, if_pos h3, lookS_append, h]
  simp [lookS, hl, hr, Nat.min_eq_left (Nat.le_of_lt hk)]
theorem notI_swap {a b : Int} (ha : 0 ≤ a) (hb : 0 ≤ b) : a = notI b ↔ b = notI a := by
  unfold notI
  constructor <;> intro h <;> split <;> split at h <;> omega
theorem andG_E0 {G : List Nd} {a b lo hi : Int} (hlo : min a b = lo) (h : lo = 0) : andG G a b = (G, 0) := by unfold andG; rw [if_pos (by left; omega)]
theorem andG_Ev {G : List Nd} {a b : Int} (h : a = notI b) : andG G a b = (G, 0) := by unfold andG; rw [if_pos (Or.inr h)]
theorem andG_hi {G : List Nd} {a b : Int} (h0 : ¬ min a b = 0) (h1 : ¬ a = notI b) (h : min a b = 1 ∨ a = b) : andG G a b = (G, max a b) := by
  unfold andG; rw [if_neg (by rintro (h | h); exact h0 h; exact h1 h), if_pos h]
theorem andG_look {G : List Nd} {a b v : Int} (h0 : ¬ min a b = 0) (h1 : ¬ a = notI b) (h2 : ¬ min a b = 1) (h3 : ¬ a = b) (h : lookS (ents G) (min a b) (max a b) = some v) : andG G a b = (G, 2 * v) := by
  unfold andG; rw [if_neg (by rintro (h | h); exact h0 h; exact h1 h), if_neg (by rintro (h | h); exact h2 h; exact h3 h), h]
theorem andG_new {G : List Nd} {a b : Int} (h0 : ¬ min a b = 0) (h1 : ¬ a = notI b) (h2 : ¬ min a b = 1) (h3 : ¬ a = b) (h : lookS (ents G) (min a b) (max a b) = none) : andG G a b = (G ++ [⟨3, min a b, max a b⟩], 2 * (G.length : Int)) := by
  unfold andG; rw [if_neg (by rintro (h | h); exact h0 h; exact h1 h), if_neg (by rintro (h | h); exact h2 h; exact h3 h), h]

theorem rgpost_of {M : Int} {G : List Nd} {a b r : Int} {G' : List Nd} {w : World} {e : Ending} {w' : World} (h : andG G a b = (G', r)) (k : RGPost M G' r w e w') : RGPost M (andG G a b).1 (andG G a b).2 w e w' := by rw [h]; exact k



/-- The two ways to swap. -/
def Sw (a b lo hi : Int) : Prop := (decide (b < a) = true ∧ lo = b ∧ hi = a) ∨ (decide (b < a) = false ∧ lo = a ∧ hi = b)

set_option maxHeartbeats 1000000 in
set_option maxRecDepth 100000 in
theorem rand_0 (M : Int) (A : Option Addr) (n c : Nat) (G : List Nd) (a b lo hi : Int) (w : World) (hr : Hid (RdT w A 127 (rcells G))) (hl : Hid (G.length = n)) (hcase : Sw a b lo hi) (h0 : (lo == 0) = true) :
    Calls Try.prog 58 #[.agg #[.int .i64 M, .slice A n c], .int .i64 a, .int .i64 b] w (RGPost M G 0 w) := by
  rcases hcase with ⟨hd, rfl, rfl⟩ | ⟨hd, rfl, rfl⟩
  all_goals
    go_enter Try.func58, Try.ntmps58
    go_wp2
    have hB : Below w.heap.size w ((w.alloc (.cells #[.int .i64 M, .slice A n c] 67)).alloc (.cells #[.int .i64 M, .slice A n c] 67)) := ((Below.refl _ w).alloc (Nat.le_refl _) _).alloc (by simp) _
    refine bodyPost_ret (v := .tuple #[.agg #[.int .i64 M, .slice A n c], .int .i64 0, .int .i64 0]) (by simp [results, Try.results58, go_sem]) rfl ?_
    exact ⟨A, n, c, rfl, hr.out.below hB, hl.out, hB⟩

set_option maxHeartbeats 1000000 in
set_option maxRecDepth 100000 in
theorem rand_1 (M : Int) (A : Option Addr) (n c : Nat) (G : List Nd) (a b lo hi : Int) (w : World) (hr : Hid (RdT w A 127 (rcells G))) (hl : Hid (G.length = n)) (hcase : Sw a b lo hi) (h0 : (lo == 0) = false) (hhi : 0 ≤ hi) (hhi' : hi ≤ 1000000) (h1 : (lo == notI hi) = true) :
    Calls Try.prog 58 #[.agg #[.int .i64 M, .slice A n c], .int .i64 a, .int .i64 b] w (RGPost M G 0 w) := by
  rcases hcase with ⟨hd, rfl, rfl⟩ | ⟨hd, rfl, rfl⟩
  all_goals
    have hb0 : Below w.heap.size w ((w.alloc (.cells #[.int .i64 M, .slice A n c] 67)).alloc (.cells #[.int .i64 0, .slice none 0 0] 67)) := ((Below.refl _ w).alloc (Nat.le_refl _) _).alloc (by simp) _
    have hx := (Bk.new w 67 #[.int .i64 M, .slice A n c]).alloc (.cells #[.int .i64 0, .slice none 0 0] 67)
    have hz := Bk.new (w.alloc (.cells #[.int .i64 M, .slice A n c] 67)) 67 #[.int .i64 0, .slice none 0 0]
    rw [World.size_alloc] at hz
    have HB0 := Lib.hid hb0; have HX := Lib.hid hx; have HZ := Lib.hid hz
    clear hb0 hx hz
    go_enter Try.func58, Try.ntmps58
    go_wp2_with fail
    generalize ((w.alloc (.cells #[.int .i64 M, .slice A n c] 67)).alloc (.cells #[.int .i64 0, .slice none 0 0] 67)) = W at *
    have x0 : W.cell? ⟨w.heap.size, 0, none⟩ = some (.int .i64 M) := HX.out.cell 0
    have x1 : W.cell? ⟨w.heap.size, 1, none⟩ = some (.slice A n c) := HX.out.cell 1
    have z0 : W.cell? ⟨w.heap.size + 1, 0, none⟩ = some (.int .i64 0) := HZ.out.cell 0
    have z1 : W.cell? ⟨w.heap.size + 1, 1, none⟩ = some (.slice none 0 0) := HZ.out.cell 1
    have f0 := HZ.out.frozen 0
    have f1 := HZ.out.frozen 1
  all_goals
    refine (refNot hi W hhi (by omega)).mono ?_
    rintro e w' ⟨rfl, rfl⟩
    go_wp2
    have HF := Lib.hid ((HZ.out.put 0 (.int .i64 M)).put 1 (.slice A n c))
    have HFB := Lib.hid ((HB0.out.setCell (p := ⟨w.heap.size + 1, 0, none⟩) (by show w.heap.size ≤ w.heap.size + 1; omega) (.int .i64 M)).setCell (p := ⟨w.heap.size + 1, 1, none⟩) (by show w.heap.size ≤ w.heap.size + 1; omega) (.slice A n c))
    clear x0 x1 z0 z1 f0 f1
    generalize ((W.setCell ⟨w.heap.size + 1, 0, none⟩ (.int .i64 M)).setCell ⟨w.heap.size + 1, 1, none⟩ (.slice A n c)) = WF at *
    have r0 : WF.cell? ⟨w.heap.size + 1, 0, none⟩ = some (.int .i64 M) := HF.out.cell 0
    have r1 : WF.cell? ⟨w.heap.size + 1, 1, none⟩ = some (.slice A n c) := HF.out.cell 1
    refine bodyPost_ret (v := .tuple #[.agg #[.int .i64 M, .slice A n c], .int .i64 (0), .int .i64 0]) (by simp [results, Try.results58, go_sem, r0, r1]) rfl ?_
    exact ⟨A, n, c, rfl, hr.out.below HFB.out, hl.out, HFB.out⟩

set_option maxHeartbeats 1000000 in
set_option maxRecDepth 100000 in
theorem rand_2 (M : Int) (A : Option Addr) (n c : Nat) (G : List Nd) (a b lo hi : Int) (w : World) (hr : Hid (RdT w A 127 (rcells G))) (hl : Hid (G.length = n)) (hcase : Sw a b lo hi) (h0 : (lo == 0) = false) (hhi : 0 ≤ hi) (hhi' : hi ≤ 1000000) (h1 : (lo == notI hi) = false) (h2 : (lo == 1) = true) :
    Calls Try.prog 58 #[.agg #[.int .i64 M, .slice A n c], .int .i64 a, .int .i64 b] w (RGPost M G hi w) := by
  rcases hcase with ⟨hd, rfl, rfl⟩ | ⟨hd, rfl, rfl⟩
  all_goals
    have hb0 : Below w.heap.size w ((w.alloc (.cells #[.int .i64 M, .slice A n c] 67)).alloc (.cells #[.int .i64 0, .slice none 0 0] 67)) := ((Below.refl _ w).alloc (Nat.le_refl _) _).alloc (by simp) _
    have hx := (Bk.new w 67 #[.int .i64 M, .slice A n c]).alloc (.cells #[.int .i64 0, .slice none 0 0] 67)
    have hz := Bk.new (w.alloc (.cells #[.int .i64 M, .slice A n c] 67)) 67 #[.int .i64 0, .slice none 0 0]
    rw [World.size_alloc] at hz
    have HB0 := Lib.hid hb0; have HX := Lib.hid hx; have HZ := Lib.hid hz
    clear hb0 hx hz
    go_enter Try.func58, Try.ntmps58
    go_wp2_with fail
    generalize ((w.alloc (.cells #[.int .i64 M, .slice A n c] 67)).alloc (.cells #[.int .i64 0, .slice none 0 0] 67)) = W at *
    have x0 : W.cell? ⟨w.heap.size, 0, none⟩ = some (.int .i64 M) := HX.out.cell 0
    have x1 : W.cell? ⟨w.heap.size, 1, none⟩ = some (.slice A n c) := HX.out.cell 1
    have z0 : W.cell? ⟨w.heap.size + 1, 0, none⟩ = some (.int .i64 0) := HZ.out.cell 0
    have z1 : W.cell? ⟨w.heap.size + 1, 1, none⟩ = some (.slice none 0 0) := HZ.out.cell 1
    have f0 := HZ.out.frozen 0
    have f1 := HZ.out.frozen 1
  all_goals
    refine (refNot hi W hhi (by omega)).mono ?_
    rintro e w' ⟨rfl, rfl⟩
    go_wp2
    have HF := Lib.hid ((HZ.out.put 0 (.int .i64 M)).put 1 (.slice A n c))
    have HFB := Lib.hid ((HB0.out.setCell (p := ⟨w.heap.size + 1, 0, none⟩) (by show w.heap.size ≤ w.heap.size + 1; omega) (.int .i64 M)).setCell (p := ⟨w.heap.size + 1, 1, none⟩) (by show w.heap.size ≤ w.heap.size + 1; omega) (.slice A n c))
    clear x0 x1 z0 z1 f0 f1
    generalize ((W.setCell ⟨w.heap.size + 1, 0, none⟩ (.int .i64 M)).setCell ⟨w.heap.size + 1, 1, none⟩ (.slice A n c)) = WF at *
    have r0 : WF.cell? ⟨w.heap.size + 1, 0, none⟩ = some (.int .i64 M) := HF.out.cell 0
    have r1 : WF.cell? ⟨w.heap.size + 1, 1, none⟩ = some (.slice A n c) := HF.out.cell 1
    refine bodyPost_ret (v := .tuple #[.agg #[.int .i64 M, .slice A n c], .int .i64 (hi), .int .i64 0]) (by simp [results, Try.results58, go_sem, r0, r1]) rfl ?_
    exact ⟨A, n, c, rfl, hr.out.below HFB.out, hl.out, HFB.out⟩

set_option maxHeartbeats 1000000 in
set_option maxRecDepth 100000 in
theorem rand_3 (M : Int) (A : Option Addr) (n c : Nat) (G : List Nd) (a b lo hi : Int) (w : World) (hr : Hid (RdT w A 127 (rcells G))) (hl : Hid (G.length = n)) (hcase : Sw a b lo hi) (h0 : (lo == 0) = false) (hhi : 0 ≤ hi) (hhi' : hi ≤ 1000000) (h1 : (lo == notI hi) = false) (h2 : (lo == 1) = false) (h3 : (lo == hi) = true) :
    Calls Try.prog 58 #[.agg #[.int .i64 M, .slice A n c], .int .i64 a, .int .i64 b] w (RGPost M G hi w) := by
  rcases hcase with ⟨hd, rfl, rfl⟩ | ⟨hd, rfl, rfl⟩
  all_goals
    have hb0 : Below w.heap.size w ((w.alloc (.cells #[.int .i64 M, .slice A n c] 67)).alloc (.cells #[.int .i64 0, .slice none 0 0] 67)) := ((Below.refl _ w).alloc (Nat.le_refl _) _).alloc (by simp) _
    have hx := (Bk.new w 67 #[.int .i64 M, .slice A n c]).alloc (.cells #[.int .i64 0, .slice none 0 0] 67)
    have hz := Bk.new (w.alloc (.cells #[.int .i64 M, .slice A n c] 67)) 67 #[.int .i64 0, .slice none 0 0]
    rw [World.size_alloc] at hz
    have HB0 := Lib.hid hb0; have HX := Lib.hid hx; have HZ := Lib.hid hz
    clear hb0 hx hz
    go_enter Try.func58, Try.ntmps58
    go_wp2_with fail
    generalize ((w.alloc (.cells #[.int .i64 M, .slice A n c] 67)).alloc (.cells #[.int .i64 0, .slice none 0 0] 67)) = W at *
    have x0 : W.cell? ⟨w.heap.size, 0, none⟩ = some (.int .i64 M) := HX.out.cell 0
    have x1 : W.cell? ⟨w.heap.size, 1, none⟩ = some (.slice A n c) := HX.out.cell 1
    have z0 : W.cell? ⟨w.heap.size + 1, 0, none⟩ = some (.int .i64 0) := HZ.out.cell 0
    have z1 : W.cell? ⟨w.heap.size + 1, 1, none⟩ = some (.slice none 0 0) := HZ.out.cell 1
    have f0 := HZ.out.frozen 0
    have f1 := HZ.out.frozen 1
  all_goals
    refine (refNot hi W hhi (by omega)).mono ?_
    rintro e w' ⟨rfl, rfl⟩
    go_wp2
    have HF := Lib.hid ((HZ.out.put 0 (.int .i64 M)).put 1 (.slice A n c))
    have HFB := Lib.hid ((HB0.out.setCell (p := ⟨w.heap.size + 1, 0, none⟩) (by show w.heap.size ≤ w.heap.size + 1; omega) (.int .i64 M)).setCell (p := ⟨w.heap.size + 1, 1, none⟩) (by show w.heap.size ≤ w.heap.size + 1; omega) (.slice A n c))
    clear x0 x1 z0 z1 f0 f1
    generalize ((W.setCell ⟨w.heap.size + 1, 0, none⟩ (.int .i64 M)).setCell ⟨w.heap.size + 1, 1, none⟩ (.slice A n c)) = WF at *
    have r0 : WF.cell? ⟨w.heap.size + 1, 0, none⟩ = some (.int .i64 M) := HF.out.cell 0
    have r1 : WF.cell? ⟨w.heap.size + 1, 1, none⟩ = some (.slice A n c) := HF.out.cell 1
    refine bodyPost_ret (v := .tuple #[.agg #[.int .i64 M, .slice A n c], .int .i64 (hi), .int .i64 0]) (by simp [results, Try.results58, go_sem, r0, r1]) rfl ?_
    exact ⟨A, n, c, rfl, hr.out.below HFB.out, hl.out, HFB.out⟩

/-- What the search gives: the graph, and the reference. -/
def searched (G : List Nd) (lo hi : Int) : List Nd × Int := match lookS (ents G) lo hi with
  | some v => (G, 2 * v)
  | none => (G ++ [⟨3, lo, hi⟩], 2 * (G.length : Int))

set_option maxHeartbeats 4000000 in
set_option maxRecDepth 100000 in
theorem rand_4 (M : Int) (A : Option Addr) (n c : Nat) (G : List Nd) (a b lo hi : Int) (w : World) (hr : Hid (RdT w A 127 (rcells G))) (hl : Hid (G.length = n)) (hcase : Sw a b lo hi) (h0 : (lo == 0) = false) (hhi : 0 ≤ hi) (hhi' : hi ≤ 1000000) (h1 : (lo == notI hi) = false) (h2 : (lo == 1) = false) (h3 : (lo == hi) = false) (hM : M ≤ 65536) (hn : (n : Int) < M) :
    Calls Try.prog 58 #[.agg #[.int .i64 M, .slice A n c], .int .i64 a, .int .i64 b] w (RGPost M (searched G lo hi).1 (searched G lo hi).2 w) := by
  have hnn : n ≤ 65536 := by omega
  rcases hcase with ⟨hd, rfl, rfl⟩ | ⟨hd, rfl, rfl⟩
  all_goals
    have hb0 : Below w.heap.size w ((w.alloc (.cells #[.int .i64 M, .slice A n c] 67)).alloc (.cells #[.int .i64 0, .slice none 0 0] 67)) := ((Below.refl _ w).alloc (Nat.le_refl _) _).alloc (by simp) _
    have hx := (Bk.new w 67 #[.int .i64 M, .slice A n c]).alloc (.cells #[.int .i64 0, .slice none 0 0] 67)
    have hz := Bk.new (w.alloc (.cells #[.int .i64 M, .slice A n c] 67)) 67 #[.int .i64 0, .slice none 0 0]
    rw [World.size_alloc] at hz
    have HB0 := Lib.hid hb0; have HX := Lib.hid hx; have HZ := Lib.hid hz
    clear hb0 hx hz
    go_enter Try.func58, Try.ntmps58
    go_wp2_with fail
    generalize ((w.alloc (.cells #[.int .i64 M, .slice A n c] 67)).alloc (.cells #[.int .i64 0, .slice none 0 0] 67)) = W at *
    have x0 : W.cell? ⟨w.heap.size, 0, none⟩ = some (.int .i64 M) := HX.out.cell 0
    have x1 : W.cell? ⟨w.heap.size, 1, none⟩ = some (.slice A n c) := HX.out.cell 1
    have z0 : W.cell? ⟨w.heap.size + 1, 0, none⟩ = some (.int .i64 0) := HZ.out.cell 0
    have z1 : W.cell? ⟨w.heap.size + 1, 1, none⟩ = some (.slice none 0 0) := HZ.out.cell 1
    have f0 := HZ.out.frozen 0
    have f1 := HZ.out.frozen 1
  all_goals
    have hs : w.heap.size + 1 < W.heap.size := HZ.out.lt
    have hs' : w.heap.size < W.heap.size := HX.out.lt
    have HRW := Lib.hid (hr.out.below HB0.out)
    refine (refNot hi W hhi (by omega)).mono ?_
    rintro e w' ⟨rfl, rfl⟩
    go_wp2
    go_loopw [9] (fun i wr => ∃ (k : Nat), k ≤ n ∧ i = .int .i64 k ∧ Hid (lookS (ents (G.take k)) lo hi = none) ∧ W = wr) (fun i _ => n - (intOf i).toNat)
    case atStart => exact ⟨0, Nat.zero_le _, rfl, by show _ = _; simp [ents, entsFrom, lookS], rfl⟩
    case round =>
      obtain ⟨k, hk, rfl, HK, rfl⟩ := hrel
      by_cases hlt : k < n
      · obtain ⟨b1, o1, x, rfl, hx, hbl, d0, d1, d2⟩ := HRW.out.rd.node hl.out hlt
        have HXX := Lib.hid hx
        obtain ⟨xk, xl, xr⟩ := x
        dsimp only at d0 d1 d2
        clear hx
        have hki : (k : Int) < (n : Int) := by omega
        cases e3 : (xk == 3) with
        | false =>
          go_wp2
          go_roundw
          case rel => exact ⟨k + 1, by omega, by go_num, look_miss HXX.out (fun h => by simp at e3; exact e3 h.1) HK.out, trivial⟩
          case measure => simp [intOf]; omega
        | true =>
          cases el : (xl == lo) with
          | false =>
            go_wp2
            go_roundw
            case rel => exact ⟨k + 1, by omega, by go_num, look_miss HXX.out (fun h => by simp at el; exact el h.2.1) HK.out, trivial⟩
            case measure => simp [intOf]; omega
          | true =>
            cases er : (xr == hi) with
            | false =>
              go_wp2
              go_roundw
              case rel => exact ⟨k + 1, by omega, by go_num, look_miss HXX.out (fun h => by simp at er; exact er h.2.2) HK.out, trivial⟩
              case measure => simp [intOf]; omega
            | true =>
              have hsrch : searched G lo hi = (G, 2 * (k : Int)) := by rw [searched, look_hit HXX.out (by simpa using e3) (by simpa using el) (by simpa using er) HK.out]
              have HSR := Lib.hid hsrch
              clear hsrch
              go_wp2
              have HF := Lib.hid ((HZ.out.put 0 (.int .i64 M)).put 1 (.slice (some ⟨b1,o1,none⟩) n c))
              have HFB := Lib.hid ((HB0.out.setCell (p := ⟨w.heap.size + 1, 0, none⟩) (by show w.heap.size ≤ w.heap.size + 1; omega) (.int .i64 M)).setCell (p := ⟨w.heap.size + 1, 1, none⟩) (by show w.heap.size ≤ w.heap.size + 1; omega) (.slice (some ⟨b1,o1,none⟩) n c))
              clear x0 x1 z0 z1 f0 f1
              generalize ((W.setCell ⟨w.heap.size + 1, 0, none⟩ (.int .i64 M)).setCell ⟨w.heap.size + 1, 1, none⟩ (.slice (some ⟨b1,o1,none⟩) n c)) = WF at *
              have r0 : WF.cell? ⟨w.heap.size + 1, 0, none⟩ = some (.int .i64 M) := HF.out.cell 0
              have r1 : WF.cell? ⟨w.heap.size + 1, 1, none⟩ = some (.slice (some ⟨b1,o1,none⟩) n c) := HF.out.cell 1
              refine bodyPost_ret (v := .tuple #[.agg #[.int .i64 M, .slice (some ⟨b1,o1,none⟩) n c], .int .i64 (2*k), .int .i64 0]) (by simp [results, Try.results58, go_sem, r0, r1]) rfl ?_
              rw [HSR.out]
              exact ⟨_, n, c, rfl, hr.out.below HFB.out, hl.out, HFB.out⟩
      · obtain rfl : n = k := by omega
        have hsrch : searched G lo hi = (G ++ [⟨3, lo, hi⟩], 2 * (n : Int)) := by
          have hk := HK.out
          rw [List.take_of_length_le (by rw [hl.out]; exact Nat.le_refl _)] at hk
          rw [searched, hk, hl.out]
        have HSR := Lib.hid hsrch
        clear hsrch HK
        go_wp2_with fail
        refine (rput M A n c G 3 lo hi W (Lib.hid HRW.out.rd) hl hM hn).mono ?_
        rintro e w5 ⟨A5, n5, c5, rfl, hr5, hl5, hb5, hf5⟩
        have hne5 : ∀ b off, A5 = some ⟨b, off, none⟩ → b ≠ w.heap.size + 1 := fun b off he => by have := hf5 b off he; omega
        clear hf5
        have hn5 : n5 = n + 1 := by rw [← hl5, List.length_append, hl.out]; rfl
        subst hn5
        have HB5 : Hid (Below w.heap.size w w5) := bthen HB0.out hb5
        have HZ5 := Lib.hid (HZ.out.below hb5 HZ.out.lt)
        have Hr5 : Hid (RdT w5 A5 127 (rcells (G ++ [⟨3, lo, hi⟩])) ∧ (G ++ [(⟨3, lo, hi⟩ : Nd)]).length = n + 1 ∧ ∀ b off, A5 = some ⟨b, off, none⟩ → b ≠ w.heap.size + 1) := ⟨hr5, hl5, hne5⟩
        clear hr5 hl5 hb5 hne5 x0 x1 z0 z1 f0 f1
        have z0 : w5.cell? ⟨w.heap.size + 1, 0, none⟩ = some (.int .i64 0) := HZ5.out.cell 0
        have z1 : w5.cell? ⟨w.heap.size + 1, 1, none⟩ = some (.slice none 0 0) := HZ5.out.cell 1
        have f0 := HZ5.out.frozen 0
        have f1 := HZ5.out.frozen 1
        go_wp2
        have HF := Lib.hid ((HZ5.out.put 0 (.int .i64 M)).put 1 (.slice A5 (n + 1) c5))
        have HFB := Lib.hid ((HB5.out.setCell (p := ⟨w.heap.size + 1, 0, none⟩) (by show w.heap.size ≤ w.heap.size + 1; omega) (.int .i64 M)).setCell (p := ⟨w.heap.size + 1, 1, none⟩) (by show w.heap.size ≤ w.heap.size + 1; omega) (.slice A5 (n + 1) c5))
        have HFF : Hid (RdT ((w5.setCell ⟨w.heap.size + 1, 0, none⟩ (.int .i64 M)).setCell ⟨w.heap.size + 1, 1, none⟩ (.slice A5 (n + 1) c5)) A5 127 (rcells (G ++ [⟨3, lo, hi⟩]))) := by
          have hf : Fr (fun k => k = w.heap.size + 1) w5 ((w5.setCell ⟨w.heap.size + 1, 0, none⟩ (.int .i64 M)).setCell ⟨w.heap.size + 1, 1, none⟩ (.slice A5 (n + 1) c5)) := Fr.setCell (Fr.setCell (Fr.refl (fun k => k = w.heap.size + 1) w5) (p := ⟨w.heap.size + 1, 0, none⟩) (.inl rfl) _) (p := ⟨w.heap.size + 1, 1, none⟩) (.inl rfl) _
          exact Hr5.out.1.fr hf (fun b _ he => by obtain ⟨off, he⟩ := he; exact Hr5.out.2.2 b off he)
        clear z0 z1 f0 f1
        generalize ((w5.setCell ⟨w.heap.size + 1, 0, none⟩ (.int .i64 M)).setCell ⟨w.heap.size + 1, 1, none⟩ (.slice A5 (n + 1) c5)) = WF at *
        have r0 : WF.cell? ⟨w.heap.size + 1, 0, none⟩ = some (.int .i64 M) := HF.out.cell 0
        have r1 : WF.cell? ⟨w.heap.size + 1, 1, none⟩ = some (.slice A5 (n + 1) c5) := HF.out.cell 1
        refine bodyPost_ret (v := .tuple #[.agg #[.int .i64 M, .slice A5 (n + 1) c5], .int .i64 (2 * n), .int .i64 0]) (by simp [results, Try.results58, go_sem, r0, r1]) rfl ?_
        rw [HSR.out]
        exact ⟨_, n + 1, c5, rfl, HFF.out, Hr5.out.2.1, HFB.out⟩
theorem rand (M : Int) (A : Option Addr) (n c : Nat) (G : List Nd) (a b : Int) (w : World) (hr : Hid (RdT w A 127 (rcells G))) (hl : Hid (G.length = n)) (ha : 0 ≤ a) (ha' : a < 2 * n) (hb : 0 ≤ b) (hb' : b < 2 * n) (hM : M ≤ 65536) (hn : (n : Int) < M) :
    Calls Try.prog 58 #[.agg #[.int .i64 M, .slice A n c], .int .i64 a, .int .i64 b] w (RGPost M (andG G a b).1 (andG G a b).2 w) := by
  have hsw : Sw a b (min a b) (max a b) := by
    by_cases h : b < a
    · exact .inl ⟨by simpa using h, by omega, by omega⟩
    · exact .inr ⟨by simpa using h, by omega, by omega⟩
  have hni : (min a b = notI (max a b)) ↔ a = notI b := by
    by_cases h : b < a
    · have h1 : min a b = b := by omega
      have h2 : max a b = a := by omega
      rw [h1, h2]
      exact (notI_swap hb ha)
    · have h1 : min a b = a := by omega
      have h2 : max a b = b := by omega
      rw [h1, h2]
  by_cases h0 : min a b = 0
  · rw [andG_E0 (hi := 0) rfl h0]
    exact rand_0 M A n c G a b _ _ w hr hl hsw (by simpa using h0)
  by_cases h1 : a = notI b
  · rw [andG_Ev h1]
    exact rand_1 M A n c G a b _ _ w hr hl hsw (by simpa using h0) (by omega) (by omega) (by simpa using hni.2 h1)
  have h1' : (min a b == notI (max a b)) = false := by simpa using fun h => h1 (hni.1 h)
  by_cases h2 : min a b = 1
  · rw [andG_hi h0 h1 (.inl h2)]
    exact rand_2 M A n c G a b _ _ w hr hl hsw (by simpa using h0) (by omega) (by omega) h1' (by simpa using h2)
  by_cases h3 : a = b
  · rw [andG_hi h0 h1 (.inr h3)]
    exact rand_3 M A n c G a b _ _ w hr hl hsw (by simpa using h0) (by omega) (by omega) h1' (by simpa using h2) (by simp; omega)
  have h := rand_4 M A n c G a b _ _ w hr hl hsw (by simpa using h0) (by omega) (by omega) h1' (by simpa using h2) (by simp; omega) hM hn
  have he : andG G a b = searched G (min a b) (max a b) := by
    unfold searched
    cases hk : lookS (ents G) (min a b) (max a b) with
    | none => exact andG_new h0 h1 h2 h3 hk
    | some v => exact andG_look h0 h1 h2 h3 hk
  rw [he]
  exact h

end Go.Proofs.Ytamoniljgifggaa
