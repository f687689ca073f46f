/-
  Contracts of the reference of layer 20 (graphs as values).
-/
import Derived.Test.YtamoniljgifggaaSmall
import Derived.Deep.RegionLaw
set_option linter.unusedVariables false
set_option linter.unusedSimpArgs false
namespace Go.Proofs.Ytamoniljgifggaa
open Go.RowKit

def rcell (x : Nd) : List Value := [.int .i64 x.k, .int .i64 x.l, .int .i64 x.r]
def rcells (G : List Nd) : List Value := G.flatMap rcell
theorem rcells_length (G : List Nd) : (rcells G).length = G.length * 3 := by
  induction G with
  | nil => rfl
  | cons x G ih => simp only [rcells, List.flatMap_cons, List.length_append] at ih ⊢; rw [ih]; simp [rcell]; omega
theorem rcells_at (G : List Nd) (i : Nat) (x : Nd) (h : G[i]? = some x) : (rcells G)[i * 3]? = some (.int .i64 x.k) ∧ (rcells G)[i * 3 + 1]? = some (.int .i64 x.l) ∧ (rcells G)[i * 3 + 2]? = some (.int .i64 x.r) := by
  induction G generalizing i with
  | nil => simp at h
  | cons y G ih =>
    have hc : rcells (y :: G) = rcell y ++ rcells G := rfl
    cases i with
    | zero => simp at h; subst h; simp [hc, rcell]
    | succ i =>
      simp at h
      obtain ⟨h1, h2, h3⟩ := ih i h
      have hl : (rcell y).length = 3 := rfl
      refine ⟨?_, ?_, ?_⟩
      · rw [hc, List.getElem?_append_right (by rw [hl]; omega), hl]; rw [← h1]; congr 1; omega
      · rw [hc, List.getElem?_append_right (by rw [hl]; omega), hl]; rw [← h2]; congr 1; omega
      · rw [hc, List.getElem?_append_right (by rw [hl]; omega), hl]; rw [← h3]; congr 1; omega
theorem rcells_one (G : List Nd) : ∀ u ∈ rcells G, u.oneCell' = true := by
  intro u hu
  obtain ⟨x, _, hx⟩ := List.mem_flatMap.1 hu
  simp [rcell] at hx
  rcases hx with rfl | rfl | rfl <;> rfl

theorem Rd.node {w : World} {A : Option Addr} {G : List Nd} {n i : Nat} (h : Rd w A (rcells G)) (hl : G.length = n) (hi : i < n) :
    ∃ b off x, A = some ⟨b, off, none⟩ ∧ G[i]? = some x ∧ b < w.heap.size ∧ w.cell? ⟨b, off + i * 3, none⟩ = some (.int .i64 x.k) ∧ w.cell? ⟨b, off + i * 3 + 1, none⟩ = some (.int .i64 x.l) ∧ w.cell? ⟨b, off + i * 3 + 2, none⟩ = some (.int .i64 x.r) := by
  have hne : rcells G ≠ [] := by
    intro e
    have := rcells_length G
    rw [e] at this
    simp at this
    omega
  obtain ⟨b, off, rfl, hb, hc⟩ := h.cells hne
  have hx : G[i]? = some (G[i]'(by omega)) := List.getElem?_eq_getElem _
  obtain ⟨h1, h2, h3⟩ := rcells_at G i _ hx
  exact ⟨b, off, _, rfl, hx, hb, hc _ _ h1, hc _ _ h2, hc _ _ h3⟩

theorem el_rnode : El Try.prog 65 127 3 := El.mk' (z := .agg #[.int .i64 0, .int .i64 0, .int .i64 0]) (bytes := 24) Try.underlying65 (by kernel_rfl) rfl (by omega) (by omega)

theorem rright (M : Int) (A : Option Addr) (n c : Nat) (r : Int) (w : World) (hn : n ≤ 1000000) (h1 : -9223372036854775808 ≤ r) (h2 : r ≤ 9223372036854775807) :
    Calls Try.prog 61 #[.agg #[.int .i64 M, .slice A n c], .int .i64 r] w fun e w' => e = .returned (.bool (decide (0 ≤ r ∧ r < 2 * n))) ∧ Below w.heap.size w w' := by
  by_cases h0 : 0 ≤ r
  · go_enter Try.func61, Try.ntmps61
    go_wp2
    go_ret
    exact ⟨ret_bool (by rw [decide_eq_decide]; omega), (Below.refl _ w).alloc (Nat.le_refl _) _⟩
  · have h1 : decide (0 ≤ r) = false := by simpa using h0
    go_enter Try.func61, Try.ntmps61
    go_wp2
    go_ret
    exact ⟨ret_bool (by first | rfl | (rw [eq_comm, decide_eq_false_iff_not]; omega)), (Below.refl _ w).alloc (Nat.le_refl _) _⟩

theorem rnew (M : Int) (w : World) (h1 : 1 ≤ M) (h2 : M ≤ 65536) :
    Calls Try.prog 85 #[.int .i64 M] w fun e w' => ∃ A c, e = .returned (.tuple #[.agg #[.int .i64 M, .slice A 1 c], .int .i64 0]) ∧ w'.ownsRow w.heap.size 127 3 (.slice A 1 c) 1 [.int .i64 1, .int .i64 0, .int .i64 0] ∧ Below w.heap.size w w' := by
  go_enter Try.func85, Try.ntmps85
  go_wp2
  refine bodyPost_ret (v := .tuple #[.agg #[.int .i64 M, .slice (some ⟨w.heap.size + 1, 0, none⟩) 1 1], .int .i64 0]) (by simp [results, Try.results85, go_sem]) rfl ⟨_, _, rfl, ?_, ((Below.refl _ w).alloc (Nat.le_refl _) _).alloc (by simp) _⟩
  have h := World.ownsRow_lit (base := w.heap.size) (e := 127) (size := 3) (w.alloc (.cells #[.int .i64 M, .slice (some ⟨w.heap.size + 1, 0, none⟩) 1 1] 67)) #[.int .i64 1, .int .i64 0, .int .i64 0] 1 (by simp) (by simp [maxLen]) rfl
  rw [World.size_alloc] at h
  exact h

set_option maxHeartbeats 400000 in
set_option maxRecDepth 100000 in
theorem rinputs (M : Int) (A : Option Addr) (n c : Nat) (G : List Nd) (w : World) (hr : Hid (Rd w A (rcells G))) (hl : Hid (G.length = n)) (hn : n ≤ 1000000) :
    Calls Try.prog 64 #[.agg #[.int .i64 M, .slice A n c]] w fun e w' => ∃ A' m c', e = .returned (.slice A' m c') ∧ (inputsOf G).length = m ∧ w'.ownsRow w.heap.size 3 1 (.slice A' m c') m ((inputsOf G).map (Value.int .i64)) ∧ Below w.heap.size w w' := by
  go_enter Try.func64, Try.ntmps64
  go_wp2
  go_loopw [3, 4] (fun v i wr => ∃ (k m : Nat) (A' : Option Addr) (c' : Nat), k ≤ n ∧ i = .int .i64 k ∧ v = .slice A' m c' ∧ m ≤ k ∧ Hid ((inputsOf (G.take k)).length = m) ∧ Hid (wr.ownsRow w.heap.size 3 1 (.slice A' m c') m ((inputsOf (G.take k)).map (Value.int .i64))) ∧ Hid (Below w.heap.size w wr) ∧ Hid (Bk wr w.heap.size 67 #[.int .i64 M, .slice A n c])) (fun _ i _ => n - (intOf i).toNat)
  case atStart => exact ⟨0, 0, none, 0, Nat.zero_le _, rfl, rfl, Nat.le_refl _, rfl, World.ownsRow_nil _ _ _ _, (Below.refl _ w).alloc (Nat.le_refl _) _, Bk.new _ _ _⟩
  case round =>
    obtain ⟨k, m, A', c', hk, rfl, rfl, hmk, Hm, Ho, Hb, HB⟩ := hrel
    have hsz : w.heap.size < wr.heap.size := HB.out.lt
    have c1 : wr.cell? ⟨w.heap.size, 1, none⟩ = some (.slice A n c) := HB.out.cell 1
    by_cases hlt : k < n
    · obtain ⟨b1, o1, x, rfl, hx, hbl, hc1, hc2, hc3⟩ := (hr.out.below Hb.out).node hl.out hlt
      clear hc2 hc3
      have HX := Lib.hid hx; clear hx
      obtain ⟨kk, hkk⟩ : ∃ kk, x.k = kk := ⟨_, rfl⟩
      rw [hkk] at hc1
      have HK := Lib.hid hkk; clear hkk
      by_cases h2 : kk = 2
      · have hb2 : (kk == 2) = true := by simpa using h2
        have H2 := Lib.hid h2; clear h2
        go_wp2_with (at_builtin; refine wpList_app el_int rfl (.tmp 19) (.tmp 22) rfl w.heap.size (.slice A' m c') m _ rfl (Ho.out.alloc _) (some ⟨wr.heap.size, 0, none⟩) 1 1 [.int .i64 (2 * k)] rfl (Rd.new _ #[_] _) rfl (by simp [Value.oneCell']) (by omega) (by simp; omega) ?_; intro A2 c2 w1 ho1 hg1 hat1; have Ho1 := Lib.hid ho1; have Hg1 := Lib.hid hg1; clear ho1 hg1 hat1)
        go_roundw
        case rel =>
          have hin : inputsOf (G.take (k + 1)) = inputsOf (G.take k) ++ [(2 * k : Int)] := by
            rw [take_snoc HX.out, inputsOf_snoc, if_pos (by rw [HK.out, H2.out]), List.length_take, Nat.min_eq_left (by rw [hl.out]; omega)]
          refine ⟨k + 1, m + 1, A2, c2, by omega, by go_num, rfl, by omega, ?_, ?_, own_step Hb.out Ho.out _ Hg1.out, ?_⟩
          · show (inputsOf (G.take (k + 1))).length = m + 1
            rw [hin, List.length_append, Hm.out]; rfl
          · show w1.ownsRow _ _ _ _ _ _
            rw [hin, List.map_append]; exact Ho1.out
          · exact (HB.out.alloc _).grown Hg1.out (own_ne Ho.out HB.out (by decide))
        case measure => simp [intOf]; omega
      · have hb2 : (kk == 2) = false := by simpa using h2
        have H2 := Lib.hid h2; clear h2
        go_wp2
        go_roundw
        case rel =>
          have hin : inputsOf (G.take (k + 1)) = inputsOf (G.take k) := by
            rw [take_snoc HX.out, inputsOf_snoc, if_neg (by rw [HK.out]; exact H2.out)]
          exact ⟨k + 1, m, A', c', by omega, by go_num, rfl, by omega, by show (inputsOf (G.take (k + 1))).length = m; rw [hin]; exact Hm.out, by show wr.ownsRow _ _ _ _ _ _; rw [hin]; exact Ho.out, Hb, HB⟩
        case measure => simp [intOf]; omega
    · obtain rfl : k = n := by omega
      go_wp2
      go_ret
      have ht : G.take k = G := List.take_of_length_le (by rw [hl.out]; omega)
      refine ⟨A', m, c', rfl, ?_, ?_, Hb.out⟩
      · have h := Hm.out
        rwa [ht] at h
      · have h := Ho.out
        rwa [ht] at h
end Go.Proofs.Ytamoniljgifggaa
