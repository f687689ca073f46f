/-
  From a row's reading of small steps to what lies in memory.
-/
import Derived.Test.YteglgcfbmjlnkaaDoorMade7
import Derived.ChangeSlices
import Derived.Deep.Grids
import Derived.Deep.Matrix
import Derived.Deep.Slices
import Derived.OpenShut
set_option linter.unusedVariables false
set_option linter.unusedSimpArgs false
namespace Go.Proofs.YteglgcfbmjlnkaaDoor
open Go.ChangeShapes Go.WideShapes Go.RowKit Go.Deep

theorem rd_of {w : World} {a : Addr} {xs : List Value} (h : ∀ (i : Nat) (u : Value), xs[i]? = some u → w.cell? (a.add i) = some u) : Rd w (some a) xs := by
  intro hx
  obtain ⟨x, l, rfl⟩ := List.exists_cons_of_ne_nil hx
  obtain ⟨b, off, spot⟩ := a
  have h0 := h 0 x rfl
  have hs : spot = none := by simpa [Addr.add] using World.cell?_spot h0
  subst hs
  have ha : ∀ i : Nat, (⟨b, off, none⟩ : Addr).add i = ⟨b, off + i, none⟩ := fun i => by simp [Addr.add]
  cases hh : w.heap[b]? with
  | none => rw [ha] at h0; simp [World.cell?, hh] at h0
  | some o =>
    cases o with
    | cells cs t fr =>
      refine ⟨b, off, cs, t, fr, rfl, hh, fun j u hu => ?_⟩
      have h1 := h j u hu
      rw [ha] at h1
      simpa [World.cell?, hh] using h1
    | _ => rw [ha] at h0; simp [World.cell?, hh] at h0
theorem u8_of {n : Int} (h : (Lit.int .u8 n).wf = true) : 0 ≤ n ∧ n ≤ 255 := by
  simp only [Lit.wf, Bool.and_eq_true, decide_eq_true_eq] at h
  exact ⟨h.1, h.2⟩
theorem i8_of {n : Int} (h : (Lit.int .i8 n).wf = true) : -128 ≤ n ∧ n ≤ 127 := by
  simp only [Lit.wf, Bool.and_eq_true, decide_eq_true_eq] at h
  exact ⟨h.1, h.2⟩
section
variable {H : Type} {enc : TypeId × Value → H} {w : World} {held : Bool}
theorem i8s_of {n : Nat} {v : Value} {x : DataW H × List MemPlace} (h : DataW.trod enc Tryd.prog w 0 (fun _ => true) held n 69 [v] = some x) : ∃ (s : SV) (l : List Int), v = .slice s.A s.n s.c ∧ Rd w s.A (l.map (Value.int .i8)) ∧ l.length = s.n ∧ (∀ u ∈ l, -128 ≤ u ∧ u ≤ 127) ∧ s.n ≤ maxLen ∧ s.n ≤ s.c := by
  rcases open_ints Tryd.underlying69 Tryd.underlying73 (by kernel_rfl) h with ⟨hcs, _⟩ | ⟨a, len, cap, zs, hcs, _, hl, hm, hz, _, hcell, hwz⟩
  · simp at hcs
    exact ⟨⟨none, 0, 0⟩, [], hcs, Rd.nil, rfl, fun u hu => (by cases hu), Nat.zero_le _, Nat.le_refl _⟩
  · simp at hcs
    simp only [if_true] at hz
    refine ⟨⟨some a, len, cap⟩, zs.take len, hcs, rd_of (fun i u hu => ?_), by simp; omega, fun u hu => i8_of (hwz u (List.mem_of_mem_take hu)), by dsimp only; omega, hl⟩
    rw [List.getElem?_map, List.getElem?_take] at hu
    split at hu
    · rename_i hi
      have hiz : i < zs.length := by omega
      rw [hcell i hiz, List.getD_eq_getElem?_getD, List.getElem?_eq_getElem hiz]
      rw [List.getElem?_eq_getElem hiz] at hu
      simpa using hu
    · simp at hu
theorem u8s_of {n : Nat} {v : Value} {x : DataW H × List MemPlace} (h : DataW.trod enc Tryd.prog w 0 (fun _ => true) held n 68 [v] = some x) : ∃ (s : SV) (l : List Nat), v = .slice s.A s.n s.c ∧ Rd w s.A (u8s l) ∧ l.length = s.n ∧ (∀ u ∈ l, u ≤ 255) ∧ s.n ≤ maxLen ∧ s.n ≤ s.c := by
  rcases open_ints Tryd.underlying68 Tryd.underlying5 (by kernel_rfl) h with ⟨hcs, _⟩ | ⟨a, len, cap, zs, hcs, _, hl, hm, hz, _, hcell, hwz⟩
  · simp at hcs
    exact ⟨⟨none, 0, 0⟩, [], hcs, Rd.nil, rfl, fun u hu => (by cases hu), Nat.zero_le _, Nat.le_refl _⟩
  · simp at hcs
    simp only [if_true] at hz
    refine ⟨⟨some a, len, cap⟩, (zs.take len).map Int.toNat, hcs, rd_of (fun i u hu => ?_), by simp; omega, fun u hu => ?_, by dsimp only; omega, hl⟩
    · unfold u8s at hu
      rw [List.map_map, List.getElem?_map, List.getElem?_take] at hu
      split at hu
      · rename_i hi
        have hiz : i < zs.length := by omega
        rw [hcell i hiz, List.getD_eq_getElem?_getD, List.getElem?_eq_getElem hiz]
        rw [List.getElem?_eq_getElem hiz] at hu
        have hb := u8_of (hwz _ (List.getElem_mem hiz))
        have e : ((zs[i].toNat : Nat) : Int) = zs[i] := by omega
        simp [e] at hu
        simpa using hu
      · simp at hu
    · obtain ⟨z, hz', rfl⟩ := List.mem_map.1 hu
      have := u8_of (hwz z (List.mem_of_mem_take hz'))
      omega
theorem list_of {α : Type} (n : Nat) (P : Nat → α → Prop) (h : ∀ i, i < n → ∃ a, P i a) : ∃ l : List α, l.length = n ∧ ∀ (i : Nat) (a : α), l[i]? = some a → P i a := by
  induction n with
  | zero => exact ⟨[], rfl, fun i a h => by simp at h⟩
  | succ n ih =>
    obtain ⟨l, hl, hp⟩ := ih (fun i hi => h i (by omega))
    obtain ⟨a, ha⟩ := h n (by omega)
    refine ⟨l ++ [a], by simp [hl], fun i b hb => ?_⟩
    rcases Nat.lt_trichotomy i l.length with hi | hi | hi
    · rw [List.getElem?_append_left hi] at hb
      exact hp i b hb
    · subst hi
      rw [List.getElem?_append_right (Nat.le_refl _)] at hb
      simp at hb
      subst hb
      rw [hl]
      exact ha
    · rw [List.getElem?_eq_none (by simp; omega)] at hb
      cases hb
theorem drop_take1 {α : Type} {l : List α} {i : Nat} (h : i < l.length) : (l.drop i).take 1 = [l[i]] := by
  rw [List.drop_eq_getElem_cons h]
  rfl
theorem four_of {cs : List Value} {a b c d : Value} (hl : cs.length = 4) (h0 : [cs[0]'(by omega)] = [a]) (h1 : [cs[1]'(by omega)] = [b]) (h2 : cs[2]'(by omega) = c) (h3 : cs[3]'(by omega) = d) : cs = [a, b, c, d] := by
  match cs, hl with
  | [c0, c1, c2, c3], _ =>
    simp only [List.getElem_cons_zero, List.getElem_cons_succ, List.cons.injEq, and_true] at h0 h1 h2 h3
    rw [h0, h1, h2, h3]
theorem sml_of {n : Nat} {cs : List Value} {x : DataW H × List MemPlace} (h : DataW.trod enc Tryd.prog w 0 (fun _ => true) held n 71 cs = some x) : ∃ p : StV × Sml, cs = smcell p ∧ SmlAt w p.1 p.2 := by
  obtain ⟨xs, m, _, _, hl, hxl, hf⟩ := DataW.trod_struct Tryd.underlying71 h
  have hc : Tryd.prog.cellsOf 71 = 4 := by kernel_rfl
  rw [hc] at hl
  have k0 : Tryd.prog.cellsOf 4 = 1 := by kernel_rfl
  have k1 : Tryd.prog.cellsOf 5 = 1 := by kernel_rfl
  have k2 : Tryd.prog.cellsOf 68 = 1 := by kernel_rfl
  have k3 : Tryd.prog.cellsOf 69 = 1 := by kernel_rfl
  simp at hxl
  have f0 : DataW.trod enc Tryd.prog w 0 (fun _ => true) held m 4 ((cs.drop 0).take (Tryd.prog.cellsOf 4)) = xs[0]? := hf 0 _ rfl
  have f1 : DataW.trod enc Tryd.prog w 0 (fun _ => true) held m 5 ((cs.drop 1).take (Tryd.prog.cellsOf 5)) = xs[1]? := hf 1 _ rfl
  have f2 : DataW.trod enc Tryd.prog w 0 (fun _ => true) held m 68 ((cs.drop 2).take (Tryd.prog.cellsOf 68)) = xs[2]? := hf 2 _ rfl
  have f3 : DataW.trod enc Tryd.prog w 0 (fun _ => true) held m 69 ((cs.drop 3).take (Tryd.prog.cellsOf 69)) = xs[3]? := hf 3 _ rfl
  rw [k0, drop_take1 (by omega), List.getElem?_eq_getElem (by omega)] at f0
  rw [k1, drop_take1 (by omega), List.getElem?_eq_getElem (by omega)] at f1
  rw [k2, drop_take1 (by omega), List.getElem?_eq_getElem (by omega)] at f2
  rw [k3, drop_take1 (by omega), List.getElem?_eq_getElem (by omega)] at f3
  obtain ⟨z0, e0, _⟩ := DataW.trod_bool Tryd.underlying4 f0
  obtain ⟨z1, e1, _, w1⟩ := DataW.trod_int Tryd.underlying5 f1
  obtain ⟨s2, l2, e2, r2, q2, b2, g2, c2⟩ := u8s_of f2
  obtain ⟨s3, l3, e3, r3, q3, b3, g3, c3⟩ := i8s_of f3
  have hz := u8_of w1
  have ez : ((z1.toNat : Nat) : Int) = z1 := by omega
  refine ⟨(⟨s2, s3⟩, ⟨z0, z1.toNat, l2, l3⟩), ?_, ⟨by dsimp only; omega, r2, q2, b2, by unfold maxLen at g2; dsimp only; omega, c2, r3, q3, b3, by unfold maxLen at g3; dsimp only; omega, c3⟩⟩
  unfold smcell
  dsimp only
  rw [ez]
  exact four_of hl e0 e1 e2 e3
theorem smls_of {n : Nat} {v : Value} {x : DataW H × List MemPlace} (h : DataW.trod enc Tryd.prog w 0 (fun _ => true) held n 24 [v] = some x) : ∃ (s : SV) (L : List (StV × Sml)), v = .slice s.A s.n s.c ∧ SmlsAt w s.A s.n L ∧ s.n ≤ maxLen ∧ s.n ≤ s.c := by
  rcases open_slice Tryd.underlying24 h with ⟨hcs, _⟩ | ⟨a, len, cap, m, n', D, Pl, hcs, _, hl, hm, hmm, _, hi⟩
  · simp at hcs
    exact ⟨⟨none, 0, 0⟩, [], hcs, ⟨Rd.nil, rfl, fun i v s h => by simp at h⟩, Nat.zero_le _, Nat.le_refl _⟩
  · simp at hcs
    simp only [if_true] at hmm
    have hc1 : Tryd.prog.cellsOf 71 = 4 := by kernel_rfl
    obtain ⟨Q, hQ, hp⟩ := list_of len (fun i (p : StV × Sml) => (∀ j u, j < 4 → (smcell p)[j]? = some u → w.cell? (a.add (i * 4 + j)) = some u) ∧ SmlAt w p.1 p.2) (fun i hil => by
      obtain ⟨cs', hc, ht⟩ := hi i (by omega)
      rw [hc1] at hc
      obtain ⟨_, hcl, hat⟩ := World.cells?_some hc
      obtain ⟨p, rfl, hb⟩ := sml_of ht
      refine ⟨p, fun j u hj hu => ?_, hb⟩
      have := hat j (by omega)
      rw [Go.Deep.add_add] at this
      rw [this]
      simpa using hu)
    refine ⟨⟨some a, len, cap⟩, Q, hcs, ⟨rd_of (fun q u hu => ?_), hQ, fun i v s hi' => (hp i (v, s) hi').2⟩, by dsimp only; omega, hl⟩
    have hql : q < Q.length * 4 := by rw [← flat4_len smcell (fun x => rfl) Q]; exact (List.getElem?_eq_some_iff.1 hu).1
    have hqi : q / 4 < Q.length := by omega
    have ho : Q[q / 4]? = some (Q[q / 4]) := List.getElem?_eq_getElem hqi
    have e : q = q / 4 * 4 + q % 4 := by omega
    rw [e] at hu ⊢
    rw [flat4_at smcell (fun x => rfl) Q (q / 4) _ ho (q % 4) (by omega)] at hu
    exact (hp (q / 4) _ ho).1 (q % 4) u (by omega) hu
end
end Go.Proofs.YteglgcfbmjlnkaaDoor
