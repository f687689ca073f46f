/-
  From a list of lists of bytes to what lies in memory.
-/
import Derived.Test.YtkpcpclaadgnbaaGreatDoorMadeF6
import Derived.ChangeSlices
import Derived.Deep.Grids
import Derived.Deep.Matrix
import Derived.Deep.Slices
import Derived.OpenShut
set_option linter.unusedVariables false
set_option linter.unusedSimpArgs false
namespace Go.Proofs.YtkpcpclaadgnbaaGreatDoor
open Go.ChangeShapes Go.WideShapes Go.RowKit Go.Deep

def u8s (l : List Nat) : List Value := l.map fun (m : Nat) => Value.int .u8 (m : Int)
theorem rd_of {w : World} {a : Addr} {xs : List Value} (h : ∀ (i : Nat) (u : Value), xs[i]? = some u → w.cell? (a.add i) = some u) : Rd w (some a) xs := by
  intro hx
  obtain ⟨x, l, rfl⟩ := List.exists_cons_of_ne_nil hx
  obtain ⟨b, off, spot⟩ := a
  have h0 := h 0 x rfl
  have hs : spot = none := by simpa [Addr.add] using World.cell?_spot h0
  subst hs
  have ha : ∀ i : Nat, (⟨b, off, none⟩ : Addr).add i = ⟨b, off + i, none⟩ := fun i => by simp [Addr.add]
  cases hh : w.heap[b]? with
  | none => rw [ha] at h0; simp [World.cell?, hh] at h0
  | some o =>
    cases o with
    | cells cs t fr =>
      refine ⟨b, off, cs, t, fr, rfl, hh, fun j u hu => ?_⟩
      have h1 := h j u hu
      rw [ha] at h1
      simpa [World.cell?, hh] using h1
    | _ => rw [ha] at h0; simp [World.cell?, hh] at h0
theorem u8_of {n : Int} (h : (Lit.int .u8 n).wf = true) : 0 ≤ n ∧ n ≤ 255 := by
  simp only [Lit.wf, Bool.and_eq_true, decide_eq_true_eq] at h
  exact ⟨h.1, h.2⟩
section
variable {H : Type} {enc : TypeId × Value → H} {w : World} {held : Bool}
theorem u8s_of {n : Nat} {v : Value} {x : DataW H × List MemPlace} (h : DataW.trod enc Tryz.prog w 0 (fun _ => true) held n 57 [v] = some x) : ∃ (s : SV) (l : List Nat), v = .slice s.A s.n s.c ∧ Rd w s.A (u8s l) ∧ l.length = s.n ∧ (∀ u ∈ l, u ≤ 255) ∧ s.n ≤ maxLen ∧ s.n ≤ s.c := by
  rcases open_ints Tryz.underlying57 Tryz.underlying5 (by kernel_rfl) h with ⟨hcs, _⟩ | ⟨a, len, cap, zs, hcs, _, hl, hm, hz, _, hcell, hwz⟩
  · simp at hcs
    exact ⟨⟨none, 0, 0⟩, [], hcs, Rd.nil, rfl, fun u hu => (by cases hu), Nat.zero_le _, Nat.le_refl _⟩
  · simp at hcs
    simp only [if_true] at hz
    refine ⟨⟨some a, len, cap⟩, (zs.take len).map Int.toNat, hcs, rd_of (fun i u hu => ?_), by simp; omega, fun u hu => ?_, by dsimp only; omega, hl⟩
    · unfold u8s at hu
      rw [List.map_map, List.getElem?_map, List.getElem?_take] at hu
      split at hu
      · rename_i hi
        have hiz : i < zs.length := by omega
        rw [hcell i hiz, List.getD_eq_getElem?_getD, List.getElem?_eq_getElem hiz]
        rw [List.getElem?_eq_getElem hiz] at hu
        have hb := u8_of (hwz _ (List.getElem_mem hiz))
        have e : ((zs[i].toNat : Nat) : Int) = zs[i] := by omega
        simp [e] at hu
        simpa using hu
      · simp at hu
    · obtain ⟨z, hz', rfl⟩ := List.mem_map.1 hu
      have := u8_of (hwz z (List.mem_of_mem_take hz'))
      omega
theorem list_of {α : Type} (n : Nat) (P : Nat → α → Prop) (h : ∀ i, i < n → ∃ a, P i a) : ∃ l : List α, l.length = n ∧ ∀ (i : Nat) (a : α), l[i]? = some a → P i a := by
  induction n with
  | zero => exact ⟨[], rfl, fun i a h => by simp at h⟩
  | succ n ih =>
    obtain ⟨l, hl, hp⟩ := ih (fun i hi => h i (by omega))
    obtain ⟨a, ha⟩ := h n (by omega)
    refine ⟨l ++ [a], by simp [hl], fun i b hb => ?_⟩
    rcases Nat.lt_trichotomy i l.length with hi | hi | hi
    · rw [List.getElem?_append_left hi] at hb
      exact hp i b hb
    · subst hi
      rw [List.getElem?_append_right (Nat.le_refl _)] at hb
      simp at hb
      subst hb
      rw [hl]
      exact ha
    · rw [List.getElem?_eq_none (by simp; omega)] at hb
      cases hb
theorem u8ss_of {n : Nat} {v : Value} {x : DataW H × List MemPlace} (h : DataW.trod enc Tryz.prog w 0 (fun _ => true) held n 29 [v] = some x) : ∃ (s : SV) (L : List (SV × List Nat)), v = .slice s.A s.n s.c ∧ U8At w s.A s.n L ∧ s.n ≤ maxLen ∧ s.n ≤ s.c := by
  rcases open_slice Tryz.underlying29 h with ⟨hcs, _⟩ | ⟨a, len, cap, m, n', D, Pl, hcs, _, hl, hm, hmm, _, hi⟩
  · simp at hcs
    exact ⟨⟨none, 0, 0⟩, [], hcs, ⟨Rd.nil, rfl, fun i p h => by simp at h⟩, Nat.zero_le _, Nat.le_refl _⟩
  · simp at hcs
    simp only [if_true] at hmm
    have hc1 : Tryz.prog.cellsOf 57 = 1 := by kernel_rfl
    obtain ⟨Q, hQ, hp⟩ := list_of len (fun i (p : SV × List Nat) => w.cell? (a.add i) = some (.slice p.1.A p.1.n p.1.c) ∧ Rd w p.1.A (p.2.map fun (m : Nat) => Value.int .u8 (m : Int)) ∧ p.2.length = p.1.n ∧ (∀ m ∈ p.2, m ≤ 255) ∧ p.1.n ≤ 9223372036854775807 ∧ p.1.n ≤ p.1.c) (fun i hil => by
      obtain ⟨cs', hc, ht⟩ := hi i (by omega)
      rw [hc1] at hc
      obtain ⟨_, hcl, hat⟩ := World.cells?_some hc
      match cs', hcl with
      | [u], _ =>
        obtain ⟨s, l, rfl, r1, r2, r3, r4, r5⟩ := u8s_of ht
        refine ⟨(s, l), ?_, r1, r2, r3, by unfold maxLen at r4; dsimp only; omega, r5⟩
        have := hat 0 (by omega)
        rw [Go.Deep.add_add] at this
        simpa using this)
    refine ⟨⟨some a, len, cap⟩, Q, hcs, ⟨rd_of (fun q u hu => ?_), hQ, fun i p hi' => (hp i p hi').2⟩, by dsimp only; omega, hl⟩
    rw [List.getElem?_map] at hu
    cases hq : Q[q]? with
    | none => rw [hq] at hu; cases hu
    | some p =>
      rw [hq] at hu
      obtain rfl := Option.some.inj hu
      exact (hp q p hq).1
end
end Go.Proofs.YtkpcpclaadgnbaaGreatDoor
