/-
  From a row's reading of steps to what lies in memory.
-/
import Derived.Test.YteglgcfbmjlnkaaGreatDoorCheck
import Derived.ChangeSlices
import Derived.Deep.Grids
import Derived.Deep.Matrix
import Derived.Deep.Slices
import Derived.OpenShut
import Derived.SizedLaws
set_option linter.unusedVariables false
set_option linter.unusedSimpArgs false
namespace Go.Proofs.YteglgcfbmjlnkaaGreatDoor
open Go.ChangeShapes Go.WideShapes Go.RowKit Go.Deep

theorem rdT_of {w : World} {a : Addr} {xs : List Value} (h : ∀ (i : Nat) (u : Value), xs[i]? = some u → w.cell? (a.add i) = some u) : Rd w (some a) xs := by
  intro hx
  obtain ⟨x, l, rfl⟩ := List.exists_cons_of_ne_nil hx
  obtain ⟨b, off, spot⟩ := a
  have h0 := h 0 x rfl
  have hs : spot = none := by simpa [Addr.add] using World.cell?_spot h0
  subst hs
  have ha : ∀ i : Nat, (⟨b, off, none⟩ : Addr).add i = ⟨b, off + i, none⟩ := fun i => by simp [Addr.add]
  cases hh : w.heap[b]? with
  | none => rw [ha] at h0; simp [World.cell?, hh] at h0
  | some o =>
    cases o with
    | cells cs t fr =>
      refine ⟨b, off, cs, t, fr, rfl, hh, fun j u hu => ?_⟩
      have h1 := h j u hu
      rw [ha] at h1
      simpa [World.cell?, hh] using h1
    | _ => rw [ha] at h0; simp [World.cell?, hh] at h0
theorem listT_of {α : Type} (n : Nat) (P : Nat → α → Prop) (h : ∀ i, i < n → ∃ a, P i a) : ∃ l : List α, l.length = n ∧ ∀ (i : Nat) (a : α), l[i]? = some a → P i a := by
  induction n with
  | zero => exact ⟨[], rfl, fun i a h => by simp at h⟩
  | succ n ih =>
    obtain ⟨l, hl, hp⟩ := ih (fun i hi => h i (by omega))
    obtain ⟨a, ha⟩ := h n (by omega)
    refine ⟨l ++ [a], by simp [hl], fun i b hb => ?_⟩
    rcases Nat.lt_trichotomy i l.length with hi | hi | hi
    · rw [List.getElem?_append_left hi] at hb
      exact hp i b hb
    · subst hi
      rw [List.getElem?_append_right (Nat.le_refl _)] at hb
      simp at hb
      subst hb
      rw [hl]
      exact ha
    · rw [List.getElem?_eq_none (by simp; omega)] at hb
      cases hb
theorem dropT_take1 {α : Type} {l : List α} {i : Nat} (h : i < l.length) : (l.drop i).take 1 = [l[i]] := by
  rw [List.drop_eq_getElem_cons h]
  rfl
theorem fourT_of {cs : List Value} {a b c d : Value} (hl : cs.length = 4) (h0 : [cs[0]'(by omega)] = [a]) (h1 : [cs[1]'(by omega)] = [b]) (h2 : cs[2]'(by omega) = c) (h3 : cs[3]'(by omega) = d) : cs = [a, b, c, d] := by
  match cs, hl with
  | [c0, c1, c2, c3], _ =>
    simp only [List.getElem_cons_zero, List.getElem_cons_succ, List.cons.injEq, and_true] at h0 h1 h2 h3
    rw [h0, h1, h2, h3]
theorem fl4_len {α : Type} (f : α → List Value) (hf : ∀ x, (f x).length = 4) (L : List α) : (L.flatMap f).length = L.length * 4 := by
  induction L with
  | nil => rfl
  | cons x D ih => rw [List.flatMap_cons, List.length_append, ih, hf]; simp; omega
theorem fl4_at {α : Type} (f : α → List Value) (hf : ∀ x, (f x).length = 4) (L : List α) (i : Nat) (x : α) (h : L[i]? = some x) (j : Nat) (hj : j < 4) : (L.flatMap f)[i * 4 + j]? = (f x)[j]? := by
  induction L generalizing i with
  | nil => simp at h
  | cons y D ih =>
    rw [List.flatMap_cons]
    cases i with
    | zero =>
      simp at h
      subst h
      rw [List.getElem?_append_left (by rw [hf]; omega)]
      simp
    | succ i =>
      simp at h
      rw [List.getElem?_append_right (by rw [hf]; omega), hf, ← ih i h]
      congr 1
      omega
theorem i64T_of {n : Int} (h : (Lit.int .i64 n).wf = true) : I64 n := by
  simp only [Lit.wf, Bool.and_eq_true, decide_eq_true_eq] at h
  exact ⟨h.1, h.2⟩
theorem weightsAll_memT {H : Type} {P : Program} {e : TypeId} : ∀ {l : List (DataW H)} {d : DataW H}, d ∈ l → ∀ n ∈ d.weights P e, n ∈ DataW.weightsAll P e l
  | d' :: r, d, hd, n, hn => by
    simp only [DataW.weightsAll, List.mem_append]
    rcases List.mem_cons.1 hd with rfl | h
    · exact Or.inl hn
    · exact Or.inr (weightsAll_memT h n hn)
/-- Numbers at a slice that the process's memory bears. -/
def IntsW (w : World) (s : SV) (l : List Int) : Prop := Rd w s.A (l.map (Value.int .i64)) ∧ l.length = s.n ∧ (∀ u ∈ l, I64 u) ∧ s.n ≤ 17592186044416
structure StpW (w : World) (v : StV) (s : Stp) : Prop where
  id : I64 s.id
  lits : IntsW w v.L s.lits
  hints : IntsW w v.H s.hints
structure StepsW (w : World) (A : Option Addr) (n : Nat) (L : List (StV × Stp)) : Prop where
  rd : Rd w A (scells L)
  len : L.length = n
  all : ∀ (i : Nat) (v : StV) (s : Stp), L[i]? = some (v, s) → StpW w v s
section
variable {H : Type} {enc : TypeId × Value → H} {w : World} {held : Bool}
theorem intsW_of {t e : TypeId} (ht : Tryz.prog.underlying t = some (.slice e)) (he : Tryz.prog.underlying e = some (.int .i64)) (hc : Tryz.prog.cellsOf e = 1) (hb : Tryz.prog.bytesOf e = 8) {n : Nat} {v : Value} {x : DataW H × List MemPlace} (h : DataW.trod enc Tryz.prog w 0 (fun _ => true) held n t [v] = some x) (hw : ∀ m ∈ x.1.weights Tryz.prog t, m ≤ reachBytes) : ∃ (s : SV) (l : List Int), v = .slice s.A s.n s.c ∧ IntsW w s l := by
  rcases open_ints ht he hc h with ⟨hcs, _⟩ | ⟨a, len, cap, zs, hcs, _, hl, hm, hz, hx, hcell, hwz⟩
  · simp at hcs
    exact ⟨⟨none, 0, 0⟩, [], hcs, Rd.nil, rfl, fun u hu => (by cases hu), Nat.zero_le _⟩
  · simp at hcs
    simp only [if_true] at hz
    have hlen : len ≤ 17592186044416 := by
      have h1 := hw (((zs.take len).length + (zs.drop len).length) * 8) (by rw [hx]; simp only [DataW.weights, ht, hb, lits, List.length_map]; exact List.mem_cons_self)
      unfold reachBytes at h1
      simp only [List.length_take, List.length_drop] at h1
      omega
    refine ⟨⟨some a, len, cap⟩, zs.take len, hcs, rdT_of (fun i u hu => ?_), by simp; omega, fun u hu => i64T_of (hwz u (List.mem_of_mem_take hu)), hlen⟩
    rw [List.getElem?_map, List.getElem?_take] at hu
    split at hu
    · rename_i hi
      have hiz : i < zs.length := by omega
      rw [hcell i hiz, List.getD_eq_getElem?_getD, List.getElem?_eq_getElem hiz]
      rw [List.getElem?_eq_getElem hiz] at hu
      simpa using hu
    · simp at hu
theorem stp_of {n : Nat} {cs : List Value} {x : DataW H × List MemPlace} (h : DataW.trod enc Tryz.prog w 0 (fun _ => true) held n 33 cs = some x) (hw : ∀ m ∈ x.1.weights Tryz.prog 33, m ≤ reachBytes) : ∃ p : StV × Stp, cs = scell p ∧ StpW w p.1 p.2 := by
  obtain ⟨xs, m, _, hx, hl, hxl, hf⟩ := DataW.trod_struct Tryz.underlying33 h
  have hc : Tryz.prog.cellsOf 33 = 4 := by kernel_rfl
  rw [hc] at hl
  have k0 : Tryz.prog.cellsOf 4 = 1 := by kernel_rfl
  have k1 : Tryz.prog.cellsOf 3 = 1 := by kernel_rfl
  have k2 : Tryz.prog.cellsOf 31 = 1 := by kernel_rfl
  have k3 : Tryz.prog.cellsOf 28 = 1 := by kernel_rfl
  simp at hxl
  have f0 : DataW.trod enc Tryz.prog w 0 (fun _ => true) held m 4 ((cs.drop 0).take (Tryz.prog.cellsOf 4)) = xs[0]? := hf 0 _ rfl
  have f1 : DataW.trod enc Tryz.prog w 0 (fun _ => true) held m 3 ((cs.drop 1).take (Tryz.prog.cellsOf 3)) = xs[1]? := hf 1 _ rfl
  have f2 : DataW.trod enc Tryz.prog w 0 (fun _ => true) held m 31 ((cs.drop 2).take (Tryz.prog.cellsOf 31)) = xs[2]? := hf 2 _ rfl
  have f3 : DataW.trod enc Tryz.prog w 0 (fun _ => true) held m 28 ((cs.drop 3).take (Tryz.prog.cellsOf 28)) = xs[3]? := hf 3 _ rfl
  rw [k0, dropT_take1 (by omega), List.getElem?_eq_getElem (by omega)] at f0
  rw [k1, dropT_take1 (by omega), List.getElem?_eq_getElem (by omega)] at f1
  rw [k2, dropT_take1 (by omega), List.getElem?_eq_getElem (by omega)] at f2
  rw [k3, dropT_take1 (by omega), List.getElem?_eq_getElem (by omega)] at f3
  have hwe : ∀ (j : Nat) (t : TypeId) (hj : j < xs.length), [4, 3, 31, 28][j]? = some t → ∀ q ∈ (xs[j]).1.weights Tryz.prog t, q ≤ reachBytes := by
    intro j t hj ht q hq
    refine hw q ?_
    rw [hx]
    simp only [DataW.weights, Tryz.underlying33]
    exact DataW.weights_mem_each (j := j) (t := t) (d := (xs[j]).1) ht (by rw [List.getElem?_map, List.getElem?_eq_getElem hj]; rfl) q hq
  obtain ⟨z0, e0, _⟩ := DataW.trod_bool Tryz.underlying4 f0
  obtain ⟨z1, e1, _, w1⟩ := DataW.trod_int Tryz.underlying3 f1
  obtain ⟨s2, l2, e2, r2⟩ := intsW_of Tryz.underlying31 Tryz.underlying34 (by kernel_rfl) (by kernel_rfl) f2 (hwe 2 _ (by omega) rfl)
  obtain ⟨s3, l3, e3, r3⟩ := intsW_of Tryz.underlying28 Tryz.underlying3 (by kernel_rfl) (by kernel_rfl) f3 (hwe 3 _ (by omega) rfl)
  refine ⟨(⟨s2, s3⟩, ⟨z0, z1, l2, l3⟩), ?_, ⟨i64T_of w1, r2, r3⟩⟩
  unfold scell
  dsimp only
  exact fourT_of hl e0 e1 e2 e3
theorem stps_of {n : Nat} {v : Value} {x : DataW H × List MemPlace} (h : DataW.trod enc Tryz.prog w 0 (fun _ => true) held n 22 [v] = some x) (hw : ∀ m ∈ x.1.weights Tryz.prog 22, m ≤ reachBytes) : ∃ (s : SV) (L : List (StV × Stp)), v = .slice s.A s.n s.c ∧ StepsW w s.A s.n L ∧ s.n ≤ 17592186044416 ∧ s.n ≤ s.c := by
  rcases open_slice Tryz.underlying22 h with ⟨hcs, _⟩ | ⟨a, len, cap, m, n', D, Pl, hcs, _, hl, hm, hmm, hx, hi⟩
  · simp at hcs
    exact ⟨⟨none, 0, 0⟩, [], hcs, ⟨Rd.nil, rfl, fun i v s h => by simp at h⟩, Nat.zero_le _, Nat.le_refl _⟩
  · simp at hcs
    simp only [if_true] at hmm
    have hc1 : Tryz.prog.cellsOf 33 = 4 := by kernel_rfl
    have hb1 : Tryz.prog.bytesOf 33 = 64 := by kernel_rfl
    have hlen : len ≤ 17592186044416 := by
      have h1 := hw ((((List.range len).map D).length + ((List.range (m - len)).map fun j => D (len + j)).length) * 64) (by rw [hx]; simp only [DataW.weights, Tryz.underlying22, hb1]; exact List.mem_cons_self)
      unfold reachBytes at h1
      simp only [List.length_map, List.length_range] at h1
      omega
    obtain ⟨Q, hQ, hp⟩ := listT_of len (fun i (p : StV × Stp) => (∀ j u, j < 4 → (scell p)[j]? = some u → w.cell? (a.add (i * 4 + j)) = some u) ∧ StpW w p.1 p.2) (fun i hil => by
      obtain ⟨cs', hc, ht⟩ := hi i (by omega)
      rw [hc1] at hc
      obtain ⟨_, hcl, hat⟩ := World.cells?_some hc
      obtain ⟨p, rfl, hb⟩ := stp_of ht (fun q hq => hw q (by
        rw [hx]
        simp only [DataW.weights, Tryz.underlying22, List.mem_cons, List.mem_append]
        exact Or.inr (Or.inl (weightsAll_memT (d := D i) (List.mem_map.2 ⟨i, List.mem_range.2 hil, rfl⟩) q hq))))
      refine ⟨p, fun j u hj hu => ?_, hb⟩
      have := hat j (by omega)
      rw [Go.Deep.add_add] at this
      rw [this]
      simpa using hu)
    refine ⟨⟨some a, len, cap⟩, Q, hcs, ⟨rdT_of (fun q u hu => ?_), hQ, fun i v s hi' => (hp i (v, s) hi').2⟩, hlen, hl⟩
    have hql : q < Q.length * 4 := by rw [← fl4_len scell (fun x => rfl) Q]; exact (List.getElem?_eq_some_iff.1 hu).1
    have hqi : q / 4 < Q.length := by omega
    have ho : Q[q / 4]? = some (Q[q / 4]) := List.getElem?_eq_getElem hqi
    have e : q = q / 4 * 4 + q % 4 := by omega
    rw [e] at hu ⊢
    have hu' : (Q.flatMap scell)[q / 4 * 4 + q % 4]? = some u := hu
    rw [fl4_at scell (fun x => rfl) Q (q / 4) _ ho (q % 4) (by omega)] at hu'
    exact (hp (q / 4) _ ho).1 (q % 4) u (by omega) hu'
end
end Go.Proofs.YteglgcfbmjlnkaaGreatDoor
