/-
  From a row's reading of a formula to what lies in memory.
-/
import Derived.Test.YtkpcpclaadgnbaaGreatDoorFewW6
import Derived.Test.YtkpcpclaadgnbaaGreatDoorOpen6
import Derived.SizedLaws
set_option linter.unusedVariables false
set_option linter.unusedSimpArgs false
namespace Go.Proofs.YtkpcpclaadgnbaaGreatDoor
open Go.ChangeShapes Go.WideShapes Go.RowKit Go.Deep

theorem dropW_take1 {α : Type} {l : List α} {i : Nat} (h : i < l.length) : (l.drop i).take 1 = [l[i]] := by
  rw [List.drop_eq_getElem_cons h]
  rfl
theorem twoW_of {cs : List Value} {a b : Value} (hl : cs.length = 2) (h0 : [cs[0]'(by omega)] = [a]) (h1 : cs[1]'(by omega) = b) : cs = [a, b] := by
  match cs, hl with
  | [c0, c1], _ =>
    simp only [List.getElem_cons_zero, List.getElem_cons_succ, List.cons.injEq, and_true] at h0 h1
    rw [h0, h1]
theorem i64W_of {n : Int} (h : (Lit.int .i64 n).wf = true) : I64 n := by
  simp only [Lit.wf, Bool.and_eq_true, decide_eq_true_eq] at h
  exact ⟨h.1, h.2⟩
theorem weightsAll_memW {H : Type} {P : Program} {e : TypeId} : ∀ {l : List (DataW H)} {d : DataW H}, d ∈ l → ∀ n ∈ d.weights P e, n ∈ DataW.weightsAll P e l
  | d' :: r, d, hd, n, hn => by
    simp only [DataW.weightsAll, List.mem_append]
    rcases List.mem_cons.1 hd with rfl | h
    · exact Or.inl hn
    · exact Or.inr (weightsAll_memW h n hn)
section
variable {H : Type} {enc : TypeId × Value → H} {w : World} {held : Bool}
theorem intsW_of {t e : TypeId} (ht : Tryz.prog.underlying t = some (.slice e)) (he : Tryz.prog.underlying e = some (.int .i64)) (hc : Tryz.prog.cellsOf e = 1) (hb : Tryz.prog.bytesOf e = 8) {n : Nat} {v : Value} {x : DataW H × List MemPlace} (h : DataW.trod enc Tryz.prog w 0 (fun _ => true) held n t [v] = some x) (hw : ∀ m ∈ x.1.weights Tryz.prog t, m ≤ reachBytes) : ∃ (s : SV) (l : List Int), v = .slice s.A s.n s.c ∧ IntsW w s l := by
  rcases open_ints ht he hc h with ⟨hcs, _⟩ | ⟨a, len, cap, zs, hcs, _, hl, hm, hz, hx, hcell, hwz⟩
  · simp at hcs
    exact ⟨⟨none, 0, 0⟩, [], hcs, Rd.nil, rfl, fun u hu => (by cases hu), Nat.zero_le _⟩
  · simp at hcs
    simp only [if_true] at hz
    have hlen : len ≤ 17592186044416 := by
      have h1 := hw (((zs.take len).length + (zs.drop len).length) * 8) (by rw [hx]; simp only [DataW.weights, ht, hb, lits, List.length_map]; exact List.mem_cons_self)
      unfold reachBytes at h1
      simp only [List.length_take, List.length_drop] at h1
      omega
    refine ⟨⟨some a, len, cap⟩, zs.take len, hcs, rd_of (fun i u hu => ?_), by simp; omega, fun u hu => i64W_of (hwz u (List.mem_of_mem_take hu)), hlen⟩
    rw [List.getElem?_map, List.getElem?_take] at hu
    split at hu
    · rename_i hi
      have hiz : i < zs.length := by omega
      rw [hcell i hiz, List.getD_eq_getElem?_getD, List.getElem?_eq_getElem hiz]
      rw [List.getElem?_eq_getElem hiz] at hu
      simpa using hu
    · simp at hu
theorem clsW_of {n : Nat} {v : Value} {x : DataW H × List MemPlace} (h : DataW.trod enc Tryz.prog w 0 (fun _ => true) held n 22 [v] = some x) (hw : ∀ m ∈ x.1.weights Tryz.prog 22, m ≤ reachBytes) : ∃ (s : SV) (L : List (SV × List Int)), v = .slice s.A s.n s.c ∧ ClsW w s.A s.n L ∧ s.n ≤ 17592186044416 ∧ s.n ≤ s.c := by
  rcases open_slice Tryz.underlying22 h with ⟨hcs, _⟩ | ⟨a, len, cap, m, n', D, Pl, hcs, _, hl, hm, hmm, hx, hi⟩
  · simp at hcs
    exact ⟨⟨none, 0, 0⟩, [], hcs, ⟨Rd.nil, rfl, fun i p h => by simp at h⟩, Nat.zero_le _, Nat.le_refl _⟩
  · simp at hcs
    simp only [if_true] at hmm
    have hc1 : Tryz.prog.cellsOf 55 = 1 := by kernel_rfl
    have hb1 : Tryz.prog.bytesOf 55 = 24 := by kernel_rfl
    have hlen : len ≤ 17592186044416 := by
      have h1 := hw ((((List.range len).map D).length + ((List.range (m - len)).map fun j => D (len + j)).length) * 24) (by rw [hx]; simp only [DataW.weights, Tryz.underlying22, hb1]; exact List.mem_cons_self)
      unfold reachBytes at h1
      simp only [List.length_map, List.length_range] at h1
      omega
    obtain ⟨Q, hQ, hp⟩ := list_of len (fun i (p : SV × List Int) => w.cell? (a.add i) = some (.slice p.1.A p.1.n p.1.c) ∧ IntsW w p.1 p.2) (fun i hil => by
      obtain ⟨cs', hc, ht⟩ := hi i (by omega)
      rw [hc1] at hc
      obtain ⟨_, hcl, hat⟩ := World.cells?_some hc
      match cs', hcl with
      | [u], _ =>
        obtain ⟨s, l, rfl, r1⟩ := intsW_of Tryz.underlying55 Tryz.underlying53 (by kernel_rfl) (by kernel_rfl) ht (fun q hq => hw q (by
          rw [hx]
          simp only [DataW.weights, Tryz.underlying22, List.mem_cons, List.mem_append]
          exact Or.inr (Or.inl (weightsAll_memW (d := D i) (List.mem_map.2 ⟨i, List.mem_range.2 hil, rfl⟩) q hq))))
        refine ⟨(s, l), ?_, r1⟩
        have := hat 0 (by omega)
        rw [Go.Deep.add_add] at this
        simpa using this)
    refine ⟨⟨some a, len, cap⟩, Q, hcs, ⟨rd_of (fun q u hu => ?_), hQ, fun i p hi' => (hp i p hi').2⟩, hlen, hl⟩
    rw [List.getElem?_map] at hu
    cases hq : Q[q]? with
    | none => rw [hq] at hu; cases hu
    | some p =>
      rw [hq] at hu
      obtain rfl := Option.some.inj hu
      exact (hp q p hq).1
theorem fmW_of {n : Nat} {cs : List Value} {x : DataW H × List MemPlace} (h : DataW.trod enc Tryz.prog w 0 (fun _ => true) held n 24 cs = some x) (hw : ∀ m ∈ x.1.weights Tryz.prog 24, m ≤ reachBytes) : ∃ (z : Int) (s : SV) (L : List (SV × List Int)), cs = [.int .i64 z, .slice s.A s.n s.c] ∧ ClsW w s.A s.n L ∧ s.n ≤ 17592186044416 ∧ s.n ≤ s.c := by
  obtain ⟨xs, m, _, hx, hl, hxl, hf⟩ := DataW.trod_struct Tryz.underlying24 h
  have hc : Tryz.prog.cellsOf 24 = 2 := by kernel_rfl
  rw [hc] at hl
  have k1 : Tryz.prog.cellsOf 3 = 1 := by kernel_rfl
  have k2 : Tryz.prog.cellsOf 22 = 1 := by kernel_rfl
  simp at hxl
  have f0 : DataW.trod enc Tryz.prog w 0 (fun _ => true) held m 3 ((cs.drop 0).take (Tryz.prog.cellsOf 3)) = xs[0]? := hf 0 _ rfl
  have f1 : DataW.trod enc Tryz.prog w 0 (fun _ => true) held m 22 ((cs.drop 1).take (Tryz.prog.cellsOf 22)) = xs[1]? := hf 1 _ rfl
  rw [k1, dropW_take1 (by omega), List.getElem?_eq_getElem (by omega)] at f0
  rw [k2, dropW_take1 (by omega), List.getElem?_eq_getElem (by omega)] at f1
  have hwe : ∀ (j : Nat) (t : TypeId) (hj : j < xs.length), [3, 22][j]? = some t → ∀ q ∈ (xs[j]).1.weights Tryz.prog t, q ≤ reachBytes := by
    intro j t hj ht q hq
    refine hw q ?_
    rw [hx]
    simp only [DataW.weights, Tryz.underlying24]
    exact DataW.weights_mem_each (j := j) (t := t) (d := (xs[j]).1) ht (by rw [List.getElem?_map, List.getElem?_eq_getElem hj]; rfl) q hq
  obtain ⟨z0, e0, _, w0⟩ := DataW.trod_int Tryz.underlying3 f0
  obtain ⟨s1, l1, e1, r1, r2, r3⟩ := clsW_of f1 (hwe 1 _ (by omega) rfl)
  exact ⟨z0, s1, l1, twoW_of hl e0 e1, r1, r2, r3⟩
end
end Go.Proofs.YtkpcpclaadgnbaaGreatDoor
