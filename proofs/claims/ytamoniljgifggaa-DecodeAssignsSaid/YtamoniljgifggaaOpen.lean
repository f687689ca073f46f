/-
  From a row's reading of an argument to what lies in memory: slices of integers, of truths, of slices of integers.
-/
import Derived.Test.YtamoniljgifggaaMain
import Derived.ChangeSlices
import Derived.Deep.Grids
import Derived.Deep.Matrix
import Derived.Deep.Slices
import Derived.OpenShut
set_option linter.unusedVariables false
set_option linter.unusedSimpArgs false
namespace Go.Proofs.Ytamoniljgifggaa
open Go.ChangeShapes Go.WideShapes Go.RowKit Go.Deep

theorem rd_of {w : World} {a : Addr} {xs : List Value} (h : ∀ (i : Nat) (u : Value), xs[i]? = some u → w.cell? (a.add i) = some u) : Rd w (some a) xs := by
  intro hx
  obtain ⟨x, l, rfl⟩ := List.exists_cons_of_ne_nil hx
  obtain ⟨b, off, spot⟩ := a
  have h0 := h 0 x rfl
  have hs : spot = none := by simpa [Addr.add] using World.cell?_spot h0
  subst hs
  have ha : ∀ i : Nat, (⟨b, off, none⟩ : Addr).add i = ⟨b, off + i, none⟩ := fun i => by simp [Addr.add]
  cases hh : w.heap[b]? with
  | none => rw [ha] at h0; simp [World.cell?, hh] at h0
  | some o =>
    cases o with
    | cells cs t fr =>
      refine ⟨b, off, cs, t, fr, rfl, hh, fun j u hu => ?_⟩
      have h1 := h j u hu
      rw [ha] at h1
      simpa [World.cell?, hh] using h1
    | _ => rw [ha] at h0; simp [World.cell?, hh] at h0
theorem i64_of {n : Int} (h : (Lit.int .i64 n).wf = true) : I64 n := by
  simp only [Lit.wf, Bool.and_eq_true, decide_eq_true_eq] at h
  exact ⟨h.1, h.2⟩
theorem u8_of {n : Int} (h : (Lit.int .u8 n).wf = true) : 0 ≤ n ∧ n ≤ 255 := by
  simp only [Lit.wf, Bool.and_eq_true, decide_eq_true_eq] at h
  exact ⟨h.1, h.2⟩

section
variable {H : Type} {enc : TypeId × Value → H} {w : World} {held : Bool}
theorem ints_of {n : Nat} {v : Value} {x : DataW H × List MemPlace} (h : DataW.trod enc Try.prog w 0 (fun _ => true) held n 25 [v] = some x) : ∃ (s : SV) (l : List Int), v = .slice s.A s.n s.c ∧ IntsAt w s l := by
  rcases open_ints Try.underlying25 Try.underlying3 (by kernel_rfl) h with ⟨hcs, _⟩ | ⟨a, len, cap, zs, hcs, _, hl, hm, hz, _, hcell, hwz⟩
  · simp at hcs
    exact ⟨⟨none, 0, 0⟩, [], hcs, Rd.nil, rfl, fun u hu => by cases hu⟩
  · simp at hcs
    simp only [if_true] at hz
    refine ⟨⟨some a, len, cap⟩, zs.take len, hcs, rd_of (fun i u hu => ?_), by simp; omega, fun u hu => i64_of (hwz u (List.mem_of_mem_take hu))⟩
    rw [List.getElem?_map, List.getElem?_take] at hu
    split at hu
    · rename_i hi
      have hiz : i < zs.length := by omega
      rw [hcell i hiz, List.getD_eq_getElem?_getD, List.getElem?_eq_getElem hiz]
      rw [List.getElem?_eq_getElem hiz] at hu
      simpa using hu
    · simp at hu
theorem bools_of {n : Nat} {v : Value} {x : DataW H × List MemPlace} (h : DataW.trod enc Try.prog w 0 (fun _ => true) held n 28 [v] = some x) : ∃ (s : SV) (l : List Bool), v = .slice s.A s.n s.c ∧ Rd w s.A (l.map Value.bool) ∧ l.length = s.n ∧ s.n ≤ maxLen := by
  rcases open_bools Try.underlying28 Try.underlying4 (by kernel_rfl) h with ⟨hcs, _⟩ | ⟨a, len, cap, B, hcs, _, hl, hm, _, hcell⟩
  · simp at hcs
    exact ⟨⟨none, 0, 0⟩, [], hcs, Rd.nil, rfl, Nat.zero_le _⟩
  · simp at hcs
    refine ⟨⟨some a, len, cap⟩, (List.range len).map B, hcs, rd_of (fun i u hu => ?_), by simp, by dsimp only; omega⟩
    rw [List.map_map, List.getElem?_map] at hu
    by_cases hi : i < len
    · rw [List.getElem?_range hi] at hu
      simp at hu
      rw [hcell i (by omega), hu]
    · rw [List.getElem?_eq_none (by simp; omega)] at hu
      cases hu
theorem list_of {α : Type} (n : Nat) (P : Nat → α → Prop) (h : ∀ i, i < n → ∃ a, P i a) : ∃ l : List α, l.length = n ∧ ∀ (i : Nat) (a : α), l[i]? = some a → P i a := by
  induction n with
  | zero => exact ⟨[], rfl, fun i a h => by simp at h⟩
  | succ n ih =>
    obtain ⟨l, hl, hp⟩ := ih (fun i hi => h i (by omega))
    obtain ⟨a, ha⟩ := h n (by omega)
    refine ⟨l ++ [a], by simp [hl], fun i b hb => ?_⟩
    rcases Nat.lt_trichotomy i l.length with hi | hi | hi
    · rw [List.getElem?_append_left hi] at hb
      exact hp i b hb
    · subst hi
      rw [List.getElem?_append_right (Nat.le_refl _)] at hb
      simp at hb
      subst hb
      rw [hl]
      exact ha
    · rw [List.getElem?_eq_none (by simp; omega)] at hb
      cases hb
theorem lists_of {n : Nat} {v : Value} {x : DataW H × List MemPlace} (h : DataW.trod enc Try.prog w 0 (fun _ => true) held n 23 [v] = some x) : ∃ (s : SV) (S : List SV) (L : List (List Int)), v = .slice s.A s.n s.c ∧ Rd w s.A (S.map SV.val) ∧ S.length = s.n ∧ S.length = L.length ∧ ∀ (i : Nat) (q : SV) (l : List Int), S[i]? = some q → L[i]? = some l → IntsAt w q l := by
  rcases open_slice Try.underlying23 h with ⟨hcs, _⟩ | ⟨a, len, cap, m, n', D, Pl, hcs, _, hl, hm, hmm, _, hi⟩
  · simp at hcs
    exact ⟨⟨none, 0, 0⟩, [], [], hcs, Rd.nil, rfl, rfl, fun i q l hq _ => by simp at hq⟩
  · simp at hcs
    simp only [if_true] at hmm
    have hc1 : Try.prog.cellsOf 25 = 1 := by kernel_rfl
    obtain ⟨Q, hQ, hp⟩ := list_of len (fun i (p : SV × List Int) => w.cell? (a.add i) = some p.1.val ∧ IntsAt w p.1 p.2) (fun i hil => by
      obtain ⟨cs', hc, ht⟩ := hi i (by omega)
      rw [hc1] at hc
      obtain ⟨_, hcl, hat⟩ := World.cells?_some hc
      obtain ⟨c, rfl⟩ := List.length_eq_one_iff.1 hcl
      obtain ⟨q, l, rfl, hq⟩ := ints_of ht
      refine ⟨(q, l), ?_, hq⟩
      have := hat 0 (by omega)
      simpa [Addr.add, SV.val] using this)
    refine ⟨⟨some a, len, cap⟩, Q.map (·.1), Q.map (·.2), hcs, rd_of (fun i u hu => ?_), by simp [hQ], by simp, ?_⟩
    · simp only [List.map_map, List.getElem?_map, Option.map_eq_some_iff] at hu
      obtain ⟨p, hpi, rfl⟩ := hu
      exact (hp i p hpi).1
    · intro i q l hq hlq
      simp only [List.getElem?_map, Option.map_eq_some_iff] at hq hlq
      obtain ⟨p, hpi, rfl⟩ := hq
      obtain ⟨p', hpi', rfl⟩ := hlq
      rw [hpi] at hpi'
      injection hpi' with hpi'
      subst hpi'
      exact (hp i p hpi).2
theorem drop_take1 {α : Type} {l : List α} {i : Nat} (h : i < l.length) : (l.drop i).take 1 = [l[i]] := by
  rw [List.drop_eq_getElem_cons h]
  rfl
theorem four_of {cs : List Value} {a b c d : Value} (hl : cs.length = 4) (h0 : [cs[0]'(by omega)] = [a]) (h1 : [cs[1]'(by omega)] = [b]) (h2 : [cs[2]'(by omega)] = [c]) (h3 : [cs[3]'(by omega)] = [d]) : cs = [a, b, c, d] := by
  match cs, hl with
  | [c0, c1, c2, c3], _ =>
    simp only [List.getElem_cons_zero, List.getElem_cons_succ, List.cons.injEq, and_true] at h0 h1 h2 h3
    rw [h0, h1, h2, h3]
theorem two_of {cs : List Value} {a b : Value} (hl : cs.length = 2) (h0 : [cs[0]'(by omega)] = [a]) (h1 : [cs[1]'(by omega)] = [b]) : cs = [a, b] := by
  match cs, hl with
  | [c0, c1], _ =>
    simp only [List.getElem_cons_zero, List.getElem_cons_succ, List.cons.injEq, and_true] at h0 h1
    rw [h0, h1]
theorem op_of {n : Nat} {cs : List Value} {x : DataW H × List MemPlace} (h : DataW.trod enc Try.prog w 0 (fun _ => true) held n 37 cs = some x) : ∃ o : OpR, cs = [.int .u8 o.kind, .int .i64 o.done, .int .i64 o.sel, .int .i64 o.write] ∧ I64 o.done ∧ I64 o.sel ∧ I64 o.write ∧ 0 ≤ o.kind ∧ o.kind ≤ 255 := by
  obtain ⟨xs, m, _, _, hl, hxl, hf⟩ := DataW.trod_struct Try.underlying37 h
  have hc : Try.prog.cellsOf 37 = 4 := by kernel_rfl
  rw [hc] at hl
  have hk1 : Try.prog.cellsOf 5 = 1 := by kernel_rfl
  have hk2 : Try.prog.cellsOf 35 = 1 := by kernel_rfl
  have hk3 : Try.prog.cellsOf 3 = 1 := by kernel_rfl
  simp at hxl
  have f0 : DataW.trod enc Try.prog w 0 (fun _ => true) held m 5 ((cs.drop 0).take (Try.prog.cellsOf 5)) = xs[0]? := hf 0 _ rfl
  have f1 : DataW.trod enc Try.prog w 0 (fun _ => true) held m 35 ((cs.drop 1).take (Try.prog.cellsOf 35)) = xs[1]? := hf 1 _ rfl
  have f2 : DataW.trod enc Try.prog w 0 (fun _ => true) held m 35 ((cs.drop 2).take (Try.prog.cellsOf 35)) = xs[2]? := hf 2 _ rfl
  have f3 : DataW.trod enc Try.prog w 0 (fun _ => true) held m 3 ((cs.drop 3).take (Try.prog.cellsOf 3)) = xs[3]? := hf 3 _ rfl
  rw [hk1, drop_take1 (by omega), List.getElem?_eq_getElem (by omega)] at f0
  rw [hk2, drop_take1 (by omega), List.getElem?_eq_getElem (by omega)] at f1
  rw [hk2, drop_take1 (by omega), List.getElem?_eq_getElem (by omega)] at f2
  rw [hk3, drop_take1 (by omega), List.getElem?_eq_getElem (by omega)] at f3
  obtain ⟨z0, e0, _, w0⟩ := DataW.trod_int Try.underlying5 f0
  obtain ⟨z1, e1, _, w1⟩ := DataW.trod_int Try.underlying35 f1
  obtain ⟨z2, e2, _, w2⟩ := DataW.trod_int Try.underlying35 f2
  obtain ⟨z3, e3, _, w3⟩ := DataW.trod_int Try.underlying3 f3
  have hcs : cs = [.int .u8 z0, .int .i64 z1, .int .i64 z2, .int .i64 z3] := four_of hl e0 e1 e2 e3
  exact ⟨⟨z0, z1, z2, z3⟩, hcs, ⟨(i64_of w1).1, (i64_of w1).2⟩, ⟨(i64_of w2).1, (i64_of w2).2⟩, ⟨(i64_of w3).1, (i64_of w3).2⟩, (u8_of w0).1, (u8_of w0).2⟩
set_option maxRecDepth 100000 in
theorem pair_of {n : Nat} {cs : List Value} {x : DataW H × List MemPlace} (h : DataW.trod enc Try.prog w 0 (fun _ => true) held n 99 cs = some x) : ∃ p : Int × Int, cs = [.int .i64 p.1, .int .i64 p.2] ∧ I64 p.1 ∧ I64 p.2 := by
  obtain ⟨xs, m, _, _, hl, hxl, hf⟩ := DataW.trod_array Try.underlying99 h
  have hc : Try.prog.cellsOf 99 = 2 := by kernel_rfl
  have hk3 : Try.prog.cellsOf 3 = 1 := by kernel_rfl
  rw [hc] at hl
  have f0 : DataW.trod enc Try.prog w 0 (fun _ => true) held m 3 ((cs.drop 0).take 1) = xs[0]? := by
    simpa only [hk3, Nat.zero_mul, Nat.one_mul] using hf 0 (by omega)
  have f1 : DataW.trod enc Try.prog w 0 (fun _ => true) held m 3 ((cs.drop 1).take 1) = xs[1]? := by
    simpa only [hk3, Nat.zero_mul, Nat.one_mul] using hf 1 (by omega)
  rw [drop_take1 (i := 0) (by omega), List.getElem?_eq_getElem (by omega)] at f0
  rw [drop_take1 (i := 1) (by omega), List.getElem?_eq_getElem (by omega)] at f1
  obtain ⟨z0, e0, _, w0⟩ := DataW.trod_int Try.underlying3 f0
  obtain ⟨z1, e1, _, w1⟩ := DataW.trod_int Try.underlying3 f1
  have hcs : cs = [.int .i64 z0, .int .i64 z1] := two_of hl e0 e1
  exact ⟨(z0, z1), hcs, ⟨(i64_of w0).1, (i64_of w0).2⟩, ⟨(i64_of w1).1, (i64_of w1).2⟩⟩
theorem ops_of {n : Nat} {v : Value} {x : DataW H × List MemPlace} (h : DataW.trod enc Try.prog w 0 (fun _ => true) held n 24 [v] = some x) : ∃ (s : SV) (L : List OpR), v = .slice s.A s.n s.c ∧ Rd w s.A (ocells L) ∧ L.length = s.n ∧ ∀ o ∈ L, I64 o.done ∧ I64 o.sel ∧ I64 o.write ∧ 0 ≤ o.kind ∧ o.kind ≤ 255 := by
  rcases open_slice Try.underlying24 h with ⟨hcs, _⟩ | ⟨a, len, cap, m, n', D, Pl, hcs, _, hl, hm, hmm, _, hi⟩
  · simp at hcs
    exact ⟨⟨none, 0, 0⟩, [], hcs, Rd.nil, rfl, fun o ho => by cases ho⟩
  · simp at hcs
    simp only [if_true] at hmm
    have hc1 : Try.prog.cellsOf 37 = 4 := by kernel_rfl
    obtain ⟨Q, hQ, hp⟩ := list_of len (fun i (o : OpR) => (w.cell? (a.add (i * 4)) = some (.int .u8 o.kind) ∧ w.cell? (a.add (i * 4 + 1)) = some (.int .i64 o.done) ∧ w.cell? (a.add (i * 4 + 2)) = some (.int .i64 o.sel) ∧ w.cell? (a.add (i * 4 + 3)) = some (.int .i64 o.write)) ∧ (I64 o.done ∧ I64 o.sel ∧ I64 o.write ∧ 0 ≤ o.kind ∧ o.kind ≤ 255)) (fun i hil => by
      obtain ⟨cs', hc, ht⟩ := hi i (by omega)
      rw [hc1] at hc
      obtain ⟨_, hcl, hat⟩ := World.cells?_some hc
      obtain ⟨o, rfl, hb⟩ := op_of ht
      refine ⟨o, ⟨?_, ?_, ?_, ?_⟩, hb⟩
      · have := hat 0 (by omega); rw [Go.Deep.add_add] at this; exact this
      · have := hat 1 (by omega); rw [Go.Deep.add_add] at this; exact this
      · have := hat 2 (by omega); rw [Go.Deep.add_add] at this; exact this
      · have := hat 3 (by omega); rw [Go.Deep.add_add] at this; exact this)
    refine ⟨⟨some a, len, cap⟩, Q, hcs, rd_of (fun q u hu => ?_), hQ, fun o ho => ?_⟩
    · have hql : q < Q.length * 4 := by rw [← ocells_length]; exact (List.getElem?_eq_some_iff.1 hu).1
      have hqi : q / 4 < Q.length := by omega
      have ho : Q[q / 4]? = some (Q[q / 4]) := List.getElem?_eq_getElem hqi
      obtain ⟨o0, o1, o2, o3⟩ := ocells_at Q (q / 4) _ ho
      obtain ⟨⟨p0, p1, p2, p3⟩, _⟩ := hp (q / 4) _ ho
      have hr : q % 4 = 0 ∨ q % 4 = 1 ∨ q % 4 = 2 ∨ q % 4 = 3 := by omega
      rcases hr with hr | hr | hr | hr
      · have e : q = q / 4 * 4 := by omega
        rw [e, o0] at hu; rw [e, p0]; exact hu
      · have e : q = q / 4 * 4 + 1 := by omega
        rw [e, o1] at hu; rw [e, p1]; exact hu
      · have e : q = q / 4 * 4 + 2 := by omega
        rw [e, o2] at hu; rw [e, p2]; exact hu
      · have e : q = q / 4 * 4 + 3 := by omega
        rw [e, o3] at hu; rw [e, p3]; exact hu
    · obtain ⟨q, hq⟩ := List.mem_iff_getElem?.1 ho
      exact (hp q o hq).2
theorem ands_of {n : Nat} {v : Value} {x : DataW H × List MemPlace} (h : DataW.trod enc Try.prog w 0 (fun _ => true) held n 22 [v] = some x) : ∃ (s : SV) (L : List (Int × Int)), v = .slice s.A s.n s.c ∧ Rd w s.A (acells L) ∧ L.length = s.n ∧ ∀ p ∈ L, I64 p.1 ∧ I64 p.2 := by
  rcases open_slice Try.underlying22 h with ⟨hcs, _⟩ | ⟨a, len, cap, m, n', D, Pl, hcs, _, hl, hm, hmm, _, hi⟩
  · simp at hcs
    exact ⟨⟨none, 0, 0⟩, [], hcs, Rd.nil, rfl, fun o ho => by cases ho⟩
  · simp at hcs
    simp only [if_true] at hmm
    have hc1 : Try.prog.cellsOf 99 = 2 := by kernel_rfl
    obtain ⟨Q, hQ, hp⟩ := list_of len (fun i (o : Int × Int) => (w.cell? (a.add (i * 2)) = some (.int .i64 o.1) ∧ w.cell? (a.add (i * 2 + 1)) = some (.int .i64 o.2)) ∧ (I64 o.1 ∧ I64 o.2)) (fun i hil => by
      obtain ⟨cs', hc, ht⟩ := hi i (by omega)
      rw [hc1] at hc
      obtain ⟨_, hcl, hat⟩ := World.cells?_some hc
      obtain ⟨o, rfl, hb⟩ := pair_of ht
      refine ⟨o, ⟨?_, ?_⟩, hb⟩
      · have := hat 0 (by omega); rw [Go.Deep.add_add] at this; exact this
      · have := hat 1 (by omega); rw [Go.Deep.add_add] at this; exact this)
    refine ⟨⟨some a, len, cap⟩, Q, hcs, rd_of (fun q u hu => ?_), hQ, fun o ho => ?_⟩
    · have hql : q < Q.length * 2 := by rw [← acells_length]; exact (List.getElem?_eq_some_iff.1 hu).1
      have hqi : q / 2 < Q.length := by omega
      have ho : Q[q / 2]? = some (Q[q / 2]) := List.getElem?_eq_getElem hqi
      obtain ⟨o0, o1⟩ := acells_at Q (q / 2) _ ho
      obtain ⟨⟨p0, p1⟩, _⟩ := hp (q / 2) _ ho
      have hr : q % 2 = 0 ∨ q % 2 = 1 := by omega
      rcases hr with hr | hr
      · have e : q = q / 2 * 2 := by omega
        rw [e, o0] at hu; rw [e, p0]; exact hu
      · have e : q = q / 2 * 2 + 1 := by omega
        rw [e, o1] at hu; rw [e, p1]; exact hu
    · obtain ⟨q, hq⟩ := List.mem_iff_getElem?.1 ho
      exact (hp q o hq).2

theorem ten_of {cs : List Value} {a0 a1 a2 a3 a4 a5 a6 a7 a8 a9 : Value} (hl : cs.length = 10) (h0 : [cs[0]'(by omega)] = [a0]) (h1 : cs[1]'(by omega) = a1) (h2 : cs[2]'(by omega) = a2) (h3 : cs[3]'(by omega) = a3) (h4 : cs[4]'(by omega) = a4) (h5 : cs[5]'(by omega) = a5) (h6 : cs[6]'(by omega) = a6) (h7 : [cs[7]'(by omega)] = [a7]) (h8 : [cs[8]'(by omega)] = [a8]) (h9 : [cs[9]'(by omega)] = [a9]) : cs = [a0, a1, a2, a3, a4, a5, a6, a7, a8, a9] := by
  match cs, hl with
  | [c0, c1, c2, c3, c4, c5, c6, c7, c8, c9], _ =>
    simp only [List.getElem_cons_zero, List.getElem_cons_succ, List.cons.injEq, and_true] at h0 h1 h2 h3 h4 h5 h6 h7 h8 h9
    rw [h0, h1, h2, h3, h4, h5, h6, h7, h8, h9]
set_option maxRecDepth 100000 in
/-- A Raw that reads as data, in memory. -/
theorem raw_of {n : Nat} {cs : List Value} {x : DataW H × List MemPlace} (h : DataW.trod enc Try.prog w 0 (fun _ => true) held n 27 cs = some x) :
    ∃ (v : RawV) (r : RawP), cs = [.int .u8 r.inp, .slice v.A.A v.A.n v.A.c, .slice v.W.A v.W.n v.W.c, .slice v.O.A v.O.n v.O.c, .slice v.K.A v.K.n v.K.c, .slice v.C.A v.C.n v.C.c, .slice v.R.A v.R.n v.R.c, .int .i64 r.req, .int .i64 r.bey, .int .i64 r.hol] ∧
      Rd w v.W.A (v.S.map SV.val) ∧ v.S.length = v.W.n ∧ (fewB v.A.n v.W.n v.O.n v.K.n v.C.n v.R.n v.S = true → RawAt w v r) := by
  obtain ⟨xs, m, _, _, hl, hxl, hf⟩ := DataW.trod_struct Try.underlying27 h
  have hc : Try.prog.cellsOf 27 = 10 := by kernel_rfl
  rw [hc] at hl
  simp at hxl
  have k0 : Try.prog.cellsOf 5 = 1 := by kernel_rfl
  have k1 : Try.prog.cellsOf 22 = 1 := by kernel_rfl
  have k2 : Try.prog.cellsOf 23 = 1 := by kernel_rfl
  have k3 : Try.prog.cellsOf 24 = 1 := by kernel_rfl
  have k4 : Try.prog.cellsOf 25 = 1 := by kernel_rfl
  have k5 : Try.prog.cellsOf 25 = 1 := by kernel_rfl
  have k6 : Try.prog.cellsOf 25 = 1 := by kernel_rfl
  have k7 : Try.prog.cellsOf 3 = 1 := by kernel_rfl
  have k8 : Try.prog.cellsOf 3 = 1 := by kernel_rfl
  have k9 : Try.prog.cellsOf 3 = 1 := by kernel_rfl
  have f0 : DataW.trod enc Try.prog w 0 (fun _ => true) held m 5 ((cs.drop 0).take (Try.prog.cellsOf 5)) = xs[0]? := hf 0 _ rfl
  have f1 : DataW.trod enc Try.prog w 0 (fun _ => true) held m 22 ((cs.drop 1).take (Try.prog.cellsOf 22)) = xs[1]? := hf 1 _ rfl
  have f2 : DataW.trod enc Try.prog w 0 (fun _ => true) held m 23 ((cs.drop 2).take (Try.prog.cellsOf 23)) = xs[2]? := hf 2 _ rfl
  have f3 : DataW.trod enc Try.prog w 0 (fun _ => true) held m 24 ((cs.drop 3).take (Try.prog.cellsOf 24)) = xs[3]? := hf 3 _ rfl
  have f4 : DataW.trod enc Try.prog w 0 (fun _ => true) held m 25 ((cs.drop 4).take (Try.prog.cellsOf 25)) = xs[4]? := hf 4 _ rfl
  have f5 : DataW.trod enc Try.prog w 0 (fun _ => true) held m 25 ((cs.drop 5).take (Try.prog.cellsOf 25)) = xs[5]? := hf 5 _ rfl
  have f6 : DataW.trod enc Try.prog w 0 (fun _ => true) held m 25 ((cs.drop 6).take (Try.prog.cellsOf 25)) = xs[6]? := hf 6 _ rfl
  have f7 : DataW.trod enc Try.prog w 0 (fun _ => true) held m 3 ((cs.drop 7).take (Try.prog.cellsOf 3)) = xs[7]? := hf 7 _ rfl
  have f8 : DataW.trod enc Try.prog w 0 (fun _ => true) held m 3 ((cs.drop 8).take (Try.prog.cellsOf 3)) = xs[8]? := hf 8 _ rfl
  have f9 : DataW.trod enc Try.prog w 0 (fun _ => true) held m 3 ((cs.drop 9).take (Try.prog.cellsOf 3)) = xs[9]? := hf 9 _ rfl
  rw [k0, drop_take1 (i := 0) (by omega), List.getElem?_eq_getElem (by omega)] at f0
  rw [k1, drop_take1 (i := 1) (by omega), List.getElem?_eq_getElem (by omega)] at f1
  rw [k2, drop_take1 (i := 2) (by omega), List.getElem?_eq_getElem (by omega)] at f2
  rw [k3, drop_take1 (i := 3) (by omega), List.getElem?_eq_getElem (by omega)] at f3
  rw [k4, drop_take1 (i := 4) (by omega), List.getElem?_eq_getElem (by omega)] at f4
  rw [k5, drop_take1 (i := 5) (by omega), List.getElem?_eq_getElem (by omega)] at f5
  rw [k6, drop_take1 (i := 6) (by omega), List.getElem?_eq_getElem (by omega)] at f6
  rw [k7, drop_take1 (i := 7) (by omega), List.getElem?_eq_getElem (by omega)] at f7
  rw [k8, drop_take1 (i := 8) (by omega), List.getElem?_eq_getElem (by omega)] at f8
  rw [k9, drop_take1 (i := 9) (by omega), List.getElem?_eq_getElem (by omega)] at f9
  obtain ⟨z0, e0, _, w0⟩ := DataW.trod_int Try.underlying5 f0
  obtain ⟨sA, LA, e1, r1, n1, b1⟩ := ands_of f1
  obtain ⟨sW, S, L, e2, r2, n2, q2, i2⟩ := lists_of f2
  obtain ⟨sO, LO, e3, r3, n3, b3⟩ := ops_of f3
  obtain ⟨sK, LK, e4, r4⟩ := ints_of f4
  obtain ⟨sC, LC, e5, r5⟩ := ints_of f5
  obtain ⟨sR, LR, e6, r6⟩ := ints_of f6
  obtain ⟨z7, e7, _, w7⟩ := DataW.trod_int Try.underlying3 f7
  obtain ⟨z8, e8, _, w8⟩ := DataW.trod_int Try.underlying3 f8
  obtain ⟨z9, e9, _, w9⟩ := DataW.trod_int Try.underlying3 f9
  obtain ⟨hz0, hz1⟩ := u8_of w0
  have ez : ((z0.toNat : Nat) : Int) = z0 := by omega
  refine ⟨⟨sA, sW, S, sO, sK, sC, sR⟩, ⟨z0.toNat, LA, L, LO, LK, LC, LR, z7, z8, z9⟩, ?_, r2, n2, ?_⟩
  · dsimp only
    rw [ez]
    exact ten_of hl e0 e1 e2 e3 e4 e5 e6 e7 e8 e9
  · intro hfew
    simp only [fewB, Bool.and_eq_true, decide_eq_true_eq, Bool.not_eq_true', List.any_eq_false] at hfew
    obtain ⟨⟨⟨⟨⟨⟨h1, h2⟩, h3⟩, h4⟩, h5⟩, h6⟩, h7⟩ := hfew
    refine ⟨by dsimp only; omega, r1, n1, b1, ⟨r2, n2, q2, fun i s l hs hl' => ⟨i2 i s l hs hl', ?_⟩⟩, r3, n3, b3, r4, r5, r6, ⟨⟨(i64_of w7).1, (i64_of w7).2⟩, ⟨(i64_of w8).1, (i64_of w8).2⟩, ⟨(i64_of w9).1, (i64_of w9).2⟩⟩, ⟨h1, h2, h3, h4, h5, h6⟩⟩
    have hs20 := h7 s (List.mem_of_getElem? hs)
    have := (i2 i s l hs hl').2.1
    omega
end
end Go.Proofs.Ytamoniljgifggaa
