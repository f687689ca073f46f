/-
  LratextWrong.
-/
import Derived.Test.YteglgcfbmjlnkaaDoorMadeL
import Derived.Test.YteglgcfbmjlnkaaDoorCopy
import Derived.Test.YteglgcfbmjlnkaaDoorWrongP
import Derived.Test.YteglgcfbmjlnkaaDoorAwake7
set_option linter.unusedVariables false
set_option linter.unusedSimpArgs false
namespace Go.Proofs.YteglgcfbmjlnkaaDoor
open Go.RowKit

theorem scells_put : ∀ (P : List (StV × Stp)) (i j : Nat) (p y : StV × Stp) (u : Value), P[i]? = some p → j < 4 → (scell p).set j u = scell y → (scells P).set (i * 4 + j) u = scells (P.set i y)
  | [], _, _, _, _, _, h, _, _ => by simp at h
  | q :: P, 0, j, p, y, u, h, hj, he => by
    obtain rfl : q = p := by simpa using h
    have e : ∀ (x : StV × Stp) (l : List (StV × Stp)), scells (x :: l) = scell x ++ scells l := fun x l => rfl
    show (scells (q :: P)).set (0 * 4 + j) u = scells (y :: P)
    rw [e, e, ← he, Nat.zero_mul, Nat.zero_add, List.set_append_left _ _ (by show j < 4; omega)]
  | q :: P, i + 1, j, p, y, u, h, hj, he => by
    have ih := scells_put P i j p y u (by simpa using h) hj he
    have e : ∀ (x : StV × Stp) (l : List (StV × Stp)), scells (x :: l) = scell x ++ scells l := fun x l => rfl
    show (scells (q :: P)).set ((i + 1) * 4 + j) u = scells (q :: P.set i y)
    rw [e, e, ← ih, List.set_append_right _ _ (by show 4 ≤ _; omega)]
    congr 2
    show (i + 1) * 4 + j - 4 = _
    omega
theorem own_put1 {W : World} {base n c g i j : Nat} {P : List (StV × Stp)} {p y : StV × Stp} {u : Value} (h : W.ownsRow base 31 4 (.slice (some ⟨g, 0, none⟩) n c) n (scells P)) (hp : P[i]? = some p) (hi : i < n) (hj : j < 4) (he : (scell p).set j u = scell y) :
    (W.setCell ⟨g, i * 4 + j, none⟩ u).ownsRow base 31 4 (.slice (some ⟨g, 0, none⟩) n c) n (scells (P.set i y)) := by
  rw [← scells_put P i j p y u hp hj he]
  exact cp_setAt h (by omega) u
/-- What is known after the one step was spoilt. -/
def Spoilt (P : List (StV × Stp)) (i n g : Nat) (w1 wx : World) : Prop :=
  ∃ (y : StV × Stp), StepsAt wx (some ⟨g, 0, none⟩) n (P.set i y) ∧ rightS y.2 = false ∧ Below w1.heap.size w1 wx
theorem steps_set {wx : World} {base n c g i : Nat} {P : List (StV × Stp)} {y : StV × Stp} (h : wx.ownsRow base 31 4 (.slice (some ⟨g, 0, none⟩) n c) n (scells (P.set i y))) (hl : P.length = n) (hn : n ≤ 40) (hy : StpAt wx y.1 y.2) (ho : ∀ (j : Nat) (p : StV × Stp), j ≠ i → P[j]? = some p → StpAt wx p.1 p.2) : StepsAt wx (some ⟨g, 0, none⟩) n (P.set i y) :=
  ⟨Rd.of_own h, by rw [List.length_set]; exact hl, fun j v s hj => by
    by_cases hji : j = i
    · subst hji
      rw [List.getElem?_set] at hj
      simp only [if_true] at hj
      split at hj
      · obtain rfl := Option.some.inj hj
        exact hy
      · cases hj
    · rw [List.getElem?_set_ne (fun e => hji e.symm)] at hj
      exact ho j (v, s) hji hj, by omega⟩
/-- One store into the row of the steps. -/
theorem spoil1 {w1 w2 : World} {n c g i j : Nat} {P : List (StV × Stp)} {p y : StV × Stp} {u : Value} (h : w2.ownsRow w1.heap.size 31 4 (.slice (some ⟨g, 0, none⟩) n c) n (scells P)) (hl : P.length = n) (hn : n ≤ 40) (hp : P[i]? = some p) (hi : i < n) (hj : j < 4) (he : (scell p).set j u = scell y) (hb : Below w1.heap.size w1 w2)
    (hr : rightS y.2 = false) (hy : StpT w2 y.1 y.2) (ho : ∀ (j : Nat) (q : StV × Stp), j ≠ i → P[j]? = some q → StpT w2 q.1 q.2) : Hid (Spoilt P i n g w1 (w2.setCell ⟨g, i * 4 + j, none⟩ u)) := by
  obtain ⟨cur, hk⟩ := own_bk h
  have hf : Fr (fun q => q = g) w2 (w2.setCell ⟨g, i * 4 + j, none⟩ u) := (Fr.refl (fun q => q = g) w2).setCell (p := ⟨g, i * 4 + j, none⟩) (.inl rfl) u
  have hg := (h.lt g rfl).1
  exact ⟨y, steps_set (own_put1 h hp hi hj he) hl hn (hy.frM hk hf).at' (fun j q hj hq => ((ho j q hj hq).frM hk hf).at'), hr, hb.trans (hf.below _ hb.size (fun q hq e => by omega))⟩
theorem own_diff {w : World} {B B' n n' size size' : Nat} {e e' : TypeId} {v v' : Value} {xs xs' : List Value} (h : w.ownsRow B e size v n xs) (h' : w.ownsRow B' e' size' v' n' xs') (hne : e ≠ e') (q : Nat) (hq : v.ownBlock = some q) : v'.ownBlock ≠ some q := by
  intro hq'
  rcases h.2 with ⟨rfl, _⟩ | ⟨g1, cap, cur, rfl, _, hh, _⟩
  · simp [Value.ownBlock] at hq
  · rcases h'.2 with ⟨rfl, _⟩ | ⟨g2, cap2, cur2, rfl, _, hh2, _⟩
    · simp [Value.ownBlock] at hq'
    · have e1 : g1 = q := by simpa [Value.ownBlock] using hq
      have e2 : g2 = q := by simpa [Value.ownBlock] using hq'
      subst e1; subst e2
      rw [hh] at hh2
      injection hh2 with hh2
      injection hh2 with _ ht
      exact hne ht
/-- The hints of one step grow: the others stay. -/
theorem grow_hints {w2 w5 : World} {B i : Nat} {o : Obj} {P : List (StV × Stp)} {v : StV} {s : Stp} (ha : Apart P) (hall : ∀ p ∈ P, StpO w2 B p.1 p.2) (hp : P[i]? = some (v, s)) (hg : (w2.alloc o).grownBy w5 (Value.slice v.H.A v.H.n v.H.c).ownBlock) :
    (∀ (j : Nat) (q : StV × Stp), j ≠ i → P[j]? = some q → StpO w5 B q.1 q.2) ∧ w5.ownsRow B 50 1 (.slice v.L.A v.L.n v.L.c) v.L.n (s.lits.map (Value.int .i64)) := by
  have hf : Fr (fun k => (Value.slice v.H.A v.H.n v.H.c).ownBlock = some k) (w2.alloc o) w5 := (Fr.refl _ _).grown hg (fun k hk => .inl hk)
  have hb : Below w2.heap.size w2 (w2.alloc o) := balloc (Below.refl _ _) o
  have hs := (hall _ (List.mem_of_getElem? hp)).below hb
  refine ⟨fun j q hj hq => ?_, own_fr hs.lo hf (fun k hk e => own_diff hs.lo hs.ho (by decide) k hk e)⟩
  have hq2 := (hall _ (List.mem_of_getElem? hq)).below hb
  exact ⟨hq2.id, own_fr hq2.lo hf (fun k hk e => own_diff hq2.lo hs.ho (by decide) k hk e), own_fr hq2.ho hf (fun k hk e => ha j i q (v, s) hj hq hp k hk e), hq2.li, hq2.hi⟩
theorem own_cell {w : World} {base n c g k : Nat} {xs : List Value} (h : w.ownsRow base 31 4 (.slice (some ⟨g, 0, none⟩) n c) n xs) (hk : k < n * 4) : ∃ u, w.cell? ⟨g, k, none⟩ = some u := by
  obtain ⟨b, off, he, hc⟩ := (Rd.of_own h).at (k := k) (by rw [h.1]; exact hk)
  injection he with he
  injection he with he1 he2
  subst he1; subst he2
  rw [Nat.zero_add] at hc
  exact ⟨_, hc⟩
/-- A cell of the steps' row, behind the growth of a row of another type. -/
theorem own_some {w2 w5 : World} {B B' n m c g i j : Nat} {o : Obj} {v : Value} {xs ys : List Value} (h : w2.ownsRow B 31 4 (.slice (some ⟨g, 0, none⟩) n c) n xs) (hi : i < n) (hg : (w2.alloc o).grownBy w5 v.ownBlock) (h' : w2.ownsRow B' 3 1 v m ys) (hj : j < 4) : ∃ u, w5.cell? ⟨g, i * 4 + j, none⟩ = some u := by
  have hb2 : Below w2.heap.size w2 (w2.alloc o) := balloc (Below.refl _ _) o
  have hf : Fr (fun k => v.ownBlock = some k) (w2.alloc o) w5 := (Fr.refl _ _).grown hg (fun k hk => .inl hk)
  have h2 := own_fr (F := fun _ => False) h (Fr.of_below hb2) (fun _ _ h => h)
  have h2' := own_fr (F := fun _ => False) h' (Fr.of_below hb2) (fun _ _ h => h)
  exact own_cell (own_fr h2 hf (fun k hk e => own_diff h2 h2' (by decide) k hk e)) (by omega)
/-- The hints of one step have grown, and lie in it. -/
theorem spoil_hint {w1 w2 w5 : World} {n c g i c5 : Nat} {A5 : Option Addr} {o : Obj} {P : List (StV × Stp)} {v : StV} {s : Stp} {z : Int} (h : w2.ownsRow w1.heap.size 31 4 (.slice (some ⟨g, 0, none⟩) n c) n (scells P)) (hl : P.length = n) (hn : n ≤ 40) (hp : P[i]? = some (v, s)) (hi : i < n) (hb : Below w1.heap.size w1 w2)
    (ha : Apart P) (hall : ∀ p ∈ P, StpO w2 w1.heap.size p.1 p.2) (hg : (w2.alloc o).grownBy w5 (Value.slice v.H.A v.H.n v.H.c).ownBlock) (h5 : w5.ownsRow w1.heap.size 3 1 (.slice A5 (v.H.n + 1) c5) (v.H.n + 1) (s.hints.map (Value.int .i64) ++ [.int .i64 z])) (hz : I64 z) (hzb : z = 0 ∨ 1073741824 < z ∨ z < -1073741824) (hsm : v.H.n ≤ 1000) :
    Hid (Spoilt P i n g w1 (w5.setCell ⟨g, i * 4 + 3, none⟩ (.slice A5 (v.H.n + 1) c5))) := by
  obtain ⟨g1, g2⟩ := grow_hints ha hall hp hg
  have hs := hall _ (List.mem_of_getElem? hp)
  have hb2 : Below w2.heap.size w2 (w2.alloc o) := balloc (Below.refl _ _) o
  have hf : Fr (fun k => (Value.slice v.H.A v.H.n v.H.c).ownBlock = some k) (w2.alloc o) w5 := (Fr.refl _ _).grown hg (fun k hk => .inl hk)
  have h' : w5.ownsRow w1.heap.size 31 4 (.slice (some ⟨g, 0, none⟩) n c) n (scells P) := by
    have h2 := own_fr (F := fun _ => False) h (Fr.of_below hb2) (fun _ _ h => h)
    exact own_fr h2 hf (fun k hk e => own_diff h2 (hs.below hb2).ho (by decide) k hk e)
  refine spoil1 (p := (v, s)) (y := (⟨v.L, ⟨A5, v.H.n + 1, c5⟩⟩, ⟨s.del, s.id, s.lits, s.hints ++ [z]⟩)) h' hl hn hp hi (by omega) rfl ?_ (wrong_hint _ _ _ _ hzb) ?_ (fun j q hj hq => (g1 j q hj hq).t)
  · exact hb.trans ((hf.then (G := fun _ => False) (Fr.refl _ _) (fun _ _ h => h.elim)) |> fun hf' => (hb2.mono hb.size).trans (hf'.below _ (by have := hb.size; simp; omega) (fun k hk e => by have := (hs.ho.lt k e).1; omega)))
  · refine StpO.t (B := w1.heap.size) ⟨hs.id, g2, ?_, hs.li, ?_⟩
    · show w5.ownsRow _ _ _ _ _ ((s.hints ++ [z]).map (Value.int .i64))
      rw [List.map_append]
      exact h5
    · refine ⟨by show (s.hints ++ [z]).length = _; rw [List.length_append, hs.hi.1]; rfl, ?_, by show v.H.n + 1 ≤ _; omega⟩
      intro u hu
      rcases List.mem_append.1 hu with hu | hu
      · exact hs.hi.2.1 u hu
      · obtain rfl := List.mem_singleton.1 hu
        exact hz
theorem new_lits {w : World} {v : StV} {s : Stp} (h : StpT w v s) (l : List Int) (hl : ∀ u ∈ l, I64 u) (hn : l.length ≤ 100) :
    StpT (w.alloc (.cells (l.map (Value.int .i64)).toArray 50)) ⟨⟨some ⟨w.heap.size, 0, none⟩, l.length, l.length⟩, v.H⟩ ⟨s.del, s.id, l, s.hints⟩ := by
  have hb : Below w.heap.size w (w.alloc (.cells (l.map (Value.int .i64)).toArray 50)) := balloc (Below.refl _ _) _
  have hr : Rd (w.alloc (.cells (l.map (Value.int .i64)).toArray 50)) (some ⟨w.heap.size, 0, none⟩) (l.map (Value.int .i64)) := Rd.new w _ _
  have h' := h.below hb
  exact ⟨⟨h'.at'.id, ⟨hr, rfl, hl, by show l.length ≤ _; omega⟩, h'.at'.hints⟩, ⟨hr, fun b off he => by
    injection he with he
    injection he with he
    subst he
    exact ⟨_, _, heap_alloc_new w _⟩⟩, h'.ht⟩
theorem spoil2 {w1 w2 : World} {n c g i : Nat} {P : List (StV × Stp)} {v : StV} {s : Stp} {A : Addr} (h : w2.ownsRow w1.heap.size 31 4 (.slice (some ⟨g, 0, none⟩) n c) n (scells P)) (hl : P.length = n) (hn : n ≤ 40) (hp : P[i]? = some (v, s)) (hi : i < n) (hb : Below w1.heap.size w1 w2)
    (hy : StpT w2 ⟨⟨some A, 1, 1⟩, v.H⟩ ⟨s.del, s.id, [1], s.hints⟩) (ho : ∀ (j : Nat) (q : StV × Stp), j ≠ i → P[j]? = some q → StpT w2 q.1 q.2) : Hid (Spoilt P i n g w1 ((w2.setCell ⟨g, i * 4, none⟩ (.bool true)).setCell ⟨g, i * 4 + 2, none⟩ (.slice (some A) 1 1))) := by
  obtain ⟨cur, hk⟩ := own_bk h
  have hf : Fr (fun q => q = g) w2 (w2.setCell ⟨g, i * 4, none⟩ (.bool true)) := (Fr.refl (fun q => q = g) w2).setCell (p := ⟨g, i * 4, none⟩) (.inl rfl) _
  have hg := (h.lt g rfl).1
  have h1 : (w2.setCell ⟨g, i * 4, none⟩ (.bool true)).ownsRow w1.heap.size 31 4 (.slice (some ⟨g, 0, none⟩) n c) n (scells (P.set i (v, ⟨true, s.id, s.lits, s.hints⟩))) := own_put1 (j := 0) h hp hi (by omega) rfl
  obtain ⟨y, a1, a2, a3⟩ := (spoil1 (p := (v, ⟨true, s.id, s.lits, s.hints⟩)) (y := (⟨⟨some A, 1, 1⟩, v.H⟩, ⟨true, s.id, [1], s.hints⟩)) (u := .slice (some A) 1 1) (j := 2) h1 (by rw [List.length_set]; exact hl) hn (by rw [List.getElem?_set]; simp only [if_true]; rw [if_pos (by omega)]) hi (by omega) rfl (hb.trans (hf.below _ hb.size (fun q hq e => by omega))) (wrong_del _ _) (by
    have := hy.frM hk hf
    exact ⟨⟨this.at'.id, this.at'.lits, this.at'.hints⟩, this.lt, this.ht⟩) (fun j q hj hq => (ho j q hj (by rw [List.getElem?_set_ne (fun e => hj e.symm)] at hq; exact hq)).frM hk hf)).out
  rw [List.set_set] at a1
  exact ⟨y, a1, a2, a3⟩
theorem checkF_map : ∀ (L M : List (StV × Stp)) (last : Int) (i : Nat), L.map (·.2) = M.map (·.2) → checkF last i L = checkF last i M
  | [], [], _, _, _ => rfl
  | [], _ :: _, _, _, h => by simp at h
  | _ :: _, [], _, _, h => by simp at h
  | p :: L, q :: M, last, i, h => by
    simp only [List.map_cons, List.cons.injEq] at h
    unfold checkF
    rw [h.1, checkF_map L M _ _ h.2]
theorem checkS_map {L M : List (StV × Stp)} (h : L.map (·.2) = M.map (·.2)) : checkS L = checkS M := by
  have hl := congrArg List.length h
  rw [List.length_map, List.length_map] at hl
  unfold checkS
  rw [hl, checkF_map L M 0 0 h]
set_option maxRecDepth 100000 in
set_option maxHeartbeats 3000000 in
theorem mainWrong (A : Option Addr) (n c : Nat) (L : List (StV × Sml)) (m1 m2 : Nat) (z : Int) (w : World) (hv : Hid (Vars w)) (h : Hid (SmlsAt w A n L)) (hn : n ≤ 9223372036854775807) (hc : n ≤ c) (hm1 : m1 ≤ 255) (hm2 : m2 ≤ 255) (hz : Hid (I64 z)) :
    Calls Tryd.prog 6 #[.slice A n c, .int .u8 (m1 : Int), .int .u8 (m2 : Int), .int .i64 z] w fun e w' => e = .returned (.bool true) ∧ Below w.heap.size w w' := by
  go_enter Tryd.func6, Tryd.ntmps6
  go_wp2_with fail
  refine (made7C A n c L w h hn hc).mono ?_
  rintro e w1 ⟨A1, n1, c1, M, rfl, ho, ht, hm, hl, hb⟩
  have HOK := Lib.hid (made_ok h.out.b hm)
  have hn40 : n1 ≤ 40 := by have := HOK.out.n40; omega
  have HS1 := Lib.hid (made_steps ho ht hl hn40)
  have HL1 := Lib.hid hl
  have HB1 := Lib.hid hb
  have HV1 := Lib.hid (hv.out.below hb)
  clear ho ht hb hm hl h
  by_cases h0 : n1 = 0
  · have e1 : ((n1 : Int) == 0) = true := by simp; omega
    go_wp2_with fail
    refine (awakeC w1 HV1).mono ?_
    rintro e w2 ⟨rfl, hb⟩
    have HB2 := Lib.hid (bthen HB1.out hb)
    clear hb
    go_wp2
    go_ret
    exact ⟨rfl, HB2.out⟩
  · have e1 : ((n1 : Int) == 0) = false := by simp; omega
    obtain ⟨i, hi⟩ : ∃ i, m1 % n1 = i := ⟨_, rfl⟩
    obtain ⟨r, hr⟩ : ∃ r, m2 % 7 = r := ⟨_, rfl⟩
    have hin : i < n1 := by have := Nat.mod_lt m1 (show 0 < n1 by omega); omega
    have hr7 : r < 7 := by omega
    have hw1 : IntKind.i64.wrap (m1 : Int) = (m1 : Int) := by rw [IntKind.wrap_i64]; omega
    have ht1 : (m1 : Int).tmod (n1 : Int) = (i : Int) := by rw [Int.tmod_eq_emod_of_nonneg (by omega), ← hi, ← Int.natCast_emod]
    have hd1 : (m1 : Int) % (n1 : Int) = (i : Int) := by rw [← hi, ← Int.natCast_emod]
    have ht2 : (m2 : Int).tmod 7 = (r : Int) := by rw [Int.tmod_eq_emod_of_nonneg (by omega), ← hr]; omega
    have hd2 : (m2 : Int) % 7 = (r : Int) := by omega
    have hne : ¬ ((n1 : Int) = 0) := by omega
    clear hi hr
    go_wp2_with fail
    refine (copyC A1 n1 c1 M w1 HS1).mono ?_
    rintro e w2 ⟨A2, c2, P, rfl, ho, hm, hl, hall, hap, hb⟩
    have e3 : ((n1 : Int) != (n1 : Int)) = false := by simp
    obtain ⟨g, rfl⟩ : ∃ g, A2 = some ⟨g, 0, none⟩ := by
      rcases ho.2 with ⟨h1, h2⟩ | ⟨g', cap, cur, h1, _⟩
      · exact absurd h2 h0
      · injection h1 with h1
        exact ⟨g', h1⟩
    have HP : Hid (MadeOk P) := ⟨by rw [hl]; exact hn40, fun p hp => by
        obtain ⟨q, hq, he⟩ := List.mem_map.1 (by rw [← hm]; exact List.mem_map.2 ⟨p, hp, rfl⟩ : p.2 ∈ M.map (·.2))
        rw [← he]
        exact HOK.out.right q hq, by rw [checkS_map hm]; exact HOK.out.check⟩
    have HO2 := Lib.hid ho
    have HL2 := Lib.hid hl
    have HALL := Lib.hid hall
    have HAP := Lib.hid hap
    have HB2 := Lib.hid hb
    have HV2 := Lib.hid (HV1.out.below hb)
    have hii : (i : Int) < (n1 : Int) := by omega
    clear ho hm hl hall hap hb
    go_upto_block 0 with fail
    go_cut [] (fun wx => Hid (Spoilt P i n1 g w1 wx))
    case first =>
      rename_i J1 K1 hR1 hM1
      obtain ⟨b, off, LA, HA, Ln, Lc, Hn, Hc, del, id, lits, hints, hAA, hx, hbl, p0, p1, p2, p3⟩ := (Rd.of_own HO2.out).stp HL2.out hin
      injection hAA with hAA
      injection hAA with hAA hAB
      subst hAA; subst hAB
      simp only [Nat.zero_add] at p0 p1 p2 p3
      obtain ⟨cur, hcur⟩ := own_bk HO2.out
      have z0 := hcur.frozen (i * 4); have z1 := hcur.frozen (i * 4 + 1); have z2 := hcur.frozen (i * 4 + 2); have z3 := hcur.frozen (i * 4 + 3)
      have HCUR := Lib.hid hcur
      have HX := Lib.hid hx
      have HS := Lib.hid (HALL.out _ (List.mem_of_getElem? hx))
      have HOTH := Lib.hid (fun (j : Nat) (q : StV × Stp) (hj : j ≠ i) (hq : P[j]? = some q) => (HALL.out q (List.mem_of_getElem? hq)).t)
      obtain ⟨hr, hll, hhl⟩ := HP.out.right _ (List.mem_of_getElem? hx)
      dsimp only at hr hll hhl
      have hH10 : Hn ≤ 10 := by have := HS.out.hi.1; dsimp only at this; omega
      clear hx hcur hr hll hhl
      rcases (by omega : r = 0 ∨ r = 1 ∨ r = 2 ∨ r = 3 ∨ r = 4 ∨ r = 5 ∨ r = 6) with rfl | rfl | rfl | rfl | rfl | rfl | rfl
      · obtain ⟨zz, hzz⟩ : ∃ zz, min z (-1) = zz := ⟨_, rfl⟩
        have hzb : zz < 0 := by omega
        have hzi : I64 zz := by have := hz.out; unfold I64 at this ⊢; omega
        have HR := Lib.hid (spoil1 (y := (⟨⟨LA, Ln, Lc⟩, ⟨HA, Hn, Hc⟩⟩, ⟨del, zz, lits, hints⟩)) (u := .int .i64 zz) (j := 1) HO2.out HL2.out hn40 HX.out hin (by omega) rfl HB2.out (right_false1 (.inl hzb)) ⟨⟨hzi, HS.out.at.lits, HS.out.at.hints⟩, HS.out.t.lt, HS.out.t.ht⟩ HOTH.out).out
        go_wp2_with fail
        go_meet
        exact HR.out
      · obtain ⟨zz, hzz⟩ : ∃ zz, max z 1073741825 = zz := ⟨_, rfl⟩
        have hzb : 1073741824 < zz := by omega
        have hzi : I64 zz := by have := hz.out; unfold I64 at this ⊢; omega
        have HR := Lib.hid (spoil1 (y := (⟨⟨LA, Ln, Lc⟩, ⟨HA, Hn, Hc⟩⟩, ⟨del, zz, lits, hints⟩)) (u := .int .i64 zz) (j := 1) HO2.out HL2.out hn40 HX.out hin (by omega) rfl HB2.out (right_false1 (.inr hzb)) ⟨⟨hzi, HS.out.at.lits, HS.out.at.hints⟩, HS.out.t.lt, HS.out.t.ht⟩ HOTH.out).out
        go_wp2_with fail
        go_meet
        exact HR.out
      · skip
        go_wp2_with (at_builtin; refine wpList_app el_int rfl (.tmp 63) (.tmp 64) rfl w1.heap.size (.slice HA Hn Hc) Hn (hints.map (Value.int .i64)) rfl (HS.out.ho.alloc _) (some ⟨w2.heap.size, 0, none⟩) 1 1 [.int .i64 0] rfl (Rd.new _ #[_] _) rfl (by simp [Value.oneCell']) (by omega) (by have := HB2.out.size; simp; omega) ?_; intro A5 c5 w5 hown1 hgr1 hat1; have Ho1 := Lib.hid hown1; have Hg1 := Lib.hid hgr1; have HXg := Lib.hid (bk_app HCUR.out HS.out.ho (by decide) hgr1); obtain ⟨u3, hu3⟩ := own_some HO2.out hin Hg1.out HS.out.ho (j := 3) (by omega); have i3 := HXg.out.frozen (i * 4 + 3); clear hown1 hgr1 hat1)
        have HR := Lib.hid (spoil_hint (v := ⟨⟨LA, Ln, Lc⟩, ⟨HA, Hn, Hc⟩⟩) (s := ⟨del, id, lits, hints⟩) (A5 := A5) (c5 := c5) (z := 0) HO2.out HL2.out hn40 HX.out hin HB2.out HAP.out HALL.out Hg1.out Ho1.out (by unfold I64; omega) (by omega) (by show Hn ≤ 1000; omega)).out
        go_wp2_with fail
        go_meet
        exact HR.out
      · obtain ⟨zz, hzz⟩ : ∃ zz, max z 1073741825 = zz := ⟨_, rfl⟩
        have hzi : 1073741824 < zz ∧ zz ≤ 9223372036854775807 := by have := hz.out; unfold I64 at this; omega
        go_wp2_with (at_builtin; refine wpList_app el_int rfl (.tmp 74) (.tmp 77) rfl w1.heap.size (.slice HA Hn Hc) Hn (hints.map (Value.int .i64)) rfl (HS.out.ho.alloc _) (some ⟨w2.heap.size, 0, none⟩) 1 1 [.int .i64 zz] rfl (Rd.new _ #[_] _) rfl (by simp [Value.oneCell']) (by omega) (by have := HB2.out.size; simp; omega) ?_; intro A5 c5 w5 hown1 hgr1 hat1; have Ho1 := Lib.hid hown1; have Hg1 := Lib.hid hgr1; have HXg := Lib.hid (bk_app HCUR.out HS.out.ho (by decide) hgr1); obtain ⟨u3, hu3⟩ := own_some HO2.out hin Hg1.out HS.out.ho (j := 3) (by omega); have i3 := HXg.out.frozen (i * 4 + 3); clear hown1 hgr1 hat1)
        have HR := Lib.hid (spoil_hint (v := ⟨⟨LA, Ln, Lc⟩, ⟨HA, Hn, Hc⟩⟩) (s := ⟨del, id, lits, hints⟩) (A5 := A5) (c5 := c5) (z := zz) HO2.out HL2.out hn40 HX.out hin HB2.out HAP.out HALL.out Hg1.out Ho1.out (by unfold I64; omega) (by omega) (by show Hn ≤ 1000; omega)).out
        go_wp2_with fail
        go_meet
        exact HR.out
      · obtain ⟨zz, hzz⟩ : ∃ zz, min z (-1073741825) = zz := ⟨_, rfl⟩
        have hzi : zz < -1073741824 ∧ -9223372036854775808 ≤ zz := by have := hz.out; unfold I64 at this; omega
        go_wp2_with (at_builtin; refine wpList_app el_int rfl (.tmp 87) (.tmp 90) rfl w1.heap.size (.slice HA Hn Hc) Hn (hints.map (Value.int .i64)) rfl (HS.out.ho.alloc _) (some ⟨w2.heap.size, 0, none⟩) 1 1 [.int .i64 zz] rfl (Rd.new _ #[_] _) rfl (by simp [Value.oneCell']) (by omega) (by have := HB2.out.size; simp; omega) ?_; intro A5 c5 w5 hown1 hgr1 hat1; have Ho1 := Lib.hid hown1; have Hg1 := Lib.hid hgr1; have HXg := Lib.hid (bk_app HCUR.out HS.out.ho (by decide) hgr1); obtain ⟨u3, hu3⟩ := own_some HO2.out hin Hg1.out HS.out.ho (j := 3) (by omega); have i3 := HXg.out.frozen (i * 4 + 3); clear hown1 hgr1 hat1)
        have HR := Lib.hid (spoil_hint (v := ⟨⟨LA, Ln, Lc⟩, ⟨HA, Hn, Hc⟩⟩) (s := ⟨del, id, lits, hints⟩) (A5 := A5) (c5 := c5) (z := zz) HO2.out HL2.out hn40 HX.out hin HB2.out HAP.out HALL.out Hg1.out Ho1.out (by unfold I64; omega) (by omega) (by show Hn ≤ 1000; omega)).out
        go_wp2_with fail
        go_meet
        exact HR.out
      · have HBa : Hid (Below w2.heap.size w2 (w2.alloc (.cells #[.int .i64 1, .int .i64 0] 50))) := balloc (Below.refl _ _) _
        have HR := Lib.hid (spoil1 (p := (⟨⟨LA, Ln, Lc⟩, ⟨HA, Hn, Hc⟩⟩, ⟨del, id, lits, hints⟩)) (y := (⟨⟨some ⟨w2.heap.size, 0, none⟩, 2, 2⟩, ⟨HA, Hn, Hc⟩⟩, ⟨del, id, [1, 0], hints⟩)) (u := .slice (some ⟨w2.heap.size, 0, none⟩) 2 2) (j := 2) (own_fr (F := fun _ => False) HO2.out (Fr.of_below HBa.out) (fun _ _ h => h)) HL2.out hn40 HX.out hin (by omega) rfl (bthen HB2.out HBa.out) (wrong_lit _ _ _) (new_lits (HS.out.t) [1, 0] (by intro u hu; simp only [List.mem_cons, List.not_mem_nil, or_false] at hu; unfold I64; omega) (by decide)) (fun j q hj hq => (HOTH.out j q hj hq).below HBa.out)).out
        rw [World.setCell_alloc_past _ _ _ _ hbl] at HR
        go_wp2_with fail
        go_meet
        exact HR.out
      · have HBa : Hid (Below w2.heap.size w2 (w2.alloc (.cells #[.int .i64 1] 50))) := balloc (Below.refl _ _) _
        have HR := Lib.hid (spoil2 (own_fr (F := fun _ => False) HO2.out (Fr.of_below HBa.out) (fun _ _ h => h)) HL2.out hn40 HX.out hin (bthen HB2.out HBa.out) (new_lits (HS.out.t) [1] (by intro u hu; simp only [List.mem_cons, List.not_mem_nil, or_false] at hu; unfold I64; omega) (by decide)) (fun j q hj hq => (HOTH.out j q hj hq).below HBa.out)).out
        rw [World.setCell_alloc_past _ _ _ _ hbl, World.setCell_alloc_past _ _ _ _ (by rw [World.size_setCell]; exact hbl)] at HR
        go_wp2_with fail
        go_meet
        exact HR.out
    case rest =>
      obtain ⟨y, hsy, hry, hby⟩ := hcut.out
      generalize wc = w3 at *
      obtain ⟨⟨⟨LA, Ln, Lc⟩, ⟨HA, Hn, Hc⟩⟩, ⟨del, id, lits, hints⟩⟩ := y
      have hxy : (P.set i (⟨⟨LA, Ln, Lc⟩, ⟨HA, Hn, Hc⟩⟩, ⟨del, id, lits, hints⟩))[i]? = some (⟨⟨LA, Ln, Lc⟩, ⟨HA, Hn, Hc⟩⟩, ⟨del, id, lits, hints⟩) := by rw [List.getElem?_set]; simp only [if_true]; rw [if_pos (by rw [HL2.out]; exact hin)]
      obtain ⟨b, off, LA', HA', Ln', Lc', Hn', Hc', del', id', lits', hints', hAA, hx, hbl, p0, p1, p2, p3⟩ := hsy.rd.stp hsy.len hin
      rw [hxy] at hx
      simp only [Option.some.injEq, Prod.mk.injEq, StV.mk.injEq, SV.mk.injEq, Stp.mk.injEq] at hx
      obtain ⟨⟨⟨rfl, rfl, rfl⟩, rfl, rfl, rfl⟩, rfl, rfl, rfl, rfl⟩ := hx
      injection hAA with hAA
      injection hAA with hAA hAB
      subst hAA; subst hAB
      simp only [Nat.zero_add] at p0 p1 p2 p3
      have hcs : checkS (P.set i (⟨⟨LA, Ln, Lc⟩, ⟨HA, Hn, Hc⟩⟩, ⟨del, id, lits, hints⟩)) = ((i : Int), 70) := checkS_at HP.out.check (by rw [HL2.out]; omega) (by rw [HL2.out]; exact hin) hry
      have hws : writeS (P.set i (⟨⟨LA, Ln, Lc⟩, ⟨HA, Hn, Hc⟩⟩, ⟨del, id, lits, hints⟩)) = ([], (i : Int), 70) := writeS_at HP.out.check (by rw [HL2.out]; omega) (by rw [HL2.out]; exact hin) hry
      have HCS := Lib.hid hcs
      have HWS := Lib.hid hws
      have HSY := Lib.hid (hsy.all i _ _ hxy)
      have HST := Lib.hid hsy
      have HRY := Lib.hid hry
      have HBY := Lib.hid (bthen HB1.out hby)
      have HV3 := Lib.hid (HV1.out.below hby)
      have hq1 : ((i : Int) == (i : Int)) = true := by simp
      clear hcs hws hsy hry hby hxy HO2 HALL HAP HB2 HV2 HS1 HL1 hcut ht1 hd1 hne hw1
      generalize P.set i (⟨⟨LA, Ln, Lc⟩, ⟨HA, Hn, Hc⟩⟩, ⟨del, id, lits, hints⟩) = Q at *
      go_wp2_with fail
      refine (checkC (some ⟨g, 0, none⟩) n1 c2 Q w3 HST (i : Int) 70 HCS).mono ?_
      rintro e w4 ⟨rfl, hb⟩
      have HB4 := Lib.hid hb
      have q0 := (hb.cell (p := ⟨g, i * 4, none⟩) hbl).trans p0
      have q1 := (hb.cell (p := ⟨g, i * 4 + 1, none⟩) hbl).trans p1
      have q2 := (hb.cell (p := ⟨g, i * 4 + 2, none⟩) hbl).trans p2
      have q3 := (hb.cell (p := ⟨g, i * 4 + 3, none⟩) hbl).trans p3
      clear hb
      dsimp only
      go_wp2_with fail
      refine (lineF del id lits hints LA HA Ln Lc Hn Hc w4 (Lib.hid (HSY.out.below HB4.out)) HRY).mono ?_
      rintro e w5 ⟨rfl, hb⟩
      have HB5 := Lib.hid (bthen HB4.out hb)
      clear hb q0 q1 q2 q3
      dsimp only
      go_wp2_with fail
      refine (writeC (some ⟨g, 0, none⟩) n1 c2 Q w5 (Lib.hid (HST.out.below HB5.out)) (Lib.hid (HV3.out.below HB5.out)) [] (i : Int) 70 HWS).mono ?_
      rintro e w6 ⟨rfl, hb⟩
      have HB6 := Lib.hid (bthen HB5.out hb)
      have q0 := (HB6.out.cell (p := ⟨g, i * 4, none⟩) hbl).trans p0
      have q1 := (HB6.out.cell (p := ⟨g, i * 4 + 1, none⟩) hbl).trans p1
      have q2 := (HB6.out.cell (p := ⟨g, i * 4 + 2, none⟩) hbl).trans p2
      have q3 := (HB6.out.cell (p := ⟨g, i * 4 + 3, none⟩) hbl).trans p3
      clear hb
      dsimp only
      go_wp2_with fail
      refine (stepRight del id lits hints LA HA Ln Lc Hn Hc w6 (Lib.hid (HSY.out.below HB6.out))).mono ?_
      rintro e w7 ⟨rfl, hb⟩
      rw [HRY.out]
      have HB7 := Lib.hid (bthen HB6.out hb)
      clear hb q0 q1 q2 q3
      go_wp2_with fail
      refine (awakeC w7 (Lib.hid (HV3.out.below HB7.out))).mono ?_
      rintro e w8 ⟨rfl, hb⟩
      have HB8 := Lib.hid (bthen (bthen HBY.out HB7.out) hb)
      clear hb
      go_wp2
      go_ret
      exact ⟨rfl, HB8.out⟩
end Go.Proofs.YteglgcfbmjlnkaaDoor
