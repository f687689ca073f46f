/-
  Contract of decode.Right (written by gen/decode.py).
-/
import Derived.Test.YtamoniljgifggaaDec
set_option linter.unusedVariables false
set_option linter.unusedSimpArgs false
namespace Go.Proofs.Ytamoniljgifggaa
open Go.RowKit

theorem own_mono {w : World} {base base' : Nat} {e : TypeId} {size n : Nat} {v : Value} {xs : List Value} (h : w.ownsRow base e size v n xs) (hb : base' ≤ base) : w.ownsRow base' e size v n xs := by
  refine ⟨h.1, ?_⟩
  rcases h.2 with h0 | ⟨g', cap, cur, rfl, hbs, rest⟩
  · exact .inl h0
  · exact .inr ⟨g', cap, cur, rfl, Nat.le_trans hb hbs, rest⟩

theorem right_noW {R : Res} {k : Nat} {l : List Int} (h : R.ins[k]? = some l) (hl : ¬ (1 ≤ l.length ∧ l.length ≤ 16)) : rightR R = false := by
  have : wordsOk R = false := by
    unfold wordsOk
    rw [List.all_eq_false]
    exact ⟨l, List.mem_of_getElem? h, by simpa using hl⟩
  simp [rightR, this]
theorem right_noI {R : Res} {k : Nat} {x : Int} (h : (ownL R)[k]? = some x) (hx : inOk R.G x = false) : rightR R = false := by
  have : (ownL R).all (inOk R.G) = false := by
    rw [List.all_eq_false]
    exact ⟨x, List.mem_of_getElem? h, by simp [hx]⟩
  simp [rightR, this]
theorem once_app (l m : List Int) : once (l ++ m) = true → once l = true := by
  induction l with
  | nil => intro _; rfl
  | cons x l ih =>
    intro h
    simp only [List.cons_append, once, Bool.and_eq_true, Bool.not_eq_true', List.contains_eq_mem, List.mem_append, decide_eq_false_iff_not] at h ⊢
    exact ⟨fun hh => h.1 (.inl hh), ih h.2⟩
theorem once_snoc (l : List Int) (x : Int) : once (l ++ [x]) = (once l && !l.contains x) := by
  induction l with
  | nil => rfl
  | cons y l ih =>
    rw [Bool.eq_iff_iff]
    simp only [List.cons_append, once, ih, Bool.and_eq_true, Bool.not_eq_true', List.contains_eq_mem, List.mem_append, decide_eq_false_iff_not, List.mem_cons, List.not_mem_nil, or_false]
    constructor
    · rintro ⟨h1, h2, h3⟩
      exact ⟨⟨fun h => h1 (.inl h), h2⟩, by rintro (rfl | h); exact h1 (.inr rfl); exact h3 h⟩
    · rintro ⟨⟨h1, h2⟩, h3⟩
      exact ⟨by rintro (h | rfl); exact h1 h; exact h3 (.inl rfl), h2, fun h => h3 (.inr h)⟩
theorem right_noO {R : Res} {k : Nat} {x : Int} (h : (ownL R)[k]? = some x) (hx : ((ownL R).take k).contains x = true) : rightR R = false := by
  have : once (ownL R) = false := by
    cases ho : once (ownL R) with
    | false => rfl
    | true =>
      rw [← List.take_append_drop (k + 1) (ownL R)] at ho
      have := once_app _ _ ho
      rw [take_snoc h, once_snoc, hx] at this
      simp at this
  simp [rightR, this]

theorem MapI.set {w a : World} {B mb : Nat} (hb : Below B a w) (hm : B ≤ mb) (o : Obj) : Below B a (ChangeMaps.setBlock w mb o) :=
  ⟨hb.os, hb.tape, hb.output, by simpa [ChangeMaps.setBlock] using hb.size, fun k hk => by
    have hne : mb ≠ k := by omega
    rw [← hb.block k hk]
    simp [ChangeMaps.setBlock, Array.getElem?_setIfInBounds, hne]⟩
theorem Rd.set {w : World} {mb : Nat} {A : Option Addr} {xs : List Value} {L : List (Int × Int)} (h : Rd w A xs) (hM : MapI w mb L) (o : Obj) : Rd (ChangeMaps.setBlock w mb o) A xs := by
  intro hx
  obtain ⟨b, off, cs, t, fr, rfl, hb, hc⟩ := h hx
  have hne : mb ≠ b := (hM.ne hb).symm
  exact ⟨b, off, cs, t, fr, rfl, by rw [← hb]; simp [ChangeMaps.setBlock, Array.getElem?_setIfInBounds, hne], hc⟩
theorem Rd.mapNew {w : World} {A : Option Addr} {xs : List Value} (h : Rd w A xs) : Rd (w.alloc (.map #[] 0)) A xs := h.alloc _
/-- How often each number was met. -/
def Met (L : List (Int × Int)) (l : List Int) : Prop := ∀ y, (lookI L y).getD 0 = (l.count y : Int)
theorem Met.snoc {L : List (Int × Int)} {l : List Int} (h : Met L l) (x : Int) : Met (putI L x ((l.count x : Int) + 1)) (l ++ [x]) := by
  intro y
  rw [lookI_putI]
  by_cases hxy : x = y
  · subst hxy
    simp
  · rw [if_neg hxy, h y]
    simp [hxy]
theorem once_count {l : List Int} (h : once l = true) (x : Int) : l.count x = if l.contains x = true then 1 else 0 := by
  induction l with
  | nil => rfl
  | cons y l ih =>
    simp only [once, Bool.and_eq_true, Bool.not_eq_true'] at h
    have := ih h.2
    by_cases hxy : y = x
    · subst hxy
      rw [List.count_cons_self, this]
      simp only [h.1]
      simp
    · rw [List.count_cons_of_ne hxy, this]
      have : (x == y) = false := by simpa using fun e => hxy e.symm
      simp only [List.contains_cons, this, Bool.false_or]

/-- The kind that the program tells: 0 where there is no node. -/
def kindI (G : List Nd) (r : Int) : Int := if refOk G r then ((G[(r / 2).toNat]?).map (·.k)).getD 0 else 0
theorem gkind_any (B g : Nat) (M : Int) (G : List Nd) (r : Int) (w : World) (h : Hid (GAt w B g M G)) (hr : I64 r) (hl : G.length ≤ 65536) :
    Calls Try.prog 52 #[.pointer (some ⟨g, 0, none⟩), .int .i64 r] w fun e w' => e = .returned (.int .u8 (kindI G r)) ∧ w = w' := by
  unfold kindI
  cases hk : refOk G r with
  | false => simpa using gkind_no B g M G r w h hr.1 hr.2 hk
  | true =>
    have hk' := of_decide_eq_true hk
    have hlt : (r / 2).toNat < G.length := by omega
    have hx : G[(r / 2).toNat]? = some (G[(r / 2).toNat]'hlt) := List.getElem?_eq_getElem _
    have := gkind B g M G r _ w h.out hk'.1 (by omega) hx
    rw [hx]
    simpa using this
theorem kindI_two {G : List Nd} {r : Int} (h : kindI G r = 2) : 0 ≤ r ∧ r < 2 * (G.length : Int) ∧ (G[(r / 2).toNat]?).map (·.k) = some 2 := by
  unfold kindI at h
  split at h
  · rename_i hk
    have hk' := of_decide_eq_true hk
    refine ⟨hk'.1, hk'.2, ?_⟩
    cases hx : (G[(r / 2).toNat]?).map (·.k) with
    | none => rw [hx] at h; simp at h
    | some y => rw [hx] at h; simp at h; rw [h]
  · omega
theorem inOk_no1 {G : List Nd} {r : Int} (h : kindI G r ≠ 2) : inOk G r = false := by
  cases hi : inOk G r with
  | false => rfl
  | true =>
    simp only [inOk, Bool.and_eq_true, decide_eq_true_eq] at hi
    refine absurd ?_ h
    unfold kindI
    rw [if_pos hi.1.1, hi.2]
    rfl
theorem inOk_no2 {G : List Nd} {r : Int} (h : r % 2 = 1) : inOk G r = false := by
  have : decide (r % 2 = 0) = false := by simp; omega
  simp [inOk, this]
theorem inOk_yes {G : List Nd} {r : Int} (h : kindI G r = 2) (h1 : r % 2 ≠ 1) : inOk G r = true := by
  obtain ⟨h0, h2, h3⟩ := kindI_two h
  simp only [inOk, refOk, Bool.and_eq_true, decide_eq_true_eq]
  exact ⟨⟨⟨h0, h2⟩, by omega⟩, h3⟩
theorem ResAt.own64 {w : World} {B : Nat} {M : Int} {x : RV} {R : Res} (h : ResAt w B M x R) : ∀ u ∈ ownL R, I64 u := by
  intro u hu
  simp only [ownL, List.mem_append, List.mem_map, List.mem_flatten] at hu
  rcases hu with (hu | ⟨o, ho, rfl⟩) | ⟨l, hl, hu⟩
  · exact h.keep.2.2 u hu
  · exact (h.opsw o ho).2.1
  · obtain ⟨i, hi, rfl⟩ := List.mem_iff_getElem.1 hl
    have hi' : i < x.S.length := by rw [h.inner.1]; exact hi
    exact ((h.inner.2 i _ _ (List.getElem?_eq_getElem hi') (List.getElem?_eq_getElem hi)).1).2.2 u hu
theorem ResAt.oth64 {w : World} {B : Nat} {M : Int} {x : RV} {R : Res} (h : ResAt w B M x R) : ∀ u ∈ othL R, I64 u := by
  intro u hu
  simp only [othL, List.flatten_cons, List.flatten_nil, List.append_nil, List.mem_append, List.mem_map, List.mem_cons, List.not_mem_nil, or_false] at hu
  rcases hu with (hu | hu | rfl | rfl | rfl) | ⟨o, ho, rfl⟩
  · exact h.cached.2.2 u hu
  · exact h.rules.2.2 u hu
  · exact h.nums.1
  · exact h.nums.2.1
  · exact h.nums.2.2
  · exact (h.opsw o ho).1

set_option maxHeartbeats 4000000 in
set_option maxRecDepth 100000 in
theorem decRight (B : Nat) (M : Int) (x : RV) (R : Res) (w : World) (h : Hid (ResAt w B M x R)) :
    Calls Try.prog 16 #[.agg #[.pointer (some ⟨x.g, 0, none⟩), .slice x.I.A x.I.n x.I.c, .int .i64 R.req, .slice x.O.A x.O.n x.O.c, .slice x.K.A x.K.n x.K.c, .slice x.C.A x.C.n x.C.c, .slice x.R.A x.R.n x.R.c, .int .i64 R.bey, .int .i64 R.hol]] w fun e w' => e = .returned (.bool (rightR R)) ∧ Below w.heap.size w w' := by
  have hgl := h.out.glen
  obtain ⟨hsI, hsO, hsK, hsC, hsR⟩ := h.out.small
  have hl0 : ((R.G.length : Int) == 0) = false := beq_eq_false_iff_ne.2 (by omega)
  have HOP := fun (w' : World) (hb : Below w.heap.size w w') => decOps B M x R w' (h.out.below hb)
  have HOPS := Lib.hid HOP
  have HLEN := Lib.hid (fun (w' : World) (hb : Below w.heap.size w w') => glen B x.g M R.G w' (h.out.below hb).g)
  have hop := Lib.hid (fun (w' : World) (hb : Below w.heap.size w w') (k : Nat) (hk : k < x.O.n) => h.out.opAt hb hk)
  have HK : Hid (Rd w x.K.A (R.keep.map (Value.int .i64))) := h.out.keep.1
  have hlK : Hid (R.keep.length = x.K.n) := h.out.keep.2.1
  have hlO : Hid (R.ops.length = x.O.n) := h.out.opsn
  have HCC : Hid (IntsAt w x.C R.cached) := h.out.cached
  have HRR : Hid (IntsAt w x.R R.rules) := h.out.rules
  have HN := Lib.hid h.out.nums
  have HO64 := Lib.hid h.out.own64
  have HT64 := Lib.hid h.out.oth64
  have HGA : Hid (∀ w', Below w.heap.size w w' → Hid (GAt w' B x.g M R.G)) := fun w' hb => (h.out.below hb).g
  have HIL : Hid (ListsAt w x.I.A x.I.n x.S R.ins) := ⟨h.out.ins, h.out.insn, h.out.inner.1, h.out.inner.2⟩
  clear HOP
  obtain ⟨g, ⟨AI, nI, cI⟩, S, ⟨AO, nO, cO⟩, ⟨AK, nK, cK⟩, ⟨AC, nC, cC⟩, ⟨AR, nR, cR⟩⟩ := x
  dsimp only at hsI hsO hsK hsC hsR
  have hb0 : Below w.heap.size w (w.alloc (.cells #[.pointer (some ⟨g, 0, none⟩), .slice AI nI cI, .int .i64 R.req, .slice AO nO cO, .slice AK nK cK, .slice AC nC cC, .slice AR nR cR, .int .i64 R.bey, .int .i64 R.hol] 49)) := (Below.refl _ w).alloc (Nat.le_refl _) _
  have hx0 := Bk.new w 49 #[.pointer (some ⟨g, 0, none⟩), .slice AI nI cI, .int .i64 R.req, .slice AO nO cO, .slice AK nK cK, .slice AC nC cC, .slice AR nR cR, .int .i64 R.bey, .int .i64 R.hol]
  have HB0 := Lib.hid hb0; have HX0 := Lib.hid hx0
  clear hb0 hx0
  dsimp only
  go_enter Try.func16, Try.ntmps16
  go_wp2_with fail
  have hs0 : w.heap.size < (w.alloc (.cells #[.pointer (some ⟨g, 0, none⟩), .slice AI nI cI, .int .i64 R.req, .slice AO nO cO, .slice AK nK cK, .slice AC nC cC, .slice AR nR cR, .int .i64 R.bey, .int .i64 R.hol] 49)).heap.size := by simp
  generalize (w.alloc (.cells #[.pointer (some ⟨g, 0, none⟩), .slice AI nI cI, .int .i64 R.req, .slice AO nO cO, .slice AK nK cK, .slice AC nC cC, .slice AR nR cR, .int .i64 R.bey, .int .i64 R.hol] 49)) = W0 at *
  refine (HLEN.out _ HB0.out).mono ?_
  rintro e w' ⟨rfl, rfl⟩
  have x0 : W0.cell? ⟨w.heap.size, 0, none⟩ = some (.pointer (some ⟨g, 0, none⟩)) := HX0.out.cell 0
  have x1 : W0.cell? ⟨w.heap.size, 1, none⟩ = some (.slice AI nI cI) := HX0.out.cell 1
  have x2 : W0.cell? ⟨w.heap.size, 2, none⟩ = some (.int .i64 R.req) := HX0.out.cell 2
  have x3 : W0.cell? ⟨w.heap.size, 3, none⟩ = some (.slice AO nO cO) := HX0.out.cell 3
  have x4 : W0.cell? ⟨w.heap.size, 4, none⟩ = some (.slice AK nK cK) := HX0.out.cell 4
  have x5 : W0.cell? ⟨w.heap.size, 5, none⟩ = some (.slice AC nC cC) := HX0.out.cell 5
  have x6 : W0.cell? ⟨w.heap.size, 6, none⟩ = some (.slice AR nR cR) := HX0.out.cell 6
  have x7 : W0.cell? ⟨w.heap.size, 7, none⟩ = some (.int .i64 R.bey) := HX0.out.cell 7
  have x8 : W0.cell? ⟨w.heap.size, 8, none⟩ = some (.int .i64 R.hol) := HX0.out.cell 8
  go_wp2_with fail
  clear x0 x1 x2 x3 x4 x5 x6 x7 x8
  refine (HOPS.out _ HB0.out).mono ?_
  rintro e w1 ⟨rfl, hb1⟩
  have HZ1 := Lib.hid hb1
  have HB1 : Hid (Below w.heap.size w w1) := bthen HB0.out hb1
  have HX1 := Lib.hid (HX0.out.below hb1 HX0.out.lt)
  clear hb1 HLEN HOPS
  cases hok : opsOk R with
  | false =>
    have HOK := Lib.hid hok
    clear hok
    go_wp2
    go_ret
    exact ⟨ret_bool (by simp [rightR, HOK.out]), HB1.out⟩
  | true =>
    have HOK := Lib.hid hok
    clear hok
    have k4 : w1.cell? ⟨w.heap.size, 4, none⟩ = some (.slice AK nK cK) := HX1.out.cell 4
    go_wp2_with fail
    refine (clone_ref AK nK cK _ w1 (HK.out.below HB1.out) (by show List.length _ = _; simp; exact hlK.out) (one_ints _ _) (by omega)).mono ?_
    rintro e w2 ⟨A1, c1, rfl, ho1, hb2⟩
    have HZ2 := Lib.hid (bthen HZ1.out hb2)
    have HB2 : Hid (Below w.heap.size w w2) := bthen HB1.out hb2
    have HX2 := Lib.hid (HX1.out.below hb2 HX1.out.lt)
    have HO1 := Lib.hid ho1
    have hs12 : w1.heap.size ≤ w2.heap.size := hb2.size
    clear hb2 ho1 k4
    have q2 : w2.cell? ⟨w.heap.size, 2, none⟩ = some (.int .i64 R.req) := HX2.out.cell 2
    have q5 : w2.cell? ⟨w.heap.size, 5, none⟩ = some (.slice AC nC cC) := HX2.out.cell 5
    have q6 : w2.cell? ⟨w.heap.size, 6, none⟩ = some (.slice AR nR cR) := HX2.out.cell 6
    have q7 : w2.cell? ⟨w.heap.size, 7, none⟩ = some (.int .i64 R.bey) := HX2.out.cell 7
    have q8 : w2.cell? ⟨w.heap.size, 8, none⟩ = some (.int .i64 R.hol) := HX2.out.cell 8
    go_wp2_with fail
    have hl3 : ListsAt ((w2.alloc (.cells #[.int .i64 R.req, .int .i64 R.bey, .int .i64 R.hol] 35)).alloc (.cells #[.slice AC nC cC, .slice AR nR cR, .slice (some ⟨w2.heap.size, 0, none⟩) 3 3] 43)) (some ⟨w2.heap.size + 1, 0, none⟩) 3 [⟨AC, nC, cC⟩, ⟨AR, nR, cR⟩, ⟨some ⟨w2.heap.size, 0, none⟩, 3, 3⟩] [R.cached, R.rules, [R.req, R.bey, R.hol]] := by
      have hb : Below w2.heap.size w2 ((w2.alloc (.cells #[.int .i64 R.req, .int .i64 R.bey, .int .i64 R.hol] 35)).alloc (.cells #[.slice AC nC cC, .slice AR nR cR, .slice (some ⟨w2.heap.size, 0, none⟩) 3 3] 43)) := ((Below.refl _ w2).alloc (Nat.le_refl _) _).alloc (by simp) _
      refine ⟨?_, rfl, rfl, ?_⟩
      · have := Rd.new (w2.alloc (.cells #[.int .i64 R.req, .int .i64 R.bey, .int .i64 R.hol] 35)) #[.slice AC nC cC, .slice AR nR cR, .slice (some ⟨w2.heap.size, 0, none⟩) 3 3] 43
        simp only [World.size_alloc] at this
        exact this
      · intro i s l hs hl
        match i with
        | 0 => simp at hs hl; subst hs hl; exact ⟨(HCC.out.below HB2.out).below hb, by rw [HCC.out.2.1]; exact hsC⟩
        | 1 => simp at hs hl; subst hs hl; exact ⟨(HRR.out.below HB2.out).below hb, by rw [HRR.out.2.1]; exact hsR⟩
        | 2 =>
          simp at hs hl; subst hs hl
          refine ⟨⟨?_, rfl, ?_⟩, by simp⟩
          · exact (Rd.new w2 #[.int .i64 R.req, .int .i64 R.bey, .int .i64 R.hol] 35).alloc _
          · intro u hu
            simp at hu
            have := HN.out
            rcases hu with rfl | rfl | rfl
            · exact this.1
            · exact this.2.1
            · exact this.2.2
        | (i + 3) => simp at hs
    refine (concat_ref _ 3 3 _ _ _ hl3 (by omega)).mono ?_
    rintro e w3 ⟨A2, m2, c2, rfl, hm2, ho2, hb3⟩
    have hb23 : Below w2.heap.size w2 w3 := (((Below.refl _ w2).alloc (Nat.le_refl _) _).alloc (by simp) _).trans (hb3.mono (by simp; omega))
    have HZ3 := Lib.hid (bthen HZ2.out hb23)
    have HB3 : Hid (Below w.heap.size w w3) := bthen HB2.out hb23
    have HX3 := Lib.hid (HX2.out.below hb23 HX2.out.lt)
    have hbase1 : W0.heap.size ≤ w1.heap.size := HZ1.out.size
    have hbase2 : W0.heap.size ≤ w2.heap.size := HZ2.out.size
    have hTwo : Two W0.heap.size 35 W0 (.slice A1 nK c1) nK (R.keep.map (Value.int .i64)) (.slice A2 m2 c2) m2 (([R.cached, R.rules, [R.req, R.bey, R.hol]].flatten).map (Value.int .i64)) w3 := by
      have ho1' : w3.ownsRow w1.heap.size 35 1 (.slice A1 nK c1) nK (R.keep.map (Value.int .i64)) := own_fr HO1.out (Fr.of_below (F := fun _ => False) hb23) (fun _ _ h => h)
      refine ⟨HZ3.out, HZ3.out.size, own_mono ho1' hbase1, own_mono ho2 (by simp; omega), ?_⟩
      intro q h1 h2
      have a1 := (HO1.out.lt q h1).2
      have a2 := (ho2.lt q h2).1
      simp at a2
      omega
    have HM2 : Hid (m2 = nC + nR + 3) := by
      have h1 := HCC.out.2.1
      have h2 := HRR.out.2.1
      dsimp only at h1 h2
      show m2 = nC + nR + 3
      rw [← hm2]
      simp [h1, h2]
      omega
    have hm2' : m2 ≤ 200003 := by rw [HM2.out]; omega
    have HT := Lib.hid hTwo
    have HM0 := Lib.hid hm2
    clear hl3 hb3 ho2 hTwo q2 q5 q6 q7 q8 HO1 HX1 HX2 HB1 HB2 hb23 hm2 hs12 HZ1 HZ2 HZ3
    have q3 : w3.cell? ⟨w.heap.size, 3, none⟩ = some (.slice AO nO cO) := HX3.out.cell 3
    go_wp2
    clear q3
    go_loopw [3, 4, 40] (fun v1 v2 i wr => ∃ (k n1 n2 : Nat) (A1 A2 : Option Addr) (c1 c2 : Nat), k ≤ nO ∧ i = .int .i64 k ∧ v1 = .slice A1 n1 c1 ∧ v2 = .slice A2 n2 c2 ∧ n1 ≤ nK + k ∧ n2 ≤ m2 + k ∧ Hid (n1 = nK + k) ∧ Hid (n2 = m2 + k) ∧
      Hid (Two W0.heap.size 35 W0 (.slice A1 n1 c1) n1 ((R.keep ++ (R.ops.take k).map (·.sel)).map (Value.int .i64)) (.slice A2 n2 c2) n2 (([R.cached, R.rules, [R.req, R.bey, R.hol]].flatten ++ (R.ops.take k).map (·.done)).map (Value.int .i64)) wr)) (fun _ _ i _ => nO - (intOf i).toNat)
    case atStart => exact ⟨0, nK, m2, A1, A2, c1, c2, Nat.zero_le _, rfl, rfl, rfl, by omega, by omega, rfl, rfl, by simpa using HT⟩
    case round =>
      obtain ⟨k, n1, n2, A1, A2, c1, c2, hk, rfl, rfl, rfl, hn1, hn2, Hn1, Hn2, HT'⟩ := hrel
      clear HT HB3 HX3
      have HB : Hid (Below w.heap.size w wr) := bthen HB0.out HT'.out.bel
      by_cases hlt : k < nO
      · obtain ⟨b1, o1, y, rfl, hy, hbl, d0, d1, d2, d3⟩ := hop.out wr HB.out k hlt
        obtain ⟨kd, dn, sl, wt⟩ := y
        dsimp only at d0 d1 d2 d3
        have HY := Lib.hid hy
        clear hy
        have hsz : w.heap.size ≤ wr.heap.size := HB.out.size
        go_wp2
        have HTT := Lib.hid (HT'.out.alloc (.cells #[.int .u8 kd, .int .i64 dn, .int .i64 sl, .int .i64 wt] 37))
        have HBX := Lib.hid (Bk.new wr 37 #[.int .u8 kd, .int .i64 dn, .int .i64 sl, .int .i64 wt])
        have hV1 : ∀ q, (Value.slice A1 n1 c1).ownBlock = some q → q < (wr.alloc (.cells #[.int .u8 kd, .int .i64 dn, .int .i64 sl, .int .i64 wt] 37)).heap.size := fun q hq => by have := (HT'.out.o1.lt q hq).2; simp; omega
        have hV2 : ∀ q, (Value.slice A2 n2 c2).ownBlock = some q → q < (wr.alloc (.cells #[.int .u8 kd, .int .i64 dn, .int .i64 sl, .int .i64 wt] 37)).heap.size := fun q hq => by have := (HT'.out.o2.lt q hq).2; simp; omega
        have hbV : wr.heap.size < (wr.alloc (.cells #[.int .u8 kd, .int .i64 dn, .int .i64 sl, .int .i64 wt] 37)).heap.size := by simp
        generalize (wr.alloc (.cells #[.int .u8 kd, .int .i64 dn, .int .i64 sl, .int .i64 wt] 37)) = V at *
        have HV1 := Lib.hid hV1; have HV2 := Lib.hid hV2
        have e1 : V.cell? ⟨wr.heap.size, 1, none⟩ = some (.int .i64 dn) := HBX.out.cell 1
        have e2 : V.cell? ⟨wr.heap.size, 2, none⟩ = some (.int .i64 sl) := HBX.out.cell 2
        clear hV1 hV2
        go_region_held3 (fun w' => w'.cell? ⟨wr.heap.size, 1, none⟩ = some (.int .i64 dn) ∧ w'.cell? ⟨wr.heap.size, 2, none⟩ = some (.int .i64 sl)) ((refine ⟨Bk.cell (t := 37) (cs := #[.int .u8 kd, .int .i64 dn, .int .i64 sl, .int .i64 wt]) ?_ 1, Bk.cell (t := 37) (cs := #[.int .u8 kd, .int .i64 dn, .int .i64 sl, .int .i64 wt]) ?_ 2⟩ <;> (repeat (first | exact HBX.out | refine Bk.drew ?_ | refine Bk.alloc ?_ _))))
          (first
            | (
              refine step_app el_ref rfl (.tmp 44) (.tmp 47) rfl W0.heap.size (.slice A1 n1 c1) n1 ((R.keep ++ (R.ops.take k).map (·.sel)).map (Value.int .i64)) rfl ?_ (some ⟨_, 0, none⟩) 1 1 [.int .i64 sl] rfl ?_ rfl (by simp [Value.oneCell']) (by omega) ?_ ?_
              · (first | exact (HTT.out.alloc _).drew.o1 | exact ((HTT.out.alloc _).alloc _).drew.o1 | exact (HTT.out.alloc _).o1 | exact HTT.out.o1)
              · (first | exact Rd.drew (Rd.newAt _ #[_] _ _ rfl) | exact Rd.drew ((Rd.newAt _ #[_] _ _ rfl).alloc _) | exact Rd.drew (Rd.newAt _ #[_] _ _ (World.size_alloc _ _)) | exact Rd.newAt _ #[_] _ _ rfl | exact HC.out _ _ (Nat.le_refl _) (Rd.drew ((Rd.newAt _ #[_] _ _ rfl).alloc _)) | exact HC.out _ _ (Nat.le_succ _) (Rd.drew (Rd.newAt _ #[_] _ _ (World.size_alloc _ _))))
              · (first | exact (HTT.out.alloc _).drew.base | exact ((HTT.out.alloc _).alloc _).drew.base | exact (HTT.out.alloc _).base | exact HTT.out.base)
              intro A1x c1x U1 ho1 hg1 hat1
              (first | have HTn := Lib.hid (Two.app1 (HTT.out.alloc _).drew ho1 hg1 hat1) | have HTn := Lib.hid (Two.app1 ((HTT.out.alloc _).alloc _).drew ho1 hg1 hat1) | have HTn := Lib.hid (Two.app1 (HTT.out.alloc _) ho1 hg1 hat1) | have HTn := Lib.hid (Two.app1 HTT.out ho1 hg1 hat1))
              (first | have HBn := Lib.hid (Bk.grown (HBX.out.alloc _).drew hg1 (own_ne HTT.out.o1 HBX.out (by decide))) | have HBn := Lib.hid (Bk.grown ((HBX.out.alloc _).alloc _).drew hg1 (own_ne HTT.out.o1 HBX.out (by decide))) | have HBn := Lib.hid (Bk.grown (HBX.out.alloc _) hg1 (own_ne HTT.out.o1 HBX.out (by decide))) | have HBn := Lib.hid (Bk.grown HBX.out hg1 (own_ne HTT.out.o1 HBX.out (by decide))))
              have HC := Lib.hid (fun (src : Nat) (xs : List Value) (hs : V.heap.size ≤ src) (hr : Rd _ (some ⟨src, 0, none⟩) xs) => rd_grow hr hg1 HV1.out hs)
              clear HTT HBX ho1 hg1 hat1
              have HTT := HTn
              have HBX := HBn
              clear HTn HBn)
            | (
              refine step_app el_ref rfl (.tmp 49) (.tmp 52) rfl W0.heap.size (.slice A2 n2 c2) n2 (([R.cached, R.rules, [R.req, R.bey, R.hol]].flatten ++ (R.ops.take k).map (·.done)).map (Value.int .i64)) rfl ?_ (some ⟨_, 0, none⟩) 1 1 [.int .i64 dn] rfl ?_ rfl (by simp [Value.oneCell']) (by omega) ?_ ?_
              · (first | exact (HTT.out.alloc _).drew.o2 | exact ((HTT.out.alloc _).alloc _).drew.o2 | exact (HTT.out.alloc _).o2 | exact HTT.out.o2)
              · (first | exact Rd.drew (Rd.newAt _ #[_] _ _ rfl) | exact Rd.drew ((Rd.newAt _ #[_] _ _ rfl).alloc _) | exact Rd.drew (Rd.newAt _ #[_] _ _ (World.size_alloc _ _)) | exact Rd.newAt _ #[_] _ _ rfl | exact HC.out _ _ (Nat.le_refl _) (Rd.drew ((Rd.newAt _ #[_] _ _ rfl).alloc _)) | exact HC.out _ _ (Nat.le_succ _) (Rd.drew (Rd.newAt _ #[_] _ _ (World.size_alloc _ _))))
              · (first | exact (HTT.out.alloc _).drew.base | exact ((HTT.out.alloc _).alloc _).drew.base | exact (HTT.out.alloc _).base | exact HTT.out.base)
              intro A2x c2x U2 ho2 hg2 hat2
              (first | have HTn := Lib.hid (Two.app2 (HTT.out.alloc _).drew ho2 hg2 hat2) | have HTn := Lib.hid (Two.app2 ((HTT.out.alloc _).alloc _).drew ho2 hg2 hat2) | have HTn := Lib.hid (Two.app2 (HTT.out.alloc _) ho2 hg2 hat2) | have HTn := Lib.hid (Two.app2 HTT.out ho2 hg2 hat2))
              (first | have HBn := Lib.hid (Bk.grown (HBX.out.alloc _).drew hg2 (own_ne HTT.out.o2 HBX.out (by decide))) | have HBn := Lib.hid (Bk.grown ((HBX.out.alloc _).alloc _).drew hg2 (own_ne HTT.out.o2 HBX.out (by decide))) | have HBn := Lib.hid (Bk.grown (HBX.out.alloc _) hg2 (own_ne HTT.out.o2 HBX.out (by decide))) | have HBn := Lib.hid (Bk.grown HBX.out hg2 (own_ne HTT.out.o2 HBX.out (by decide))))
              have HC := Lib.hid (fun (src : Nat) (xs : List Value) (hs : V.heap.size ≤ src) (hr : Rd _ (some ⟨src, 0, none⟩) xs) => rd_grow hr hg2 HV2.out hs)
              clear HTT HBX ho2 hg2 hat2
              have HTT := HTn
              have HBX := HBn
              clear HTn HBn))
        all_goals
          go_wp2
          go_roundw
          case rel =>
            have ht := take_snoc HY.out
            refine ⟨k + 1, n1 + 1, n2 + 1, A1x, A2x, c1x, c2x, by omega, by go_num, rfl, rfl, by omega, by omega, by show n1 + 1 = _; rw [Hn1.out]; omega, by show n2 + 1 = _; rw [Hn2.out]; omega, ?_⟩
            show Two _ _ _ _ _ _ _ _ _ _
            rw [ht]
            simpa using HTT.out
          case measure => simp [intOf]; omega
      · obtain rfl : nO = k := by omega
        have hT0 : Two W0.heap.size 35 W0 (.slice A1 n1 c1) n1 ((R.keep ++ R.ops.map (·.sel) ++ (R.ins.take 0).flatten).map (Value.int .i64)) (.slice A2 n2 c2) n2 ((othL R).map (Value.int .i64)) wr := by
          have h := HT'.out
          rw [List.take_of_length_le (by rw [hlO.out]; omega)] at h
          simpa [othL] using h
        have HT0 := Lib.hid hT0
        have HXr := Lib.hid (HX0.out.below HT0.out.bel HX0.out.lt)
        clear hT0 HT' HM0 Hn1 Hn2 hlt HM2
        have q1 : wr.cell? ⟨w.heap.size, 1, none⟩ = some (.slice AI nI cI) := HXr.out.cell 1
        have hn1' : n1 ≤ nK + nO := by omega
        clear hn1
        go_wp2
        clear q1 HXr HB
        go_loopw [3, 58] (fun v i wr => ∃ (k n : Nat) (A : Option Addr) (c : Nat), k ≤ nI ∧ i = .int .i64 k ∧ v = .slice A n c ∧ n ≤ nK + nO + 16 * k ∧ Hid (((R.ins.take k).all fun l => decide (1 ≤ l.length ∧ l.length ≤ 16)) = true) ∧
          Hid (Two W0.heap.size 35 W0 (.slice A n c) n ((R.keep ++ R.ops.map (·.sel) ++ (R.ins.take k).flatten).map (Value.int .i64)) (.slice A2 n2 c2) n2 ((othL R).map (Value.int .i64)) wr)) (fun _ i _ => nI - (intOf i).toNat)
        case atStart => exact ⟨0, n1, A1, c1, Nat.zero_le _, rfl, rfl, by omega, rfl, HT0⟩
        case round =>
          obtain ⟨k, n, A, c, hk, rfl, rfl, hn, Hall, HT⟩ := hrel
          clear HT0
          have HB : Hid (Below w.heap.size w wr) := bthen HB0.out HT.out.bel
          by_cases hlt : k < nI
          · obtain ⟨b, off, s, l, rfl, hl, hc, hr, hln, hsn, _⟩ := (HIL.out.below HB.out).at hlt
            obtain ⟨sA, sn, sc⟩ := s
            dsimp only at hc hr hln hsn
            have HL := Lib.hid hl; have HLN := Lib.hid hln; have HR := Lib.hid hr
            clear hl hln hr
            by_cases h1 : sn < 1
            · go_wp2
              go_ret
              exact ⟨ret_bool (right_noW HL.out (by rw [HLN.out]; omega)).symm, HB.out⟩
            by_cases h16 : 16 < sn
            · go_wp2
              go_ret
              exact ⟨ret_bool (right_noW HL.out (by rw [HLN.out]; omega)).symm, HB.out⟩
            · go_wp2_with (at_builtin; refine wpList_app el_ref rfl (.tmp 70) (.tmp 71) rfl W0.heap.size (.slice A n c) n _ rfl HT.out.o1 sA sn sc (l.map (Value.int .i64)) rfl HR.out (by simp [HLN.out]) (one_ints _ _) (by omega) HT.out.base ?_; intro A3 c3 w4 ho4 hg4 hat4; have HTn := Lib.hid (HT.out.app1 ho4 hg4 hat4); clear ho4 hg4 hat4)
              go_roundw
              case rel =>
                refine ⟨k + 1, n + sn, A3, c3, by omega, by go_num, rfl, by omega, ?_, ?_⟩
                · show _ = true
                  rw [take_snoc HL.out, List.all_append, Hall.out]
                  have := HLN.out
                  simp
                  omega
                · show Two _ _ _ _ _ _ _ _ _ _
                  rw [flat_snoc HL.out, ← List.append_assoc, List.map_append]
                  exact HTn.out
              case measure => simp [intOf]; omega
          · obtain rfl : nI = k := by omega
            have hfull : R.ins.take nI = R.ins := List.take_of_length_le (by rw [← HIL.out.len, HIL.out.sn]; omega)
            have HW : Hid (wordsOk R = true) := by have := Hall.out; rw [hfull] at this; exact this
            have hTT := HT.out
            rw [hfull] at hTT
            change Two _ _ _ _ _ ((ownL R).map _) _ _ _ _ at hTT
            have HTT := Lib.hid hTT
            have hln : (ownL R).length = n := by simpa using hTT.o1.1
            have HLN := Lib.hid hln
            clear hTT hln hfull Hall HT hlt
            have hmm := @run_makeMap Try.prog
            go_wp2
            clear hmm
            have HOWN := Lib.hid ((Rd.of_own HTT.out.o1).alloc (.map #[] 0))
            have HOTH := Lib.hid ((Rd.of_own HTT.out.o2).alloc (.map #[] 0))
            have HBL := Lib.hid (HTT.out.bel.alloc HTT.out.base (.map #[] 0))
            have HMAP := Lib.hid (MapI.new wr)
            have HMB : Hid (W0.heap.size ≤ wr.heap.size) := HTT.out.base
            have HLO : Hid ((othL R).length = n2) := by have := HTT.out.o2.1; show _ = _; simpa using this
            generalize wr.heap.size = mb at *
            generalize wr.alloc (.map #[] 0) = W1 at *
            clear HTT HB
            go_loopw [77] (fun i wr => ∃ (k : Nat) (L : List (Int × Int)), k ≤ n ∧ i = .int .i64 k ∧ Hid (Below W0.heap.size W0 wr) ∧ Hid (Rd wr A ((ownL R).map (Value.int .i64))) ∧ Hid (Rd wr A2 ((othL R).map (Value.int .i64))) ∧ Hid (MapI wr mb L) ∧
              Hid (Met L ((ownL R).take k)) ∧ Hid (((ownL R).take k).all (inOk R.G) = true) ∧ Hid (once ((ownL R).take k) = true)) (fun i _ => n - (intOf i).toNat)
            case atStart => exact ⟨0, [], Nat.zero_le _, rfl, HBL, HOWN, HOTH, HMAP, fun y => rfl, rfl, rfl⟩
            case round =>
              obtain ⟨k, L, hk, rfl, HBl, HOw, HOt, HMp, HMet, HAll, HOn⟩ := hrel
              clear HBL HOWN HOTH HMAP
              by_cases hlt : k < n
              · obtain ⟨b1, o1, y, rfl, hy, hc1⟩ := HOw.out.getm HLN.out hlt
                have HY := Lib.hid hy
                clear hy
                have HI := Lib.hid (HO64.out y (List.mem_of_getElem? HY.out))
                have HCN := Lib.hid (once_count HOn.out y)
                cases hcn : ((ownL R).take k).contains y with
                | true =>
                  have hcnt : ((ownL R).take k).count y = 1 := by rw [HCN.out, hcn]; rfl
                  have hlk := run_lookup_I wr mb L HMp.out y
                  rw [HMet.out y, hcnt] at hlk
                  obtain ⟨ob, hup, hm3⟩ := run_update_I wr mb L HMp.out y 2
                  have hlk2 := run_lookup_I _ mb _ hm3 y
                  rw [lookI_putI, if_pos rfl] at hlk2
                  dsimp only [Option.getD] at hlk hlk2
                  have hmet := HMet.out.snoc y
                  rw [hcnt] at hmet
                  have HCT := Lib.hid hcn; have HM3 := Lib.hid hm3; have HME := Lib.hid hmet
                  clear hcnt hcn hm3 hmet
                  have HZ := Lib.hid (MapI.set HBl.out HMB.out ob)
                  have HOw' := Lib.hid (HOw.out.set HMp.out ob)
                  have HOt' := Lib.hid (HOt.out.set HMp.out ob)
                  generalize ChangeMaps.setBlock wr mb ob = U at *
                  have HB : Hid (Below w.heap.size w U) := bthen HB0.out HZ.out
                  have c0 : U.cell? ⟨w.heap.size, 0, none⟩ = some (.pointer (some ⟨g, 0, none⟩)) := (HX0.out.below HZ.out HX0.out.lt).cell 0
                  obtain ⟨κ, hκ⟩ : ∃ κ, kindI R.G y = κ := ⟨_, rfl⟩
                  have hKD := gkind_any B g M R.G y U (HGA.out U HB.out) HI.out hgl.2
                  rw [hκ] at hKD
                  have HKD := Lib.hid hKD; have HKI := Lib.hid hκ
                  clear hKD hκ
                  go_wp2_with fail
                  refine HKD.out.mono ?_
                  rintro e w' ⟨rfl, rfl⟩
                  clear HKD
                  by_cases hk2 : κ = 2
                  · obtain ⟨hy0, hy1, _⟩ := kindI_two (HKI.out.trans hk2)
                    have hb1 : (κ == 2) = true := by simpa using hk2
                    have HK2 := Lib.hid hk2
                    clear hk2
                    by_cases hm : y % 2 = 1
                    · have hb2 : (y % 2 == 1) = true := by simpa using hm
                      have HMo := Lib.hid hm
                      clear hm
                      go_wp2
                      go_ret
                      exact ⟨ret_bool (right_noI HY.out (inOk_no2 HMo.out)).symm, HB.out⟩
                    · have hb2 : (y % 2 == 1) = false := by simpa using hm
                      have HMo := Lib.hid hm
                      clear hm
                      go_wp2
                      go_ret
                      exact ⟨ret_bool (right_noO HY.out HCT.out).symm, HB.out⟩
                  · have hb1 : (κ == 2) = false := by simpa using hk2
                    have HK2 := Lib.hid hk2
                    clear hk2
                    go_wp2
                    go_ret
                    exact ⟨ret_bool (right_noI HY.out (inOk_no1 (by rw [HKI.out]; exact HK2.out))).symm, HB.out⟩
                | false =>
                  have hcnt : ((ownL R).take k).count y = 0 := by rw [HCN.out, hcn]; rfl
                  have hlk := run_lookup_I wr mb L HMp.out y
                  rw [HMet.out y, hcnt] at hlk
                  obtain ⟨ob, hup, hm3⟩ := run_update_I wr mb L HMp.out y 1
                  have hlk2 := run_lookup_I _ mb _ hm3 y
                  rw [lookI_putI, if_pos rfl] at hlk2
                  dsimp only [Option.getD] at hlk hlk2
                  have hmet := HMet.out.snoc y
                  rw [hcnt] at hmet
                  have HCT := Lib.hid hcn; have HM3 := Lib.hid hm3; have HME := Lib.hid hmet
                  clear hcnt hcn hm3 hmet
                  have HZ := Lib.hid (MapI.set HBl.out HMB.out ob)
                  have HOw' := Lib.hid (HOw.out.set HMp.out ob)
                  have HOt' := Lib.hid (HOt.out.set HMp.out ob)
                  generalize ChangeMaps.setBlock wr mb ob = U at *
                  have HB : Hid (Below w.heap.size w U) := bthen HB0.out HZ.out
                  have c0 : U.cell? ⟨w.heap.size, 0, none⟩ = some (.pointer (some ⟨g, 0, none⟩)) := (HX0.out.below HZ.out HX0.out.lt).cell 0
                  obtain ⟨κ, hκ⟩ : ∃ κ, kindI R.G y = κ := ⟨_, rfl⟩
                  have hKD := gkind_any B g M R.G y U (HGA.out U HB.out) HI.out hgl.2
                  rw [hκ] at hKD
                  have HKD := Lib.hid hKD; have HKI := Lib.hid hκ
                  clear hKD hκ
                  go_wp2_with fail
                  refine HKD.out.mono ?_
                  rintro e w' ⟨rfl, rfl⟩
                  clear HKD
                  by_cases hk2 : κ = 2
                  · obtain ⟨hy0, hy1, _⟩ := kindI_two (HKI.out.trans hk2)
                    have hb1 : (κ == 2) = true := by simpa using hk2
                    have HK2 := Lib.hid hk2
                    clear hk2
                    by_cases hm : y % 2 = 1
                    · have hb2 : (y % 2 == 1) = true := by simpa using hm
                      have HMo := Lib.hid hm
                      clear hm
                      go_wp2
                      go_ret
                      exact ⟨ret_bool (right_noI HY.out (inOk_no2 HMo.out)).symm, HB.out⟩
                    · have hb2 : (y % 2 == 1) = false := by simpa using hm
                      have HMo := Lib.hid hm
                      clear hm
                      go_wp2
                      go_roundw
                      case rel =>
                        have ht := take_snoc HY.out
                        refine ⟨k + 1, _, by omega, by go_num, HZ, HOw', HOt', HM3, ?_, ?_, ?_⟩
                        · show Met _ _
                          rw [ht]
                          exact HME.out
                        · show _ = true
                          rw [ht, List.all_append, HAll.out]
                          simp [inOk_yes (HKI.out.trans HK2.out) HMo.out]
                        · show _ = true
                          rw [ht, once_snoc, HOn.out, HCT.out]
                          rfl
                      case measure => simp [intOf]; omega
                  · have hb1 : (κ == 2) = false := by simpa using hk2
                    have HK2 := Lib.hid hk2
                    clear hk2
                    go_wp2
                    go_ret
                    exact ⟨ret_bool (right_noI HY.out (inOk_no1 (by rw [HKI.out]; exact HK2.out))).symm, HB.out⟩
              · obtain rfl : n = k := by omega
                have hfull : (ownL R).take n = ownL R := List.take_of_length_le (by rw [HLN.out]; omega)
                have HA : Hid ((ownL R).all (inOk R.G) = true) := by have := HAll.out; rw [hfull] at this; exact this
                have HO : Hid (once (ownL R) = true) := by have := HOn.out; rw [hfull] at this; exact this
                have HB : Hid (Below w.heap.size w wr) := bthen HB0.out HBl.out
                have HXr := Lib.hid (HX0.out.below HBl.out HX0.out.lt)
                have hpred : PredOn Try.prog 53 #[.pointer (some ⟨w.heap.size, 0, none⟩)] (Value.int .i64) (fun r => !refOk R.G r) wr (othL R) := by
                  intro r hr W hW
                  have c0 : W.cell? ⟨w.heap.size, 0, none⟩ = some (.pointer (some ⟨g, 0, none⟩)) := (HXr.out.below hW HXr.out.lt).cell 0
                  refine (rightClo B M ⟨g, ⟨AI, nI, cI⟩, S, ⟨AO, nO, cO⟩, ⟨AK, nK, cK⟩, ⟨AC, nC, cC⟩, ⟨AR, nR, cR⟩⟩ R w.heap.size r W (HGA.out W (bthen HB.out hW)) c0 (HT64.out r hr)).mono ?_
                  rintro e w' ⟨rfl, rfl⟩
                  exact ⟨rfl, Below.refl _ _⟩
                have hct := containsf_ref A2 n2 c2 (othL R) 53 #[.pointer (some ⟨w.heap.size, 0, none⟩)] (fun r => !refOk R.G r) wr HOt HLO (by omega) (Ent.of Try.func53 (by kernel_rfl) (by kernel_rfl)) hpred
                have HCT := Lib.hid hct
                clear hct hpred hfull hlt
                go_wp2_with fail
                refine HCT.out.mono ?_
                rintro e w' ⟨rfl, hb'⟩
                have HBn : Hid (Below w.heap.size w w') := bthen HB.out hb'
                clear hb' HCT
                go_wp2
                go_ret
                refine ⟨ret_bool ?_, HBn.out⟩
                simp [rightR, HOK.out, HW.out, HA.out, HO.out, List.all_eq_not_any_not]
end Go.Proofs.Ytamoniljgifggaa

