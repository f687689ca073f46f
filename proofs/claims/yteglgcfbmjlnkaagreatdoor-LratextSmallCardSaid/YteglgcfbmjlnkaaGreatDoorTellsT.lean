/-
  tells.
-/
import Derived.Test.YteglgcfbmjlnkaaGreatDoorTheirs
import Derived.Test.YteglgcfbmjlnkaaGreatDoorWriteQ
import Derived.Test.YteglgcfbmjlnkaaGreatDoorSameS
import Derived.Test.YteglgcfbmjlnkaaGreatDoorWrite
set_option linter.unusedVariables false
set_option linter.unusedSimpArgs false
namespace Go.Proofs.YteglgcfbmjlnkaaGreatDoor
open Go.RowKit

theorem checkF_cases : ∀ (L : List (StV × Stp)) (last : Int) (i : Nat), checkF last i L = (-1, 0) ∨ ∃ j : Nat, checkF last i L = ((j : Int), 70)
  | [], _, _ => .inl rfl
  | p :: L, last, i => by
    unfold checkF
    split
    · exact checkF_cases L _ _
    · exact .inr ⟨i, rfl⟩
theorem checkS_cases {L : List (StV × Stp)} (hl : L.length ≤ 262144) : checkS L = (-1, 0) ∨ ∃ j : Nat, checkS L = ((j : Int), 70) := by
  unfold checkS
  rw [if_neg (by omega)]
  exact checkF_cases L 0 0
theorem checkF_mapT : ∀ (L M : List (StV × Stp)) (last : Int) (i : Nat), L.map (·.2) = M.map (·.2) → checkF last i L = checkF last i M
  | [], [], _, _, _ => rfl
  | [], _ :: _, _, _, h => by simp at h
  | _ :: _, [], _, _, h => by simp at h
  | p :: L, q :: M, last, i, h => by
    simp only [List.map_cons, List.cons.injEq] at h
    unfold checkF
    rw [h.1, checkF_mapT L M _ _ h.2]
theorem checkS_mapT {L M : List (StV × Stp)} (h : L.map (·.2) = M.map (·.2)) : checkS L = checkS M := by
  have hl := congrArg List.length h
  rw [List.length_map, List.length_map] at hl
  unfold checkS
  rw [hl, checkF_mapT L M 0 0 h]
theorem textS_mapT {L M : List (StV × Stp)} (h : L.map (·.2) = M.map (·.2)) : textS L = textS M := by
  have e : ∀ (L : List (StV × Stp)), textS L = (L.map (·.2)).flatMap fun s => lineS s ++ [10] := fun L => by unfold textS; rw [List.flatMap_map]
  rw [e, e, h]
theorem line_2000 {w : World} {v : StV} {s : Stp} (h : StpAt w v s) (h1 : s.lits.length ≤ 2000) (h2 : s.hints.length ≤ 2000) : (lineS s).length ≤ 100000 := by
  have b1 := mid_len (s := s) h.id h.lits.2.2.1
  have b2 := flat_len s.hints h.hints.2.2.1
  rw [line_mid]
  simp only [List.length_append, List.length_cons, List.length_nil]
  omega
theorem text_2000 {L : List (StV × Stp)} (h : ∀ p ∈ L, (lineS p.2).length ≤ 100000) : (textS L).length ≤ L.length * 100001 := by
  induction L with
  | nil => simp [textS]
  | cons p L ih =>
    have h1 := ih (fun q hq => h q (by simp [hq]))
    have h2 := h p (by simp)
    unfold textS at h1 ⊢
    rw [List.flatMap_cons]
    simp only [List.length_append, List.length_cons, List.length_nil]
    omega
/-- A row that may be written. -/
def RowW (B : Nat) (w : World) (s : SV) (t : TypeId) : Prop := s.n = 0 ∨ ∃ g cur, s.A = some ⟨g, 0, none⟩ ∧ B ≤ g ∧ Bk w g t cur ∧ s.n ≤ cur.size
theorem RowW.of_own {w : World} {B : Nat} {t : TypeId} {s : SV} {xs : List Value} (h : w.ownsRow B t 1 (.slice s.A s.n s.c) s.n xs) : RowW B w s t := by
  rcases h.2 with ⟨h0, h1⟩ | ⟨g, cap, cur, h0, h1, h2, h3, h4, h5, h6⟩
  · exact .inl h1
  · injection h0 with h0 _ h7
    exact .inr ⟨g, cur, h0, h1, h2, by omega⟩
theorem RowW.put {w : World} {B g k : Nat} {t t' : TypeId} {s : SV} {cur : Array Value} (h : RowW B w s t) (hk : Bk w g t' cur) (u : Value) : RowW B (w.setCell ⟨g, k, none⟩ u) s t := by
  rcases h with h | ⟨g2, cur2, h1, h2, h3, h4⟩
  · exact .inl h
  · by_cases hg : g2 = g
    · subst hg
      exact .inr ⟨g2, _, h1, h2, h3.put k u, by simpa using h4⟩
    · exact .inr ⟨g2, cur2, h1, h2, h3.far (p := ⟨g, k, none⟩) hg u, h4⟩
structure ZInv (w1 : World) (A : Option Addr) (n c : Nat) (P : List (StV × Stp)) (wr : World) : Prop where
  own : wr.ownsRow w1.heap.size 33 4 (.slice A n c) n (scells P)
  rows : ∀ p ∈ P, RowW w1.heap.size wr p.1.L 34 ∧ RowW w1.heap.size wr p.1.H 3
  bel : Below w1.heap.size w1 wr
theorem ZInv.put {w1 wr : World} {A : Option Addr} {n c g k : Nat} {t : TypeId} {P : List (StV × Stp)} {cur : Array Value} (h : ZInv w1 A n c P wr) (hk : Bk wr g t cur) (ht : 33 ≠ t) (hg : w1.heap.size ≤ g) (u : Value) : Hid (ZInv w1 A n c P (wr.setCell ⟨g, k, none⟩ u)) := by
  have hf : Fr (fun q => q = g) wr (wr.setCell ⟨g, k, none⟩ u) := (Fr.refl (fun q => q = g) wr).setCell (p := ⟨g, k, none⟩) (.inl rfl) u
  exact ⟨own_fr h.own hf (fun q hq e => own_ne h.own hk ht (by rw [hq, e])), fun p hp => ⟨(h.rows p hp).1.put hk u, (h.rows p hp).2.put hk u⟩, h.bel.trans (hf.below _ h.bel.size (fun q hq e => by omega))⟩
theorem ZInv.drew {w1 wr : World} {A : Option Addr} {n c : Nat} {P : List (StV × Stp)} (h : ZInv w1 A n c P wr) : ZInv w1 A n c P wr.drew := ⟨h.own, h.rows, h.bel.drew⟩
theorem ZInv.drewN {w1 wr : World} {A : Option Addr} {n c : Nat} {P : List (StV × Stp)} (h : ZInv w1 A n c P wr) (m : Nat) : ZInv w1 A n c P (wr.drewN m) := ⟨h.own, h.rows, bdrewN h.bel m⟩
theorem ZInv.below {w1 wr w' : World} {A : Option Addr} {n c : Nat} {P : List (StV × Stp)} (h : ZInv w1 A n c P wr) (hb : Below wr.heap.size wr w') : ZInv w1 A n c P w' := by
  have hr : ∀ {s : SV} {t : TypeId}, RowW w1.heap.size wr s t → RowW w1.heap.size w' s t := fun h => by
    rcases h with h | ⟨g, cur, h1, h2, h3, h4⟩
    · exact .inl h
    · exact .inr ⟨g, cur, h1, h2, bkbel h3 hb, h4⟩
  exact ⟨own_fr (F := fun _ => False) h.own (Fr.of_below hb) (fun _ _ h => h), fun p hp => ⟨hr (h.rows p hp).1, hr (h.rows p hp).2⟩, bthen h.bel hb⟩
theorem own_cells {w : World} {base n c g i : Nat} {P : List (StV × Stp)} {v : StV} {s : Stp} (h : w.ownsRow base 33 4 (.slice (some ⟨g, 0, none⟩) n c) n (scells P)) (hx : P[i]? = some (v, s)) : w.cell? ⟨g, i * 4 + 2, none⟩ = some (.slice v.L.A v.L.n v.L.c) ∧ w.cell? ⟨g, i * 4 + 3, none⟩ = some (.slice v.H.A v.H.n v.H.c) := by
  obtain ⟨h0, h1, h2, h3⟩ := scells_at P i v s hx
  obtain ⟨b, off, he, _, hc⟩ := (Rd.of_own h).cells (by intro e; rw [e] at h2; simp at h2)
  injection he with he
  injection he with he1 he2
  subst he1; subst he2
  have a2 := hc _ _ h2
  have a3 := hc _ _ h3
  rw [Nat.zero_add] at a2 a3
  exact ⟨a2, a3⟩
set_option maxHeartbeats 4000000 in
set_option maxRecDepth 100000 in
theorem tellsC (A : Option Addr) (n c : Nat) (L : List (StV × Stp)) (w : World) (hv : Hid (Vars w)) (h : Hid (StepsAt w A n L)) (hn : n ≤ 100) (hs : Hid (∀ p ∈ L, p.2.lits.length ≤ 2000 ∧ p.2.hints.length ≤ 2000)) :
    Calls Tryz.prog 6 #[.slice A n c] w fun e w' => e = .returned (.bool true) ∧ Below w.heap.size w w' := by
  go_enter Tryz.func6, Tryz.ntmps6
  go_wp2_with fail
  refine (theirsC A n c L w h).mono ?_
  rintro e w1 ⟨A2, c2, P2, rfl, ho, hm, hl, hall, hb⟩
  have HS2 : Hid (StepsAt w1 A2 n P2) := ⟨Rd.of_own ho, hl, fun i v s hi => (hall _ (List.mem_of_getElem? hi)).at', by omega⟩
  have HM2 := Lib.hid hm
  have HB1 := Lib.hid hb
  have HL1 := Lib.hid (h.out.below hb)
  have HV1 := Lib.hid (hv.out.below hb)
  clear ho hm hl hall hb
  go_wp2_with fail
  refine (copyC A n c L w1 HL1).mono ?_
  rintro e w2 ⟨A3, c3, P3, rfl, ho, hm, hl, hall, hap, hb⟩
  have HO3 := Lib.hid ho
  have HM3 := Lib.hid hm
  have HL3 := Lib.hid hl
  have HALL := Lib.hid hall
  have HB2 := Lib.hid hb
  have HS3 : Hid (StepsAt w2 A3 n P3) := ⟨Rd.of_own ho, hl, fun i v s hi => (hall _ (List.mem_of_getElem? hi)).at, by omega⟩
  have HZ2 : Hid (ZInv w1 A3 n c3 P3 w2) := ⟨ho, fun p hp => ⟨RowW.of_own (hall p hp).lo, RowW.of_own (hall p hp).ho⟩, hb⟩
  have HV2 := Lib.hid (HV1.out.below hb)
  have HM32 : Hid (P3.map (·.2) = P2.map (·.2)) := by show _ = _; rw [HM3.out, HM2.out]
  clear ho hm hl hall hap hb
  go_wp2_with fail
  refine (equalC A3 A2 P3 P2 n n c3 c2 w2 HS3 (Lib.hid (HS2.out.below HB2.out)) HM32).mono ?_
  rintro e w3 ⟨rfl, hb⟩
  have HB3 := Lib.hid hb
  clear hb
  go_wp2_with fail
  refine (sameC A3 A P3 L n n c3 c w3 (Lib.hid (HS3.out.below HB3.out)) (Lib.hid (HL1.out.below (bthen HB2.out HB3.out)))).mono ?_
  rintro e w4 ⟨rfl, hb⟩
  rw [decide_eq_true HM3.out]
  have HB4 := Lib.hid (bthen HB3.out hb)
  clear hb HB3
  obtain ⟨ci, ce, hck⟩ : ∃ ci ce, checkS P3 = (ci, ce) := ⟨_, _, rfl⟩
  have hlenP : P3.length ≤ 262144 := by rw [HL3.out]; omega
  have htx : (textS P3).length ≤ 16777216 := by
    have h1 : (textS P3).length ≤ P3.length * 100001 := text_2000 (fun p hp => by
      obtain ⟨q, hq, he⟩ := List.mem_map.1 (by rw [← HM3.out]; exact List.mem_map.2 ⟨p, hp, rfl⟩ : p.2 ∈ L.map (·.2))
      have h2 := hs.out q hq
      rw [he] at h2
      exact line_2000 (HALL.out p hp).at h2.1 h2.2)
    rw [HL3.out] at h1
    omega
  have HCK := Lib.hid hck
  have HCQ : Hid (checkS P2 = (ci, ce)) := by show _ = _; rw [← checkS_mapT HM32.out, hck]
  have HTX : Hid (textS P2 = textS P3) := (textS_mapT HM32.out).symm
  have hcc := checkS_cases hlenP
  rw [hck] at hcc
  have hccp : (ci = -1 ∧ ce = 0) ∨ (ce = 70) := by
    rcases hcc with h0 | ⟨j, h0⟩
    · exact .inl (Prod.mk.inj h0)
    · exact .inr (Prod.mk.inj h0).2
  have HWS : Hid (writeS P3 = (if ce = 0 then textS P3 else [], ci, ce)) := by
    show _ = _
    unfold writeS
    rw [hck]
    rcases hccp with ⟨rfl, rfl⟩ | rfl
    · rw [if_pos rfl, if_neg (by omega), if_pos rfl]
    · rw [if_neg (show ¬ ((70 : Int) = 0) by decide), if_neg (show ¬ ((70 : Int) = 0) by decide)]
  have HCCP := Lib.hid hccp
  obtain ⟨tt, htt⟩ : ∃ tt, (if ce = 0 then textS P3 else []) = tt := ⟨_, rfl⟩
  rw [htt] at HWS
  have HTT := Lib.hid htt
  clear htt
  clear hcc hck hlenP htx hccp
  go_wp2_with fail
  refine (checkC A3 n c3 P3 w4 (Lib.hid (HS3.out.below HB4.out)) ci ce HCK).mono ?_
  rintro e w5 ⟨rfl, hb⟩
  have HB5 := Lib.hid (bthen HB4.out hb)
  clear hb HB4
  dsimp only
  go_wp2_with fail
  refine (checkQC A2 n c2 P2 w5 (Lib.hid (HS2.out.below (bthen HB2.out HB5.out))) ci ce HCQ).mono ?_
  rintro e w6 ⟨rfl, hb⟩
  have HB6 := Lib.hid (bthen HB5.out hb)
  clear hb HB5
  dsimp only
  go_wp2_with fail
  refine (writeC A3 n c3 P3 w6 (Lib.hid (HS3.out.below HB6.out)) (Lib.hid (HV2.out.below HB6.out)) tt ci ce HWS).mono ?_
  rintro e w7 ⟨rfl, hb⟩
  have HB7 := Lib.hid (bthen HB6.out hb)
  clear hb HB6
  dsimp only
  have hcc1 : (ci != ci) = false := by simp
  have hcc2 : (ce != ce) = false := by simp
  go_upto_region 8 with fail
  go_cut [85] (fun v85 wx => v85 = .bool false ∧ Hid (Below w2.heap.size w2 wx))
  case first =>
    rcases HCCP.out with ⟨rfl, rfl⟩ | rfl
    · have htt := HTT.out
      rw [if_pos rfl] at htt
      subst htt
      clear HCCP HTT
      go_wp2_with fail
      refine (writeQC A2 n c2 P2 w7 (Lib.hid (HS2.out.below (bthen HB2.out HB7.out)))).mono ?_
      rintro e w8 ⟨rfl, hb⟩
      rw [HTX.out]
      have HB8 := Lib.hid (bthen HB7.out hb)
      have hq : ((str (textS P3)).toList != (str (textS P3)).toList) = false := by simp
      clear hb
      go_wp2_with fail
      go_meet
      exact ⟨rfl, HB8⟩
    · have htt := HTT.out
      rw [if_neg (show ¬ ((70 : Int) = 0) by decide)] at htt
      subst htt
      clear HCCP HTT
      rw [show str [] = (⟨#[]⟩ : ByteArray) from rfl]
      go_wp2_with fail
      go_meet
      exact ⟨rfl, HB7⟩
  case rest =>
  obtain ⟨rfl, HB8⟩ := hcut
  generalize wc = w8 at *
  clear HB7
  go_wp2_with fail
  go_loopw [88] (fun v88 wr => ∃ (k : Nat), k ≤ n ∧ v88 = .int .i64 k ∧ Hid (Below w2.heap.size w2 wr)) (fun v88 _ => n - (intOf v88).toNat)
  case atStart => exact ⟨0, Nat.zero_le _, rfl, HB8⟩
  case round =>
    obtain ⟨k, hk, rfl, HB⟩ := hrel
    have hki : ∀ b : Bool, decide (k < n) = b → decide ((k : Int) < (n : Int)) = b := fun b hb => by rw [← hb]; exact decide_eq_decide.2 (by omega)
    by_cases hlt : k < n
    · have e1 := hki true (decide_eq_true hlt)
      clear hki
      have hki : (k : Int) < (n : Int) := by omega
      obtain ⟨b, off, LA, HA, Ln, Lc, Hn, Hc, del, id, lits, hints, hAA, hx, hbl, p0, p1, p2, p3⟩ := (HS3.out.rd.below HB.out).stp HL3.out hlt
      subst hAA
      have HST := Lib.hid ((HS3.out.all k _ _ hx).below HB.out)
      obtain ⟨v2, hx2⟩ : ∃ v2, P2[k]? = some (v2, (⟨del, id, lits, hints⟩ : Stp)) := by
        have h1 := congrArg (fun l => l[k]?) HM32.out
        simp only [List.getElem?_map, hx, Option.map_some] at h1
        cases h2 : P2[k]? with
        | none => rw [h2] at h1; simp at h1
        | some q =>
          rw [h2] at h1
          simp only [Option.map_some, Option.some.injEq] at h1
          exact ⟨q.1, by rw [h1]⟩
      have hBW : Below w1.heap.size w1 wr := bthen HB2.out HB.out
      obtain ⟨b2, o2, LA2, HA2, Ln2, Lc2, Hn2, Hc2, d2, i2, l2, h2, hAA, hx3, hbl2, q0, q1, q2, q3⟩ := (HS2.out.rd.below hBW).stp HS2.out.len hlt
      subst hAA
      have hx4 := hx2
      rw [hx3] at hx4
      simp only [Option.some.injEq, Prod.mk.injEq, Stp.mk.injEq] at hx4
      obtain ⟨rfl, rfl, rfl, rfl, rfl⟩ := hx4
      have HSR := Lib.hid ((HS2.out.all k _ _ hx3).below hBW)
      have HX0 := Lib.hid (Bk.new wr 33 #[.bool d2, .int .i64 i2, .slice LA Ln Lc, .slice HA Hn Hc])
      have HBa : Hid (Below wr.heap.size wr (wr.alloc (.cells #[.bool d2, .int .i64 i2, .slice LA Ln Lc, .slice HA Hn Hc] 33))) := balloc (Below.refl _ _) _
      clear hx hx2 hx3 hBW
      go_upto_region 13 with fail
      have HB0 := Lib.hid (bthen HB.out HBa.out)
      have HSTa := Lib.hid (HST.out.below HBa.out)
      have HSRa := Lib.hid (HSR.out.below HBa.out)
      have hbl3 : b2 < (wr.alloc (.cells #[.bool d2, .int .i64 i2, .slice LA Ln Lc, .slice HA Hn Hc] 33)).heap.size := by simp; omega
      have qa0 := (HBa.out.cell (p := ⟨b2, o2 + k * 4, none⟩) hbl2).trans q0
      have qa1 := (HBa.out.cell (p := ⟨b2, o2 + k * 4 + 1, none⟩) hbl2).trans q1
      have qa2 := (HBa.out.cell (p := ⟨b2, o2 + k * 4 + 2, none⟩) hbl2).trans q2
      have qa3 := (HBa.out.cell (p := ⟨b2, o2 + k * 4 + 3, none⟩) hbl2).trans q3
      clear q0 q1 q2 q3 p0 p1 p2 p3 HST HSR hbl HB
      obtain ⟨px, hpx⟩ : ∃ px, px = wr.heap.size := ⟨_, rfl⟩
      rw [← hpx] at HX0
      rw [← hpx]
      clear hbl2 HBa
      generalize (wr.alloc (.cells #[.bool d2, .int .i64 i2, .slice LA Ln Lc, .slice HA Hn Hc] 33)) = W0 at *
      clear hpx
      obtain ⟨x0, x1, x2, x3⟩ := cells4 HX0.out
      have HV0 := Lib.hid (HV2.out.below HB0.out)
      cases hr : rightS ⟨d2, i2, l2, h2⟩ with
      | true =>
        have HR := Lib.hid hr
        clear hr
        go_wp2_with fail
        refine (lineT d2 i2 l2 h2 LA HA Ln Lc Hn Hc W0 HSTa HV0 HR).mono ?_
        rintro e w9 ⟨rfl, hb⟩
        have HB9 := Lib.hid hb
        clear hb x0 x1 x2 x3
        have qb0 := (HB9.out.cell (p := ⟨b2, o2 + k * 4, none⟩) hbl3).trans qa0
        have qb1 := (HB9.out.cell (p := ⟨b2, o2 + k * 4 + 1, none⟩) hbl3).trans qa1
        have qb2 := (HB9.out.cell (p := ⟨b2, o2 + k * 4 + 2, none⟩) hbl3).trans qa2
        have qb3 := (HB9.out.cell (p := ⟨b2, o2 + k * 4 + 3, none⟩) hbl3).trans qa3
        dsimp only
        go_wp2_with fail
        refine (rightQ d2 i2 l2 h2 LA2 HA2 Ln2 Lc2 Hn2 Hc2 w9 (Lib.hid (HSRa.out.below HB9.out))).mono ?_
        rintro e w10 ⟨rfl, hb⟩
        rw [HR.out]
        have HB10 := Lib.hid (bthen HB9.out hb)
        clear hb qb0 qb1 qb2 qb3
        obtain ⟨x0, x1, x2, x3⟩ := cells4 (bkbel HX0.out HB10.out)
        go_wp2_with fail
        refine (stepRight d2 i2 l2 h2 LA HA Ln Lc Hn Hc w10 (Lib.hid (HSTa.out.below HB10.out))).mono ?_
        rintro e w11 ⟨rfl, hb⟩
        rw [HR.out]
        have HB11 := Lib.hid (bthen HB10.out hb)
        clear hb x0 x1 x2 x3
        have qb0 := (HB11.out.cell (p := ⟨b2, o2 + k * 4, none⟩) hbl3).trans qa0
        have qb1 := (HB11.out.cell (p := ⟨b2, o2 + k * 4 + 1, none⟩) hbl3).trans qa1
        have qb2 := (HB11.out.cell (p := ⟨b2, o2 + k * 4 + 2, none⟩) hbl3).trans qa2
        have qb3 := (HB11.out.cell (p := ⟨b2, o2 + k * 4 + 3, none⟩) hbl3).trans qa3
        have hq : ((str (lineS ⟨d2, i2, l2, h2⟩)).toList != (str (lineS ⟨d2, i2, l2, h2⟩)).toList) = false := by simp
        go_wp2_with fail
        refine (lineQC d2 i2 l2 h2 LA2 HA2 Ln2 Lc2 Hn2 Hc2 w11 (Lib.hid (HSRa.out.below HB11.out))).mono ?_
        rintro e w12 ⟨rfl, hb⟩
        have HB12 := Lib.hid (bthen HB11.out hb)
        clear hb qb0 qb1 qb2 qb3
        go_wp2_with fail
        go_roundw
        case rel => exact ⟨k + 1, by omega, by go_num, bthen HB0.out HB12.out⟩
        case measure => simp [intOf]; omega
      | false =>
        have HR := Lib.hid hr
        clear hr
        go_wp2_with fail
        refine (lineF d2 i2 l2 h2 LA HA Ln Lc Hn Hc W0 HSTa HR).mono ?_
        rintro e w9 ⟨rfl, hb⟩
        have HB9 := Lib.hid hb
        clear hb x0 x1 x2 x3
        have qb0 := (HB9.out.cell (p := ⟨b2, o2 + k * 4, none⟩) hbl3).trans qa0
        have qb1 := (HB9.out.cell (p := ⟨b2, o2 + k * 4 + 1, none⟩) hbl3).trans qa1
        have qb2 := (HB9.out.cell (p := ⟨b2, o2 + k * 4 + 2, none⟩) hbl3).trans qa2
        have qb3 := (HB9.out.cell (p := ⟨b2, o2 + k * 4 + 3, none⟩) hbl3).trans qa3
        dsimp only
        go_wp2_with fail
        refine (rightQ d2 i2 l2 h2 LA2 HA2 Ln2 Lc2 Hn2 Hc2 w9 (Lib.hid (HSRa.out.below HB9.out))).mono ?_
        rintro e w10 ⟨rfl, hb⟩
        rw [HR.out]
        have HB10 := Lib.hid (bthen HB9.out hb)
        clear hb qb0 qb1 qb2 qb3
        obtain ⟨x0, x1, x2, x3⟩ := cells4 (bkbel HX0.out HB10.out)
        go_wp2_with fail
        refine (stepRight d2 i2 l2 h2 LA HA Ln Lc Hn Hc w10 (Lib.hid (HSTa.out.below HB10.out))).mono ?_
        rintro e w11 ⟨rfl, hb⟩
        rw [HR.out]
        have HB11 := Lib.hid (bthen HB10.out hb)
        clear hb x0 x1 x2 x3
        go_wp2_with fail
        go_roundw
        case rel => exact ⟨k + 1, by omega, by go_num, bthen HB0.out HB11.out⟩
        case measure => simp [intOf]; omega
    · have e1 := hki false (decide_eq_false hlt)
      clear hki
      obtain rfl : k = n := by omega
      have HZ0 := Lib.hid (HZ2.out.below HB.out)
      have HBND := Lib.hid (fun (p : StV × Stp) (hp : p ∈ P3) => And.intro (HALL.out p hp).li.2.2 (HALL.out p hp).hi.2.2)
      clear HB HB8 HZ2 HB2 HV2 HCK HCQ HTX HWS HCCP HTT HS3 HO3 HALL hcc1 hcc2
      go_wp2_with fail
      go_loopw [138] (fun v138 wz => ∃ (i : Nat), i ≤ k ∧ v138 = .int .i64 i ∧ Hid (ZInv w1 A3 k c3 P3 wz)) (fun v138 _ => k - (intOf v138).toNat)
      case atStart => exact ⟨0, Nat.zero_le _, rfl, HZ0⟩
      case round =>
        obtain ⟨i, hi, rfl, HZ⟩ := hrel
        have hki : ∀ b : Bool, decide (i < k) = b → decide ((i : Int) < (k : Int)) = b := fun b hb => by rw [← hb]; exact decide_eq_decide.2 (by omega)
        by_cases hlt : i < k
        · have e2 := hki true (decide_eq_true hlt)
          clear hki
          have hki : (i : Int) < (k : Int) := by omega
          obtain ⟨g, rfl⟩ : ∃ g, A3 = some ⟨g, 0, none⟩ := by
            rcases HZ.out.own.2 with ⟨h1, h2⟩ | ⟨g', cap, cur, h1, _⟩
            · omega
            · injection h1 with h1
              exact ⟨g', h1⟩
          obtain ⟨⟨⟨⟨LA, Ln, Lc⟩, ⟨HA, Hn, Hc⟩⟩, s⟩, hx⟩ : ∃ q, P3[i]? = some q := ⟨_, List.getElem?_eq_getElem (by rw [HL3.out]; exact hlt)⟩
          have HX := Lib.hid hx
          have HMEM := Lib.hid (List.mem_of_getElem? hx)
          have hLn : Ln ≤ 100000000 := (HBND.out _ HMEM.out).1
          have hHn : Hn ≤ 100000000 := (HBND.out _ HMEM.out).2
          obtain ⟨y2, y3⟩ := own_cells HZ.out.own hx
          dsimp only at y2 y3
          clear hx
          go_wp2_with fail
          go_loopw [147] (fun v147 wy => ∃ (j : Nat), j ≤ Ln ∧ v147 = .int .i64 j ∧ Hid (ZInv w1 (some ⟨g, 0, none⟩) k c3 P3 wy)) (fun v147 _ => Ln - (intOf v147).toNat)
          case atStart => exact ⟨0, Nat.zero_le _, rfl, HZ⟩
          case round =>
            obtain ⟨j, hj, rfl, HY⟩ := hrel
            have hkj : ∀ b : Bool, decide (j < Ln) = b → decide ((j : Int) < (Ln : Int)) = b := fun b hb => by rw [← hb]; exact decide_eq_decide.2 (by omega)
            clear y2 y3
            obtain ⟨y2, y3⟩ := own_cells HY.out.own HX.out
            dsimp only at y2 y3
            by_cases hlj : j < Ln
            · have e3 := hkj true (decide_eq_true hlj)
              clear hkj
              have hkj : (j : Int) < (Ln : Int) := by omega
              rcases (HY.out.rows _ HMEM.out).1 with h0 | ⟨g1, cur, hA, hg1, hbk, hsz⟩
              · dsimp only at h0
                omega
              · dsimp only at hA hsz
                subst hA
                obtain ⟨u1, hu1⟩ : ∃ u, cur[j]? = some u := ⟨_, Array.getElem?_eq_getElem (by omega)⟩
                have c1 := (hbk.cell j).trans hu1
                have f1 := hbk.frozen j
                have HBK := Lib.hid hbk
                have HG1 := Lib.hid hg1
                clear hbk hg1 hsz hu1
                go_wp2_with fail
                go_roundw
                case rel => exact ⟨j + 1, by omega, by go_num, HY.out.put HBK.out (by decide) HG1.out _⟩
                case measure => simp [intOf]; omega
            · have e3 := hkj false (decide_eq_false hlj)
              clear hkj
              obtain rfl : j = Ln := by omega
              go_wp2_with fail
              go_loopw [164] (fun v164 wy => ∃ (m : Nat), m ≤ Hn ∧ v164 = .int .i64 m ∧ Hid (ZInv w1 (some ⟨g, 0, none⟩) k c3 P3 wy)) (fun v164 _ => Hn - (intOf v164).toNat)
              case atStart => exact ⟨0, Nat.zero_le _, rfl, HY⟩
              case round =>
                obtain ⟨m, hm, rfl, HU⟩ := hrel
                have hkm : ∀ b : Bool, decide (m < Hn) = b → decide ((m : Int) < (Hn : Int)) = b := fun b hb => by rw [← hb]; exact decide_eq_decide.2 (by omega)
                clear y2 y3
                obtain ⟨y2, y3⟩ := own_cells HU.out.own HX.out
                dsimp only at y2 y3
                by_cases hlm : m < Hn
                · have e4 := hkm true (decide_eq_true hlm)
                  clear hkm
                  have hkm : (m : Int) < (Hn : Int) := by omega
                  rcases (HU.out.rows _ HMEM.out).2 with h0 | ⟨g1, cur, hA, hg1, hbk, hsz⟩
                  · dsimp only at h0
                    omega
                  · dsimp only at hA hsz
                    subst hA
                    obtain ⟨u1, hu1⟩ : ∃ u, cur[m]? = some u := ⟨_, Array.getElem?_eq_getElem (by omega)⟩
                    have c1 := (hbk.cell m).trans hu1
                    have f1 := hbk.frozen m
                    have HBK := Lib.hid hbk
                    have HG1 := Lib.hid hg1
                    clear hbk hg1 hsz hu1
                    go_wp2_with fail
                    go_roundw
                    case rel => exact ⟨m + 1, by omega, by go_num, HU.out.put HBK.out (by decide) HG1.out _⟩
                    case measure => simp [intOf]; omega
                · have e4 := hkm false (decide_eq_false hlm)
                  clear hkm
                  obtain rfl : m = Hn := by omega
                  go_wp2_with fail
                  go_roundw
                  case rel => exact ⟨i + 1, by omega, by go_num, HU⟩
                  case measure => simp [intOf]; omega
        · have e2 := hki false (decide_eq_false hlt)
          clear hki
          go_wp2_with fail
          refine (equalC A A2 L P2 k k c c2 wr (Lib.hid (HL1.out.below HZ.out.bel)) (Lib.hid (HS2.out.below HZ.out.bel)) (Lib.hid HM2.out.symm)).mono ?_
          rintro e w9 ⟨rfl, hb⟩
          have HB9 := Lib.hid (bthen HB1.out (bthen HZ.out.bel hb))
          clear hb
          go_wp2
          go_ret
          exact ⟨rfl, HB9.out⟩
end Go.Proofs.YteglgcfbmjlnkaaGreatDoor
