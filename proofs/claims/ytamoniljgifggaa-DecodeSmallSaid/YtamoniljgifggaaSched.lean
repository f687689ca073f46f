/-
  Contract of decode.Schedule.
-/
import Derived.Test.YtamoniljgifggaaWord
import Derived.Deep.RegionHeld3
import Derived.Deep.RegionLaw
set_option linter.unusedVariables false
set_option linter.unusedSimpArgs false
namespace Go.Proofs.Ytamoniljgifggaa
open Go.RowKit

theorem el_word : El Try.prog 32 39 1 := El.mk' (z := .int .u32 0) (bytes := 4) Try.underlying32 (by kernel_rfl) rfl (by omega) (by omega)

theorem Rd.get {α : Type} {w : World} {b o k : Nat} {f : α → Value} {l : List α} {x : α} (h : Rd w (some ⟨b, o, none⟩) (l.map f)) (hx : l[k]? = some x) : w.cell? ⟨b, o + k, none⟩ = some (f x) := by
  obtain ⟨b', o', e, _, hc⟩ := h.cells (by rintro e; simp at e; subst e; simp at hx)
  injection e with e
  injection e with e1 e2 _
  subst e1 e2
  exact hc k _ (by rw [List.getElem?_map, hx]; rfl)

theorem own_apart {w : World} {base base' : Nat} {e e' : TypeId} {size size' n n' : Nat} {v v' : Value} {xs xs' : List Value} (h : w.ownsRow base e size v n xs) (h' : w.ownsRow base' e' size' v' n' xs') (hne : e ≠ e') : v.ownBlock = none ∨ v.ownBlock ≠ v'.ownBlock := by
  rcases h.2 with ⟨rfl, _⟩ | ⟨g, cap, cur, rfl, _, hh, _⟩
  · exact .inl rfl
  · refine .inr fun he => ?_
    exact own_ne h' (g := g) (t := e) (cs := cur) hh hne.symm (by simpa [Value.ownBlock] using he)

/-- A schedule. -/
structure Sch where
  ins : List Int
  pt : Int
  keep : List Bool
def keepL (v : Int → Bool) (P : List (Int × Int)) : List Bool := (P.filter fun p => v p.1).map fun p => v p.2
theorem keepL_snoc (v : Int → Bool) (P : List (Int × Int)) (p : Int × Int) : keepL v (P ++ [p]) = if v p.1 then keepL v P ++ [v p.2] else keepL v P := by
  unfold keepL
  rw [List.filter_append]
  cases h : v p.1 <;> simp [h]
theorem keepL_len (v : Int → Bool) (P : List (Int × Int)) : (keepL v P).length ≤ P.length := by
  unfold keepL
  rw [List.length_map]
  exact List.length_filter_le _ _
/-- The schedule of an assignment. -/
def schedV (v : Int → Bool) (R : Res) : Sch := ⟨R.ins.map fun l => numB (l.map v), pointN v R.ops, keepL v (R.cached.zip R.keep)⟩
def schedR (R : Res) (inp : List Bool) : Sch := if errR R inp.length = 0 then schedV (valR (evalG R.G inp)) R else ⟨[], 0, []⟩

/-- What Schedule leaves. -/
def SchPost (s : Sch) (err : Int) (w : World) (e : Ending) (w' : World) : Prop :=
  ∃ (sI sK : SV), e = .returned (.tuple #[.agg #[.slice sI.A sI.n sI.c, .int .i64 s.pt, .slice sK.A sK.n sK.c], .int .i64 err]) ∧ Rd w' sI.A (s.ins.map (Value.int .u32)) ∧ s.ins.length = sI.n ∧ Rd w' sK.A (s.keep.map Value.bool) ∧ s.keep.length = sK.n ∧ sI.n ≤ 100000 ∧ sK.n ≤ 100000 ∧ Below w.heap.size w w'

set_option maxHeartbeats 2000000 in
set_option maxRecDepth 100000 in
theorem decSchedule (B : Nat) (M : Int) (x : RV) (R : Res) (A : Option Addr) (m c : Nat) (inp : List Bool) (w : World) (h : Hid (ResAt w B M x R)) (hr : Hid (Rd w A (inp.map Value.bool))) (hl : Hid (inp.length = m)) (hm : m ≤ 1000000) :
    Calls Try.prog 11 #[.agg #[.pointer (some ⟨x.g, 0, none⟩), .slice x.I.A x.I.n x.I.c, .int .i64 R.req, .slice x.O.A x.O.n x.O.c, .slice x.K.A x.K.n x.K.c, .slice x.C.A x.C.n x.C.c, .slice x.R.A x.R.n x.R.c, .int .i64 R.bey, .int .i64 R.hol], .slice A m c] w (SchPost (schedR R inp) (errR R m) w) := by
  have HR := Lib.hid (fun (w' : World) (hb : Below w.heap.size w w') => decRight B M x R w' (h.out.below hb))
  have HV := Lib.hid (fun (w' : World) (hb : Below w.heap.size w w') => decValues B M x R A m c inp w' (h.out.below hb) (hr.out.below hb) hl hm)
  have HP := Lib.hid (fun (w' : World) (hb : Below w.heap.size w w') (hR : Rts R) (pb : Nat) (hi : IsAt w' pb R.G inp) => decPoint B M x R pb inp w' (h.out.below hb) hR hi)
  have hent : ∀ (args : Array Value) (W : World), (callFunc 76 args).run Try.prog W = .ok (.enter 76 args) W := Ent.of Try.func76 (by kernel_rfl) (by kernel_rfl)
  have HIL : Hid (ListsAt w x.I.A x.I.n x.S R.ins) := ⟨h.out.ins, h.out.insn, h.out.inner.1, h.out.inner.2⟩
  have HCC : Hid (IntsAt w x.C R.cached) := h.out.cached
  have HKK : Hid (IntsAt w x.K R.keep) := h.out.keep
  obtain ⟨hsI, hsO, hsK, hsC, hsR⟩ := h.out.small
  clear h hr
  obtain ⟨g, ⟨AI, nI, cI⟩, S, ⟨AO, nO, cO⟩, ⟨AK, nK, cK⟩, ⟨AC, nC, cC⟩, ⟨AR, nR, cR⟩⟩ := x
  dsimp only at hsI hsO hsK hsC hsR
  have hb0 : Below w.heap.size w ((w.alloc (.cells #[.pointer (some ⟨g, 0, none⟩), .slice AI nI cI, .int .i64 R.req, .slice AO nO cO, .slice AK nK cK, .slice AC nC cC, .slice AR nR cR, .int .i64 R.bey, .int .i64 R.hol] 49)).alloc (.cells #[.slice none 0 0, .int .i64 0, .slice none 0 0] 51)) := ((Below.refl _ w).alloc (Nat.le_refl _) _).alloc (by simp) _
  have hx0 := (Bk.new w 49 #[.pointer (some ⟨g, 0, none⟩), .slice AI nI cI, .int .i64 R.req, .slice AO nO cO, .slice AK nK cK, .slice AC nC cC, .slice AR nR cR, .int .i64 R.bey, .int .i64 R.hol]).alloc (.cells #[.slice none 0 0, .int .i64 0, .slice none 0 0] 51)
  have hy0 := Bk.new (w.alloc (.cells #[.pointer (some ⟨g, 0, none⟩), .slice AI nI cI, .int .i64 R.req, .slice AO nO cO, .slice AK nK cK, .slice AC nC cC, .slice AR nR cR, .int .i64 R.bey, .int .i64 R.hol] 49)) 51 #[.slice none 0 0, .int .i64 0, .slice none 0 0]
  rw [World.size_alloc] at hy0
  have HB0 := Lib.hid hb0; have HX0 := Lib.hid hx0; have HY0 := Lib.hid hy0
  clear hb0 hx0 hy0
  dsimp only
  go_enter Try.func11, Try.ntmps11
  go_wp2_with fail
  generalize ((w.alloc (.cells #[.pointer (some ⟨g, 0, none⟩), .slice AI nI cI, .int .i64 R.req, .slice AO nO cO, .slice AK nK cK, .slice AC nC cC, .slice AR nR cR, .int .i64 R.bey, .int .i64 R.hol] 49)).alloc (.cells #[.slice none 0 0, .int .i64 0, .slice none 0 0] 51)) = W0 at *
  refine (HR.out W0 HB0.out).mono ?_
  rintro e w1 ⟨rfl, hb1⟩
  have HB1 : Hid (Below w.heap.size w w1) := bthen HB0.out hb1
  have HX1 := Lib.hid (HX0.out.below hb1 HX0.out.lt)
  have HY1 := Lib.hid (HY0.out.below hb1 HY0.out.lt)
  clear hb1 HR HX0 HY0 HB0
  cases hrt : rightR R with
  | false =>
    have HRT := Lib.hid hrt
    clear hrt
    have y0 : w1.cell? ⟨w.heap.size + 1, 0, none⟩ = some (.slice none 0 0) := HY1.out.cell 0
    have y1 : w1.cell? ⟨w.heap.size + 1, 1, none⟩ = some (.int .i64 0) := HY1.out.cell 1
    have y2 : w1.cell? ⟨w.heap.size + 1, 2, none⟩ = some (.slice none 0 0) := HY1.out.cell 2
    have z0 := HY1.out.frozen 0
    have z1 := HY1.out.frozen 1
    have z2 := HY1.out.frozen 2
    go_wp2
    have HF := Lib.hid (((HY1.out.put 0 (.slice none 0 0)).put 1 (.int .i64 0)).put 2 (.slice none 0 0))
    have HFB := Lib.hid ((((Below.refl (w.heap.size + 1) w1).setCell (p := ⟨w.heap.size + 1, 0, none⟩) (Nat.le_refl _) (.slice none 0 0)).setCell (p := ⟨w.heap.size + 1, 1, none⟩) (Nat.le_refl _) (.int .i64 0)).setCell (p := ⟨w.heap.size + 1, 2, none⟩) (Nat.le_refl _) (.slice none 0 0))
    clear y0 y1 y2 z0 z1 z2
    generalize (((w1.setCell ⟨w.heap.size + 1, 0, none⟩ (.slice none 0 0)).setCell ⟨w.heap.size + 1, 1, none⟩ (.int .i64 0)).setCell ⟨w.heap.size + 1, 2, none⟩ (.slice none 0 0)) = WF at *
    have r0 : WF.cell? ⟨w.heap.size + 1, 0, none⟩ = some (.slice none 0 0) := HF.out.cell 0
    have r1 : WF.cell? ⟨w.heap.size + 1, 1, none⟩ = some (.int .i64 0) := HF.out.cell 1
    have r2 : WF.cell? ⟨w.heap.size + 1, 2, none⟩ = some (.slice none 0 0) := HF.out.cell 2
    refine bodyPost_ret (v := .tuple #[.agg #[.slice none 0 0, .int .i64 0, .slice none 0 0], .int .i64 420]) (by simp [results, Try.results11, go_sem, r0, r1, r2]) rfl ?_
    have he : errR R m = 420 := by rw [errR, HRT.out]; rfl
    have hsch : schedR R inp = ⟨[], 0, []⟩ := by rw [schedR, hl.out, he]; rfl
    rw [he, hsch]
    exact ⟨⟨none, 0, 0⟩, ⟨none, 0, 0⟩, rfl, Rd.nil, rfl, Rd.nil, rfl, Nat.zero_le _, Nat.zero_le _, HB1.out.trans (HFB.out.mono (Nat.le_succ _))⟩
  | true =>
    have HRT := Lib.hid hrt
    have HRS := Lib.hid (Rts.of hrt)
    clear hrt
    have x0 : w1.cell? ⟨w.heap.size, 0, none⟩ = some (.pointer (some ⟨g, 0, none⟩)) := HX1.out.cell 0
    have x1 : w1.cell? ⟨w.heap.size, 1, none⟩ = some (.slice AI nI cI) := HX1.out.cell 1
    have x2 : w1.cell? ⟨w.heap.size, 2, none⟩ = some (.int .i64 R.req) := HX1.out.cell 2
    have x3 : w1.cell? ⟨w.heap.size, 3, none⟩ = some (.slice AO nO cO) := HX1.out.cell 3
    have x4 : w1.cell? ⟨w.heap.size, 4, none⟩ = some (.slice AK nK cK) := HX1.out.cell 4
    have x5 : w1.cell? ⟨w.heap.size, 5, none⟩ = some (.slice AC nC cC) := HX1.out.cell 5
    have x6 : w1.cell? ⟨w.heap.size, 6, none⟩ = some (.slice AR nR cR) := HX1.out.cell 6
    have x7 : w1.cell? ⟨w.heap.size, 7, none⟩ = some (.int .i64 R.bey) := HX1.out.cell 7
    have x8 : w1.cell? ⟨w.heap.size, 8, none⟩ = some (.int .i64 R.hol) := HX1.out.cell 8
    go_wp2_with fail
    clear x0 x1 x2 x3 x4 x5 x6 x7 x8
    refine (HV.out w1 HB1.out).mono ?_
    rintro e w2 ⟨pb, rfl, hi, hb2⟩
    have HI := Lib.hid hi
    have HB2 : Hid (Below w.heap.size w w2) := bthen HB1.out hb2
    have HX2 := Lib.hid (HX1.out.below hb2 HX1.out.lt)
    have HY2 := Lib.hid (HY1.out.below hb2 HY1.out.lt)
    have hs2 : w.heap.size + 1 < w2.heap.size := HY2.out.lt
    clear hb2 hi HV HX1 HY1 HB1
    by_cases hin : m = (inputsOf R.G).length
    · have hd : decide (m = (inputsOf R.G).length) = true := decide_eq_true hin
      have HI2 := Lib.hid (HI.out hin)
      have HE : Hid (errR R m = 0) := by show _ = _; rw [errR, HRT.out, if_pos rfl, if_pos hin]
      rw [hd]
      clear hd hin HI
      have x0 : w2.cell? ⟨w.heap.size, 0, none⟩ = some (.pointer (some ⟨g, 0, none⟩)) := HX2.out.cell 0
      have x1 : w2.cell? ⟨w.heap.size, 1, none⟩ = some (.slice AI nI cI) := HX2.out.cell 1
      have x2 : w2.cell? ⟨w.heap.size, 2, none⟩ = some (.int .i64 R.req) := HX2.out.cell 2
      have x3 : w2.cell? ⟨w.heap.size, 3, none⟩ = some (.slice AO nO cO) := HX2.out.cell 3
      have x4 : w2.cell? ⟨w.heap.size, 4, none⟩ = some (.slice AK nK cK) := HX2.out.cell 4
      have x5 : w2.cell? ⟨w.heap.size, 5, none⟩ = some (.slice AC nC cC) := HX2.out.cell 5
      have x6 : w2.cell? ⟨w.heap.size, 6, none⟩ = some (.slice AR nR cR) := HX2.out.cell 6
      have x7 : w2.cell? ⟨w.heap.size, 7, none⟩ = some (.int .i64 R.bey) := HX2.out.cell 7
      have x8 : w2.cell? ⟨w.heap.size, 8, none⟩ = some (.int .i64 R.hol) := HX2.out.cell 8
      go_wp2_with fail
      clear x0 x1 x2 x3 x4 x5 x6 x7 x8
      refine (HP.out w2 HB2.out HRS.out pb HI2.out).mono ?_
      rintro e w3 ⟨rfl, hb3⟩
      have HB3 : Hid (Below w.heap.size w w3) := bthen HB2.out hb3
      have HX3 := Lib.hid (HX2.out.below hb3 HX2.out.lt)
      have HY3 := Lib.hid (HY2.out.below hb3 HY2.out.lt)
      have HI3 := Lib.hid (HI2.out.below hb3)
      have hs3 : w.heap.size + 1 < w3.heap.size := HY3.out.lt
      have hs3' : w.heap.size < w3.heap.size := HX3.out.lt
      have hvv : ∃ vv, evalG R.G inp = vv := ⟨_, rfl⟩
      obtain ⟨vv, hvv⟩ := hvv
      have hpl : pointN (valR vv) R.ops ≤ R.ops.length := by
        generalize R.ops = L
        induction L with
        | nil => simp [pointN]
        | cons o L ih => simp only [pointN, List.length_cons]; split; omega; split <;> omega
      rw [hvv]
      have HVV := Lib.hid hvv
      clear hb3 HP HX2 HY2 HB2 HI2 hs2 hvv
      have x1 : w3.cell? ⟨w.heap.size, 1, none⟩ = some (.slice AI nI cI) := HX3.out.cell 1
      obtain ⟨pt, hpt⟩ : ∃ pt, pointN (valR vv) R.ops = pt := ⟨_, rfl⟩
      rw [hpt]
      have HPT := Lib.hid hpt
      clear hpt hpl
      go_wp2
      have hbs : Bk (w3.alloc (.cells #[.slice none 0 0, .int .i64 pt, .slice none 0 0] 51)) w3.heap.size 51 #[.slice none 0 0, .int .i64 pt, .slice none 0 0] := Bk.new _ _ _
      have hbb : Below w3.heap.size w3 (w3.alloc (.cells #[.slice none 0 0, .int .i64 pt, .slice none 0 0] 51)) := (Below.refl _ w3).alloc (Nat.le_refl _) _
      have HBS := Lib.hid hbs; have HBB := Lib.hid hbb
      clear hbs hbb x1
      generalize (w3.alloc (.cells #[.slice none 0 0, .int .i64 pt, .slice none 0 0] 51)) = W1 at *
      go_loopw [38] (fun i wr => ∃ (k : Nat) (A1 : Option Addr) (c1 : Nat), k ≤ nI ∧ i = .int .i64 k ∧ Hid (Below w3.heap.size w3 wr) ∧ Hid (Bk wr w3.heap.size 51 #[.slice A1 k c1, .int .i64 pt, .slice none 0 0]) ∧
        Hid (wr.ownsRow w3.heap.size 39 1 (.slice A1 k c1) k (((R.ins.take k).map fun l => numB (l.map (valR vv))).map (Value.int .u32)))) (fun i _ => nI - (intOf i).toNat)
      case atStart => exact ⟨0, none, 0, Nat.zero_le _, rfl, HBB, HBS, ⟨rfl, .inl ⟨rfl, rfl⟩⟩⟩
      case round =>
        obtain ⟨k, A1, c1, hk, rfl, HBl, HBk, HOw⟩ := hrel
        clear HBS HBB
        by_cases hlt : k < nI
        · generalize wr = V at *
          have HBw : Hid (Below w.heap.size w V) := bthen HB3.out HBl.out
          obtain ⟨b, off, s, l, rfl, hl2, hc, hr2, hln, hsn, _⟩ := (HIL.out.below HBw.out).at hlt
          obtain ⟨sA, sn, sc⟩ := s
          dsimp only at hc hr2 hln hsn
          have hwd := HRS.out.ins l (List.mem_of_getElem? hl2)
          rw [hln] at hwd
          obtain ⟨⟨hw1, hw16⟩, hrefs⟩ := hwd
          have HL := Lib.hid hl2; have HLN := Lib.hid hln; have HRl := Lib.hid hr2; have HREF := Lib.hid hrefs
          clear hl2 hln hr2 hrefs
          have hsV : w3.heap.size < V.heap.size := HBk.out.lt
          go_wp2
          clear hc
          go_loopw [11, 44] (fun v i wr => ∃ (j : Nat) (A2 : Option Addr) (c2 : Nat), j ≤ sn ∧ i = .int .i64 j ∧ v = .slice A2 j c2 ∧ Hid (Below V.heap.size V wr) ∧ Hid (wr.ownsRow V.heap.size 4 1 (.slice A2 j c2) j (((l.take j).map (valR vv)).map Value.bool))) (fun _ i _ => sn - (intOf i).toNat)
          case atStart => exact ⟨0, none, 0, Nat.zero_le _, rfl, rfl, Below.refl _ _, ⟨rfl, .inl ⟨rfl, rfl⟩⟩⟩
          case round =>
            obtain ⟨j, A2, c2, hj, rfl, rfl, HBi, HOi⟩ := hrel
            have hsz : V.heap.size ≤ wr.heap.size := HBi.out.size
            by_cases hjl : j < sn
            · obtain ⟨b2, o2, y, rfl, hy, hc2⟩ := (HRl.out.below HBi.out).getm HLN.out hjl
              have HY := Lib.hid hy
              clear hy
              go_wp2_with fail
              refine (isClo pb R.G inp y wr (HI3.out.below (bthen HBl.out HBi.out)) (HREF.out y (List.mem_of_getElem? HY.out))).mono ?_
              rintro e w' ⟨rfl, rfl⟩
              rw [HVV.out]
              go_wp2_with (at_builtin; refine wpList_app el_bool rfl (.tmp 48) (.tmp 52) rfl V.heap.size (.slice A2 j c2) j _ rfl (HOi.out.alloc _) (some ⟨wr.heap.size, 0, none⟩) 1 1 [.bool (valR vv y)] rfl (Rd.new _ #[_] _) rfl (by simp [Value.oneCell']) (by omega) (by simp; omega) ?_; intro A3 c3 w4 ho4 hg4 hat4; have Ho4 := Lib.hid ho4; have Hg4 := Lib.hid hg4; clear ho4 hg4 hat4)
              go_roundw
              case rel => exact ⟨j + 1, A3, c3, by omega, by go_num, rfl, own_step HBi.out HOi.out _ Hg4.out, by show w4.ownsRow _ _ _ _ _ _; rw [take_snoc HY.out, List.map_append, List.map_append]; exact Ho4.out⟩
              case measure => simp [intOf]; omega
            · obtain rfl : sn = j := by omega
              have hrd := Rd.of_own HOi.out
              rw [List.take_of_length_le (by rw [HLN.out]; omega)] at hrd
              have HRD := Lib.hid hrd
              clear hrd hjl
              go_wp2_with fail
              refine (sumsValue A2 sA sn c2 sc (l.map (valR vv)) wr HRD (by show _ = _; simp; exact HLN.out) hw1 hw16).mono ?_
              rintro e w' ⟨rfl, rfl⟩
              have HBk' := Lib.hid (HBk.out.below HBi.out HBk.out.lt)
              have HOw' : Hid (wr.ownsRow w3.heap.size 39 1 (.slice A1 k c1) k (((R.ins.take k).map fun l => numB (l.map (valR vv))).map (Value.int .u32))) := own_fr HOw.out (Fr.of_below (F := fun _ => False) HBi.out) (fun _ _ h => h)
              have HBl' : Hid (Below w3.heap.size w3 wr) := bthen HBl.out HBi.out
              have hsw : w3.heap.size < wr.heap.size := by omega
              have q0 : wr.cell? ⟨w3.heap.size, 0, none⟩ = some (.slice A1 k c1) := HBk'.out.cell 0
              generalize hnb : numB (l.map (valR vv)) = N at *
              have HNB := Lib.hid hnb
              clear hnb HOw HBk HOi HBl
              go_wp2_with (at_builtin; refine wpList_app el_word rfl (.tmp 62) (.tmp 64) rfl w3.heap.size (.slice A1 k c1) k _ rfl (HOw'.out.alloc _) (some ⟨wr.heap.size, 0, none⟩) 1 1 [.int .u32 N] rfl (Rd.new _ #[_] _) rfl (by simp [Value.oneCell']) (by omega) (by simp; omega) ?_; intro A3 c3 w4 ho4 hg4 hat4; have Ho4 := Lib.hid ho4; have HB4 := Lib.hid (Bk.grown (HBk'.out.alloc _) hg4 (own_ne HOw'.out HBk'.out (by decide))); have HBl4 := Lib.hid ((HBl'.out.alloc (Nat.le_of_lt hsw) _).grown hg4 (by simp; omega) (fun q hq => (HOw'.out.lt q hq).1)); have q4 := HB4.out.cell 0; have f4 := HB4.out.frozen 0; clear ho4 hg4 hat4)
              go_roundw
              case rel =>
                refine ⟨k + 1, A3, c3, by omega, by go_num, HBl4.out.setCell (p := ⟨w3.heap.size, 0, none⟩) (Nat.le_refl _) _, HB4.out.put 0 _, ?_⟩
                have h := ownsRow_setCell_other Ho4.out (a := ⟨w3.heap.size, 0, none⟩) (fun e => own_ne Ho4.out HB4.out (by decide) e.symm) (.slice A3 (k + 1) c3)
                show World.ownsRow _ _ _ _ _ _ _
                rw [take_snoc HL.out, List.map_append, List.map_append, List.map_singleton, List.map_singleton, HNB.out]
                exact h
              case measure => simp [intOf]; omega
        · obtain rfl : nI = k := by omega
          have hfull : R.ins.take nI = R.ins := List.take_of_length_le (by rw [← HIL.out.len, HIL.out.sn]; omega)
          have hown := HOw.out
          rw [hfull] at hown
          have HOI := Lib.hid hown
          clear hown hfull HOw hlt
          have HBw : Hid (Below w.heap.size w wr) := bthen HB3.out HBl.out
          have HXr := Lib.hid (HX3.out.below HBl.out HX3.out.lt)
          have x5 : wr.cell? ⟨w.heap.size, 5, none⟩ = some (.slice AC nC cC) := HXr.out.cell 5
          go_wp2
          clear x5 HXr HBw
          go_loopw [71] (fun i wr => ∃ (k n2 : Nat) (A2 : Option Addr) (c2 : Nat), k ≤ nC ∧ n2 ≤ k ∧ i = .int .i64 k ∧ Hid (Below w3.heap.size w3 wr) ∧ Hid (Bk wr w3.heap.size 51 #[.slice A1 nI c1, .int .i64 pt, .slice A2 n2 c2]) ∧
            Hid (wr.ownsRow w3.heap.size 39 1 (.slice A1 nI c1) nI ((R.ins.map fun l => numB (l.map (valR vv))).map (Value.int .u32))) ∧
            Hid (wr.ownsRow w3.heap.size 4 1 (.slice A2 n2 c2) n2 ((keepL (valR vv) ((R.cached.zip R.keep).take k)).map Value.bool))) (fun i _ => nC - (intOf i).toNat)
          case atStart => exact ⟨0, 0, none, 0, Nat.zero_le _, Nat.le_refl _, rfl, HBl, HBk, HOI, ⟨rfl, .inl ⟨rfl, rfl⟩⟩⟩
          case round =>
            obtain ⟨k, n2, A2, c2, hk, hn2, rfl, HBr, HBs, HOa, HOb⟩ := hrel
            clear HBl HBk HOI
            have HBw : Hid (Below w.heap.size w wr) := bthen HB3.out HBr.out
            by_cases hlt : k < nC
            · have hnK : nK = nC := by
                have h1 := HCC.out.2.1
                have h2 := HKK.out.2.1
                have h3 := HRS.out.keepn
                dsimp only at h1 h2
                omega
              obtain ⟨b2, o2, y, rfl, hy, hc2⟩ := (HCC.out.1.below HBw.out).getm HCC.out.2.1 hlt
              obtain ⟨b3, o3, z, rfl, hz, hc3⟩ := (HKK.out.1.below HBw.out).getm HKK.out.2.1 (k := k) (by dsimp only; omega)
              have HYc := Lib.hid (HRS.out.cached y (List.mem_of_getElem? hy))
              have HZc := Lib.hid (HRS.out.keep z (List.mem_of_getElem? hz))
              have hzip : (R.cached.zip R.keep)[k]? = some (y, z) := by rw [List.getElem?_zip_eq_some]; exact ⟨hy, hz⟩
              have HZP := Lib.hid hzip
              have hkK : k < nK := by omega
              have HZG := Lib.hid hz
              clear hy hz hzip hnK
              go_wp2_with fail
              refine (isClo pb R.G inp y wr (HI3.out.below HBr.out) HYc.out).mono ?_
              rintro e w' ⟨rfl, rfl⟩
              rw [HVV.out]
              cases hvy : valR vv y with
              | false =>
                have HVY := Lib.hid hvy
                clear hvy
                go_wp2
                go_roundw
                case rel =>
                  refine ⟨k + 1, n2, A2, c2, by omega, by omega, by go_num, HBr, HBs, HOa, ?_⟩
                  show World.ownsRow _ _ _ _ _ _ _
                  rw [take_snoc HZP.out, keepL_snoc, HVY.out]
                  exact HOb.out
                case measure => simp [intOf]; omega
              | true =>
                have HVY := Lib.hid hvy
                clear hvy
                have HXr := Lib.hid (HX3.out.below HBr.out HX3.out.lt)
                have x4 : wr.cell? ⟨w.heap.size, 4, none⟩ = some (.slice (some ⟨b3, o3, none⟩) nK cK) := HXr.out.cell 4
                have q2 : wr.cell? ⟨w3.heap.size, 2, none⟩ = some (.slice A2 n2 c2) := HBs.out.cell 2
                have HID := Lib.hid ((HI3.out.below HBr.out).below (Below.refl _ wr).drew)
                have hsw : w3.heap.size < wr.heap.size := HBs.out.lt
                have HNE : Hid ((Value.slice A1 nI c1).ownBlock = none ∨ (Value.slice A1 nI c1).ownBlock ≠ (Value.slice A2 n2 c2).ownBlock) := own_apart HOa.out HOb.out (by decide)
                go_wp2_with fail
                go_region_law
                  (first
                    | (go_simp; go_at_call 76
                       refine (isClo pb R.G inp z _ HID.out HZc.out).mono ?_
                       rintro e w' ⟨rfl, rfl⟩
                       rw [HVV.out])
                    | (refine step_app el_bool rfl (.tmp 80) (.tmp 88) rfl w3.heap.size (.slice A2 n2 c2) n2 ((keepL (valR vv) ((R.cached.zip R.keep).take k)).map Value.bool) rfl ?_ (some ⟨_, 0, none⟩) 1 1 [.bool (valR vv z)] rfl ?_ rfl (by simp [Value.oneCell']) (by omega) ?_ ?_
                       · (first | exact (HOb.out.drew.alloc _) | exact HOb.out.drew)
                       · (first | exact Rd.newAt _ #[_] _ _ rfl)
                       · (simp; omega)
                       intro A3 c3 w4 ho4 hg4 hat4
                       have Ho4 := Lib.hid ho4
                       have HB4 := Lib.hid (Bk.grown (HBs.out.alloc _).drew hg4 (own_ne HOb.out HBs.out (by decide)))
                       have HBl4 := Lib.hid (((HBr.out.alloc (Nat.le_of_lt hsw) _).drew).grown hg4 (by simp; omega) (fun q hq => (HOb.out.lt q hq).1))
                       have HOa4 := Lib.hid (World.ownsRow.kept (HOa.out.alloc _).drew hg4 HNE.out)
                       have q4 : w4.cell? ⟨w3.heap.size, 2, none⟩ = some (.slice A2 n2 c2) := HB4.out.cell 2
                       have f4 : w4.frozen? ⟨w3.heap.size, 2, none⟩ = false := HB4.out.frozen 2
                       have x44 : w4.cell? ⟨w.heap.size, 4, none⟩ = some (.slice (some ⟨b3, o3, none⟩) nK cK) := (HX3.out.below HBl4.out HX3.out.lt).cell 4
                       have hc4 : w4.cell? ⟨b3, o3 + k, none⟩ = some (.int .i64 z) := (HKK.out.1.below (bthen HB3.out HBl4.out)).get HZG.out
                       clear ho4 hg4 hat4))
                all_goals
                  clear q2 x4 hc2 hc3 hc4 x44
                  go_wp2
                  go_roundw
                  case rel =>
                    refine ⟨k + 1, n2 + 1, A3, c3, by omega, by omega, by go_num, HBl4.out.setCell (p := ⟨w3.heap.size, 2, none⟩) (Nat.le_refl _) _, HB4.out.put 2 _, ?_, ?_⟩
                    · exact ownsRow_setCell_other HOa4.out (a := ⟨w3.heap.size, 2, none⟩) (fun e => own_ne HOa4.out HB4.out (by decide) e.symm) _
                    · have h := ownsRow_setCell_other Ho4.out (a := ⟨w3.heap.size, 2, none⟩) (fun e => own_ne Ho4.out HB4.out (by decide) e.symm) (.slice A3 (n2 + 1) c3)
                      show World.ownsRow _ _ _ _ _ _ _
                      rw [take_snoc HZP.out, keepL_snoc, HVY.out, if_pos rfl, List.map_append]
                      exact h
                  case measure => simp [intOf]; omega
            · obtain rfl : nC = k := by omega
              have hfull : (R.cached.zip R.keep).take nC = R.cached.zip R.keep := List.take_of_length_le (by
                have h1 := HCC.out.2.1
                dsimp only at h1
                rw [List.length_zip]
                omega)
              have hob := HOb.out
              rw [hfull] at hob
              have HOB := Lib.hid hob
              clear hob hfull HOb hlt
              have HYr := Lib.hid (HY3.out.below HBr.out HY3.out.lt)
              have s0 : wr.cell? ⟨w3.heap.size, 0, none⟩ = some (.slice A1 nI c1) := HBs.out.cell 0
              have s1 : wr.cell? ⟨w3.heap.size, 1, none⟩ = some (.int .i64 pt) := HBs.out.cell 1
              have s2 : wr.cell? ⟨w3.heap.size, 2, none⟩ = some (.slice A2 n2 c2) := HBs.out.cell 2
              have y0 : wr.cell? ⟨w.heap.size + 1, 0, none⟩ = some (.slice none 0 0) := HYr.out.cell 0
              have y1 : wr.cell? ⟨w.heap.size + 1, 1, none⟩ = some (.int .i64 0) := HYr.out.cell 1
              have y2 : wr.cell? ⟨w.heap.size + 1, 2, none⟩ = some (.slice none 0 0) := HYr.out.cell 2
              have z0 := HYr.out.frozen 0
              have z1 := HYr.out.frozen 1
              have z2 := HYr.out.frozen 2
              go_wp2
              have HF := Lib.hid (((HYr.out.put 0 (.slice A1 nI c1)).put 1 (.int .i64 (pt : Int))).put 2 (.slice A2 n2 c2))
              have HFB := Lib.hid ((((Below.refl (w.heap.size + 1) wr).setCell (p := ⟨w.heap.size + 1, 0, none⟩) (Nat.le_refl _) (.slice A1 nI c1)).setCell (p := ⟨w.heap.size + 1, 1, none⟩) (Nat.le_refl _) (.int .i64 (pt : Int))).setCell (p := ⟨w.heap.size + 1, 2, none⟩) (Nat.le_refl _) (.slice A2 n2 c2))
              clear y0 y1 y2 z0 z1 z2
              have HOA' : Hid (Rd (((wr.setCell ⟨w.heap.size + 1, 0, none⟩ (.slice A1 nI c1)).setCell ⟨w.heap.size + 1, 1, none⟩ (.int .i64 (pt : Int))).setCell ⟨w.heap.size + 1, 2, none⟩ (.slice A2 n2 c2)) A1 ((R.ins.map fun l => numB (l.map (valR vv))).map (Value.int .u32))) := Rd.of_own (ownsRow_setCell_below (ownsRow_setCell_below (ownsRow_setCell_below HOa.out (a := ⟨w.heap.size + 1, 0, none⟩) hs3 _) (a := ⟨w.heap.size + 1, 1, none⟩) hs3 _) (a := ⟨w.heap.size + 1, 2, none⟩) hs3 _)
              have HOB' : Hid (Rd (((wr.setCell ⟨w.heap.size + 1, 0, none⟩ (.slice A1 nI c1)).setCell ⟨w.heap.size + 1, 1, none⟩ (.int .i64 (pt : Int))).setCell ⟨w.heap.size + 1, 2, none⟩ (.slice A2 n2 c2)) A2 ((keepL (valR vv) (R.cached.zip R.keep)).map Value.bool)) := Rd.of_own (ownsRow_setCell_below (ownsRow_setCell_below (ownsRow_setCell_below HOB.out (a := ⟨w.heap.size + 1, 0, none⟩) hs3 _) (a := ⟨w.heap.size + 1, 1, none⟩) hs3 _) (a := ⟨w.heap.size + 1, 2, none⟩) hs3 _)
              clear s0 s1 s2
              generalize (((wr.setCell ⟨w.heap.size + 1, 0, none⟩ (.slice A1 nI c1)).setCell ⟨w.heap.size + 1, 1, none⟩ (.int .i64 (pt : Int))).setCell ⟨w.heap.size + 1, 2, none⟩ (.slice A2 n2 c2)) = WF at *
              have r0 : WF.cell? ⟨w.heap.size + 1, 0, none⟩ = some (.slice A1 nI c1) := HF.out.cell 0
              have r1 : WF.cell? ⟨w.heap.size + 1, 1, none⟩ = some (.int .i64 (pt : Int)) := HF.out.cell 1
              have r2 : WF.cell? ⟨w.heap.size + 1, 2, none⟩ = some (.slice A2 n2 c2) := HF.out.cell 2
              refine bodyPost_ret (v := .tuple #[.agg #[.slice A1 nI c1, .int .i64 (pt : Int), .slice A2 n2 c2], .int .i64 0]) (by simp [results, Try.results11, go_sem, r0, r1, r2]) rfl ?_
              have hsch : schedR R inp = ⟨R.ins.map fun l => numB (l.map (valR vv)), pt, keepL (valR vv) (R.cached.zip R.keep)⟩ := by rw [schedR, hl.out, HE.out, if_pos rfl, HVV.out, schedV, HPT.out]
              have hk1 := HOB.out.1
              rw [HE.out, hsch]
              refine ⟨⟨A1, nI, c1⟩, ⟨A2, n2, c2⟩, rfl, HOA'.out, ?_, HOB'.out, ?_, by dsimp only; omega, by dsimp only; omega, (bthen HB3.out HBr.out).trans (HFB.out.mono (Nat.le_succ _))⟩
              · dsimp only; rw [List.length_map, ← HIL.out.len, HIL.out.sn]
              · dsimp only; simpa using hk1
    · have hd : decide (m = (inputsOf R.G).length) = false := decide_eq_false hin
      have HE : Hid (errR R m = 421) := by show _ = _; rw [errR, HRT.out, if_pos rfl, if_neg hin]
      rw [hd]
      clear hd hin HI
      have y0 : w2.cell? ⟨w.heap.size + 1, 0, none⟩ = some (.slice none 0 0) := HY2.out.cell 0
      have y1 : w2.cell? ⟨w.heap.size + 1, 1, none⟩ = some (.int .i64 0) := HY2.out.cell 1
      have y2 : w2.cell? ⟨w.heap.size + 1, 2, none⟩ = some (.slice none 0 0) := HY2.out.cell 2
      have z0 := HY2.out.frozen 0
      have z1 := HY2.out.frozen 1
      have z2 := HY2.out.frozen 2
      go_wp2
      have HF := Lib.hid (((HY2.out.put 0 (.slice none 0 0)).put 1 (.int .i64 0)).put 2 (.slice none 0 0))
      have HFB := Lib.hid ((((Below.refl (w.heap.size + 1) w2).setCell (p := ⟨w.heap.size + 1, 0, none⟩) (Nat.le_refl _) (.slice none 0 0)).setCell (p := ⟨w.heap.size + 1, 1, none⟩) (Nat.le_refl _) (.int .i64 0)).setCell (p := ⟨w.heap.size + 1, 2, none⟩) (Nat.le_refl _) (.slice none 0 0))
      clear y0 y1 y2 z0 z1 z2
      generalize (((w2.setCell ⟨w.heap.size + 1, 0, none⟩ (.slice none 0 0)).setCell ⟨w.heap.size + 1, 1, none⟩ (.int .i64 0)).setCell ⟨w.heap.size + 1, 2, none⟩ (.slice none 0 0)) = WF at *
      have r0 : WF.cell? ⟨w.heap.size + 1, 0, none⟩ = some (.slice none 0 0) := HF.out.cell 0
      have r1 : WF.cell? ⟨w.heap.size + 1, 1, none⟩ = some (.int .i64 0) := HF.out.cell 1
      have r2 : WF.cell? ⟨w.heap.size + 1, 2, none⟩ = some (.slice none 0 0) := HF.out.cell 2
      refine bodyPost_ret (v := .tuple #[.agg #[.slice none 0 0, .int .i64 0, .slice none 0 0], .int .i64 421]) (by simp [results, Try.results11, go_sem, r0, r1, r2]) rfl ?_
      have he : errR R m = 421 := HE.out
      have hsch : schedR R inp = ⟨[], 0, []⟩ := by rw [schedR, hl.out, he]; rfl
      rw [he, hsch]
      exact ⟨⟨none, 0, 0⟩, ⟨none, 0, 0⟩, rfl, Rd.nil, rfl, Rd.nil, rfl, Nat.zero_le _, Nat.zero_le _, HB2.out.trans (HFB.out.mono (Nat.le_succ _))⟩
end Go.Proofs.Ytamoniljgifggaa

