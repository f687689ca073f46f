/-
  Contracts of decode.values and of the function that it returns.
-/
import Derived.Test.YtamoniljgifggaaDecR
set_option linter.unusedVariables false
set_option linter.unusedSimpArgs false
namespace Go.Proofs.Ytamoniljgifggaa
open Go.RowKit

theorem el_u64 : El Try.prog 150 151 1 := El.mk' (z := .int .u64 0) (bytes := 8) Try.underlying150 (by kernel_rfl) rfl (by omega) (by omega)

theorem own_cap {w : World} {base : Nat} {e : TypeId} {A : Option Addr} {n c : Nat} {xs : List Value} (h : w.ownsRow base e 1 (.slice A n c) n xs) : n ≤ c := by
  rcases h.2 with ⟨h0, h1⟩ | ⟨g', cap, cur, h0, _, hh, h3, _⟩
  · omega
  · injection h0 with _ _ h0
    omega

/-- A box with the words of all nodes. -/
structure IsAt (w : World) (pb : Nat) (G : List Nd) (inp : List Bool) : Prop where
  lt : pb < w.heap.size
  ex : ∃ (ob n : Nat) (ws : List Int), w.cell? ⟨pb, 0, none⟩ = some (.slice (some ⟨ob, 0, none⟩) n n) ∧ G.length = n ∧ n ≤ 65536 ∧ ws.length = n ∧ (∀ u ∈ ws, U64 u) ∧ ws.map bit0 = evalG G inp ∧ Bk w ob 151 (wcells n ws)
theorem IsAt.below {w w' : World} {pb : Nat} {G : List Nd} {inp : List Bool} (h : IsAt w pb G inp) (hb : Below w.heap.size w w') : IsAt w' pb G inp := by
  obtain ⟨hl, ob, n, ws, hc, h1, h2, h3, h4, h5, h6⟩ := h
  exact ⟨Nat.lt_of_lt_of_le hl hb.size, ob, n, ws, (World.cell?_of_block (hb.block pb hl)).trans hc, h1, h2, h3, h4, h5, h6.below hb h6.lt⟩

theorem isClo (pb : Nat) (G : List Nd) (inp : List Bool) (r : Int) (w : World) (h : IsAt w pb G inp) (hr : refOk G r = true) :
    Calls Try.prog 76 #[.int .i64 r, .pointer (some ⟨pb, 0, none⟩)] w fun e w' => e = .returned (.bool (valR (evalG G inp) r)) ∧ w = w' := by
  obtain ⟨hl, ob, n, ws, cb, hn, hn6, hw, hU, hv, hB⟩ := h
  have hr' := of_decide_eq_true hr
  rw [hn] at hr'
  obtain ⟨h0, h1⟩ := hr'
  have hi : r / 2 < (n : Int) := by omega
  have hil : (r / 2).toNat < ws.length := by omega
  have hg : ws[(r / 2).toNat]? = some (ws[(r / 2).toNat]'hil) := List.getElem?_eq_getElem _
  have hu64 := hU _ (List.getElem_mem hil)
  generalize ws[(r / 2).toNat]'hil = u at *
  have hval : valR (evalG G inp) r = (bit0 u != decide (r % 2 = 1)) := by
    unfold valR
    rw [← hv, List.getD_eq_getElem?_getD, List.getElem?_map, hg]
    rfl
  have cu : w.cell? ⟨ob, (r / 2).toNat, none⟩ = some (.int .u64 u) := by
    have := wcells_at (n := n) hg
    unfold Bk at hB
    simp only [World.cell?, hB]
    simpa using this
  have hb1 := u64_one u hu64
  rw [hval]
  clear hval hv hU hu64 hg hB hw hn hr hil
  generalize bit0 u = t at *
  by_cases hm : r % 2 = 1
  · have hb2 : (r % 2 == 1) = true := by simpa using hm
    have hd : decide (r % 2 = 1) = true := by simpa using hm
    rw [hd]
    clear hm hd
    go_enter Try.func76, Try.ntmps76
    go_wp2
    go_ret
    refine ⟨ret_bool ?_, rfl⟩
    cases t <;> rfl
  · have hb2 : (r % 2 == 1) = false := by simpa using hm
    have hd : decide (r % 2 = 1) = false := by simpa using hm
    rw [hd]
    clear hm hd
    go_enter Try.func76, Try.ntmps76
    go_wp2
    go_ret
    refine ⟨ret_bool ?_, rfl⟩
    cases t <;> rfl

set_option maxHeartbeats 1000000 in
set_option maxRecDepth 100000 in
theorem decValues (B : Nat) (M : Int) (x : RV) (R : Res) (A : Option Addr) (m c : Nat) (inp : List Bool) (w : World) (h : Hid (ResAt w B M x R)) (hr : Hid (Rd w A (inp.map Value.bool))) (hl : Hid (inp.length = m)) (hm : m ≤ 1000000) :
    Calls Try.prog 38 #[.agg #[.pointer (some ⟨x.g, 0, none⟩), .slice x.I.A x.I.n x.I.c, .int .i64 R.req, .slice x.O.A x.O.n x.O.c, .slice x.K.A x.K.n x.K.c, .slice x.C.A x.C.n x.C.c, .slice x.R.A x.R.n x.R.c, .int .i64 R.bey, .int .i64 R.hol], .slice A m c] w fun e w' => ∃ pb, e = .returned (.tuple #[.func (.func 76) #[] #[.pointer (some ⟨pb, 0, none⟩)], .bool (decide (m = (inputsOf R.G).length))]) ∧
      (m = (inputsOf R.G).length → IsAt w' pb R.G inp) ∧ Below w.heap.size w w' := by
  have hgl := h.out.glen
  have HG := Lib.hid h.out.g
  have HOK := Lib.hid h.out.gok
  clear h
  obtain ⟨g, ⟨AI, nI, cI⟩, S, ⟨AO, nO, cO⟩, ⟨AK, nK, cK⟩, ⟨AC, nC, cC⟩, ⟨AR, nR, cR⟩⟩ := x
  dsimp only at HG
  have hb0 : Below w.heap.size w (w.alloc (.cells #[.pointer (some ⟨g, 0, none⟩), .slice AI nI cI, .int .i64 R.req, .slice AO nO cO, .slice AK nK cK, .slice AC nC cC, .slice AR nR cR, .int .i64 R.bey, .int .i64 R.hol] 49)) := (Below.refl _ w).alloc (Nat.le_refl _) _
  have hx0 := Bk.new w 49 #[.pointer (some ⟨g, 0, none⟩), .slice AI nI cI, .int .i64 R.req, .slice AO nO cO, .slice AK nK cK, .slice AC nC cC, .slice AR nR cR, .int .i64 R.bey, .int .i64 R.hol]
  have HB0 := Lib.hid hb0; have HX0 := Lib.hid hx0
  clear hb0 hx0
  dsimp only
  go_enter Try.func38, Try.ntmps38
  go_wp2
  have hs0 : w.heap.size < (w.alloc (.cells #[.pointer (some ⟨g, 0, none⟩), .slice AI nI cI, .int .i64 R.req, .slice AO nO cO, .slice AK nK cK, .slice AC nC cC, .slice AR nR cR, .int .i64 R.bey, .int .i64 R.hol] 49)).heap.size := by simp
  generalize (w.alloc (.cells #[.pointer (some ⟨g, 0, none⟩), .slice AI nI cI, .int .i64 R.req, .slice AO nO cO, .slice AK nK cK, .slice AC nC cC, .slice AR nR cR, .int .i64 R.bey, .int .i64 R.hol] 49)) = W0 at *
  go_loopw [6, 14] (fun v i wr => ∃ (k : Nat) (A' : Option Addr) (c' : Nat), k ≤ m ∧ i = .int .i64 k ∧ v = .slice A' k c' ∧ Hid (wr.ownsRow W0.heap.size 151 1 (.slice A' k c') k (((inp.take k).map bitI).map (Value.int .u64))) ∧ Hid (Below W0.heap.size W0 wr)) (fun _ i _ => m - (intOf i).toNat)
  case atStart => exact ⟨0, none, 0, Nat.zero_le _, rfl, rfl, ⟨rfl, .inl ⟨rfl, rfl⟩⟩, Below.refl _ _⟩
  case round =>
    obtain ⟨k, A', c', hk, rfl, rfl, Ho, Hb⟩ := hrel
    have hsz : W0.heap.size ≤ wr.heap.size := Hb.out.size
    by_cases hlt : k < m
    · obtain ⟨b1, o1, y, rfl, hy, hc1⟩ := (hr.out.below (bthen HB0.out Hb.out)).getm hl.out hlt
      have HY := Lib.hid hy; clear hy
      cases y
      all_goals
        go_wp2_with (at_builtin; refine wpList_app el_u64 rfl (.tmp 19) (.tmp 21) rfl W0.heap.size (.slice A' k c') k _ rfl (Ho.out.alloc _) (some ⟨wr.heap.size, 0, none⟩) 1 1 [.int .u64 _] rfl (Rd.new _ #[_] _) rfl (by simp [Value.oneCell']) (by omega) (by simp; omega) ?_; intro A2 c2 w1 ho1 hg1 hat1; have Ho1 := Lib.hid ho1; have Hg1 := Lib.hid hg1; clear ho1 hg1 hat1)
        go_roundw
        case rel => exact ⟨k + 1, A2, c2, by omega, by go_num, rfl, by show w1.ownsRow _ _ _ _ _ _; rw [take_snoc HY.out, List.map_append, List.map_append]; exact Ho1.out, own_step Hb.out Ho.out _ Hg1.out⟩
        case measure => simp [intOf]; omega
    · obtain rfl : m = k := by omega
      have hcap : m ≤ c' := own_cap Ho.out
      have hrd := Rd.of_own Ho.out
      rw [List.take_of_length_le (by rw [hl.out]; omega)] at hrd
      have HRD := Lib.hid hrd
      have HBw : Hid (Below w.heap.size w wr) := bthen HB0.out Hb.out
      have c0 : wr.cell? ⟨w.heap.size, 0, none⟩ = some (.pointer (some ⟨g, 0, none⟩)) := (HX0.out.below Hb.out HX0.out.lt).cell 0
      clear hrd hlt
      by_cases hin : m = (inputsOf R.G).length
      · have hU : ∀ u ∈ inp.map bitI, U64 u := by
          intro u hu
          obtain ⟨b, _, rfl⟩ := List.mem_map.1 hu
          cases b <;> simp [bitI, U64]
        have hv : (inp.map bitI).map bit0 = inp := by
          rw [List.map_map]
          conv => rhs; rw [← List.map_id inp]
          refine List.map_congr_left ?_
          intro b _
          cases b <;> rfl
        have hc := simNodes_ok B g M R.G inp (inp.map bitI) A' m c' R.G.length wr (HG.out.below HBw.out) HOK rfl hgl.2 hgl.1 HRD hU hv (by show _ = _; simp; exact hl.out) hin hcap
        have HC := Lib.hid hc; have HIN := Lib.hid hin
        clear hc hin hU hv
        go_wp2_with fail
        refine HC.out.mono ?_
        rintro e w1 ⟨ob, ws, rfl, hwl, hU, hv, hB, hob, hb1⟩
        have HWL := Lib.hid hwl; have HU := Lib.hid hU; have HV := Lib.hid hv; have HBk := Lib.hid hB; have HB1 := Lib.hid hb1
        clear hwl hU hv hB hb1 c0 HC
        go_wp2
        go_ret2
        rw [show decide (m = (inputsOf R.G).length) = true from decide_eq_true HIN.out]
        refine ⟨w1.heap.size, rfl, fun _ => ⟨by simp, ob, R.G.length, ws, ?_, rfl, hgl.2, HWL.out, HU.out, HV.out, ?_⟩, ?_⟩
        · simp
        · exact HBk.out.alloc _
        · exact ((bthen HBw.out HB1.out).alloc (by have := HBw.out.size; have := HB1.out.size; omega) _)
      · have hc := simNodes_bad B g M R.G A' m c' wr (HG.out.below HBw.out) hgl.1 hgl.2 hin
        have HC := Lib.hid hc; have HIN := Lib.hid hin
        clear hc hin
        go_wp2_with fail
        refine HC.out.mono ?_
        rintro e w1 ⟨rfl, hb1⟩
        have HB1 := Lib.hid hb1
        clear hb1 c0 HC
        go_wp2
        go_ret2
        rw [show decide (m = (inputsOf R.G).length) = false from decide_eq_false HIN.out]
        refine ⟨w1.heap.size, rfl, fun h => absurd h HIN.out, ?_⟩
        exact ((bthen HBw.out HB1.out).alloc (by have := HBw.out.size; have := HB1.out.size; omega) _)
end Go.Proofs.Ytamoniljgifggaa

