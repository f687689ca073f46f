/-
  Contracts of the reference's Width, value and Values.
-/
import Derived.Test.YtamoniljgifggaaSched
import Derived.Test.YtamoniljgifggaaRef20
set_option linter.unusedVariables false
set_option linter.unusedSimpArgs false
namespace Go.Proofs.Ytamoniljgifggaa
open Go.RowKit

theorem rwidth (n : Int) (w : World) (h0 : 0 ≤ n) (h1 : n ≤ 1000000000) :
    Calls Try.prog 60 #[.int .i64 n] w fun e w' => e = .returned (.bool (decide (1 ≤ n ∧ n ≤ 16))) ∧ w = w' := by
  by_cases hn : 0 < n
  · go_enter Try.func60, Try.ntmps60
    go_wp2
    go_ret
    exact ⟨ret_bool (by first | (rw [decide_eq_decide]; omega) | (simp; omega)), rfl⟩
  · have hd : decide (0 < n) = false := by simpa using hn
    go_enter Try.func60, Try.ntmps60
    go_wp2
    go_ret
    exact ⟨ret_bool (by first | rfl | (simp; omega)), rfl⟩

theorem xor_bit (b : Bool) (r : Int) (h0 : 0 ≤ r) : bits .xor .i64 (bitI b) (r % 2) = bitI (b != decide (r % 2 = 1)) := by
  by_cases h : r % 2 = 1
  · rw [h]
    cases b <;> decide
  · have h2 : r % 2 = 0 := by omega
    rw [h2]
    cases b <;> decide

theorem rvalue (A : Option Addr) (n c : Nat) (vals : List Bool) (r : Int) (w : World) (hr : Rd w A ((vals.map bitI).map (Value.int .i64))) (hl : vals.length = n) (hn : n ≤ 1000000) (h0 : 0 ≤ r) (h1 : r < 2 * n) :
    Calls Try.prog 66 #[.slice A n c, .int .i64 r] w fun e w' => e = .returned (.int .i64 (bitI (valR vals r))) ∧ w = w' := by
  obtain ⟨b, o, u, rfl, hu, hc⟩ := hr.getm (k := (r / 2).toNat) (n := n) (by rw [List.length_map]; exact hl) (by omega)
  obtain ⟨y, hy, hv⟩ := valR_lt (vals := vals) h0 (by rw [hl]; exact h1)
  rw [List.getElem?_map, hy] at hu
  have hu' : bitI y = u := by simpa using hu
  have hx := xor_bit y r h0
  rw [hu'] at hx
  rw [hv]
  have hi : r / 2 < (n : Int) := by omega
  generalize bitI (y != decide (r % 2 = 1)) = t at *
  clear hu hu' hv hy hr hl
  go_enter Try.func66, Try.ntmps66
  go_wp2
  go_ret
  exact ⟨rfl, rfl⟩
theorem rvalueQ (A : Option Addr) (m c : Nat) (vals : List Bool) (r : Int) (w : World) (hr : Rd w A ((vals.map bitI).map (Value.int .i64))) (hl : vals.length = m) (hn : m ≤ 1000000) (h0 : 0 ≤ r) (h1 : r < 2 * m) (n : Nat) :
    Calls Try.prog 66 #[.slice A m c, .int .i64 r] (w.drewN n) fun e w' => e = .returned (.int .i64 (bitI (valR vals r))) ∧ w' = w.drewN n := by
  refine (rvalue A m c vals r (w.drewN n) (hr.drewN n) hl hn h0 h1).mono ?_
  rintro e w' ⟨rfl, rfl⟩
  exact ⟨rfl, rfl⟩

theorem Rd.getl {α : Type} {w : World} {A : Option Addr} {f : α → Value} {l : List α} {n k : Nat} (h : Rd w A (l.map f)) (hl : l.length = n) (hk : k < n) : ∃ b off x, A = some ⟨b, off, none⟩ ∧ l[k]? = some x ∧ b < w.heap.size ∧ w.cell? ⟨b, off + k, none⟩ = some (f x) := by
  have hx : l[k]? = some (l[k]'(by omega)) := List.getElem?_eq_getElem _
  obtain ⟨b, off, rfl, hb, hc⟩ := h.cells (by intro e; simp at e; subst e; simp at hl; omega)
  exact ⟨b, off, _, rfl, hx, hb, hc k _ (by rw [List.getElem?_map, hx]; rfl)⟩
theorem own_drewN {w : World} {base : Nat} {e : TypeId} {size n : Nat} {v : Value} {xs : List Value} (h : w.ownsRow base e size v n xs) (q : Nat) : (w.drewN q).ownsRow base e size v n xs := h
theorem evalTo_fst (G : List Nd) (inp : List Bool) : (evalTo G inp).1 = evalG G inp := rfl
theorem evalG_snoc3 (G : List Nd) (x : Nd) (inp : List Bool) (h : x.k = 3) : evalG (G ++ [x]) inp = evalG G inp ++ [valR (evalG G inp) x.l && valR (evalG G inp) x.r] := by
  unfold evalG
  rw [evalTo_snoc, evalStep, if_pos h]
theorem evalG_snoc2 (G : List Nd) (x : Nd) (inp : List Bool) (h : x.k = 2) : evalG (G ++ [x]) inp = evalG G inp ++ [(inp.drop (inputsOf G).length).headD false] := by
  unfold evalG
  rw [evalTo_snoc, evalStep, if_neg (by omega), if_pos h, evalTo_rest]
theorem evalG_snoc1 (G : List Nd) (x : Nd) (inp : List Bool) (h : x.k ≠ 2) (h3 : x.k ≠ 3) : evalG (G ++ [x]) inp = evalG G inp ++ [false] := by
  unfold evalG
  rw [evalTo_snoc, evalStep, if_neg h3, if_neg h]

set_option maxHeartbeats 1000000 in
set_option maxRecDepth 100000 in
theorem rvalues (M : Int) (A A2 : Option Addr) (n c m c2 : Nat) (G : List Nd) (inp : List Bool) (w : World) (hG : Hid (GOk G)) (hr : Hid (Rd w A (rcells G))) (hl : Hid (G.length = n)) (hn : n ≤ 65536)
    (hr2 : Hid (Rd w A2 ((inp.map bitI).map (Value.int .i64)))) (hl2 : Hid (inp.length = m)) (hm : Hid (m = (inputsOf G).length)) (hm' : m ≤ 1000000) :
    Calls Try.prog 65 #[.agg #[.int .i64 M, .slice A n c], .slice A2 m c2] w fun e w' => ∃ A' c', e = .returned (.slice A' n c') ∧ w'.ownsRow w.heap.size 3 1 (.slice A' n c') n (((evalG G inp).map bitI).map (Value.int .i64)) ∧ Below w.heap.size w w' := by
  have hx0 := Bk.new w 67 #[.int .i64 M, .slice A n c]
  have hb0 : Below w.heap.size w (w.alloc (.cells #[.int .i64 M, .slice A n c] 67)) := (Below.refl _ w).alloc (Nat.le_refl _) _
  have HX0 := Lib.hid hx0; have HB0 := Lib.hid hb0
  clear hx0 hb0
  go_enter Try.func65, Try.ntmps65
  go_wp2
  have hs0 : w.heap.size < (w.alloc (.cells #[.int .i64 M, .slice A n c] 67)).heap.size := by simp
  generalize (w.alloc (.cells #[.int .i64 M, .slice A n c] 67)) = W0 at *
  go_loopw [5, 6, 7] (fun v kk i wr => ∃ (k q : Nat) (A' : Option Addr) (c' : Nat), k ≤ n ∧ q ≤ m ∧ i = .int .i64 k ∧ kk = .int .i64 q ∧ v = .slice A' k c' ∧ Hid (q = (inputsOf (G.take k)).length) ∧ Hid (wr.ownsRow W0.heap.size 3 1 (.slice A' k c') k (((evalG (G.take k) inp).map bitI).map (Value.int .i64))) ∧ Hid (Below W0.heap.size W0 wr)) (fun _ _ i _ => n - (intOf i).toNat)
  case atStart => exact ⟨0, 0, none, 0, Nat.zero_le _, Nat.zero_le _, rfl, rfl, rfl, rfl, ⟨rfl, .inl ⟨rfl, rfl⟩⟩, Below.refl _ _⟩
  case round =>
    obtain ⟨k, q, A', c', hk, hq, rfl, rfl, rfl, Hq, Ho, Hb⟩ := hrel
    have hsz : W0.heap.size ≤ wr.heap.size := Hb.out.size
    have HBw : Hid (Below w.heap.size w wr) := bthen HB0.out Hb.out
    have x1 : wr.cell? ⟨w.heap.size, 1, none⟩ = some (.slice A n c) := (HX0.out.below Hb.out HX0.out.lt).cell 1
    have hsw : w.heap.size < wr.heap.size := by omega
    by_cases hlt : k < n
    · obtain ⟨b1, o1, x, rfl, hx, hb1, d0, d1, d2⟩ := (hr.out.below HBw.out).node hl.out hlt
      obtain ⟨xk, xl, xr⟩ := x
      dsimp only at d0 d1 d2
      have hok := hG.out k _ hx
      dsimp only at hok
      have HY := Lib.hid hx; have HOK := Lib.hid hok
      have hnew : ∀ b : Bool, evalG (G.take (k + 1)) inp = evalG (G.take k) inp ++ [b] → ∀ (A3 : Option Addr) (c3 : Nat) (w1 : World), w1.ownsRow W0.heap.size 3 1 (.slice A3 (k + 1) c3) (k + 1) (((evalG (G.take k) inp).map bitI).map (Value.int .i64) ++ [.int .i64 (bitI b)]) → w1.ownsRow W0.heap.size 3 1 (.slice A3 (k + 1) c3) (k + 1) (((evalG (G.take (k + 1)) inp).map bitI).map (Value.int .i64)) := by
        intro b hb A3 c3 w1 h1
        rw [hb, List.map_append, List.map_append]
        exact h1
      have HNEW := Lib.hid hnew
      have HBv := Lib.hid (Hb.out.alloc hsz (.cells #[.int .i64 xk, .int .i64 xl, .int .i64 xr] 127))
      clear hx hok hnew
      by_cases h3 : xk = 3
      · subst h3
        have hs3 := HOK.out.2 rfl
        obtain ⟨hl0, hl1, hr0, hr1⟩ := hs3
        have hvl : (evalG (G.take k) inp).length = k := by rw [evalG_len, List.length_take, hl.out]; omega
        have hrd := Rd.of_own Ho.out
        obtain ⟨b2, o2, u1, hA1, hu1, hb2, e1⟩ := hrd.getl (k := (xl / 2).toNat) (n := k) (by rw [List.length_map]; exact hvl) (by omega)
        obtain ⟨b2', o2', u2, hA2, hu2, _, e2⟩ := hrd.getl (k := (xr / 2).toNat) (n := k) (by rw [List.length_map]; exact hvl) (by omega)
        subst hA1
        injection hA2 with hA2
        injection hA2 with hA21 hA22 _
        subst hA21 hA22
        obtain ⟨y1, hy1, hv1⟩ := valR_lt (vals := evalG (G.take k) inp) hl0 (by rw [hvl]; exact hl1)
        obtain ⟨y2, hy2, hv2⟩ := valR_lt (vals := evalG (G.take k) inp) hr0 (by rw [hvl]; exact hr1)
        rw [List.getElem?_map, hy1] at hu1
        rw [List.getElem?_map, hy2] at hu2
        have hx1 := xor_bit y1 xl hl0
        have hx2 := xor_bit y2 xr hr0
        rw [show bitI y1 = u1 by simpa using hu1, ← hv1] at hx1
        rw [show bitI y2 = u2 by simpa using hu2, ← hv2] at hx2
        have hi1 : xl / 2 < (k : Int) := by omega
        have hi2 : xr / 2 < (k : Int) := by omega
        have hev := evalG_snoc3 (G.take k) _ inp (show (⟨3, xl, xr⟩ : Nd).k = 3 from rfl)
        rw [← take_snoc HY.out] at hev
        dsimp only at hev
        have HEV := Lib.hid hev
        clear hv1 hv2 hu1 hu2 hy1 hy2 hev hrd hvl
        cases t1 : valR (evalG (G.take k) inp) xl <;> cases t2 : valR (evalG (G.take k) inp) xr
        all_goals
          rw [t1] at hx1
          rw [t2] at hx2
          have HT1 := Lib.hid t1; have HT2 := Lib.hid t2
          clear t1 t2
          simp only [bitI, if_true, if_false, Bool.false_eq_true] at hx1 hx2
          go_wp2_with fail
          go_quiet (fail)
          have HOv := Lib.hid (fun (nq : Nat) => own_drewN (Ho.out.alloc (.cells #[.int .i64 3, .int .i64 xl, .int .i64 xr] 127)) nq)
          have HBq := Lib.hid (fun (nq : Nat) => bdrewN HBv.out nq)
          clear e1 e2 hx1 hx2
          go_wp2_with (at_builtin; refine wpList_app el_int rfl (.tmp 55) (.tmp 57) rfl W0.heap.size (.slice (some ⟨b2, o2, none⟩) k c') k _ rfl ((HOv.out _).alloc _) (some ⟨wr.heap.size + 1, 0, none⟩) 1 1 [.int .i64 _] rfl (Rd.newAt _ #[_] _ _ (by simp [World.drewN])) rfl (by simp [Value.oneCell']) (by omega) (by simp [World.drewN]; omega) ?_; intro A3 c3 w1 ho1 hg1 hat1; have Ho1 := Lib.hid ho1; have HB1 := Lib.hid (((HBq.out _).alloc (by simp [World.drewN]; omega) _).grown hg1 (by simp [World.drewN]; omega) (fun q hq => (Ho.out.lt q hq).1)); clear ho1 hg1 hat1)
          go_roundw
          case rel =>
            have hsn := take_snoc HY.out
            refine ⟨k + 1, q, A3, c3, by omega, by omega, by go_num, rfl, rfl, ?_, ?_, HB1⟩
            · show _ = _
              rw [hsn, inputsOf_snoc, if_neg (by show ¬ (3 : Int) = 2; decide)]
              exact Hq.out
            · first
                | (refine HNEW.out false ?_ A3 c3 w1 Ho1.out
                   rw [HEV.out, HT1.out, HT2.out]
                   rfl)
                | (refine HNEW.out true ?_ A3 c3 w1 Ho1.out
                   rw [HEV.out, HT1.out, HT2.out]
                   rfl)
          case measure => simp [intOf]; omega
      · by_cases h2 : xk = 2
        · subst h2
          have hqm : q < m := by
            have := inputsOf_take_lt HY.out rfl
            rw [hm.out, Hq.out]
            exact this
          obtain ⟨b2, o2, u, rfl, hu, hb2, hc2⟩ := (hr2.out.below HBw.out).getl (k := q) (n := m) (by rw [List.length_map]; exact hl2.out) hqm
          have HU := Lib.hid hu
          clear hu h3
          go_wp2_with (at_builtin; refine wpList_app el_int rfl (.tmp 55) (.tmp 57) rfl W0.heap.size (.slice A' k c') k _ rfl ((Ho.out.alloc _).alloc _) (some ⟨wr.heap.size + 1, 0, none⟩) 1 1 [.int .i64 u] rfl (Rd.newAt _ #[_] _ _ (by simp)) rfl (by simp [Value.oneCell']) (by omega) (by simp; omega) ?_; intro A3 c3 w1 ho1 hg1 hat1; have Ho1 := Lib.hid ho1; have HB1 := Lib.hid ((HBv.out.alloc (by simp; omega) _).grown hg1 (by simp; omega) (fun q hq => (Ho.out.lt q hq).1)); clear ho1 hg1 hat1)
          go_roundw
          case rel =>
            have hsn := take_snoc HY.out
            have hbu : inp[q]? = some (inp[q]'(by rw [hl2.out]; exact hqm)) := List.getElem?_eq_getElem _
            have hu := HU.out
            rw [List.getElem?_map, hbu] at hu
            have hu' : bitI (inp[q]'(by rw [hl2.out]; exact hqm)) = u := by simpa using hu
            refine ⟨k + 1, q + 1, A3, c3, by omega, by omega, by go_num, by go_num, rfl, ?_, ?_, HB1⟩
            · show _ = _
              rw [hsn, inputsOf_snoc, if_pos rfl, List.length_append, ← Hq.out]
              rfl
            · refine HNEW.out (inp[q]'(by rw [hl2.out]; exact hqm)) ?_ A3 c3 w1 (by rw [hu']; exact Ho1.out)
              rw [hsn, evalG_snoc2 _ _ _ rfl, ← Hq.out, drop_get hbu]
              rfl
          case measure => simp [intOf]; omega
        · have hk3 : (xk == 3) = false := by simpa using h3
          have hk2 : (xk == 2) = false := by simpa using h2
          have H3 := Lib.hid h3; have H2 := Lib.hid h2
          clear h3 h2
          go_wp2_with (at_builtin; refine wpList_app el_int rfl (.tmp 55) (.tmp 57) rfl W0.heap.size (.slice A' k c') k _ rfl ((Ho.out.alloc _).alloc _) (some ⟨wr.heap.size + 1, 0, none⟩) 1 1 [.int .i64 0] rfl (Rd.newAt _ #[_] _ _ (by simp)) rfl (by simp [Value.oneCell']) (by omega) (by simp; omega) ?_; intro A3 c3 w1 ho1 hg1 hat1; have Ho1 := Lib.hid ho1; have HB1 := Lib.hid ((HBv.out.alloc (by simp; omega) _).grown hg1 (by simp; omega) (fun q hq => (Ho.out.lt q hq).1)); clear ho1 hg1 hat1)
          go_roundw
          case rel =>
            have hsn := take_snoc HY.out
            refine ⟨k + 1, q, A3, c3, by omega, by omega, by go_num, rfl, rfl, ?_, ?_, HB1⟩
            · show _ = _
              rw [hsn, inputsOf_snoc, if_neg H2.out]
              exact Hq.out
            · refine HNEW.out false ?_ A3 c3 w1 Ho1.out
              rw [hsn, evalG_snoc1 _ _ _ H2.out H3.out]
          case measure => simp [intOf]; omega
    · obtain rfl : n = k := by omega
      go_wp2
      go_ret
      have h := Ho.out
      rw [List.take_of_length_le (by rw [hl.out]; omega)] at h
      exact ⟨A', c', rfl, own_mono h (by omega), HBw.out⟩
end Go.Proofs.Ytamoniljgifggaa
