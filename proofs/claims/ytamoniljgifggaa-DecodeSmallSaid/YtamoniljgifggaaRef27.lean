/-
  Contracts of the reference of layer 27 (maps), and of put. Contracts of the reference of layer 27: Right. Contracts of decode.Model and of the reference's Model (written by gen/model.py).
-/
import Derived.Test.YtamoniljgifggaaTse
import Derived.Test.YtamoniljgifggaaRef20
import Derived.Test.YtamoniljgifggaaRefV
import Derived.Test.YtamoniljgifggaaReads
set_option linter.unusedVariables false
set_option linter.unusedSimpArgs false
namespace Go.Proofs.Ytamoniljgifggaa
open Go.RowKit

set_option maxHeartbeats 1000000 in
set_option maxRecDepth 100000 in
theorem rRising (A : Option Addr) (n c : Nat) (m : List Int) (w : World) (hr : Hid (Rd w A (m.map (Value.int .i64)))) (hl : Hid (m.length = n)) (hn : n ≤ 1000000) :
    Calls Try.prog 90 #[.slice A n c] w fun e w' => e = .returned (.bool (ris m)) ∧ ∃ q, w.drewN q = w' := by
  go_enter Try.func90, Try.ntmps90
  go_wp2
  go_loopw [3] (fun v3 wr => ∃ (k q : Nat), k ≤ n ∧ v3 = .int .i64 k ∧ wr = w.drewN q ∧ Hid (risF 0 (m.take k) = true)) (fun v3 _ => n - (intOf v3).toNat)
  case atStart => exact ⟨0, 0, Nat.zero_le _, rfl, rfl, rfl⟩
  case round =>
    obtain ⟨k, q, hk, rfl, rfl, HR⟩ := hrel
    by_cases hlt : k < n
    · obtain ⟨b1, o1, x, rfl, hx, hc1⟩ := hr.out.getm hl.out hlt
      have HX := Lib.hid hx; clear hx
      obtain ⟨last, hlast⟩ : ∃ last, (m.take k).getLastD 0 = last := ⟨_, rfl⟩
      have hsn : Hid (risF 0 (m.take (k + 1)) = decide (last < x ∧ x < 65536)) := by
        show _ = _
        rw [take_snoc HX.out, risF_snoc, HR.out, hlast, Bool.true_and]
      have hno : Hid (¬ (last < x ∧ x < 65536) → ris m = false) := by
        intro h
        have h1 := hsn.out
        rw [decide_eq_false h] at h1
        have h2 := risF_app _ (m.drop (k + 1)) _ h1
        rwa [List.take_append_drop] at h2
      by_cases hk0 : k = 0
      · obtain rfl : 0 = last := by rw [← hlast, hk0]; rfl
        have d0 : decide ((0 : Int) < (k : Int)) = false := decide_eq_false (by omega)
        have d0' : decide (0 < k) = false := decide_eq_false (by omega)
        clear hk0 hlast
        by_cases h1 : x < 1
        · have d1 : decide (x < 1) = true := by simpa using h1
          go_wp2
          go_quiet (fail)
          go_wp2
          go_ret
          exact ⟨ret_bool (hno.out (by omega)).symm, _, by first | rfl | exact (World.drewN_drewN _ _ _).symm⟩
        · have d1 : decide (x < 1) = false := by simp; omega
          by_cases h2 : 65535 < x
          · have d2 : decide (65535 < x) = true := by simpa using h2
            go_wp2
            go_quiet (fail)
            go_wp2
            go_ret
            exact ⟨ret_bool (hno.out (by omega)).symm, _, by first | rfl | exact (World.drewN_drewN _ _ _).symm⟩
          · have d2 : decide (65535 < x) = false := by simp; omega
            go_wp2
            go_quiet (fail)
            go_wp2
            go_roundw
            case rel => exact ⟨k + 1, _, by omega, by go_num, by first | rfl | exact World.drewN_drewN _ _ _, by show _ = _; rw [hsn.out, decide_eq_true_eq]; omega⟩
            case measure => simp [intOf]; omega
      · obtain ⟨p, rfl⟩ : ∃ p, k = p + 1 := ⟨k - 1, by omega⟩
        obtain ⟨y, hy, hc2⟩ : ∃ y, m[p]? = some y ∧ w.cell? ⟨b1, o1 + p, none⟩ = some (.int .i64 y) := by
          obtain ⟨b2, o2, y, e, hy, hc⟩ := hr.out.getm hl.out (show p < n by omega)
          injection e with e
          injection e with e1 e2
          subst e1; subst e2
          exact ⟨y, hy, hc⟩
        obtain rfl : y = last := by rw [← hlast, take_snoc hy, List.getLastD_concat]
        have hy1 : 0 < y := ((risF_lt _ 0 HR.out).1 y (by rw [take_snoc hy]; simp)).1
        clear hlast hy
        have d0 : decide ((0 : Int) < ((p : Int) + 1)) = true := decide_eq_true (by omega)
        by_cases h1 : x < 1
        · have d1 : decide (x < 1) = true := by simpa using h1
          go_wp2
          go_quiet (fail)
          go_wp2
          go_ret
          exact ⟨ret_bool (hno.out (by omega)).symm, _, by first | rfl | exact (World.drewN_drewN _ _ _).symm⟩
        · have d1 : decide (x < 1) = false := by simp; omega
          by_cases h2 : 65535 < x
          · have d2 : decide (65535 < x) = true := by simpa using h2
            go_wp2
            go_quiet (fail)
            go_wp2
            go_ret
            exact ⟨ret_bool (hno.out (by omega)).symm, _, by first | rfl | exact (World.drewN_drewN _ _ _).symm⟩
          · have d2 : decide (65535 < x) = false := by simp; omega
            by_cases h3 : x ≤ y
            · have d3 : decide (x ≤ y) = true := by simpa using h3
              go_wp2
              go_quiet (fail)
              go_wp2
              go_ret
              exact ⟨ret_bool (hno.out (by omega)).symm, _, by first | rfl | exact (World.drewN_drewN _ _ _).symm⟩
            · have d3 : decide (x ≤ y) = false := by simp; omega
              go_wp2
              go_quiet (fail)
              go_wp2
              go_roundw
              case rel => exact ⟨p + 1 + 1, _, by omega, by go_num, by first | rfl | exact World.drewN_drewN _ _ _, by show _ = _; rw [hsn.out, decide_eq_true_eq]; omega⟩
              case measure => simp [intOf]; omega
    · obtain rfl : k = n := by omega
      go_wp2
      go_ret
      refine ⟨ret_bool ?_, _, rfl⟩
      have h := HR.out
      rw [List.take_of_length_le (by rw [hl.out]; omega)] at h
      exact h.symm

set_option maxHeartbeats 1000000 in
set_option maxRecDepth 100000 in
theorem rLit (A : Option Addr) (n c : Nat) (m : List Int) (r : Int) (w : World) (hr : Hid (Rd w A (m.map (Value.int .i64)))) (hl : Hid (m.length = n)) (hn : n ≤ 1000000) (h1 : I64 r) :
    Calls Try.prog 91 #[.slice A n c, .int .i64 r] w fun e w' => e = .returned (.int .i64 (litI m r)) ∧ ∃ q, w.drewN q = w' := by
  obtain ⟨h1a, h1b⟩ := h1
  obtain ⟨L, hL⟩ : ∃ L, litI m r = L := ⟨_, rfl⟩
  rw [hL]
  have HL := Lib.hid hL; clear hL
  go_enter Try.func91, Try.ntmps91
  go_wp2_with fail
  refine (rRising A n c m w hr hl hn).mono ?_
  rintro e w' ⟨rfl, q, rfl⟩
  cases hq : ris m with
  | false =>
    obtain rfl : L = 0 := by rw [← HL.out]; unfold litI; rw [if_neg]; rw [hq]; intro h; cases h.1
    clear hq
    go_wp2
    go_ret
    exact ⟨rfl, _, rfl⟩
  | true =>
    have HQ := Lib.hid hq
    clear hq
    by_cases h0 : r < 0
    · obtain rfl : L = 0 := by rw [← HL.out]; unfold litI; rw [if_neg]; omega
      go_wp2
      go_ret
      exact ⟨rfl, _, rfl⟩
    · go_wp2
      go_loopw [5] (fun v5 wr => ∃ (k : Nat), k ≤ n ∧ v5 = .int .i64 k ∧ wr = w.drewN q ∧ Hid (r / 2 ∉ m.take k)) (fun v5 _ => n - (intOf v5).toNat)
      case atStart => exact ⟨0, Nat.zero_le _, rfl, rfl, by show _ ∉ _; simp⟩
      case round =>
        obtain ⟨k, hk, rfl, rfl, HN⟩ := hrel
        by_cases hlt : k < n
        · obtain ⟨b1, o1, x, rfl, hx, hc1⟩ := hr.out.getm hl.out hlt
          have HX := Lib.hid hx; clear hx
          have dk : decide ((k : Int) < 1048576) = true := decide_eq_true (by omega)
          by_cases hxr : x = r / 2
          · have hb : (x == r / 2) = true := by simpa using hxr
            have hz : L = if r % 2 = 1 then -((k : Int) + 1) else (k : Int) + 1 := by
              rw [← HL.out]
              unfold litI
              rw [if_pos ⟨HQ.out, by omega, by rw [← hxr]; exact List.mem_of_getElem? HX.out⟩, idx_of HQ.out (by rw [← hxr]; exact HX.out)]
            clear hxr
            by_cases hm : r % 2 = 1
            · have hm1 : (r % 2 == 1) = true := by simpa using hm
              rw [if_pos hm] at hz
              subst hz
              clear hm
              go_wp2
              go_ret
              exact ⟨ret_int (by omega), _, rfl⟩
            · have hm1 : (r % 2 == 1) = false := by simpa using hm
              rw [if_neg hm] at hz
              subst hz
              clear hm
              go_wp2
              go_ret
              exact ⟨ret_int (by omega), _, rfl⟩
          · have hb : (x == r / 2) = false := by simpa using hxr
            have HXR := Lib.hid hxr; clear hxr
            go_wp2
            go_roundw
            case rel =>
              refine ⟨k + 1, by omega, by go_num, by first | rfl | trivial, ?_⟩
              show _ ∉ _
              rw [take_snoc HX.out]
              intro hm
              rcases List.mem_append.1 hm with h | h
              · exact HN.out h
              · simp at h; exact HXR.out h.symm
            case measure => simp [intOf]; omega
        · obtain rfl : n = k := by omega
          obtain rfl : L = 0 := by
            rw [← HL.out]
            unfold litI
            rw [if_neg]
            intro h
            have h2 := HN.out
            rw [List.take_of_length_le (by rw [hl.out]; omega)] at h2
            exact h2 h.2.2
          go_wp2
          go_ret
          exact ⟨rfl, _, rfl⟩


set_option maxHeartbeats 2000000 in
set_option maxRecDepth 100000 in
theorem rRight27 (M : Int) (AN : Option Addr) (nN cN : Nat) (G : List Nd) (A : Option Addr) (n c : Nat) (m : List Int) (w : World) (hN : Hid (Rd w AN (rcells G))) (hNl : Hid (G.length = nN)) (hok : Hid (GOk G)) (hgl : nN ≤ 65536) (hr : Hid (Rd w A (m.map (Value.int .i64)))) (hl : Hid (m.length = n)) (hn : n ≤ 1000000) :
    Calls Try.prog 73 #[.agg #[.int .i64 M, .slice AN nN cN], .slice A n c] w fun e w' => e = .returned (.bool (mapR G m)) ∧ Below w.heap.size w w' := by
  obtain ⟨T, hT⟩ : ∃ T, mapR G m = T := ⟨_, rfl⟩
  rw [hT]
  have HT := Lib.hid hT; clear hT
  have HB0 : Hid (Below w.heap.size w (w.alloc (.cells #[.int .i64 M, .slice AN nN cN] 67))) := (Below.refl _ w).alloc (Nat.le_refl _) _
  have HX0 := Lib.hid (Bk.new w 67 #[.int .i64 M, .slice AN nN cN])
  go_enter Try.func73, Try.ntmps73
  go_wp2_with fail
  generalize (w.alloc (.cells #[.int .i64 M, .slice AN nN cN] 67)) = W0 at *
  refine (rRising A n c m W0 (Lib.hid (hr.out.below HB0.out)) hl hn).mono ?_
  rintro e w' ⟨rfl, q, rfl⟩
  cases hq : ris m with
  | false =>
    obtain rfl : T = false := by rw [← HT.out, mapR, hq]; rfl
    clear hq
    go_wp2
    go_ret
    exact ⟨rfl, bdrewN HB0.out _⟩
  | true =>
    have HQ := Lib.hid hq
    clear hq
    have HB1 := Lib.hid (bdrewN HB0.out q)
    have HX1 := Lib.hid (HX0.out.drewN q)
    clear HB0 HX0
    generalize W0.drewN q = W1 at *
    go_wp2
    go_loopw [5] (fun v5 wr => ∃ (k : Nat), k ≤ n ∧ v5 = .int .i64 k ∧ Hid ((m.take k).all (nodeM G m) = true) ∧ Hid (Below w.heap.size w wr) ∧ Hid (Bk wr w.heap.size 67 #[.int .i64 M, .slice AN nN cN])) (fun v5 _ => n - (intOf v5).toNat)
    case atStart => exact ⟨0, Nat.zero_le _, rfl, rfl, HB1, HX1⟩
    case round =>
      obtain ⟨k, hk, rfl, HA, HB, HX⟩ := hrel
      have HRD := Lib.hid (hr.out.below HB.out)
      have HND := Lib.hid (hN.out.below HB.out)
      have c1 : wr.cell? ⟨w.heap.size, 1, none⟩ = some (.slice AN nN cN) := HX.out.cell 1
      by_cases hlt : k < n
      · obtain ⟨b1, o1, x, rfl, hx, hb1, hc1⟩ := HRD.out.getl hl.out hlt
        have HXX := Lib.hid hx; clear hx
        have hx0 : 0 < x := ((risF_lt m 0 HQ.out).1 x (List.mem_of_getElem? HXX.out)).1
        have hx1 : x < 65536 := ((risF_lt m 0 HQ.out).1 x (List.mem_of_getElem? HXX.out)).2
        by_cases hxl : (nN : Int) ≤ x
        · obtain rfl : T = false := by
            rw [← HT.out]
            refine mapR_no HXX.out ?_
            have : decide (x < (G.length : Int)) = false := by rw [hNl.out]; simp; omega
            simp [nodeM, this]
          have hd : decide ((nN : Int) ≤ x) = true := by simpa using hxl
          go_wp2
          go_quiet (fail)
          go_wp2
          go_ret
          exact ⟨rfl, bdrewN HB.out _⟩
        · have hd : decide ((nN : Int) ≤ x) = false := by simp; omega
          obtain ⟨xn, rfl⟩ : ∃ xn : Nat, x = xn := ⟨x.toNat, by omega⟩
          obtain ⟨b2, o2, y, rfl, hy, hb2, hc2, hc3, hc4⟩ := HND.out.node hNl.out (show xn < nN by omega)
          have hd' : decide (nN ≤ xn) = false := decide_eq_false (by omega)
          have hxn : xn < nN := by omega
          clear hxl hx0 hx1
          obtain ⟨yk, yl, yr⟩ := y
          dsimp only at hc2 hc3 hc4
          have HY := Lib.hid hy; clear hy
          go_wp2
          go_quiet (fail)
          have HB2 := Lib.hid (bdrewN HB.out nq)
          have HX2 := Lib.hid (HX.out.drewN nq)
          have HRD2 := Lib.hid (HRD.out.drewN nq)
          have hc1' : (wr.drewN nq).cell? ⟨b1, o1 + k, none⟩ = some (.int .i64 (xn : Int)) := hc1
          have hc2' : (wr.drewN nq).cell? ⟨b2, o2 + xn * 3, none⟩ = some (.int .i64 yk) := hc2
          have hc3' : (wr.drewN nq).cell? ⟨b2, o2 + xn * 3 + 1, none⟩ = some (.int .i64 yl) := hc3
          have hc4' : (wr.drewN nq).cell? ⟨b2, o2 + xn * 3 + 2, none⟩ = some (.int .i64 yr) := hc4
          have c1' : (wr.drewN nq).cell? ⟨w.heap.size, 1, none⟩ = some (.slice (some ⟨b2, o2, none⟩) nN cN) := c1
          have hb1' : b1 < (wr.drewN nq).heap.size := hb1
          have hb2' : b2 < (wr.drewN nq).heap.size := hb2
          have hwl : w.heap.size < (wr.drewN nq).heap.size := HX2.out.lt
          clear hc1 hc2 hc3 hc4 c1 hb1 hb2 HB HX
          generalize wr.drewN nq = W2 at *
          go_wp2
          go_region
          have HX3 := Lib.hid ((HX2.out.alloc (.cells #[.int .i64 yk, .int .i64 yl, .int .i64 yr] 127)).drew)
          have HB3 : Hid (Below w.heap.size w (W2.alloc (.cells #[.int .i64 yk, .int .i64 yl, .int .i64 yr] 127)).drew) := (HB2.out.alloc (by omega) _).drew
          have HRD3 := Lib.hid ((HRD2.out.alloc (.cells #[.int .i64 yk, .int .i64 yl, .int .i64 yr] 127)).drew)
          have hBK := (Bk.new W2 127 #[.int .i64 yk, .int .i64 yl, .int .i64 yr]).drew
          have HBK := Lib.hid hBK
          have k0 := hBK.cell 0
          have k1 := hBK.cell 1
          have k2 := hBK.cell 2
          clear hc1' hc2' hc3' hc4' c1' hb1' hb2' hwl HB2 HX2 HRD2 hBK
          generalize (W2.alloc (.cells #[.int .i64 yk, .int .i64 yl, .int .i64 yr] 127)).drew = W3 at *
          generalize W2.heap.size = pb at *
          have HIX : Hid (decide ((xn : Int) < (G.length : Int)) = true) := by show _ = _; rw [hNl.out]; simp; omega
          by_cases hk3 : yk = 3
          · obtain ⟨g1, g2, g3, g4⟩ := (hok.out _ _ HY.out).2 hk3
            dsimp only at g1 g2 g3 g4
            have hk3' : (yk == 3) = true := by simpa using hk3
            have HK3 := Lib.hid hk3
            have hl1 : I64 yl := ⟨by omega, by omega⟩
            have hr1 : I64 yr := ⟨by omega, by omega⟩
            clear hk3 g1 g2 g3 g4
            have HL1 := Lib.hid (rLit (some ⟨b1, o1, none⟩) n c m yl W3 HRD3 hl hn hl1)
            obtain ⟨L1, hL1⟩ : ∃ L, litI m yl = L := ⟨_, rfl⟩
            rw [hL1] at HL1
            by_cases hz1 : L1 = 0
            · obtain rfl : T = false := by
                rw [← HT.out]
                refine mapR_no HXX.out ?_
                simp [nodeM, HIX.out, HY.out, HK3.out, hL1, hz1]
              have e1 : (L1 == 0) = true := by simpa using hz1
              clear hz1 hL1
              go_wp2_with fail
              refine HL1.out.mono ?_
              rintro e w' ⟨rfl, q1, rfl⟩
              clear k0 k1 k2
              go_wp2
              go_ret
              exact ⟨rfl, bdrewN HB3.out _⟩
            · have e1 : (L1 == 0) = false := by simpa using hz1
              have HZ1 : Hid (litI m yl ≠ 0) := by rw [hL1]; exact hz1
              clear hz1 hL1
              go_wp2_with fail
              refine HL1.out.mono ?_
              rintro e w' ⟨rfl, q1, rfl⟩
              have HL2 := Lib.hid (rLit (some ⟨b1, o1, none⟩) n c m yr (W3.drewN q1) (Lib.hid (HRD3.out.drewN q1)) hl hn hr1)
              have k2' : (W3.drewN q1).cell? ⟨pb, 2, none⟩ = some (.int .i64 yr) := k2
              obtain ⟨L2, hL2⟩ : ∃ L, litI m yr = L := ⟨_, rfl⟩
              rw [hL2] at HL2
              have HB4 := Lib.hid (bdrewN HB3.out q1)
              have HX4 := Lib.hid (HX3.out.drewN q1)
              clear k0 k1 k2 HL1 HB3 HX3
              generalize W3.drewN q1 = W4 at *
              by_cases hz2 : L2 = 0
              · obtain rfl : T = false := by
                  rw [← HT.out]
                  refine mapR_no HXX.out ?_
                  simp [nodeM, HIX.out, HY.out, HK3.out, hL2, hz2]
                have e2 : (L2 == 0) = true := by simpa using hz2
                clear hz2 hL2
                go_wp2_with fail
                refine HL2.out.mono ?_
                rintro e w' ⟨rfl, q2, rfl⟩
                clear k2'
                go_wp2
                go_ret
                exact ⟨rfl, bdrewN HB4.out _⟩
              · have e2 : (L2 == 0) = false := by simpa using hz2
                have HZ2 : Hid (litI m yr ≠ 0) := by rw [hL2]; exact hz2
                clear hz2 hL2
                go_wp2_with fail
                refine HL2.out.mono ?_
                rintro e w' ⟨rfl, q2, rfl⟩
                clear k2'
                go_wp2
                go_roundw
                case rel =>
                  refine ⟨k + 1, by omega, by go_num, ?_, bdrewN HB4.out _, HX4.out.drewN _⟩
                  show _ = _
                  rw [take_snoc HXX.out, List.all_append, HA.out]
                  simp [nodeM, HY.out, HK3.out, HZ1.out, HZ2.out]
                  rw [hNl.out]; exact hxn
                case measure => simp [intOf]; omega
          · have hk3' : (yk == 3) = false := by simpa using hk3
            have HK3 := Lib.hid hk3
            clear hk3
            go_wp2
            go_roundw
            case rel =>
              refine ⟨k + 1, by omega, by go_num, ?_, HB3, HX3⟩
              show _ = _
              rw [take_snoc HXX.out, List.all_append, HA.out]
              simp [nodeM, HY.out, HK3.out]
              rw [hNl.out]; exact hxn
            case measure => simp [intOf]; omega
      · obtain rfl : n = k := by omega
        obtain rfl : T = true := by
          have h := HA.out
          rw [List.take_of_length_le (by rw [hl.out]; omega)] at h
          rw [← HT.out, mapR, HQ.out, h]; rfl
        go_wp2
        go_ret
        exact ⟨rfl, HB.out⟩

set_option maxHeartbeats 2000000 in
set_option maxRecDepth 100000 in
theorem rInputs27 (M : Int) (AN : Option Addr) (nN cN : Nat) (G : List Nd) (A : Option Addr) (n c : Nat) (m : List Int) (A2 : Option Addr) (n2 c2 : Nat) (model : List Bool) (w : World) (hN : Hid (Rd w AN (rcells G))) (hNl : Hid (G.length = nN)) (hgl : nN ≤ 65536) (hr : Hid (Rd w A (m.map (Value.int .i64)))) (hl : Hid (m.length = n)) (hn : n ≤ 1000000)
    (hr2 : Hid (Rd w A2 ((model.map bitI).map (Value.int .i64)))) (hl2 : Hid (model.length = n2)) (hn2 : n2 ≤ 1000000) (T : Int) (HT : Hid (T = if n2 = n then 0 else 272)) :
    Calls Try.prog 74 #[.agg #[.int .i64 M, .slice AN nN cN], .slice A n c, .slice A2 n2 c2] w fun e w' => ∃ A' k c', e = .returned (.tuple #[.slice A' k c', .int .i64 T]) ∧ (n2 = n → (inpM G m model).length = k ∧ Rd w' A' (((inpM G m model).map bitI).map (Value.int .i64))) ∧ Below w.heap.size w w' := by
  have HB0 : Hid (Below w.heap.size w (w.alloc (.cells #[.int .i64 M, .slice AN nN cN] 67))) := (Below.refl _ w).alloc (Nat.le_refl _) _
  have hx0 := (Bk.new w 67 #[.int .i64 M, .slice AN nN cN])
  have g0 := hx0.cell 0
  have g1 := hx0.cell 1
  clear hx0
  by_cases hnn : n2 = n
  · obtain rfl : T = 0 := by rw [HT.out, if_pos hnn]
    have HNN := Lib.hid hnn
    have hne : ((n2 : Int) != (n : Int)) = false := by simp [hnn]
    clear hnn
    go_enter Try.func74, Try.ntmps74
    go_wp2_with fail
    generalize (w.alloc (.cells #[.int .i64 M, .slice AN nN cN] 67)) = W0 at *
    refine (rinputs M AN nN cN G W0 (Lib.hid (hN.out.below HB0.out)) hNl (by omega)).mono ?_
    rintro e w2 ⟨AI, k2, cI, rfl, hk2, ho2, hb2⟩
    have HB2 := Lib.hid (bthen HB0.out hb2)
    have HI := Lib.hid (Rd.of_own ho2)
    have HK2 := Lib.hid hk2
    have hkl : k2 ≤ 65536 := by have := inputsOf_len G; have := hNl.out; omega
    clear hk2 ho2 hb2 HB0 g0 g1
    go_wp2_with fail
    go_loopw [9, 10] (fun v i wr => ∃ (k : Nat) (A' : Option Addr) (c' : Nat), k ≤ k2 ∧ i = .int .i64 k ∧ v = .slice A' k c' ∧ Hid (wr.ownsRow w2.heap.size 3 1 (.slice A' k c') k (((((inputsOf G).take k).map (inpV m model)).map bitI).map (Value.int .i64))) ∧ Hid (Below w2.heap.size w2 wr)) (fun _ i _ => k2 - (intOf i).toNat)
    case atStart => exact ⟨0, none, 0, Nat.zero_le _, rfl, rfl, World.ownsRow_nil _ _ _ _, Below.refl _ _⟩
    case round =>
      obtain ⟨k, A', c', hk, rfl, rfl, Ho, Hb⟩ := hrel
      have hsz : w2.heap.size ≤ wr.heap.size := Hb.out.size
      by_cases hlt : k < k2
      · obtain ⟨b1, o1, x, rfl, hx, hc1⟩ := (HI.out.below Hb.out).getm HK2.out hlt
        obtain ⟨e1, e2, e3⟩ := inputsFrom_even G 0 x (List.mem_of_getElem? hx)
        rw [hNl.out] at e3
        have HX := Lib.hid hx; clear hx
        have HBw := Lib.hid (bthen HB2.out Hb.out)
        have HLC := Lib.hid (rLit A n c m x wr (Lib.hid (hr.out.below HBw.out)) hl hn ⟨by omega, by omega⟩)
        have HNX : Hid (∀ (b : Bool) (A3 : Option Addr) (c3 : Nat) (w1 : World), inpV m model x = b → w1.ownsRow w2.heap.size 3 1 (.slice A3 (k + 1) c3) (k + 1) ((((((inputsOf G).take k).map (inpV m model)).map bitI).map (Value.int .i64)) ++ [.int .i64 (bitI b)]) → w1.ownsRow w2.heap.size 3 1 (.slice A3 (k + 1) c3) (k + 1) (((((inputsOf G).take (k + 1)).map (inpV m model)).map bitI).map (Value.int .i64))) := by
          intro b A3 c3 w1 hb h
          rw [take_snoc HX.out, List.map_append, List.map_append, List.map_append]
          simp only [List.map_cons, List.map_nil, hb]
          exact h
        obtain ⟨L, hL⟩ : ∃ L, litI m x = L := ⟨_, rfl⟩
        rw [hL] at HLC
        by_cases hL0 : L = 0
        · subst hL0
          have HV : Hid (inpV m model x = false) := by show _ = _; simp [inpV, hL]
          clear hL
          go_wp2_with fail
          refine HLC.out.mono ?_
          rintro e w' ⟨rfl, q, rfl⟩
          have Ho2 := Lib.hid (own_drewN Ho.out q)
          have Hb2 := Lib.hid (bdrewN Hb.out q)
          have hsz2 : w2.heap.size ≤ (wr.drewN q).heap.size := hsz
          clear HLC Ho Hb hsz hc1
          generalize wr.drewN q = wr2 at *
          go_wp2_with (at_builtin; refine wpList_app el_int rfl (.tmp 39) (.tmp 41) rfl w2.heap.size (.slice A' k c') k _ rfl (Ho2.out.alloc _) (some ⟨wr2.heap.size, 0, none⟩) 1 1 [.int .i64 0] rfl (Rd.new _ #[_] _) rfl (by simp [Value.oneCell']) (by omega) (by simp; omega) ?_; intro A3 c3 w3 ho1 hg1 hat1; have Ho1 := Lib.hid ho1; have Hg1 := Lib.hid hg1; clear ho1 hg1 hat1)
          go_roundw
          case rel => exact ⟨k + 1, A3, c3, by omega, by go_num, rfl, HNX.out false A3 c3 _ HV.out Ho1.out, own_step Hb2.out Ho2.out _ Hg1.out⟩
          case measure => simp [intOf]; omega
        · obtain ⟨f1, f2⟩ := litI_even e1 (by rw [hL]; exact hL0)
          rw [hL, hl.out] at f2
          rw [hL] at f1
          obtain ⟨q0, rfl⟩ : ∃ q : Nat, L = (q : Int) + 1 := ⟨(L - 1).toNat, by omega⟩
          have hq2 : q0 < n2 := by have := HNN.out; omega
          obtain ⟨b2, o2, u, hA2, hu, hc2⟩ := (show Rd wr A2 ((model.map fun b => bitI b).map (Value.int .i64)) from hr2.out.below HBw.out).getm (n := n2) (by rw [List.length_map]; exact hl2.out) hq2
          subst hA2
          have HV : Hid (bitI (inpV m model x) = u) := by
            show _ = _
            have : ((q0 : Int) + 1).toNat - 1 = q0 := by omega
            rw [inpV, hL, decide_eq_true hL0, Bool.true_and, List.getD_eq_getElem?_getD, this]
            rw [List.getElem?_map] at hu
            obtain ⟨bb, hbb, rfl⟩ := Option.map_eq_some_iff.1 hu
            rw [hbb]
            rfl
          have hdp : decide ((0 : Int) < (q0 : Int) + 1) = true := decide_eq_true (by omega)
          clear hL hu hL0
          go_wp2_with fail
          refine HLC.out.mono ?_
          rintro e w' ⟨rfl, q, rfl⟩
          have Ho2 := Lib.hid (own_drewN Ho.out q)
          have Hb2 := Lib.hid (bdrewN Hb.out q)
          have hsz2 : w2.heap.size ≤ (wr.drewN q).heap.size := hsz
          have hc2' : (wr.drewN q).cell? ⟨b2, o2 + q0, none⟩ = some (.int .i64 u) := hc2
          clear HLC Ho Hb hsz hc1 hc2
          generalize wr.drewN q = wr2 at *
          go_wp2_with (at_builtin; refine wpList_app el_int rfl (.tmp 39) (.tmp 41) rfl w2.heap.size (.slice A' k c') k _ rfl (Ho2.out.alloc _) (some ⟨wr2.heap.size, 0, none⟩) 1 1 [.int .i64 u] rfl (Rd.new _ #[_] _) rfl (by simp [Value.oneCell']) (by omega) (by simp; omega) ?_; intro A3 c3 w3 ho1 hg1 hat1; have Ho1 := Lib.hid ho1; have Hg1 := Lib.hid hg1; clear ho1 hg1 hat1)
          go_roundw
          case rel => exact ⟨k + 1, A3, c3, by omega, by go_num, rfl, HNX.out _ A3 c3 _ rfl (by rw [HV.out]; exact Ho1.out), own_step Hb2.out Ho2.out _ Hg1.out⟩
          case measure => simp [intOf]; omega
      · obtain rfl : k2 = k := by omega
        go_wp2
        go_ret2
        have h := Ho.out
        rw [List.take_of_length_le (by rw [HK2.out]; omega)] at h
        exact ⟨A', k2, c', rfl, fun _ => ⟨by rw [inpM, List.length_map]; exact HK2.out, Rd.of_own h⟩, bthen HB2.out Hb.out⟩
  · obtain rfl : T = 272 := by rw [HT.out, if_neg hnn]
    have hne : ((n2 : Int) != (n : Int)) = true := by simp; omega
    have HNN := Lib.hid hnn
    clear hnn
    go_enter Try.func74, Try.ntmps74
    go_wp2
    go_ret2
    exact ⟨none, 0, 0, rfl, fun h => absurd h HNN.out, HB0.out⟩


def modErr (R : Res) (m : List Int) (k : Nat) : Int := if rightR R = true then inpErr R.G m k else 420
def modS (R : Res) (m : List Int) (model : List Bool) : Sch := if modErr R m model.length = 0 then schedR R (inpM R.G m model) else ⟨[], 0, []⟩
theorem inpM_len (G : List Nd) (m : List Int) (model : List Bool) : (inpM G m model).length = (inputsOf G).length := by rw [inpM, List.length_map]

/-- A slice of other things than a zero schedule has survives what is stored there. -/
def NotZ (u : Value) : Prop := u ≠ .slice none 0 0 ∧ u ≠ .int .i64 0
theorem rd_put3 {w : World} {a : Nat} {t : TypeId} {A : Option Addr} {xs : List Value} {v0 v1 v2 : Value} (h : Rd w A xs) (hb : Bk w a t #[.slice none 0 0, .int .i64 0, .slice none 0 0]) (hx : ∀ u ∈ xs, NotZ u) : Rd (((w.setCell ⟨a, 0, none⟩ v0).setCell ⟨a, 1, none⟩ v1).setCell ⟨a, 2, none⟩ v2) A xs := fun hne => by
  obtain ⟨b, off, cs, tt, fr, rfl, hh, hc⟩ := h hne
  have hba : b ≠ a := by
    rintro rfl
    unfold Bk at hb
    rw [hb] at hh
    injection hh with hh
    injection hh with h1 h2 h3
    obtain ⟨x, l, rfl⟩ := List.exists_cons_of_ne_nil hne
    have h0 := hc 0 x rfl
    rw [← h1] at h0
    obtain ⟨n1, n2⟩ := hx x List.mem_cons_self
    rw [Nat.add_zero] at h0
    match off, h0 with
    | 0, h0 => exact n1 (by simpa using h0.symm)
    | 1, h0 => exact n2 (by simpa using h0.symm)
    | 2, h0 => exact n1 (by simpa using h0.symm)
    | k + 3, h0 => simp at h0
  refine ⟨b, off, cs, tt, fr, rfl, ?_, hc⟩
  exact (Below.heap_setCell _ ⟨a, 2, none⟩ v2 b hba).trans ((Below.heap_setCell _ ⟨a, 1, none⟩ v1 b hba).trans ((Below.heap_setCell _ ⟨a, 0, none⟩ v0 b hba).trans hh))
theorem notZ_u32 (l : List Int) : ∀ u ∈ l.map (Value.int .u32), NotZ u := by
  intro u hu
  obtain ⟨x, _, rfl⟩ := List.mem_map.1 hu
  exact ⟨by simp, by simp⟩
theorem notZ_bool (l : List Bool) : ∀ u ∈ l.map Value.bool, NotZ u := by
  intro u hu
  obtain ⟨x, _, rfl⟩ := List.mem_map.1 hu
  exact ⟨by simp, by simp⟩

set_option maxHeartbeats 2000000 in
set_option maxRecDepth 100000 in
theorem decModel (B : Nat) (M : Int) (x : RV) (R : Res) (A : Option Addr) (n c : Nat) (m : List Int) (A2 : Option Addr) (n2 c2 : Nat) (model : List Bool) (w : World) (h : Hid (ResAt w B M x R)) (hr : Hid (Rd w A (m.map (Value.int .i64)))) (hl : Hid (m.length = n)) (hn : n ≤ 100000) (hr2 : Hid (Rd w A2 (model.map Value.bool))) (hl2 : Hid (model.length = n2)) (hn2 : n2 ≤ 100000) :
    Calls Try.prog 13 #[.agg #[.pointer (some ⟨x.g, 0, none⟩), .slice x.I.A x.I.n x.I.c, .int .i64 R.req, .slice x.O.A x.O.n x.O.c, .slice x.K.A x.K.n x.K.c, .slice x.C.A x.C.n x.C.c, .slice x.R.A x.R.n x.R.c, .int .i64 R.bey, .int .i64 R.hol], .slice A n c, .slice A2 n2 c2] w (SchPost (modS R m model) (modErr R m n2) w) := by
  obtain ⟨g, ⟨AI, nI, cI⟩, S, ⟨AO, nO, cO⟩, ⟨AK, nK, cK⟩, ⟨AC, nC, cC⟩, ⟨AR, nR, cR⟩⟩ := x
  have HB0 : Hid (Below w.heap.size w ((w.alloc (.cells #[.pointer (some ⟨g, 0, none⟩), .slice AI nI cI, .int .i64 R.req, .slice AO nO cO, .slice AK nK cK, .slice AC nC cC, .slice AR nR cR, .int .i64 R.bey, .int .i64 R.hol] 49)).alloc (.cells #[.slice none 0 0, .int .i64 0, .slice none 0 0] 51))) := balloc (balloc (Below.refl _ _) _) _
  have HX0 := Lib.hid ((Bk.new w 49 #[.pointer (some ⟨g, 0, none⟩), .slice AI nI cI, .int .i64 R.req, .slice AO nO cO, .slice AK nK cK, .slice AC nC cC, .slice AR nR cR, .int .i64 R.bey, .int .i64 R.hol]).alloc (.cells #[.slice none 0 0, .int .i64 0, .slice none 0 0] 51))
  have hy0 := Bk.new (w.alloc (.cells #[.pointer (some ⟨g, 0, none⟩), .slice AI nI cI, .int .i64 R.req, .slice AO nO cO, .slice AK nK cK, .slice AC nC cC, .slice AR nR cR, .int .i64 R.bey, .int .i64 R.hol] 49)) 51 #[.slice none 0 0, .int .i64 0, .slice none 0 0]
  rw [World.size_alloc] at hy0
  have HY0 := Lib.hid hy0
  clear hy0
  dsimp only
  obtain ⟨E, hE⟩ : ∃ E, modErr R m n2 = E := ⟨_, rfl⟩
  obtain ⟨⟨ins, pt, kp⟩, hS⟩ : ∃ s, modS R m model = s := ⟨_, rfl⟩
  rw [hE, hS]
  have HE := Lib.hid hE; have HS := Lib.hid hS
  clear hE hS
  go_enter Try.func13, Try.ntmps13
  go_wp2_with fail
  generalize ((w.alloc (.cells #[.pointer (some ⟨g, 0, none⟩), .slice AI nI cI, .int .i64 R.req, .slice AO nO cO, .slice AK nK cK, .slice AC nC cC, .slice AR nR cR, .int .i64 R.bey, .int .i64 R.hol] 49)).alloc (.cells #[.slice none 0 0, .int .i64 0, .slice none 0 0] 51)) = W0 at *
  refine (decRight B M ⟨g, ⟨AI, nI, cI⟩, S, ⟨AO, nO, cO⟩, ⟨AK, nK, cK⟩, ⟨AC, nC, cC⟩, ⟨AR, nR, cR⟩⟩ R W0 (Lib.hid (h.out.below HB0.out))).mono ?_
  rintro e w1 ⟨rfl, hb1⟩
  have HB1 := Lib.hid (bthen HB0.out hb1)
  have HX1 := Lib.hid (bkbel HX0.out hb1)
  have HY1 := Lib.hid (bkbel HY0.out hb1)
  clear hb1 HX0 HY0 HB0
  cases hrt : rightR R with
  | false =>
    obtain rfl : E = 420 := by rw [← HE.out, modErr, hrt]; rfl
    have hs : (⟨[], 0, []⟩ : Sch) = ⟨ins, pt, kp⟩ := by rw [← HS.out, modS, hl2.out, HE.out]; rfl
    injection hs with e1 e2 e3
    subst e1; subst e2; subst e3
    clear hrt
    obtain ⟨y0, y1, y2⟩ := cells3 HY1.out
    obtain ⟨z0, z1, z2⟩ := frozen3 HY1.out
    go_wp2
    have HF := Lib.hid (bk_put3 (v0 := .slice none 0 0) (v1 := .int .i64 0) (v2 := .slice none 0 0) HY1.out)
    have HFB := Lib.hid (below_put3 (v0 := .slice none 0 0) (v1 := .int .i64 0) (v2 := .slice none 0 0) HB1.out (show w.heap.size ≤ w.heap.size + 1 by omega))
    clear y0 y1 y2 z0 z1 z2
    generalize (((w1.setCell ⟨w.heap.size + 1, 0, none⟩ (.slice none 0 0)).setCell ⟨w.heap.size + 1, 1, none⟩ (.int .i64 0)).setCell ⟨w.heap.size + 1, 2, none⟩ (.slice none 0 0)) = WF at *
    obtain ⟨r0, r1, r2⟩ := cells3 HF.out
    refine bodyPost_ret (v := .tuple #[.agg #[.slice none 0 0, .int .i64 0, .slice none 0 0], .int .i64 420]) (by simp [results, Try.results13, go_sem, r0, r1, r2]) rfl ?_
    exact ⟨⟨none, 0, 0⟩, ⟨none, 0, 0⟩, rfl, Rd.nil, rfl, Rd.nil, rfl, Nat.zero_le _, Nat.zero_le _, HFB.out⟩
  | true =>
    have HE1 : Hid (inpErr R.G m n2 = E) := by show _ = _; rw [← HE.out, modErr, hrt]; rfl
    have HRT := Lib.hid hrt
    clear hrt
    have HRES := Lib.hid (h.out.below HB1.out)
    have HTI := Lib.hid (tseInputs B g M R.G A n c m A2 n2 c2 model w1 HRES.out.g HRES.out.gok HRES.out.glen.2 HRES.out.glen.1 (Lib.hid (hr.out.below HB1.out)) hl (by omega) (Lib.hid (hr2.out.below HB1.out)) hl2 (by omega))
    rw [HE1.out] at HTI
    obtain ⟨x0, x1, x2, x3, x4, x5, x6, x7, x8⟩ := (cells9 HX1.out).1
    go_wp2_with fail
    refine HTI.out.mono ?_
    rintro e w2 ⟨A3, k3, c3, rfl, hin, hb2⟩
    have HIN := Lib.hid hin
    have HB2 := Lib.hid (bthen HB1.out hb2)
    have HX2 := Lib.hid (bkbel HX1.out hb2)
    have HY2 := Lib.hid (bkbel HY1.out hb2)
    have HRES2 := Lib.hid (HRES.out.below hb2)
    clear hb2 hin HTI x0 x1 x2 x3 x4 x5 x6 x7 x8 HB1 HX1 HY1 HRES
    by_cases hE0 : E = 0
    · subst hE0
      have hd : ((0 : Int) != 0) = false := rfl
      obtain ⟨hk3, hrd3⟩ := HIN.out rfl
      have HRD3 := Lib.hid hrd3
      have HK3 := Lib.hid hk3
      have hk3' : k3 ≤ 100000 := by rw [← hk3, inpM_len]; have := inputsOf_len R.G; have := HRES2.out.glen.2; omega
      have HSC := Lib.hid (sched2 B M ⟨g, ⟨AI, nI, cI⟩, S, ⟨AO, nO, cO⟩, ⟨AK, nK, cK⟩, ⟨AC, nC, cC⟩, ⟨AR, nR, cR⟩⟩ R A3 k3 c3 (inpM R.G m model) ins pt kp 0 w2 HRES2 HRD3 HK3 (by omega) (by show _ = _; rw [← HS.out, modS, hl2.out, HE.out, if_pos rfl]) (by show _ = _; rw [errR, if_pos HRT.out, if_pos (by rw [← hk3, inpM_len])]))
      dsimp only at HSC
      clear hk3 hrd3
      obtain ⟨x0, x1, x2, x3, x4, x5, x6, x7, x8⟩ := (cells9 HX2.out).1
      go_wp2_with fail
      refine HSC.out.mono ?_
      rintro e w3 ⟨⟨sA, sn, sc⟩, ⟨kA, kn, kc⟩, rfl, hi4, hn4, hk4, hkn4, hle1, hle2, hb4⟩
      dsimp only at hi4 hn4 hk4 hkn4 hle1 hle2 ⊢
      have HI4 := Lib.hid hi4; have HK4 := Lib.hid hk4; have HN4 := Lib.hid hn4; have HM4 := Lib.hid hkn4
      have HB3 := Lib.hid (bthen HB2.out hb4)
      have HY3 := Lib.hid (bkbel HY2.out hb4)
      clear hi4 hn4 hk4 hkn4 hb4 HSC x0 x1 x2 x3 x4 x5 x6 x7 x8
      obtain ⟨y0, y1, y2⟩ := cells3 HY3.out
      obtain ⟨z0, z1, z2⟩ := frozen3 HY3.out
      go_wp2
      have HF := Lib.hid (bk_put3 (v0 := .slice sA sn sc) (v1 := .int .i64 pt) (v2 := .slice kA kn kc) HY3.out)
      have HFB := Lib.hid (below_put3 (v0 := .slice sA sn sc) (v1 := .int .i64 pt) (v2 := .slice kA kn kc) HB3.out (show w.heap.size ≤ w.heap.size + 1 by omega))
      have HI5 := Lib.hid (rd_put3 (v0 := .slice sA sn sc) (v1 := .int .i64 pt) (v2 := .slice kA kn kc) HI4.out HY3.out (notZ_u32 _))
      have HK5 := Lib.hid (rd_put3 (v0 := .slice sA sn sc) (v1 := .int .i64 pt) (v2 := .slice kA kn kc) HK4.out HY3.out (notZ_bool _))
      clear y0 y1 y2 z0 z1 z2
      generalize (((w3.setCell ⟨w.heap.size + 1, 0, none⟩ (.slice sA sn sc)).setCell ⟨w.heap.size + 1, 1, none⟩ (.int .i64 pt)).setCell ⟨w.heap.size + 1, 2, none⟩ (.slice kA kn kc)) = WF at *
      obtain ⟨r0, r1, r2⟩ := cells3 HF.out
      refine bodyPost_ret (v := .tuple #[.agg #[.slice sA sn sc, .int .i64 pt, .slice kA kn kc], .int .i64 0]) (by simp [results, Try.results13, go_sem, r0, r1, r2]) rfl ?_
      exact ⟨⟨sA, sn, sc⟩, ⟨kA, kn, kc⟩, rfl, HI5.out, HN4.out, HK5.out, HM4.out, hle1, hle2, HFB.out⟩
    · have hd : (E != 0) = true := by simpa using hE0
      have hs : (⟨[], 0, []⟩ : Sch) = ⟨ins, pt, kp⟩ := by rw [← HS.out, modS, hl2.out, HE.out, if_neg hE0]
      injection hs with e1 e2 e3
      subst e1; subst e2; subst e3
      clear hE0
      obtain ⟨y0, y1, y2⟩ := cells3 HY2.out
      obtain ⟨z0, z1, z2⟩ := frozen3 HY2.out
      go_wp2
      have HF := Lib.hid (bk_put3 (v0 := .slice none 0 0) (v1 := .int .i64 0) (v2 := .slice none 0 0) HY2.out)
      have HFB := Lib.hid (below_put3 (v0 := .slice none 0 0) (v1 := .int .i64 0) (v2 := .slice none 0 0) HB2.out (show w.heap.size ≤ w.heap.size + 1 by omega))
      clear y0 y1 y2 z0 z1 z2
      generalize (((w2.setCell ⟨w.heap.size + 1, 0, none⟩ (.slice none 0 0)).setCell ⟨w.heap.size + 1, 1, none⟩ (.int .i64 0)).setCell ⟨w.heap.size + 1, 2, none⟩ (.slice none 0 0)) = WF at *
      obtain ⟨r0, r1, r2⟩ := cells3 HF.out
      refine bodyPost_ret (v := .tuple #[.agg #[.slice none 0 0, .int .i64 0, .slice none 0 0], .int .i64 E]) (by simp [results, Try.results13, go_sem, r0, r1, r2]) rfl ?_
      exact ⟨⟨none, 0, 0⟩, ⟨none, 0, 0⟩, rfl, Rd.nil, rfl, Rd.nil, rfl, Nat.zero_le _, Nat.zero_le _, HFB.out⟩

set_option maxHeartbeats 2000000 in
set_option maxRecDepth 100000 in
theorem refModel (M : Int) (y : QV) (R : Res) (A : Option Addr) (n c : Nat) (m : List Int) (A2 : Option Addr) (n2 c2 : Nat) (model : List Bool) (w : World) (h : Hid (RefAt w y R)) (hRT : Hid (rightR R = true)) (hr : Hid (Rd w A (m.map (Value.int .i64)))) (hl : Hid (m.length = n)) (hn : n ≤ 100000) (hr2 : Hid (Rd w A2 ((model.map bitI).map (Value.int .i64)))) (hl2 : Hid (model.length = n2)) (hn2 : n2 ≤ 100000) :
    Calls Try.prog 36 #[.agg #[.int .i64 M, .slice y.N.A y.N.n y.N.c, .slice y.I.A y.I.n y.I.c, .int .i64 R.req, .slice y.O.A y.O.n y.O.c, .slice y.K.A y.K.n y.K.c, .slice y.C.A y.C.n y.C.c, .slice y.R.A y.R.n y.R.c, .int .i64 R.bey, .int .i64 R.hol], .slice A n c, .slice A2 n2 c2] w (QSchPost (modS R m model) (modErr R m n2) w) := by
  obtain ⟨⟨AN, nN, cN⟩, ⟨AI, nI, cI⟩, S, ⟨AO, nO, cO⟩, ⟨AK, nK, cK⟩, ⟨AC, nC, cC⟩, ⟨AR, nR, cR⟩⟩ := y
  have HB0 : Hid (Below w.heap.size w ((w.alloc (.cells #[.int .i64 M, .slice AN nN cN, .slice AI nI cI, .int .i64 R.req, .slice AO nO cO, .slice AK nK cK, .slice AC nC cC, .slice AR nR cR, .int .i64 R.bey, .int .i64 R.hol] 70)).alloc (.cells #[.slice none 0 0, .int .i64 0, .slice none 0 0] 78))) := balloc (balloc (Below.refl _ _) _) _
  have HX0 := Lib.hid ((Bk.new w 70 #[.int .i64 M, .slice AN nN cN, .slice AI nI cI, .int .i64 R.req, .slice AO nO cO, .slice AK nK cK, .slice AC nC cC, .slice AR nR cR, .int .i64 R.bey, .int .i64 R.hol]).alloc (.cells #[.slice none 0 0, .int .i64 0, .slice none 0 0] 78))
  have hy0 := Bk.new (w.alloc (.cells #[.int .i64 M, .slice AN nN cN, .slice AI nI cI, .int .i64 R.req, .slice AO nO cO, .slice AK nK cK, .slice AC nC cC, .slice AR nR cR, .int .i64 R.bey, .int .i64 R.hol] 70)) 78 #[.slice none 0 0, .int .i64 0, .slice none 0 0]
  rw [World.size_alloc] at hy0
  have HY0 := Lib.hid hy0
  clear hy0
  dsimp only
  have hgl : nN ≤ 65536 := by have h1 := h.out.glen.2; have h2 := h.out.noden; dsimp only at h2; omega
  have HNN : Hid (R.G.length = nN) := h.out.noden
  have HGOK := Lib.hid h.out.gok
  obtain ⟨E, hE⟩ : ∃ E, modErr R m n2 = E := ⟨_, rfl⟩
  obtain ⟨⟨ins, pt, kp⟩, hS⟩ : ∃ s, modS R m model = s := ⟨_, rfl⟩
  rw [hE, hS]
  have HE := Lib.hid hE; have HS := Lib.hid hS
  have HE1 : Hid (inpErr R.G m n2 = E) := by show _ = _; rw [← hE, modErr, hRT.out]; rfl
  clear hE hS
  obtain ⟨x0, x1, x2, x3, x4, x5, x6, x7, x8, x9⟩ := (cells10 HX0.out).1
  have HRR := Lib.hid (rRight27 M AN nN cN R.G A n c m _ (Lib.hid (h.out.below HB0.out).nodes) HNN HGOK hgl (Lib.hid (hr.out.below HB0.out)) hl (by omega))
  go_enter Try.func36, Try.ntmps36
  go_wp2_with fail
  generalize ((w.alloc (.cells #[.int .i64 M, .slice AN nN cN, .slice AI nI cI, .int .i64 R.req, .slice AO nO cO, .slice AK nK cK, .slice AC nC cC, .slice AR nR cR, .int .i64 R.bey, .int .i64 R.hol] 70)).alloc (.cells #[.slice none 0 0, .int .i64 0, .slice none 0 0] 78)) = W0 at *
  refine HRR.out.mono ?_
  rintro e w1 ⟨rfl, hb1⟩
  have HB1 := Lib.hid (bthen HB0.out hb1)
  have HX1 := Lib.hid (bkbel HX0.out hb1)
  have HY1 := Lib.hid (bkbel HY0.out hb1)
  clear hb1 HX0 HY0 HB0 HRR x0 x1 x2 x3 x4 x5 x6 x7 x8 x9
  cases hmr : mapR R.G m with
  | false =>
    obtain rfl : E = 271 := by rw [← HE1.out, inpErr, hmr]; rfl
    have hs : (⟨[], 0, []⟩ : Sch) = ⟨ins, pt, kp⟩ := by rw [← HS.out, modS, hl2.out, HE.out]; rfl
    injection hs with e1 e2 e3
    subst e1; subst e2; subst e3
    clear hmr
    obtain ⟨y0, y1, y2⟩ := cells3 HY1.out
    obtain ⟨z0, z1, z2⟩ := frozen3 HY1.out
    go_wp2
    have HF := Lib.hid (bk_put3 (v0 := .slice none 0 0) (v1 := .int .i64 0) (v2 := .slice none 0 0) HY1.out)
    have HFB := Lib.hid (below_put3 (v0 := .slice none 0 0) (v1 := .int .i64 0) (v2 := .slice none 0 0) HB1.out (show w.heap.size ≤ w.heap.size + 1 by omega))
    clear y0 y1 y2 z0 z1 z2
    generalize (((w1.setCell ⟨w.heap.size + 1, 0, none⟩ (.slice none 0 0)).setCell ⟨w.heap.size + 1, 1, none⟩ (.int .i64 0)).setCell ⟨w.heap.size + 1, 2, none⟩ (.slice none 0 0)) = WF at *
    obtain ⟨r0, r1, r2⟩ := cells3 HF.out
    refine bodyPost_ret (v := .tuple #[.agg #[.slice none 0 0, .int .i64 0, .slice none 0 0], .int .i64 271]) (by simp [results, Try.results36, go_sem, r0, r1, r2]) rfl ?_
    exact ⟨⟨none, 0, 0⟩, ⟨none, 0, 0⟩, rfl, RdT.nil, rfl, RdT.nil, rfl, Nat.zero_le _, Nat.zero_le _, HFB.out⟩
  | true =>
    have HE2 : Hid (E = if n2 = n then 0 else 272) := by show _ = _; rw [← HE1.out, inpErr, hmr, hl.out]; rfl
    clear hmr
    have HREF := Lib.hid (h.out.below HB1.out)
    have HTI := Lib.hid (rInputs27 M AN nN cN R.G A n c m A2 n2 c2 model w1 (Lib.hid HREF.out.nodes) HNN hgl (Lib.hid (hr.out.below HB1.out)) hl (by omega) (Lib.hid (hr2.out.below HB1.out)) hl2 (by omega) E HE2)
    obtain ⟨x0, x1, x2, x3, x4, x5, x6, x7, x8, x9⟩ := (cells10 HX1.out).1
    go_wp2_with fail
    refine HTI.out.mono ?_
    rintro e w2 ⟨A3, k3, c3, rfl, hin, hb2⟩
    have HIN := Lib.hid hin
    have HB2 := Lib.hid (bthen HB1.out hb2)
    have HX2 := Lib.hid (bkbel HX1.out hb2)
    have HY2 := Lib.hid (bkbel HY1.out hb2)
    have HREF2 := Lib.hid (HREF.out.below hb2)
    clear hb2 hin HTI x0 x1 x2 x3 x4 x5 x6 x7 x8 x9 HB1 HX1 HY1 HREF
    by_cases hE0 : n2 = n
    · obtain rfl : E = 0 := by rw [HE2.out, if_pos hE0]
      obtain ⟨hk3, hrd3⟩ := HIN.out hE0
      clear hE0
      have hd : ((0 : Int) != 0) = false := rfl
      have HRD3 := Lib.hid hrd3
      have HK3 := Lib.hid hk3
      have hk3' : k3 ≤ 100000 := by rw [← hk3, inpM_len]; have := inputsOf_len R.G; have := HNN.out; omega
      have HRC := Lib.hid (refRead M ⟨⟨AN, nN, cN⟩, ⟨AI, nI, cI⟩, S, ⟨AO, nO, cO⟩, ⟨AK, nK, cK⟩, ⟨AC, nC, cC⟩, ⟨AR, nR, cR⟩⟩ R A3 k3 c3 (inpM R.G m model) w2 HREF2 (Lib.hid (Rts.of hRT.out)) HRD3 HK3 (by omega) 0 (by show _ = _; rw [if_pos (by rw [← hk3, inpM_len])]))
      rw [show qsched R (inpM R.G m model) = ⟨ins, pt, kp⟩ by rw [qsched_eq hRT.out, ← HS.out, modS, hl2.out, HE.out, if_pos rfl]] at HRC
      dsimp only at HRC
      clear hk3 hrd3
      obtain ⟨x0, x1, x2, x3, x4, x5, x6, x7, x8, x9⟩ := (cells10 HX2.out).1
      go_wp2_with fail
      refine HRC.out.mono ?_
      rintro e w3 ⟨⟨sA, sn, sc⟩, ⟨kA, kn, kc⟩, rfl, hi4, hn4, hk4, hkn4, hle1, hle2, hb4⟩
      dsimp only at hi4 hn4 hk4 hkn4 hle1 hle2 ⊢
      have HI4 := Lib.hid hi4; have HK4 := Lib.hid hk4; have HN4 := Lib.hid hn4; have HM4 := Lib.hid hkn4
      have HB3 := Lib.hid (bthen HB2.out hb4)
      have HY3 := Lib.hid (bkbel HY2.out hb4)
      clear hi4 hn4 hk4 hkn4 hb4 HRC x0 x1 x2 x3 x4 x5 x6 x7 x8 x9
      obtain ⟨y0, y1, y2⟩ := cells3 HY3.out
      obtain ⟨z0, z1, z2⟩ := frozen3 HY3.out
      go_wp2
      have HF := Lib.hid (bk_put3 (v0 := .slice sA sn sc) (v1 := .int .i64 pt) (v2 := .slice kA kn kc) HY3.out)
      have HFB := Lib.hid (below_put3 (v0 := .slice sA sn sc) (v1 := .int .i64 pt) (v2 := .slice kA kn kc) HB3.out (show w.heap.size ≤ w.heap.size + 1 by omega))
      have HI5 := Lib.hid (rdT_put3 (v0 := .slice sA sn sc) (v1 := .int .i64 pt) (v2 := .slice kA kn kc) HI4.out HY3.out (by decide))
      have HK5 := Lib.hid (rdT_put3 (v0 := .slice sA sn sc) (v1 := .int .i64 pt) (v2 := .slice kA kn kc) HK4.out HY3.out (by decide))
      clear y0 y1 y2 z0 z1 z2
      generalize (((w3.setCell ⟨w.heap.size + 1, 0, none⟩ (.slice sA sn sc)).setCell ⟨w.heap.size + 1, 1, none⟩ (.int .i64 pt)).setCell ⟨w.heap.size + 1, 2, none⟩ (.slice kA kn kc)) = WF at *
      obtain ⟨r0, r1, r2⟩ := cells3 HF.out
      refine bodyPost_ret (v := .tuple #[.agg #[.slice sA sn sc, .int .i64 pt, .slice kA kn kc], .int .i64 0]) (by simp [results, Try.results36, go_sem, r0, r1, r2]) rfl ?_
      exact ⟨⟨sA, sn, sc⟩, ⟨kA, kn, kc⟩, rfl, HI5.out, HN4.out, HK5.out, HM4.out, hle1, hle2, HFB.out⟩
    · obtain rfl : E = 272 := by rw [HE2.out, if_neg hE0]
      have hd : ((272 : Int) != 0) = true := rfl
      have hs : (⟨[], 0, []⟩ : Sch) = ⟨ins, pt, kp⟩ := by rw [← HS.out, modS, hl2.out, HE.out]; rfl
      injection hs with e1 e2 e3
      subst e1; subst e2; subst e3
      clear hE0
      obtain ⟨y0, y1, y2⟩ := cells3 HY2.out
      obtain ⟨z0, z1, z2⟩ := frozen3 HY2.out
      go_wp2
      have HF := Lib.hid (bk_put3 (v0 := .slice none 0 0) (v1 := .int .i64 0) (v2 := .slice none 0 0) HY2.out)
      have HFB := Lib.hid (below_put3 (v0 := .slice none 0 0) (v1 := .int .i64 0) (v2 := .slice none 0 0) HB2.out (show w.heap.size ≤ w.heap.size + 1 by omega))
      clear y0 y1 y2 z0 z1 z2
      generalize (((w2.setCell ⟨w.heap.size + 1, 0, none⟩ (.slice none 0 0)).setCell ⟨w.heap.size + 1, 1, none⟩ (.int .i64 0)).setCell ⟨w.heap.size + 1, 2, none⟩ (.slice none 0 0)) = WF at *
      obtain ⟨r0, r1, r2⟩ := cells3 HF.out
      refine bodyPost_ret (v := .tuple #[.agg #[.slice none 0 0, .int .i64 0, .slice none 0 0], .int .i64 272]) (by simp [results, Try.results36, go_sem, r0, r1, r2]) rfl ?_
      exact ⟨⟨none, 0, 0⟩, ⟨none, 0, 0⟩, rfl, RdT.nil, rfl, RdT.nil, rfl, Nat.zero_le _, Nat.zero_le _, HFB.out⟩
end Go.Proofs.Ytamoniljgifggaa
