/-
  dimacs.over, Header, ParseHeader, Line; formulas in memory.
-/
import Derived.Test.YtkpcpclaadgnbaaGreatDoorLitC
import Derived.Test.YtkpcpclaadgnbaaGreatDoorDimP
import Derived.Test.YtkpcpclaadgnbaaGreatDoorOneQ
import Derived.Lib.TrimByte
set_option linter.unusedVariables false
set_option linter.unusedSimpArgs false
namespace Go.Proofs.YtkpcpclaadgnbaaGreatDoor
open Go.RowKit Go.PlainAid

theorem ret2i {a b c d : Int} (h : (a, b) = (c, d)) : Ending.returned (.tuple #[.int .i64 a, .int .i64 b]) = .returned (.tuple #[.int .i64 c, .int .i64 d]) := by
  obtain ⟨rfl, rfl⟩ := Prod.mk.inj h
  rfl
theorem dw_nil (p : UInt8 → Bool) : ∀ l : List UInt8, l.dropWhile p = [] ↔ ∀ x ∈ l, p x = true
  | [] => by simp
  | y :: r => by
    rw [List.dropWhile_cons]
    cases hy : p y with
    | true => simp [hy, dw_nil p r]
    | false => simp [hy]
theorem dw_head (p : UInt8 → Bool) : ∀ (l : List UInt8) (y : UInt8) (r : List UInt8), l.dropWhile p = y :: r → p y = false
  | [], _, _, h => by simp at h
  | x :: l, y, r, h => by
    rw [List.dropWhile_cons] at h
    cases hx : p x with
    | true => rw [hx, if_pos rfl] at h; exact dw_head p l y r h
    | false =>
      rw [hx, if_neg (by simp)] at h
      obtain ⟨rfl, _⟩ := List.cons.inj h
      exact hx
theorem dw_mem (p : UInt8 → Bool) : ∀ (l : List UInt8) (x : UInt8), x ∈ l.dropWhile p → x ∈ l
  | [], _, h => by simp at h
  | y :: l, x, h => by
    rw [List.dropWhile_cons] at h
    split at h
    · exact List.mem_cons_of_mem _ (dw_mem p l x h)
    · exact h
theorem trim_nil (l : List UInt8) : Lib.trimB l 32 = [] ↔ l.all (· == 32) = true := by
  unfold Lib.trimB Lib.trimLeftB Lib.trimRightB
  rw [dw_nil, List.all_eq_true]
  constructor
  · intro h x hx
    cases hd : l.reverse.dropWhile (· == 32) with
    | nil => exact (dw_nil _ _).1 hd x (List.mem_reverse.2 hx)
    | cons y r =>
      have h1 := h y (by rw [hd]; simp)
      have h2 := dw_head _ _ _ _ hd
      rw [h1] at h2
      cases h2
  · intro h x hx
    exact h x (List.mem_reverse.1 (dw_mem _ _ _ (List.mem_reverse.1 hx)))
theorem le_sum : ∀ (l : List Nat) (x : Nat), x ∈ l → x ≤ l.sum
  | [], _, h => by cases h
  | y :: l, x, h => by
    rw [List.sum_cons]
    rcases List.mem_cons.1 h with rfl | h
    · omega
    · have := le_sum l x h
      omega
set_option maxRecDepth 100000 in
theorem overDC (s : ByteArray) (w : World) (hs : s.size ≤ 100000000) : Calls Tryz.prog 50 #[.string s] w fun e w' => e = .returned (.bool (overD s.data.toList)) ∧ Below w.heap.size w w' := by
  have hT : Calls Tryz.prog 88 #[.string s, .string ⟨#[32]⟩] w fun e w' => e = .returned (.string (str (Lib.trimB s.data.toList 32))) ∧ Below w.heap.size w w' :=
    (Tryz.strings_Trim_one s 32 (by decide) w (by omega)).mono fun e w' ⟨he, hw⟩ => ⟨he, by
      rcases hw with rfl | rfl
      · exact Below.refl _ _
      · exact (Below.refl _ _).drew⟩
  have HT := Lib.hid hT
  clear hT
  obtain ⟨tb, htb⟩ : ∃ tb, str (Lib.trimB s.data.toList 32) = tb := ⟨_, rfl⟩
  have htd : tb.toList = Lib.trimB s.data.toList 32 := by rw [← htb, toList_data, str_data]
  rw [htb] at HT
  by_cases h0 : s.data.toList.all (· == 32) = true
  · have e0 : tb.toList = [] := by rw [htd]; exact (trim_nil _).2 h0
    have E : Hid (overD s.data.toList = true) := by show _ = _; unfold overD; rw [h0]; rfl
    clear htb htd h0
    go_enter Tryz.func50, Tryz.ntmps50
    go_wp2_with fail
    refine HT.out.mono ?_
    rintro e w1 ⟨rfl, hb⟩
    have HB := Lib.hid hb
    clear hb
    go_wp2_with fail
    go_ret
    exact ⟨ret_bool E.out.symm, HB.out⟩
  · have hne : ¬ tb.toList = [] := fun h => h0 ((trim_nil _).1 (by rw [← htd]; exact h))
    have e0 : tb.toList.isEmpty = false := by simpa using hne
    have e0' : (tb.toList == []) = false := by simpa using hne
    have hall : s.data.toList.all (· == 32) = false := by simpa using h0
    clear htb htd h0
    by_cases h2 : s.toList = [99]
    · have E : Hid (overD s.data.toList = true) := by show _ = _; unfold overD; rw [← toList_data, h2]; rfl
      clear hne hall
      go_enter Tryz.func50, Tryz.ntmps50
      go_wp2_with fail
      refine HT.out.mono ?_
      rintro e w1 ⟨rfl, hb⟩
      have HB := Lib.hid hb
      clear hb
      go_wp2_with fail
      go_ret
      exact ⟨ret_bool E.out.symm, HB.out⟩
    · have e2 : (s.toList == [99]) = false := by simpa using h2
      have E : Hid (overD s.data.toList = Lib.hasPrefix s.data.toList [99, 32]) := by
        show _ = _
        unfold overD
        rw [hall, ← toList_data, e2]
        rfl
      clear hne hall h2
      go_enter Tryz.func50, Tryz.ntmps50
      go_wp2_with fail
      refine HT.out.mono ?_
      rintro e w1 ⟨rfl, hb⟩
      have HB := Lib.hid hb
      clear hb
      go_wp2_with fail
      refine (Tryz.strings_HasPrefix s _ w1).mono ?_
      rintro e w' ⟨rfl, rfl⟩
      go_wp2
      go_ret
      exact ⟨ret_bool E.out.symm, HB.out⟩
/-! ### Header -/
def headE (v n : Int) : List UInt8 × Int := if v < 0 ∨ 1048576 < v then ([], 50) else if n < 0 ∨ 262144 < n then ([], 5) else (hdS v n, 0)
theorem headE_ok {v n : Int} (h : hdOk v n = true) : headE v n = (hdS v n, 0) := by
  have hp := hdOk_parts h
  unfold headE
  rw [if_neg (by omega), if_neg (by omega)]
theorem headE_no {v n : Int} (h : hdOk v n = false) : (headE v n).1 = [] ∧ (headE v n).2 ≠ 0 := by
  unfold headE
  split
  · exact ⟨rfl, by decide⟩
  · split
    · exact ⟨rfl, by decide⟩
    · rename_i h1 h2
      rw [hdOk_mk (by omega) (by omega) (by omega) (by omega)] at h
      cases h
theorem retSE {a : List UInt8} {b : ByteArray} {c d : Int} (h1 : b = str a) (h2 : d = c) : Ending.returned (.tuple #[.string b, .int .i64 d]) = .returned (.tuple #[.string (str a), .int .i64 c]) := by rw [h1, h2]
set_option maxRecDepth 100000 in
theorem headerC (v n : Int) (w : World) (hv : Hid (Vars w)) : Calls Tryz.prog 22 #[.int .i64 v, .int .i64 n] w fun e w' => e = .returned (.tuple #[.string (str (headE v n).1), .int .i64 (headE v n).2]) ∧ Below w.heap.size w w' := by
  rcases (by omega : v < 0 ∨ (¬ v < 0 ∧ 1048576 < v) ∨ (¬ v < 0 ∧ ¬ 1048576 < v)) with h1 | ⟨h1, h2⟩ | ⟨h1, h2⟩
  · have e1 : decide (v < 0) = true := by simpa using h1
    have E : Hid (headE v n = ([], 50)) := by show _ = _; unfold headE; rw [if_pos (.inl h1)]
    clear h1
    go_enter Tryz.func22, Tryz.ntmps22
    go_wp2
    go_ret2
    exact ⟨by rw [E.out]; rfl, Below.refl _ _⟩
  · have e1 : decide (v < 0) = false := by simpa using h1
    have e2 : decide (1048576 < v) = true := by simpa using h2
    have E : Hid (headE v n = ([], 50)) := by show _ = _; unfold headE; rw [if_pos (.inr h2)]
    clear h1 h2
    go_enter Tryz.func22, Tryz.ntmps22
    go_wp2
    go_ret2
    exact ⟨by rw [E.out]; rfl, Below.refl _ _⟩
  · have e1 : decide (v < 0) = false := by simpa using h1
    have e2 : decide (1048576 < v) = false := by simpa using h2
    rcases (by omega : n < 0 ∨ (¬ n < 0 ∧ 262144 < n) ∨ (¬ n < 0 ∧ ¬ 262144 < n)) with h3 | ⟨h3, h4⟩ | ⟨h3, h4⟩
    · have e3 : decide (n < 0) = true := by simpa using h3
      have E : Hid (headE v n = ([], 5)) := by show _ = _; unfold headE; rw [if_neg (by omega), if_pos (.inl h3)]
      clear h1 h2 h3
      go_enter Tryz.func22, Tryz.ntmps22
      go_wp2
      go_ret2
      exact ⟨by rw [E.out]; rfl, Below.refl _ _⟩
    · have e3 : decide (n < 0) = false := by simpa using h3
      have e4 : decide (262144 < n) = true := by simpa using h4
      have E : Hid (headE v n = ([], 5)) := by show _ = _; unfold headE; rw [if_neg (by omega), if_pos (.inr h4)]
      clear h1 h2 h3 h4
      go_enter Tryz.func22, Tryz.ntmps22
      go_wp2
      go_ret2
      exact ⟨by rw [E.out]; rfl, Below.refl _ _⟩
    · have e3 : decide (n < 0) = false := by simpa using h3
      have e4 : decide (262144 < n) = false := by simpa using h4
      have E : Hid (headE v n = (hdS v n, 0)) := by show _ = _; unfold headE; rw [if_neg (by omega), if_neg (by omega)]
      have HI1 : Hid (I64 v) := ⟨by omega, by omega⟩
      have HI2 : Hid (I64 n) := ⟨by omega, by omega⟩
      have hz1 : (str (Lib.itoa v)).size ≤ 21 := by rw [str_size]; exact itoa_len v HI1.out
      have hz2 : (str (Lib.itoa n)).size ≤ 21 := by rw [str_size]; exact itoa_len n HI2.out
      clear h1 h2 h3 h4
      go_enter Tryz.func22, Tryz.ntmps22
      go_wp2_with fail
      refine (itoaC v w HI1 hv).mono ?_
      rintro e w1 ⟨rfl, hb1⟩
      have HB1 := Lib.hid hb1
      clear hb1
      go_wp2_with fail
      refine (itoaC n w1 HI2 (Lib.hid (hv.out.below HB1.out))).mono ?_
      rintro e w2 ⟨rfl, hb2⟩
      have HB2 := Lib.hid (bthen HB1.out hb2)
      clear hb2
      go_wp2
      go_ret2
      refine ⟨?_, HB2.out⟩
      rw [E.out]
      refine retSE (data_inj ?_) rfl
      rw [str_data]
      simp only [cat_data, str_data]
      unfold hdS
      simp
/-! ### ParseHeader -/
def headP (t : List UInt8) : Int × Int × Int := match parseH t with
  | some (v, n) => (v, n, 0)
  | none => (0, 0, 60)
theorem ret3i {a b c a' b' c' : Int} (h : (a, b, c) = (a', b', c')) : Ending.returned (.tuple #[.int .i64 a, .int .i64 b, .int .i64 c]) = .returned (.tuple #[.int .i64 a', .int .i64 b', .int .i64 c']) := by
  rw [Prod.mk.injEq, Prod.mk.injEq] at h
  rw [h.1, h.2.1, h.2.2]
theorem pieces_small6 (s : ByteArray) (c : UInt8) (hs : s.size ≤ 20000000) : (pieces s c).length ≤ 20000002 ∧ ∀ x ∈ pieces s c, x.size ≤ 20000000 := by
  have hsum := split_sum c s.data.toList
  have hl : (pieces s c).length = (Lib.split s.data.toList [c]).length := by rw [← pieces_data, List.length_map]
  have hd := data_len s
  constructor
  · omega
  · intro x hx
    have h1 : x.data.toList ∈ Lib.split s.data.toList [c] := by
      rw [← pieces_data]
      exact List.mem_map.2 ⟨x, hx, rfl⟩
    have h2 : x.data.toList.length ≤ ((Lib.split s.data.toList [c]).map List.length).sum := le_sum _ _ (List.mem_map.2 ⟨_, h1, rfl⟩)
    have h3 := data_len x
    have h4 : 1 ≤ (Lib.split s.data.toList [c]).length := List.length_pos_iff.2 (split_spec c s.data.toList).1
    omega
set_option maxRecDepth 100000 in
set_option maxHeartbeats 1000000 in
theorem parseHC (s : ByteArray) (w : World) (hs : s.size ≤ 20000000) (hv : Hid (Vars w)) : Calls Tryz.prog 34 #[.string s] w fun e w' => e = .returned (.tuple #[.int .i64 (headP s.data.toList).1, .int .i64 (headP s.data.toList).2.1, .int .i64 (headP s.data.toList).2.2]) ∧ Below w.heap.size w w' := by
  obtain ⟨Ws, hWs⟩ : ∃ Ws, pieces s 32 = Ws := ⟨_, rfl⟩
  have hsm := pieces_small6 s 32 hs
  have hpd := pieces_data s 32
  rw [hWs] at hsm hpd
  have hln := hsm.1
  have HSM := Lib.hid hsm.2
  have HPD := Lib.hid hpd
  have HWS := Lib.hid hWs
  clear hsm hpd hWs
  have HB0 : Hid (Below w.heap.size w (w.alloc (.cells (Ws.map Value.string).toArray 9))) := balloc (Below.refl _ _) _
  have HW0 := Lib.hid (Bk.new w 9 (Ws.map Value.string).toArray)
  have HV0 := Lib.hid (hv.out.below HB0.out)
  go_enter Tryz.func34, Tryz.ntmps34
  go_wp2_with fail
  refine (splitC s 32 _ (by omega) hv).mono ?_
  rintro e w1 ⟨rfl, rfl⟩
  rw [HWS.out]
  generalize (w.alloc (.cells (Ws.map Value.string).toArray 9)) = W1 at *
  obtain ⟨q, hq⟩ : ∃ q, w.heap.size = q := ⟨_, rfl⟩
  have HQ := Lib.hid hq
  rw [hq] at HW0 ⊢
  clear hq
  by_cases h4 : Ws.length = 4
  rotate_left
  · have e1 : ((Ws.length : Int) != 4) = true := by simp; omega
    have E : Hid (headP s.data.toList = (0, 0, 60)) := by
      show _ = _
      unfold headP parseH
      rw [← HPD.out]
      rcases Ws with _ | ⟨a, _ | ⟨b, _ | ⟨c, _ | ⟨d, _ | ⟨x, r⟩⟩⟩⟩⟩
      · rfl
      · rfl
      · rfl
      · rfl
      · exact absurd rfl h4
      · rfl
    clear h4
    go_wp2_with fail
    go_ret3
    exact ⟨by rw [E.out]; rfl, HQ.out ▸ HB0.out⟩
  · have e1 : ((Ws.length : Int) != 4) = false := by simp; omega
    obtain ⟨a, b, c, d, hW⟩ : ∃ a b c d, Ws = [a, b, c, d] := by
      rcases Ws with _ | ⟨a, _ | ⟨b, _ | ⟨c, _ | ⟨d, _ | ⟨x, r⟩⟩⟩⟩⟩
      · cases h4
      · cases h4
      · cases h4
      · cases h4
      · exact ⟨a, b, c, d, rfl⟩
      · simp at h4
    subst hW
    have hc1 := HSM.out c (by simp)
    have hd1 := HSM.out d (by simp)
    have HP : Hid (parseH s.data.toList = match Lib.atoiAll c.data.toList, Lib.atoiAll d.data.toList with | .ok v, .ok n => if hdOk v n = true ∧ hdS v n = s.data.toList then some (v, n) else none | _, _ => none) := by
      show _ = _
      unfold parseH
      rw [← HPD.out]
      rfl
    have x2 := HW0.out.cell 2
    have x3 := HW0.out.cell 3
    simp only [List.map_cons, List.map_nil, List.getElem?_toArray, List.getElem?_cons_succ, List.getElem?_cons_zero] at x2 x3
    have hql := HW0.out.lt
    clear h4 HSM HPD HWS
    have ec : (([a, b, c, d] : List ByteArray).length : Int) = 4 := rfl
    by_cases hc : ∀ n, Lib.atoiAll c.data.toList ≠ .ok n
    · have E : Hid (headP s.data.toList = (0, 0, 60)) := by
        show _ = _
        unfold headP
        rw [HP.out]
        cases h1 : Lib.atoiAll c.data.toList with
        | ok n => exact absurd h1 (hc n)
        | _ => rfl
      have HC := Lib.hid hc
      clear hc HP
      go_wp2_with fail
      refine (atoi_no c W1 HC (by omega) HV0).mono ?_
      rintro e w2 ⟨xv, N, rfl, hb⟩
      have HB2 := Lib.hid hb
      have y3 := (hb.cell (p := ⟨q, 3, none⟩) hql).trans x3
      clear hb x2 x3
      dsimp only
      by_cases hd : ∀ n, Lib.atoiAll d.data.toList ≠ .ok n
      · have HD := Lib.hid hd
        clear hd
        go_wp2_with fail
        refine (atoi_no d w2 HD (by omega) (Lib.hid (HV0.out.below HB2.out))).mono ?_
        rintro e w3 ⟨xv3, N3, rfl, hb⟩
        have HB3 := Lib.hid (bthen HB2.out hb)
        clear hb
        dsimp only
        go_wp2_with fail
        go_ret3
        exact ⟨by rw [E.out]; rfl, HQ.out ▸ (bthen HB0.out HB3.out)⟩
      · obtain ⟨m, hm⟩ : ∃ m, Lib.atoiAll d.data.toList = .ok m := Classical.byContradiction fun h => hd fun n hn => h ⟨n, hn⟩
        have HD := Lib.hid hm
        clear hd hm
        go_wp2_with fail
        refine (atoi_ok d m w2 HD (by omega)).mono ?_
        rintro e w3 ⟨rfl, hb⟩
        have HB3 := Lib.hid (bthen HB2.out hb)
        clear hb
        dsimp only
        go_wp2_with fail
        go_ret3
        exact ⟨by rw [E.out]; rfl, HQ.out ▸ (bthen HB0.out HB3.out)⟩
    · obtain ⟨v, hvv⟩ : ∃ m, Lib.atoiAll c.data.toList = .ok m := Classical.byContradiction fun h => hc fun n hn => h ⟨n, hn⟩
      have HC := Lib.hid hvv
      clear hc hvv
      go_wp2_with fail
      refine (atoi_ok c v W1 HC (by omega)).mono ?_
      rintro e w2 ⟨rfl, hb⟩
      have HB2 := Lib.hid hb
      have y3 := (hb.cell (p := ⟨q, 3, none⟩) hql).trans x3
      clear hb x2 x3
      dsimp only
      by_cases hd : ∀ n, Lib.atoiAll d.data.toList ≠ .ok n
      · have E : Hid (headP s.data.toList = (0, 0, 60)) := by
          show _ = _
          unfold headP
          rw [HP.out, HC.out]
          cases h1 : Lib.atoiAll d.data.toList with
          | ok n => exact absurd h1 (hd n)
          | _ => rfl
        have HD := Lib.hid hd
        clear hd HP
        go_wp2_with fail
        refine (atoi_no d w2 HD (by omega) (Lib.hid (HV0.out.below HB2.out))).mono ?_
        rintro e w3 ⟨xv3, N3, rfl, hb⟩
        have HB3 := Lib.hid (bthen HB2.out hb)
        clear hb
        dsimp only
        go_wp2_with fail
        go_ret3
        exact ⟨by rw [E.out]; rfl, HQ.out ▸ (bthen HB0.out HB3.out)⟩
      · obtain ⟨m, hm⟩ : ∃ m, Lib.atoiAll d.data.toList = .ok m := Classical.byContradiction fun h => hd fun n hn => h ⟨n, hn⟩
        have HD := Lib.hid hm
        have E0 : Hid (parseH s.data.toList = if hdOk v m = true ∧ hdS v m = s.data.toList then some (v, m) else none) := by
          show _ = _
          rw [HP.out, HC.out, hm]
        clear hd hm HP
        go_wp2_with fail
        refine (atoi_ok d m w2 HD (by omega)).mono ?_
        rintro e w3 ⟨rfl, hb⟩
        have HB3 := Lib.hid (bthen HB2.out hb)
        clear hb
        dsimp only
        go_wp2_with fail
        refine (headerC v m w3 (Lib.hid (HV0.out.below HB3.out))).mono ?_
        rintro e w4 ⟨rfl, hb⟩
        have HB4 := Lib.hid (bthen HB3.out hb)
        clear hb
        dsimp only
        cases hok : hdOk v m with
        | false =>
          have E : Hid (headP s.data.toList = (0, 0, 60)) := by
            show _ = _
            unfold headP
            rw [E0.out, hok, if_neg (by simp)]
          have hno := headE_no hok
          obtain ⟨⟨h1, er⟩, he⟩ : ∃ p, headE v m = p := ⟨_, rfl⟩
          rw [he] at hno ⊢
          have e3 : (er != 0) = true := by simpa using hno.2
          clear he hno hok E0
          go_wp2_with fail
          go_ret3
          exact ⟨by rw [E.out]; rfl, HQ.out ▸ (bthen HB0.out HB4.out)⟩
        | true =>
          rw [headE_ok hok]
          by_cases heq : hdS v m = s.data.toList
          · have E : Hid (headP s.data.toList = (v, m, 0)) := by
              show _ = _
              unfold headP
              rw [E0.out, hok, if_pos ⟨rfl, heq⟩]
            have e3 : ((str (hdS v m)).toList != s.toList) = false := by rw [toList_data, toList_data, str_data, heq]; simp
            have e4 : ((str (hdS v m)).toList == s.toList) = true := by rw [toList_data, toList_data, str_data, heq]; simp
            clear heq hok E0
            go_wp2_with fail
            go_ret3
            exact ⟨by rw [E.out]; rfl, HQ.out ▸ (bthen HB0.out HB4.out)⟩
          · have E : Hid (headP s.data.toList = (0, 0, 60)) := by
              show _ = _
              unfold headP
              rw [E0.out, hok, if_neg (fun h => heq h.2)]
            have e3 : ((str (hdS v m)).toList != s.toList) = true := by rw [toList_data, toList_data, str_data]; simpa using heq
            have e4 : ((str (hdS v m)).toList == s.toList) = false := by rw [toList_data, toList_data, str_data]; simpa using heq
            clear heq hok E0
            go_wp2_with fail
            go_ret3
            exact ⟨by rw [E.out]; rfl, HQ.out ▸ (bthen HB0.out HB4.out)⟩
end Go.Proofs.YtkpcpclaadgnbaaGreatDoor
