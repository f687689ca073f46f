/-
  salvorref05.Check.
-/
import Derived.Test.YtkpcpclaadgnbaaGreatDoorRefR6
set_option linter.unusedVariables false
set_option linter.unusedSimpArgs false
namespace Go.Proofs.YtkpcpclaadgnbaaGreatDoor
open Go.RowKit Go.PlainAid

theorem drop_consQ {α : Type} {L : List α} {i : Nat} {l : α} (h : L[i]? = some l) : L.drop i = l :: L.drop (i + 1) := by
  obtain ⟨hk', he⟩ := List.getElem?_eq_some_iff.1 h
  rw [← he, List.drop_eq_getElem_cons hk']
theorem checkG_at {v : Int} {C : List (List Int)} {i : Nat} {l : List Int} (h : C[i]? = some l) : checkG v i (C.drop i) = if clauseB l then (if l.any (fun x => !litIn v x) then ((i : Int), 51) else checkG v (i + 1) (C.drop (i + 1))) else ((i : Int), 20) := by
  rw [drop_consQ h]
  rfl
theorem litIn_var {v x : Int} (hx : litB x = true) : (!litIn v x) = decide (v < varL x) := by
  unfold litIn varL
  rw [hx, if_pos rfl]
  by_cases h : v < (x.natAbs : Int)
  · rw [decide_eq_true h, decide_eq_false (by omega)]; rfl
  · rw [decide_eq_false h, decide_eq_true (by omega)]; rfl
theorem any_snocQ {l : List Int} {p : Int → Bool} {k : Nat} {x : Int} (hx : l[k]? = some x) (h : (l.take k).any p = false) (hp : p x = false) : (l.take (k + 1)).any p = false := by
  rw [take_snoc hx, List.any_append, h]
  simp [hp]
set_option maxRecDepth 100000 in
set_option maxHeartbeats 4000000 in
theorem checkQ6 (v : Int) (A : Option Addr) (n c : Nat) (Q : List (SV × List Int)) (w : World) (h : Hid (ClsAt w A n Q)) :
    Calls Tryz.prog 37 #[.agg #[.int .i64 v, .slice A n c]] w fun e w' => e = .returned (.tuple #[.int .i64 (checkD ⟨v, clsOf Q⟩).1, .int .i64 (checkD ⟨v, clsOf Q⟩).2]) ∧ Below w.heap.size w w' := by
  obtain ⟨R, hR⟩ : ∃ R, checkD ⟨v, clsOf Q⟩ = R := ⟨_, rfl⟩
  have HR := Lib.hid hR
  rw [hR]
  clear hR
  obtain ⟨C, hC⟩ : ∃ C, clsOf Q = C := ⟨_, rfl⟩
  have HC := Lib.hid hC
  have HCL : Hid (C.length = n) := by show _ = _; rw [← hC, clsOf_len]; exact h.out.len
  rw [hC] at HR
  clear hC
  have hns := h.out.small
  have HX := Lib.hid (Bk.new w 69 #[.int .i64 v, .slice A n c])
  have HB0 : Hid (Below w.heap.size w (w.alloc (.cells #[.int .i64 v, .slice A n c] 69))) := balloc (Below.refl _ _) _
  have HH := Lib.hid (h.out.below HB0.out)
  go_enter Tryz.func37, Tryz.ntmps37
  go_upto_region 1 with fail
  generalize (w.alloc (.cells #[.int .i64 v, .slice A n c] 69)) = W0 at *
  obtain ⟨p, hp⟩ : ∃ p, w.heap.size = p := ⟨_, rfl⟩
  have hpw : w.heap.size ≤ p := by omega
  rw [hp] at HX ⊢
  have HPE := Lib.hid hp
  clear hp
  obtain ⟨x0, x1⟩ := cells2 HX.out
  by_cases a1 : v < 0
  · have e1 : decide (v < 0) = true := by simpa using a1
    have E : Hid (R = (-1, 50)) := by show _ = _; rw [← HR.out]; unfold checkD; rw [if_pos (.inl a1)]
    clear a1
    go_wp2_with fail
    go_ret2
    rw [E.out]
    exact ⟨rfl, HPE.out ▸ HB0.out⟩
  have e1 : decide (v < 0) = false := by simp; omega
  by_cases a2 : 1048576 < v
  · have e2 : decide (1048576 < v) = true := by simpa using a2
    have E : Hid (R = (-1, 50)) := by show _ = _; rw [← HR.out]; unfold checkD; rw [if_pos (.inr a2)]
    clear a1 a2
    go_wp2_with fail
    go_ret2
    rw [E.out]
    exact ⟨rfl, HPE.out ▸ HB0.out⟩
  have e2 : decide (1048576 < v) = false := by simp; omega
  by_cases a3 : 262144 < n
  · have e3 : decide ((262144 : Int) < (n : Int)) = true := by simp; omega
    have E : Hid (R = (-1, 5)) := by
      show _ = _
      rw [← HR.out]
      unfold checkD
      rw [if_neg (by dsimp only; omega), if_pos (by dsimp only; rw [HCL.out]; exact a3)]
    clear a1 a2 a3
    go_wp2_with fail
    go_ret2
    rw [E.out]
    exact ⟨rfl, HPE.out ▸ HB0.out⟩
  have e3 : decide ((262144 : Int) < (n : Int)) = false := by simp; omega
  have HG0 : Hid (checkG v 0 (C.drop 0) = R) := by
    show _ = _
    rw [← HR.out]
    unfold checkD
    rw [if_neg (by dsimp only; omega), if_neg (by dsimp only; rw [HCL.out]; exact a3)]
    rfl
  clear a1 a2 a3 HR
  go_upto_region 6 with fail
  clear x0 x1
  go_loopw [4] (fun v4 wr => ∃ i : Nat, i ≤ n ∧ v4 = .int .i64 i ∧ Hid (checkG v i (C.drop i) = R) ∧ Hid (Below W0.heap.size W0 wr)) (fun v4 _ => n - (intOf v4).toNat)
  case atStart => exact ⟨0, Nat.zero_le _, rfl, HG0, Below.refl _ _⟩
  case round =>
    obtain ⟨i, hi, rfl, HG, HB⟩ := hrel
    obtain ⟨x0, x1⟩ := cells2 (bkbel HX.out HB.out)
    by_cases hlt : i < n
    · have g1 : decide ((i : Int) < (n : Int)) = true := by simp; omega
      have hii : (i : Int) < (n : Int) := by omega
      have hwi : IntKind.i64.wrap ((i : Int) + 1) = (i : Int) + 1 := by rw [IntKind.wrap_i64]; omega
      obtain ⟨b, off, sA, sn, sc, l, rfl, hq, hbl, y00, hia⟩ := HH.out.at hlt
      have y0 := (HB.out.cell (p := ⟨b, off + i, none⟩) hbl).trans y00
      clear y00
      have hCl : C[i]? = some l := by rw [← HC.out]; exact clsOf_at hq
      have HIA := Lib.hid hia
      have HLL : Hid (l.length = sn) := hia.2.1
      have hsn : sn ≤ 100000000 := hia.2.2.2
      have HGA : Hid ((if clauseB l then (if l.any (fun x => !litIn v x) then ((i : Int), 51) else checkG v (i + 1) (C.drop (i + 1))) else ((i : Int), 20)) = R) := by
        show _ = _
        rw [← checkG_at hCl]
        exact HG.out
      clear hq hia hCl HG
      go_wp2_with fail
      refine (clauseRightQ sA sn sc l wr (Lib.hid (HIA.out.1.below HB.out)) HLL hsn).mono ?_
      rintro e w' ⟨rfl, rfl⟩
      cases hcb : clauseB l with
      | false =>
        have E : Hid (R = ((i : Int), 20)) := by
          have h1 := HGA.out
          rw [hcb] at h1
          exact h1.symm
        clear hcb HGA y0 x0 x1
        go_wp2_with fail
        go_ret2
        rw [E.out]
        exact ⟨rfl, bthen HB0.out HB.out⟩
      | true =>
        have HGB : Hid ((if l.any (fun x => !litIn v x) then ((i : Int), 51) else checkG v (i + 1) (C.drop (i + 1))) = R) := by
          have h1 := HGA.out
          rw [hcb] at h1
          exact h1
        have HLB : Hid (∀ x ∈ l, litB x = true) := (clause_parts hcb).2
        clear hcb HGA y0 x0 x1
        go_wp2_with fail
        go_loopw [6] (fun v6 wr2 => ∃ k : Nat, k ≤ sn ∧ v6 = .int .i64 k ∧ Hid ((l.take k).any (fun x => !litIn v x) = false) ∧ Hid (Below W0.heap.size W0 wr2)) (fun v6 _ => sn - (intOf v6).toNat)
        case atStart => exact ⟨0, Nat.zero_le _, rfl, rfl, HB⟩
        case round =>
          obtain ⟨k, hk, rfl, HA, HB2⟩ := hrel
          obtain ⟨x0, x1⟩ := cells2 (bkbel HX.out HB2.out)
          by_cases hkt : k < sn
          · have g2 : decide ((k : Int) < (sn : Int)) = true := by simp; omega
            have hki : (k : Int) < (sn : Int) := by omega
            obtain ⟨b2, o2, x, rfl, hx, y0⟩ := (HIA.out.1.below HB2.out).getm HLL.out hkt
            have hxb := HLB.out x (List.mem_of_getElem? hx)
            have HLI := Lib.hid (litIn_var (v := v) hxb)
            have HX2 := Lib.hid hx
            have HVQ : Hid (∀ W : World, Calls Tryz.prog 79 #[.int .i64 x] W fun e w' => e = .returned (.int .i64 (varL x)) ∧ w' = W) := fun W => (varQ x W).mono fun e w' h => ⟨h.1, h.2.symm⟩
            clear hx hxb
            obtain ⟨d0, hd0⟩ : ∃ d0 : Bool, decide (v < varL x) = d0 := ⟨_, rfl⟩
            have HD0 := Lib.hid hd0
            rw [hd0] at HLI
            clear hd0
            go_upto_region 14 with fail
            go_cut [48] (fun v48 wx => v48 = .bool d0 ∧ Hid (Below wr.heap.size wr wx))
            case first =>
              go_quiet ((go_at_call 79; with_reducible exact Calls.quiet_of_same (HVQ.out _)))
              go_wp2_with fail
              go_meet
              exact ⟨by rw [HD0.out], below_drewN _ _⟩
            case rest =>
            obtain ⟨rfl, hbx⟩ := hcut
            have HB3 := Lib.hid (bthen HB2.out hbx.out)
            clear HVQ HD0 hbx y0 x0 x1 HB2
            cases d0 with
            | true =>
              have E : Hid (R = ((i : Int), 51)) := by
                have h1 := HGB.out
                rw [List.any_eq_true.2 ⟨x, List.mem_of_getElem? HX2.out, HLI.out⟩, if_pos rfl] at h1
                exact h1.symm
              go_wp2_with fail
              go_ret2
              rw [E.out]
              exact ⟨rfl, bthen HB0.out HB3.out⟩
            | false =>
              have HA2 := Lib.hid (any_snocQ HX2.out HA.out HLI.out)
              go_wp2_with fail
              go_roundw
              case rel => exact ⟨k + 1, by omega, by go_num, HA2, HB3⟩
              case measure => simp [intOf]; omega
          · have g2 : decide ((k : Int) < (sn : Int)) = false := by simp; omega
            have HG2 : Hid (checkG v (i + 1) (C.drop (i + 1)) = R) := by
              have h1 := HGB.out
              have h2 := HA.out
              rw [List.take_of_length_le (by rw [HLL.out]; omega)] at h2
              rw [h2] at h1
              exact h1
            go_wp2_with fail
            go_roundw
            case rel => exact ⟨i + 1, by omega, by go_num, HG2, HB2⟩
            case measure => simp [intOf]; omega
    · have g1 : decide ((i : Int) < (n : Int)) = false := by simp; omega
      have E : Hid (R = (-1, 0)) := by
        have h1 := HG.out
        rw [List.drop_eq_nil_of_le (by rw [HCL.out]; omega)] at h1
        exact h1.symm
      go_wp2_with fail
      go_ret2
      rw [E.out]
      exact ⟨rfl, bthen HB0.out HB.out⟩
end Go.Proofs.YtkpcpclaadgnbaaGreatDoor
