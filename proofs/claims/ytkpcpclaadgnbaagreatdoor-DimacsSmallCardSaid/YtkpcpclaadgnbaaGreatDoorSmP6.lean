/-
  The long texts of DimacsSmall, and its long formula. Plain lists.
-/
import Derived.Test.YtkpcpclaadgnbaaGreatDoorWrongP6
import Derived.Lib.Repeat
set_option linter.unusedVariables false
set_option linter.unusedSimpArgs false
namespace Go.Proofs.YtkpcpclaadgnbaaGreatDoor
open Go.Lib

theorem itoa_one : itoa 1 = [49] := by decide +kernel
theorem rep_txL : ∀ n : Nat, repeatL [49, 32] n = txL (List.replicate n 1)
  | 0 => rfl
  | n + 1 => by
    rw [repeatL, rep_txL n, List.replicate_succ]
    unfold txL
    rw [List.flatMap_cons, itoa_one]
    rfl
def onesC : List Int := List.replicate 4096 1
theorem ones_len : onesC.length = 4096 := List.length_replicate
theorem ones_in : ∀ l ∈ onesC, litIn 1 l = true := by
  intro l hl
  have : l = 1 := List.eq_of_mem_replicate hl
  rw [this]
  decide
def fmL : Fm := ⟨1, [onesC]⟩
theorem fmL_ok : checkD fmL = (-1, 0) := checkD_ok.2 ⟨⟨by show (0 : Int) ≤ 1; omega, by show (1 : Int) ≤ 1048576; omega⟩, by show 1 ≤ 262144; omega, fun c hc => by
  have : c = onesC := by simpa [fmL] using hc
  subst this
  exact ⟨by rw [ones_len]; omega, ones_in⟩⟩
theorem hd11 : hdS 1 1 = [112, 32, 99, 110, 102, 32, 49, 32, 49] := by decide +kernel
theorem long_one : readD ([112, 32, 99, 110, 102, 32, 49, 32, 49, 10] ++ repeatL [49, 32] 4096 ++ [48, 10]) = (fmL, 0, 0) := by
  have ht : [112, 32, 99, 110, 102, 32, 49, 32, 49, 10] ++ repeatL [49, 32] 4096 ++ [48, 10] = textD fmL := by
    rw [rep_txL]
    show _ = hdS 1 1 ++ 10 :: txS [onesC]
    rw [hd11]
    unfold txS
    rw [List.flatMap_cons, List.flatMap_nil, lnS_txL]
    show _ ++ txL onesC ++ _ = _
    generalize txL onesC = T
    simp
  rw [ht]
  refine readD_text fmL_ok ?_
  have h1 := text_len fmL_ok
  have h2 : (fmL.cls.map List.length).sum = 4096 := by
    show ([onesC].map List.length).sum = 4096
    simp [ones_len]
  have h3 : fmL.cls.length = 1 := rfl
  omega
theorem runW_app (v : Int) (n : Nat) (T : List (Nat × List UInt8)) : ∀ (W : List (Nat × List UInt8)) (st st' : Rs), runW v n st W = (0, 0, st') → runW v n st (W ++ T) = runW v n st' T
  | [], st, st', h => by
    have : st = st' := (Prod.mk.inj (Prod.mk.inj h).2).2
    rw [this]
    rfl
  | p :: r, st, st', h => by
    rw [runW] at h
    rw [List.cons_append, runW]
    split at h
    · rename_i h0
      rw [if_pos h0]
      exact runW_app v n T r _ st' h
    · rename_i h0
      exact absurd (Prod.mk.inj (Prod.mk.inj h).2).1 h0
theorem long_two : readD ([112, 32, 99, 110, 102, 32, 49, 32, 49, 10] ++ repeatL [49, 32] 4096 ++ [10, 49, 32, 48, 10]) = (F0, 3, 5) := by
  have hj : [112, 32, 99, 110, 102, 32, 49, 32, 49, 10] ++ repeatL [49, 32] 4096 ++ [10, 49, 32, 48, 10] = joinB 10 [hdS 1 1, txL onesC, [49, 32, 48], []] := by
    rw [rep_txL, hd11, joinB_cons _ _ _ (by simp), joinB_cons _ _ _ (by simp), joinB_cons _ _ _ (by simp)]
    show _ ++ txL onesC ++ _ = _ ++ 10 :: (_ ++ 10 :: ([49, 32, 48] ++ 10 :: []))
    generalize txL onesC = T
    simp
  have hlen : ([112, 32, 99, 110, 102, 32, 49, 32, 49, 10] ++ repeatL [49, 32] 4096 ++ [10, 49, 32, 48, 10]).length ≤ 4194304 := by
    rw [List.length_append, List.length_append, repeatL_length]
    decide
  unfold readD
  rw [if_neg (by omega), hj, split_join 10 _ (by simp) (fun w hw => by
    simp only [List.mem_cons, List.not_mem_nil, or_false] at hw
    rcases hw with rfl | rfl | rfl | rfl
    · exact hd_free _ _
    · exact txL_free _
    · decide
    · simp)]
  rw [readL_hd (v := 1) (m := 1) (hdOk_mk (by omega) (by omega) (by omega) (by omega))]
  have ho : overD (txL onesC) = false := by
    refine over_of ⟨49, ?_, by decide⟩ ?_
    · have : onesC = 1 :: List.replicate 4095 1 := rfl
      rw [this]
      unfold txL
      rw [List.flatMap_cons, itoa_one]
      exact List.mem_append_left _ (List.mem_append_left _ List.mem_cons_self)
    · intro h
      exact ln_no onesC 99 (fun n => (itoa_free n).2.2.2) (by decide) (by decide) (by rw [lnS_txL]; exact List.mem_append_left _ h)
  have hw : wordsD [txL onesC, [49, 32, 48], []] 1 = ((onesC.map itoa).map fun w => (2, w)) ++ [(3, [49]), (3, [48])] := by
    conv => lhs; unfold wordsD
    rw [if_neg (by rw [ho]; simp), txL_words]
    have h2 : wordsD [[49, 32, 48], []] (1 + 1) = [(3, [49]), (3, [48])] := by decide +kernel
    rw [h2]
  rw [hw]
  obtain ⟨b', hb⟩ := run_part 1 1 2 onesC [] [] false ones_in (by rw [ones_len]; simp) (by simp)
  rw [List.nil_append] at hb
  have hr : runW 1 1 zRs (((onesC.map itoa).map fun w => (2, w)) ++ [(3, [49]), (3, [48])]) = (3, 5, ⟨[], onesC, b'⟩) := by
    unfold zRs
    rw [runW_app 1 1 _ _ _ _ hb]
    have hs : stepW 1 1 ⟨[], onesC, b'⟩ [49] = (5, ⟨[], onesC, b'⟩) := by
      have hl : litW [49] = some 1 := by decide +kernel
      unfold stepW
      rw [if_neg (by decide), hl]
      dsimp only
      rw [if_neg (by decide), if_neg (by simp), if_pos ⟨by decide, ones_len⟩]
    rw [runW]
    dsimp only
    rw [hs]
    dsimp only
    rw [if_neg (by decide)]
    rfl
  show endD 1 1 _ (runW 1 1 zRs _) = _
  rw [hr]
  rfl
theorem long_three {t : List UInt8} (h : 4194304 < t.length) : readD t = (F0, 0, 3) := by
  unfold readD
  rw [if_pos h]
def lowC : List Int := List.replicate 2000 (-1048576)
def manyF : Fm := ⟨1048576, List.replicate 300 lowC⟩
theorem low_len : lowC.length = 2000 := List.length_replicate
theorem many_ok : checkD manyF = (-1, 0) := checkD_ok.2 ⟨⟨by show (0 : Int) ≤ 1048576; omega, by show (1048576 : Int) ≤ 1048576; omega⟩, by show (List.replicate 300 lowC).length ≤ _; rw [List.length_replicate]; omega, fun c hc => by
  have : c = lowC := List.eq_of_mem_replicate hc
  subst this
  refine ⟨by rw [low_len]; omega, fun l hl => ?_⟩
  have : l = -1048576 := List.eq_of_mem_replicate hl
  rw [this]
  decide⟩
theorem ln_rep (l : Int) : ∀ n : Nat, (lnS (List.replicate n l)).length = n * ((itoa l).length + 1) + 1
  | 0 => by rw [Nat.zero_mul]; rfl
  | n + 1 => by
    have ih := ln_rep l n
    rw [List.replicate_succ]
    unfold lnS at ih ⊢
    rw [List.flatMap_cons]
    simp only [List.length_append, List.length_cons, List.length_nil] at ih ⊢
    rw [Nat.succ_mul]
    omega
theorem tx_rep (c : List Int) : ∀ n : Nat, (txS (List.replicate n c)).length = n * ((lnS c).length + 1)
  | 0 => by rw [Nat.zero_mul]; rfl
  | n + 1 => by
    have ih := tx_rep c n
    rw [List.replicate_succ]
    unfold txS at ih ⊢
    rw [List.flatMap_cons, List.length_append, List.length_append, ih, Nat.succ_mul]
    simp
    omega
theorem many_write : writeD manyF = ([], 3) := by
  have h1 : (itoa (-1048576)).length = 8 := by decide +kernel
  have h2 : (lnS lowC).length = 18001 := by
    have := ln_rep (-1048576) 2000
    rw [h1] at this
    exact this
  have h3 : (txS manyF.cls).length = 5400600 := by
    have := tx_rep lowC 300
    rw [h2] at this
    exact this
  have h4 : 4194304 < (textD manyF).length := by
    unfold textD
    rw [List.length_append, List.length_cons, h3]
    omega
  unfold writeD
  rw [many_ok, if_pos rfl, if_pos h4]
end Go.Proofs.YtkpcpclaadgnbaaGreatDoor
