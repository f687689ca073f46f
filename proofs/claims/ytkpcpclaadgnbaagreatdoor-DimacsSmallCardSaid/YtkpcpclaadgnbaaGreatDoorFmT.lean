/-
  dimacs.Write.
-/
import Derived.Test.YtkpcpclaadgnbaaGreatDoorFmW
set_option linter.unusedVariables false
set_option linter.unusedSimpArgs false
namespace Go.Proofs.YtkpcpclaadgnbaaGreatDoor
open Go.RowKit Go.PlainAid

def txP (f : Fm) (k : Nat) : List UInt8 := hdS f.vars f.cls.length ++ 10 :: txS (f.cls.take k)
theorem txS_take {C : List (List Int)} {k : Nat} {c : List Int} (h : C[k]? = some c) : txS (C.take (k + 1)) = txS (C.take k) ++ (lnS c ++ [10]) := by
  unfold txS
  rw [take_snoc h, List.flatMap_append]
  simp
theorem txP_take {f : Fm} {k : Nat} {c : List Int} (h : f.cls[k]? = some c) : txP f (k + 1) = txP f k ++ (lnS c ++ [10]) := by
  unfold txP
  rw [txS_take h]
  simp
theorem txP_all (f : Fm) {k : Nat} (h : f.cls.length ≤ k) : txP f k = textD f := by
  unfold txP textD
  rw [List.take_of_length_le h]
theorem txS_le (C : List (List Int)) (k : Nat) : (txS (C.take k)).length ≤ (txS C).length := by
  have h : txS C = txS (C.take k) ++ txS (C.drop k) := by
    unfold txS
    rw [← List.flatMap_append, List.take_append_drop]
  rw [h, List.length_append]
  omega
theorem txP_le (f : Fm) (k : Nat) : (txP f k).length ≤ (textD f).length := by
  unfold txP textD
  have := txS_le f.cls k
  simp only [List.length_append, List.length_cons]
  omega
set_option maxRecDepth 100000 in
set_option maxHeartbeats 1000000 in
theorem writeD6 (v : Int) (A : Option Addr) (n c : Nat) (Q : List (SV × List Int)) (w : World) (h : Hid (ClsAt w A n Q)) (hv : Hid (Vars w)) :
    Calls Tryz.prog 16 #[.agg #[.int .i64 v, .slice A n c]] w fun e w' => e = .returned (.tuple #[.string (str (writeD ⟨v, clsOf Q⟩).1), .int .i64 (writeD ⟨v, clsOf Q⟩).2]) ∧ Below w.heap.size w w' := by
  have hn : n ≤ 100000000 := h.out.small
  have HLE : Hid ((clsOf Q).length = n) := by show _ = _; rw [clsOf_len]; exact h.out.len
  have HX := Lib.hid (Bk.new w 24 #[.int .i64 v, .slice A n c])
  have HB0 : Hid (Below w.heap.size w (w.alloc (.cells #[.int .i64 v, .slice A n c] 24))) := balloc (Below.refl _ _) _
  obtain ⟨f, hf⟩ : ∃ f : Fm, ⟨v, clsOf Q⟩ = f := ⟨_, rfl⟩
  rw [hf]
  have HF := Lib.hid hf
  clear hf
  have HLF : Hid (f.cls.length = n) := by show _ = _; rw [← HF.out]; exact HLE.out
  obtain ⟨⟨ci, ce⟩, hck⟩ : ∃ q, checkD f = q := ⟨_, rfl⟩
  have HCK := Lib.hid hck
  by_cases hce : ce = 0
  rotate_left
  · have e1 : (ce != 0) = true := by simpa using hce
    have E : Hid (writeD f = ([], ce)) := by show _ = _; unfold writeD; rw [hck]; dsimp only; rw [if_neg hce]
    clear hce hck
    go_enter Tryz.func16, Tryz.ntmps16
    go_upto_region 1 with fail
    generalize (w.alloc (.cells #[.int .i64 v, .slice A n c] 24)) = W0 at *
    obtain ⟨x0, x1⟩ := cells2 HX.out
    go_wp2_with fail
    refine (checkDC v A n c Q W0 (Lib.hid (h.out.below HB0.out))).mono ?_
    rintro e w1 ⟨rfl, hb⟩
    rw [HF.out, HCK.out]
    have HB1 := Lib.hid (bthen HB0.out hb)
    clear hb
    dsimp only
    go_wp2
    go_ret2
    exact ⟨by rw [E.out]; rfl, HB1.out⟩
  · subst hce
    have e1 : ((0 : Int) != 0) = false := rfl
    have hci : ci = -1 := by
      have h1 := hck
      unfold checkD at h1
      split at h1
      · obtain ⟨_, h1⟩ := Prod.mk.inj h1; exact absurd h1 (by decide)
      · split at h1
        · obtain ⟨_, h1⟩ := Prod.mk.inj h1; exact absurd h1 (by decide)
        · have key : ∀ (C : List (List Int)) (i : Nat) (a : Int), checkG f.vars i C = (a, 0) → a = -1 := by
            intro C
            induction C with
            | nil => intro i a ha; exact (Prod.mk.inj ha).1.symm
            | cons c C ih =>
              intro i a ha
              unfold checkG at ha
              split at ha
              · split at ha
                · obtain ⟨_, h1⟩ := Prod.mk.inj ha; exact absurd h1 (by decide)
                · exact ih _ _ ha
              · obtain ⟨_, h1⟩ := Prod.mk.inj ha; exact absurd h1 (by decide)
          exact key _ _ _ h1
    rw [hci] at hck
    obtain ⟨hv12, hcl, hgood⟩ := checkD_ok.1 hck
    have E : Hid (writeD f = if 4194304 < (textD f).length then ([], 3) else (textD f, 0)) := by show _ = _; unfold writeD; rw [hck]; dsimp only; rw [if_pos rfl]
    have HG := Lib.hid hgood
    have hvf : f.vars = v := by rw [← HF.out]
    have hdk : hdOk v (n : Int) = true := hdOk_mk (by omega) (by omega) (by omega) (by have := HLF.out; omega)
    have HH : Hid (headE v (n : Int) = (hdS v n, 0)) := headE_ok hdk
    have hhl := hd_len (v := v) (n := n) ⟨by omega, by omega⟩ ⟨by omega, by omega⟩
    have hz0 : (str (hdS v n)).size ≤ 50 := by rw [str_size]; exact hhl
    have HT0 : Hid (hdS v n ++ [10] = txP f 0) := by
      show _ = _
      unfold txP
      rw [hvf, HLF.out]
      rfl
    clear hck hci hcl hgood hdk hhl hv12 hvf
    go_enter Tryz.func16, Tryz.ntmps16
    go_upto_region 1 with fail
    generalize (w.alloc (.cells #[.int .i64 v, .slice A n c] 24)) = W0 at *
    obtain ⟨p0, hp0⟩ : ∃ p, w.heap.size = p := ⟨_, rfl⟩
    have HB00 := HB0.out
    rw [hp0] at HX ⊢
    have HP := Lib.hid hp0
    clear hp0
    obtain ⟨x0, x1⟩ := cells2 HX.out
    go_wp2_with fail
    refine (checkDC v A n c Q W0 (Lib.hid (h.out.below HB00))).mono ?_
    rintro e w1 ⟨rfl, hb⟩
    rw [HF.out, HCK.out]
    have HB1 := Lib.hid (bthen HB00 hb)
    have HX1 := Lib.hid (bkbel HX.out hb)
    clear hb HX x0 x1 HB00 HB0
    dsimp only
    obtain ⟨x0, x1⟩ := cells2 (HX1.out.alloc (.cells #[.pointer none, .slice none 0 0] 88))
    have HLD := Lib.hid (Bld.new w1)
    have HBa : Hid (Below w1.heap.size w1 (w1.alloc (.cells #[.pointer none, .slice none 0 0] 88))) := balloc (Below.refl _ _) _
    have hs0 : w1.heap.size ≤ (w1.alloc (.cells #[.pointer none, .slice none 0 0] 88)).heap.size := HBa.out.size
    go_upto_region 5 with fail
    generalize (w1.alloc (.cells #[.pointer none, .slice none 0 0] 88)) = W2 at *
    obtain ⟨p, hp⟩ : ∃ p, p = w1.heap.size := ⟨_, rfl⟩
    rw [← hp] at HLD HBa hs0
    rw [← hp]
    have hxl := HX1.out.lt
    have hpp : p0 < p := by omega
    have hwp : w.heap.size ≤ p := by have := HB1.out.size; omega
    have HXp : Hid (∀ W, Below p w1 W → Bk W p0 24 #[.int .i64 v, .slice A n c]) := fun W hW => HX1.out.below hW hpp
    have HWp : Hid (∀ W, Below p w1 W → Below w.heap.size w W) := fun W hW => Below.trans HB1.out (hW.mono hwp)
    clear hp hxl HX1
    go_wp2_with fail
    refine (headerC v n W2 (Lib.hid (hv.out.below (HWp.out _ HBa.out)))).mono ?_
    rintro e w3 ⟨rfl, hb⟩
    rw [HH.out]
    have HB3 := Lib.hid (Below.trans HBa.out (hb.mono hs0))
    have HL3 := Lib.hid (HLD.out.below hb)
    have hs3 : p ≤ w3.heap.size := Nat.le_trans hs0 hb.size
    clear hb x0 x1 HBa HLD hs0
    dsimp only
    go_wp2_with fail
    refine (bldWrite p p [] _ w3 HL3 (by rw [cat_size, List.length_nil]; show _ + (_ + 1) ≤ _; omega) hs3).mono ?_
    rintro e w4 ⟨rfl, h3, h4, _⟩
    have h5 : ((str (hdS v n)) ++ (⟨#[10]⟩ : ByteArray)).data.toList = hdS v n ++ [10] := by rw [cat_data, str_data]
    rw [h5, List.nil_append, HT0.out] at h3
    have HL4 := Lib.hid h3
    have HB4 := Lib.hid (Below.trans HB3.out h4)
    have hs4 : p ≤ w4.heap.size := Nat.le_trans hs3 h4.size
    clear h3 h4 h5 HL3 HB3 hs3
    obtain ⟨x0, x1⟩ := cells2 (HXp.out _ HB4.out)
    have ht0 : (txP f 0).length ≤ 4194304 := by rw [← HT0.out, List.length_append]; have : (hdS v n).length ≤ 50 := by rw [← str_size]; exact hz0
                                                simp only [List.length_cons, List.length_nil]; omega
    go_upto_region 8 with fail
    clear x0 x1
    go_loopw [36] (fun v36 wr => ∃ (k : Nat), k ≤ n ∧ v36 = .int .i64 k ∧ Hid (Bld wr p p (txP f k)) ∧ (txP f k).length ≤ 4194304 ∧ Hid (Below p w1 wr) ∧ p ≤ wr.heap.size) (fun v36 _ => n - (intOf v36).toNat)
    case atStart => exact ⟨0, Nat.zero_le _, rfl, HL4, ht0, HB4, hs4⟩
    case round =>
      obtain ⟨k, hk, rfl, HLk, hlk, HBk, hsk⟩ := hrel
      have HWk := Lib.hid (HWp.out _ HBk.out)
      have HVk := Lib.hid (hv.out.below HWk.out)
      have HLK := Lib.hid hlk
      clear hlk
      by_cases hlt : k < n
      · have e2 : decide ((k : Int) < (n : Int)) = true := by simp; omega
        have hki : (k : Int) < (n : Int) := by omega
        obtain ⟨b, off, sA, sn, sc, l, rfl, hq, hbl, c0, hi⟩ := (h.out.below HWk.out).at hlt
        have HI := Lib.hid hi
        have HCL : Hid (f.cls[k]? = some l) := by show _ = _; rw [← HF.out]; exact clsOf_at hq
        have hg := HG.out l (List.mem_of_getElem? HCL.out)
        have hcb : clauseB l = true := clause_mk hg.1 (fun x hx => (lit_in (hg.2 x hx)).1)
        have HE : Hid (lineE l = (lnS l, 0)) := by show _ = _; unfold lineE; rw [hcb]; rfl
        have hll : (lnS l).length ≤ 100000 := by
          have := ln_len (c := l) (fun x hx => (lit_in (hg.2 x hx)).1)
          have := hg.1
          omega
        have hz1 : (str (lnS l)).size ≤ 100000 := by rw [str_size]; exact hll
        clear hq hi hg hcb hll
        go_wp2_with fail
        refine (lineD6 sA sn sc l wr HI HVk).mono ?_
        rintro e w5 ⟨rfl, hb⟩
        rw [HE.out]
        have HB5 := Lib.hid (Below.trans HBk.out (hb.mono hsk))
        have HL5 := Lib.hid (HLk.out.below hb)
        have hs5 : p ≤ w5.heap.size := Nat.le_trans hsk hb.size
        clear hb c0
        dsimp only
        go_wp2_with fail
        refine (bldWrite p p _ _ w5 HL5 (by rw [cat_size]; have := HLK.out; show _ + (_ + 1) ≤ _; omega) hs5).mono ?_
        rintro e w6 ⟨rfl, h3, h4, _⟩
        have h5 : ((str (lnS l)) ++ (⟨#[10]⟩ : ByteArray)).data.toList = lnS l ++ [10] := by rw [cat_data, str_data]
        rw [h5, ← txP_take HCL.out] at h3
        have HL6 := Lib.hid h3
        have HB6 := Lib.hid (Below.trans HB5.out h4)
        have hs6 : p ≤ w6.heap.size := Nat.le_trans hs5 h4.size
        clear h3 h4 h5 hz1
        by_cases hov : 4194304 < (txP f (k + 1)).length
        · have hbl2 : (Lib.byteCells (txP f (k + 1))).length = (txP f (k + 1)).length := Lib.byteCells_length _
          have hd2 : decide ((4194304 : Int) < ((Lib.byteCells (txP f (k + 1))).length : Int)) = true := by rw [hbl2]; simp; omega
          have HOV := Lib.hid hov
          clear hov hbl2
          go_wp2_with fail
          refine (Tryz.Builder_Len_f p p _ w6 HL6.out).mono ?_
          rintro e w7 ⟨rfl, rfl⟩
          go_wp2
          go_ret2
          exact ⟨by rw [E.out, if_pos (Nat.lt_of_lt_of_le HOV.out (txP_le f (k + 1)))]; rfl, HP.out ▸ HWp.out _ HB6.out⟩
        · have hbl2 : (Lib.byteCells (txP f (k + 1))).length = (txP f (k + 1)).length := Lib.byteCells_length _
          have hd2 : decide ((4194304 : Int) < ((Lib.byteCells (txP f (k + 1))).length : Int)) = false := by rw [hbl2]; simp; omega
          have HOV : Hid ((txP f (k + 1)).length ≤ 4194304) := Lib.hid (by omega)
          clear hov hbl2
          go_wp2_with fail
          refine (Tryz.Builder_Len_f p p _ w6 HL6.out).mono ?_
          rintro e w7 ⟨rfl, rfl⟩
          go_wp2
          go_roundw
          case rel => exact ⟨k + 1, by omega, by go_num, HL6, HOV.out, HB6, hs6⟩
          case measure => simp [intOf]; omega
      · have e2 : decide ((k : Int) < (n : Int)) = false := by simp; omega
        go_wp2_with fail
        refine (bldString p p _ _ HLk hsk).mono ?_
        rintro e w5 ⟨rfl, h3, h4, _⟩
        have HB5 := Lib.hid (Below.trans HBk.out h4)
        clear h3 h4
        have h5 := HLK.out
        rw [txP_all f (by rw [HLF.out]; omega)] at h5 ⊢
        have H5 := Lib.hid h5
        clear h5
        go_wp2
        go_ret2
        exact ⟨by rw [E.out, if_neg (by have := H5.out; omega)]; rfl, HP.out ▸ HWp.out _ HB5.out⟩
end Go.Proofs.YtkpcpclaadgnbaaGreatDoor
