/-
  lratext.Write.
-/
import Derived.Test.YteglgcfbmjlnkaaGreatDoorCheck
set_option linter.unusedVariables false
set_option linter.unusedSimpArgs false
namespace Go.Proofs.YteglgcfbmjlnkaaGreatDoor
open Go.RowKit

def textS (L : List (StV × Stp)) : List UInt8 := L.flatMap fun p => lineS p.2 ++ [10]
def writeS (L : List (StV × Stp)) : List UInt8 × Int × Int := if (checkS L).2 = 0 then (if 16777216 < (textS L).length then ([], -1, 3) else (textS L, -1, 0)) else ([], (checkS L).1, (checkS L).2)
theorem textS_take {L : List (StV × Stp)} {k : Nat} {p : StV × Stp} (h : L[k]? = some p) : textS (L.take (k + 1)) = textS (L.take k) ++ (lineS p.2 ++ [10]) := by
  unfold textS
  rw [take_snoc h, List.flatMap_append]
  simp
theorem textS_le (L : List (StV × Stp)) (k : Nat) : (textS (L.take k)).length ≤ (textS L).length := by
  have h : textS L = textS (L.take k) ++ textS (L.drop k) := by
    unfold textS
    rw [← List.flatMap_append, List.take_append_drop]
  rw [h, List.length_append]
  omega
theorem mid_len {s : Stp} (h1 : I64 s.id) (h2 : ∀ x ∈ s.lits, I64 x) : (midS s).length ≤ 100 + 22 * s.lits.length := by
  have h3 := itoa_size s.id h1
  rw [str_size] at h3
  have h4 := flat_len s.lits h2
  unfold midS
  split <;> simp only [List.length_append, List.length_cons, List.length_nil] <;> omega
theorem line_len {w : World} {v : StV} {s : Stp} (h : StpAt w v s) : (lineS s).length ≤ 10000000000 := by
  have h1 := mid_len h.id h.lits.2.2.1
  have h2 := flat_len s.hints h.hints.2.2.1
  have h3 := h.lits.2.1
  have h4 := h.hints.2.1
  have h5 := h.lits.2.2.2
  have h6 := h.hints.2.2.2
  rw [line_mid]
  simp only [List.length_append, List.length_cons, List.length_nil]
  omega
theorem nl_cat (l : List UInt8) : (str l ++ (⟨#[10]⟩ : ByteArray)).data.toList = l ++ [10] := by
  rw [cat_data, str_data]
set_option maxRecDepth 100000 in
set_option maxHeartbeats 1000000 in
theorem writeC (A : Option Addr) (n c : Nat) (L : List (StV × Stp)) (w : World) (h : Hid (StepsAt w A n L)) (hv : Hid (Vars w)) (t : List UInt8) (ti te : Int) (hw : Hid (writeS L = (t, ti, te))) :
    Calls Tryz.prog 13 #[.slice A n c] w fun e w' => e = .returned (.tuple #[.string (str t), .int .i64 ti, .int .i64 te]) ∧ Below w.heap.size w w' := by
  obtain ⟨⟨ci, ce⟩, hc⟩ : ∃ q, checkS L = q := ⟨_, rfl⟩
  have hn : n ≤ 100000000 := h.out.small
  have hW := hw.out
  unfold writeS at hW
  rw [hc] at hW
  dsimp only at hW
  have HC := Lib.hid hc
  by_cases hce : ce = 0
  · rw [if_pos hce] at hW
    have HW := Lib.hid hW
    subst hce
    clear hW hc hw
    have hd : ((0 : Int) != 0) = false := rfl
    go_enter Tryz.func13, Tryz.ntmps13
    go_wp2_with fail
    refine (checkC A n c L w h ci 0 HC).mono ?_
    rintro e w1 ⟨rfl, hb1⟩
    have HB1 := Lib.hid hb1
    have HLD := Lib.hid (Bld.new w1)
    have HBa : Hid (Below w1.heap.size w1 (w1.alloc (.cells #[.pointer none, .slice none 0 0] 70))) := balloc (Below.refl _ _) _
    clear hb1
    go_wp2_with fail
    have hs0 : w1.heap.size ≤ (w1.alloc (.cells #[.pointer none, .slice none 0 0] 70)).heap.size := HBa.out.size
    generalize (w1.alloc (.cells #[.pointer none, .slice none 0 0] 70)) = W2 at *
    obtain ⟨p, hp⟩ : ∃ p, p = w1.heap.size := ⟨_, rfl⟩
    rw [← hp] at HLD HBa hs0
    rw [← hp]
    have hwp : w.heap.size ≤ p := by have := HB1.out.size; omega
    clear hp
    go_loopw [21] (fun v21 wr => ∃ (k : Nat), k ≤ n ∧ v21 = .int .i64 k ∧ Hid (Bld wr p p (textS (L.take k))) ∧ (textS (L.take k)).length ≤ 16777216 ∧ Hid (Below p w1 wr) ∧ p ≤ wr.heap.size) (fun v21 _ => n - (intOf v21).toNat)
    case atStart => exact ⟨0, Nat.zero_le _, rfl, HLD, by simp [textS], HBa, hs0⟩
    case round =>
      obtain ⟨k, hk, rfl, HLk, hlk, HBk, hsk⟩ := hrel
      have HWk := Lib.hid (Below.trans HB1.out (HBk.out.mono hwp))
      have HVk := Lib.hid (hv.out.below HWk.out)
      have HLK := Lib.hid hlk
      clear hlk
      by_cases hlt : k < n
      · obtain ⟨b, off, LA, HA, Ln, Lc, Hn, Hc, del, id, lits, hints, rfl, hx, hbl, c0, c1, c2, c3⟩ := (h.out.rd.below HWk.out).stp h.out.len hlt
        have HS := Lib.hid ((h.out.all k _ _ hx).below HWk.out)
        have HX := Lib.hid hx
        clear hx
        have HBs : Hid (Below wr.heap.size wr (wr.alloc (.cells #[.bool del, .int .i64 id, .slice LA Ln Lc, .slice HA Hn Hc] 33))) := balloc (Below.refl _ _) _
        have hss : wr.heap.size ≤ (wr.alloc (.cells #[.bool del, .int .i64 id, .slice LA Ln Lc, .slice HA Hn Hc] 33)).heap.size := HBs.out.size
        go_wp2_with fail
        refine (lineC del id lits hints LA HA Ln Lc Hn Hc _ (Lib.hid (HS.out.below HBs.out)) (Lib.hid (HVk.out.below HBs.out))).mono ?_
        rintro e w3 ⟨rfl, hb3⟩
        have HB3 := Lib.hid (Below.trans HBk.out ((HBs.out.trans (hb3.mono hss)).mono hsk))
        have HL3 := Lib.hid ((HLk.out.below HBs.out).below hb3)
        have hs3 : p ≤ w3.heap.size := by have := hb3.size; omega
        have hln := line_len HS.out
        have hsz : (str (lineS ⟨del, id, lits, hints⟩)).size ≤ 10000000000 := by rw [str_size]; exact hln
        clear hb3 hln
        go_wp2_with fail
        refine (bldWrite p p _ _ w3 HL3 (by rw [cat_size]; have := HLK.out; show _ + (_ + 1) ≤ _; omega) hs3).mono ?_
        rintro e w4 ⟨rfl, h3, h4, _⟩
        rw [nl_cat, ← textS_take HX.out] at h3
        have HL4 := Lib.hid h3
        have HB4 := Lib.hid (Below.trans HB3.out h4)
        have hs4 : p ≤ w4.heap.size := Nat.le_trans hs3 h4.size
        clear h3 h4 hsz
        by_cases hov : 16777216 < (textS (L.take (k + 1))).length
        · have hbl : (Lib.byteCells (textS (L.take (k + 1)))).length = (textS (L.take (k + 1))).length := Lib.byteCells_length _
          have hd2 : decide ((16777216 : Int) < ((Lib.byteCells (textS (L.take (k + 1)))).length : Int)) = true := by rw [hbl]; simp; omega
          have HOV := Lib.hid hov
          clear hov hbl
          go_wp2_with fail
          refine (Tryz.Builder_Len_f p p _ w4 HL4.out).mono ?_
          rintro e w5 ⟨rfl, rfl⟩
          go_wp2
          go_ret3
          have h1 := HW.out
          rw [if_pos (Nat.lt_of_lt_of_le HOV.out (textS_le L (k + 1)))] at h1
          obtain ⟨rfl, h2⟩ := Prod.mk.inj h1
          obtain ⟨rfl, rfl⟩ := Prod.mk.inj h2
          exact ⟨rfl, Below.trans HB1.out (HB4.out.mono hwp)⟩
        · have hbl : (Lib.byteCells (textS (L.take (k + 1)))).length = (textS (L.take (k + 1))).length := Lib.byteCells_length _
          have hd2 : decide ((16777216 : Int) < ((Lib.byteCells (textS (L.take (k + 1)))).length : Int)) = false := by rw [hbl]; simp; omega
          have HOV : Hid ((textS (L.take (k + 1))).length ≤ 16777216) := Lib.hid (by omega)
          clear hov hbl
          go_wp2_with fail
          refine (Tryz.Builder_Len_f p p _ w4 HL4.out).mono ?_
          rintro e w5 ⟨rfl, rfl⟩
          go_wp2
          go_roundw
          case rel => exact ⟨k + 1, by omega, by go_num, HL4, HOV.out, HB4, hs4⟩
          case measure => simp [intOf]; omega
      · go_wp2_with fail
        refine (bldString p p _ _ HLk hsk).mono ?_
        rintro e w4 ⟨rfl, h3, h4, _⟩
        have HB4 := Lib.hid (Below.trans HBk.out h4)
        clear h3 h4
        go_wp2
        go_ret3
        have h1 := HW.out
        have h0 : L.take k = L := List.take_of_length_le (by rw [h.out.len]; omega)
        have h5 := HLK.out
        rw [h0] at h5 ⊢
        rw [if_neg (by omega)] at h1
        obtain ⟨rfl, h2⟩ := Prod.mk.inj h1
        obtain ⟨rfl, rfl⟩ := Prod.mk.inj h2
        exact ⟨rfl, Below.trans HB1.out (HB4.out.mono hwp)⟩
  · rw [if_neg hce] at hW
    have HW := Lib.hid hW
    have hd : (ce != 0) = true := by simpa using hce
    clear hW hc hw hce
    go_enter Tryz.func13, Tryz.ntmps13
    go_wp2_with fail
    refine (checkC A n c L w h ci ce HC).mono ?_
    rintro e w1 ⟨rfl, hb1⟩
    have HB1 := Lib.hid hb1
    clear hb1
    go_wp2
    go_ret3
    obtain ⟨rfl, h2⟩ := Prod.mk.inj HW.out
    obtain ⟨rfl, rfl⟩ := Prod.mk.inj h2
    exact ⟨rfl, HB1.out⟩
end Go.Proofs.YteglgcfbmjlnkaaGreatDoor
