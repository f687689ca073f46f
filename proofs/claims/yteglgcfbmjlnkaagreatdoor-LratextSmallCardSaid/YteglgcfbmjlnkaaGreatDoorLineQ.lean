/-
  The reference's Line and Write.
-/
import Derived.Test.YteglgcfbmjlnkaaGreatDoorDecimal
import Derived.Test.YteglgcfbmjlnkaaGreatDoorRefP
import Derived.Test.YteglgcfbmjlnkaaGreatDoorCheck
import Derived.Test.YteglgcfbmjlnkaaGreatDoorWrite
set_option linter.unusedVariables false
set_option linter.unusedSimpArgs false
namespace Go.Proofs.YteglgcfbmjlnkaaGreatDoor
open Go.RowKit

theorem flat_take' {l : List Int} {k : Nat} {x : Int} (h : l[k]? = some x) : flat (l.take (k + 1)) = flat (l.take k) ++ (Lib.itoa x ++ [32]) := by
  unfold flat
  rw [take_snoc h, List.flatMap_append]
  simp
theorem flat_sz (l : List Int) (h : ∀ x ∈ l, I64 x) : (flat l).length ≤ 22 * l.length := by
  induction l with
  | nil => simp [flat]
  | cons x l ih =>
    have h1 := ih (fun y hy => h y (by simp [hy]))
    have h2 := itoa_size x (h x (by simp))
    rw [str_size] at h2
    rw [flat_cons]
    simp only [List.length_append, List.length_cons]
    omega
theorem flat_szk (l : List Int) (h : ∀ x ∈ l, I64 x) (k : Nat) : (flat (l.take k)).length ≤ 22 * l.length := by
  have h1 := flat_sz (l.take k) (fun x hx => h x (List.mem_of_mem_take hx))
  have h2 : (l.take k).length ≤ l.length := by rw [List.length_take]; omega
  omega
theorem str_cat (a b : List UInt8) : str a ++ str b = str (a ++ b) := data_inj (by rw [cat_data, str_data, str_data, str_data])
theorem str_snoc1 (a : List UInt8) (b : UInt8) : str a ++ (⟨#[b]⟩ : ByteArray) = str (a ++ [b]) := data_inj (by rw [cat_data]; rfl)
theorem str_snoc2 (a : List UInt8) (b c : UInt8) : str a ++ (⟨#[b, c]⟩ : ByteArray) = str (a ++ [b, c]) := data_inj (by rw [cat_data]; rfl)
def headQ (s : Stp) : List UInt8 := Lib.itoa s.id ++ 32 :: (if s.del then [100, 32] else flat s.lits ++ 48 :: [32])
theorem line_headQ (s : Stp) : lineS s = headQ s ++ (flat s.hints ++ [48]) := by
  rw [line_flat]
  unfold headQ
  simp
theorem headQ_sz {s : Stp} (h : I64 s.id) (hl : ∀ x ∈ s.lits, I64 x) : (headQ s).length ≤ 30 + 22 * s.lits.length := by
  have h1 := itoa_size s.id h
  rw [str_size] at h1
  have h2 := flat_sz s.lits hl
  unfold headQ
  cases s.del
  · simp only [Bool.false_eq_true, if_false, List.length_append, List.length_cons, List.length_nil]
    omega
  · simp only [if_true, List.length_append, List.length_cons, List.length_nil]
    omega
set_option maxRecDepth 100000 in
set_option maxHeartbeats 2000000 in
theorem lineQC (del : Bool) (id : Int) (lits hints : List Int) (LA HA : Option Addr) (Ln Lc Hn Hc : Nat) (w : World) (h : Hid (StpAt w ⟨⟨LA, Ln, Lc⟩, ⟨HA, Hn, Hc⟩⟩ ⟨del, id, lits, hints⟩)) :
    Calls Tryz.prog 25 #[.agg #[.bool del, .int .i64 id, .slice LA Ln Lc, .slice HA Hn Hc]] w fun e w' => e = .returned (.string (str (lineS ⟨del, id, lits, hints⟩))) ∧ Below w.heap.size w w' := by
  have HX0 := Lib.hid (Bk.new w 59 #[.bool del, .int .i64 id, .slice LA Ln Lc, .slice HA Hn Hc])
  have HB0 : Hid (Below w.heap.size w (w.alloc (.cells #[.bool del, .int .i64 id, .slice LA Ln Lc, .slice HA Hn Hc] 59))) := balloc (Below.refl _ _) _
  have hL1 : Ln ≤ 100000000 := h.out.lits.2.2.2
  have hH1 : Hn ≤ 100000000 := h.out.hints.2.2.2
  have HI := Lib.hid h.out.id
  have hids : (str (Lib.itoa id)).size ≤ 21 := itoa_size id HI.out
  have hhq := headQ_sz (s := ⟨del, id, lits, hints⟩) h.out.id h.out.lits.2.2.1
  have hll : lits.length = Ln := h.out.lits.2.1
  have hhl : hints.length = Hn := h.out.hints.2.1
  have HLL := Lib.hid hll
  have HHL := Lib.hid hhl
  dsimp only at hhq
  rw [hll] at hhq
  have hhs : (str (headQ ⟨del, id, lits, hints⟩)).size ≤ 2300000000 := by rw [str_size]; omega
  clear hhq hll hhl
  go_enter Tryz.func25, Tryz.ntmps25
  go_upto_region 1 with fail
  generalize (w.alloc (.cells #[.bool del, .int .i64 id, .slice LA Ln Lc, .slice HA Hn Hc] 59)) = W0 at *
  obtain ⟨p, hp⟩ : ∃ p, p = w.heap.size := ⟨_, rfl⟩
  rw [← hp] at HX0
  rw [← hp]
  clear hp
  obtain ⟨x0, x1, x2, x3⟩ := cells4 HX0.out
  go_wp2_with fail
  refine (decimalC id HI W0).mono ?_
  rintro e w1 ⟨rfl, hb⟩
  have HB1 := Lib.hid hb
  obtain ⟨y0, y1, y2, y3⟩ := cells4 (bkbel HX0.out hb)
  clear hb x0 x1 x2 x3
  go_upto_if 11 with fail
  rw [str_snoc1]
  have hi1 : (str (Lib.itoa id ++ [32])).size ≤ 30 := by rw [str_size]; rw [str_size] at hids; simp; omega
  go_cut [3] (fun v3 wx => v3 = .string (str (headQ ⟨del, id, lits, hints⟩)) ∧ Hid (Below W0.heap.size W0 wx))
  case first =>
    cases del with
    | true =>
      go_wp2_with fail
      go_meet
      refine ⟨?_, HB1⟩
      rw [str_snoc2]
      unfold headQ
      simp
    | false =>
      go_wp2_with fail
      go_loopw [3, 4] (fun v3 v4 wr => ∃ (k : Nat), k ≤ Ln ∧ v4 = .int .i64 k ∧ v3 = .string (str (Lib.itoa id ++ 32 :: flat (lits.take k))) ∧ Hid (Below W0.heap.size W0 wr)) (fun _ v4 _ => Ln - (intOf v4).toNat)
      case atStart => exact ⟨0, Nat.zero_le _, rfl, by simp [flat], HB1⟩
      case round =>
        obtain ⟨k, hk, rfl, rfl, HB⟩ := hrel
        have hki : ∀ b : Bool, decide (k < Ln) = b → decide ((k : Int) < (Ln : Int)) = b := fun b hb => by rw [← hb]; exact decide_eq_decide.2 (by omega)
        have hfs : (str (Lib.itoa id ++ 32 :: flat (lits.take k))).size ≤ 2300000000 := by
          have h1 := flat_szk lits h.out.lits.2.2.1 k
          rw [HLL.out] at h1
          rw [str_size] at hids ⊢
          rw [List.length_append, List.length_cons]
          omega
        obtain ⟨z0, z1, z2, z3⟩ := cells4 (bkbel HX0.out HB.out)
        by_cases hlt : k < Ln
        · have e1 := hki true (decide_eq_true hlt)
          clear hki
          have hki : (k : Int) < (Ln : Int) := by omega
          obtain ⟨b1, o1, x, rfl, hx, hc1⟩ := (h.out.lits.1.below (bthen HB0.out HB.out)).getm HLL.out hlt
          have HX := Lib.hid hx
          have HIX := Lib.hid (h.out.lits.2.2.1 x (List.mem_of_getElem? hx))
          have hxs : (str (Lib.itoa x)).size ≤ 21 := itoa_size x HIX.out
          clear hx
          go_wp2_with fail
          refine (decimalC x HIX wr).mono ?_
          rintro e w2 ⟨rfl, hb⟩
          have HB2 := Lib.hid (bthen HB.out hb)
          clear hb
          have hxx : (str (Lib.itoa id ++ 32 :: flat (lits.take k)) ++ str (Lib.itoa x)).size ≤ 2300000100 := by rw [cat_size]; omega
          go_wp2_with fail
          go_roundw
          case rel =>
            refine ⟨k + 1, by omega, by go_num, ?_, HB2⟩
            rw [str_cat, str_snoc1, flat_take' HX.out]
            simp
          case measure => simp [intOf]; omega
        · have e1 := hki false (decide_eq_false hlt)
          obtain rfl : k = Ln := by omega
          clear hki
          have ht : lits.take k = lits := List.take_of_length_le (by rw [HLL.out]; exact Nat.le_refl _)
          rw [ht] at hfs ⊢
          clear ht
          go_wp2_with fail
          go_meet
          refine ⟨?_, HB⟩
          rw [str_snoc2]
          unfold headQ
          simp
  case rest =>
    obtain ⟨rfl, HB2⟩ := hcut
    clear HB1 y0 y1 y2 y3
    generalize wc = w2 at *
    go_wp2_with fail
    go_loopw [3, 5] (fun v3 v5 wr => ∃ (k : Nat), k ≤ Hn ∧ v5 = .int .i64 k ∧ v3 = .string (str (headQ ⟨del, id, lits, hints⟩ ++ flat (hints.take k))) ∧ Hid (Below W0.heap.size W0 wr)) (fun _ v5 _ => Hn - (intOf v5).toNat)
    case atStart => exact ⟨0, Nat.zero_le _, rfl, by simp [flat], HB2⟩
    case round =>
      obtain ⟨k, hk, rfl, rfl, HB⟩ := hrel
      have hki : ∀ b : Bool, decide (k < Hn) = b → decide ((k : Int) < (Hn : Int)) = b := fun b hb => by rw [← hb]; exact decide_eq_decide.2 (by omega)
      have hfs : (str (headQ ⟨del, id, lits, hints⟩ ++ flat (hints.take k))).size ≤ 4600000000 := by
        have h1 := flat_szk hints h.out.hints.2.2.1 k
        rw [HHL.out] at h1
        rw [str_size] at hhs ⊢
        rw [List.length_append]
        omega
      obtain ⟨z0, z1, z2, z3⟩ := cells4 (bkbel HX0.out HB.out)
      by_cases hlt : k < Hn
      · have e1 := hki true (decide_eq_true hlt)
        clear hki
        have hki : (k : Int) < (Hn : Int) := by omega
        obtain ⟨b1, o1, x, rfl, hx, hc1⟩ := (h.out.hints.1.below (bthen HB0.out HB.out)).getm HHL.out hlt
        have HX := Lib.hid hx
        have HIX := Lib.hid (h.out.hints.2.2.1 x (List.mem_of_getElem? hx))
        have hxs : (str (Lib.itoa x)).size ≤ 21 := itoa_size x HIX.out
        clear hx
        go_wp2_with fail
        refine (decimalC x HIX wr).mono ?_
        rintro e w3 ⟨rfl, hb⟩
        have HB3 := Lib.hid (bthen HB.out hb)
        clear hb
        have hxx : (str (headQ ⟨del, id, lits, hints⟩ ++ flat (hints.take k)) ++ str (Lib.itoa x)).size ≤ 4600000100 := by rw [cat_size]; omega
        go_wp2_with fail
        go_roundw
        case rel =>
          refine ⟨k + 1, by omega, by go_num, ?_, HB3⟩
          rw [str_cat, str_snoc1, flat_take' HX.out]
          simp
        case measure => simp [intOf]; omega
      · have e1 := hki false (decide_eq_false hlt)
        obtain rfl : k = Hn := by omega
        clear hki
        have ht : hints.take k = hints := List.take_of_length_le (by rw [HHL.out]; exact Nat.le_refl _)
        rw [ht] at hfs ⊢
        clear ht
        go_wp2_with fail
        go_ret
        refine ⟨congrArg (fun x => Ending.returned (.string x)) ?_, bthen HB0.out HB.out⟩
        rw [str_snoc1, line_headQ]
        simp
end Go.Proofs.YteglgcfbmjlnkaaGreatDoor
