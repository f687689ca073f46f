/-
  lratext.line and its closure, Line.
-/
import Derived.Test.YteglgcfbmjlnkaaGreatDoorFits
import Derived.Lib.ItoaLen
import Derived.Deep.DeepCutAuto
set_option linter.unusedVariables false
set_option linter.unusedSimpArgs false
namespace Go.Proofs.YteglgcfbmjlnkaaGreatDoor
open Go.RowKit

theorem Oth.of_below {b : Nat} {w w' : World} (h : Below w.heap.size w w') : Oth b w w' := fun k o hk _ _ => (h.block k (lt_of_heap hk)).trans hk
theorem Bk.oth {b g : Nat} {t : TypeId} {cs : Array Value} {w w' : World} (h : Bk w g t cs) (ho : Oth b w w') (hg : g ≠ b) (ht : t ≠ 5) : Bk w' g t cs :=
  ho g _ h (fun e => hg (Option.some.inj e)) (fun c fz e => ht (by injection e))
theorem sp_len (n : Int) (h : I64 n) : (sp n).length ≤ 22 := by
  unfold sp
  have := Lib.itoa_length_le n h.1 h.2
  simp only [List.length_cons]
  omega
theorem cat_data (a b : ByteArray) : (a ++ b).data.toList = a.data.toList ++ b.data.toList := by
  rw [ByteArray.data_append, Array.toList_append]
theorem cat_size (a b : ByteArray) : (a ++ b).size = a.size + b.size := by
  rw [← data_len, cat_data, List.length_append, data_len, data_len]
theorem itoa_size (n : Int) (h : I64 n) : (str (Lib.itoa n)).size ≤ 21 := by
  rw [str_size]
  exact Lib.itoa_length_le n h.1 h.2
theorem sp_cat (n : Int) : ((⟨#[32]⟩ : ByteArray) ++ str (Lib.itoa n)).data.toList = sp n := by
  rw [cat_data, str_data]
  rfl
set_option maxRecDepth 100000 in
theorem addC (B b : Nat) (l : List UInt8) (n : Int) (w : World) (hn : Hid (I64 n)) (hv : Hid (Vars w)) (h : Hid (Bld w B b l)) (hl : l.length ≤ 140000000000000) (hB : B ≤ w.heap.size) :
    Calls Tryz.prog 62 #[.int .i64 n, .pointer (some ⟨b, 0, none⟩)] w fun e w' => e = .returned (.tuple #[]) ∧ Bld w' B b (l ++ sp n) ∧ Below B w w' ∧ Oth b w w' := by
  have h2 := itoa_size n hn.out
  go_enter Tryz.func62, Tryz.ntmps62
  go_wp2_with fail
  refine (itoaC n w hn hv).mono ?_
  rintro e w1 ⟨rfl, hb1⟩
  have HB1 := Lib.hid hb1
  have HL := Lib.hid (h.out.below hb1)
  have hsz := hb1.size
  have h1 := sp_len n hn.out
  clear hb1
  go_wp2_with fail
  refine (bldWrite B b l _ w1 HL (by rw [cat_size]; show _ + (1 + _) ≤ _; omega) (by omega)).mono ?_
  rintro e w2 ⟨rfl, h3, h4, h5⟩
  rw [sp_cat] at h3
  have H3 := Lib.hid h3
  have H4 := Lib.hid (Below.trans (HB1.out.mono hB) h4)
  have H5 := Lib.hid ((Oth.of_below (b := b) HB1.out).trans h5)
  clear h3 h4 h5
  go_wp2
  go_end0
  exact ⟨rfl, H3.out, H4.out, H5.out⟩
theorem ent_add : Ent Tryz.prog 62 := Ent.of Tryz.func62 (by kernel_rfl) (by kernel_rfl)

theorem flat_len (l : List Int) (h : ∀ x ∈ l, I64 x) : (l.flatMap sp).length ≤ 22 * l.length := by
  induction l with
  | nil => simp
  | cons n l ih =>
    have h1 := sp_len n (h n (by simp))
    have h2 := ih (fun x hx => h x (by simp [hx]))
    simp only [List.flatMap_cons, List.length_append, List.length_cons]
    omega
theorem flat_take {l : List Int} {k : Nat} {x : Int} (h : l[k]? = some x) : (l.take (k + 1)).flatMap sp = (l.take k).flatMap sp ++ sp x := by
  rw [take_snoc h, List.flatMap_append]
  simp
theorem sp_zero : sp 0 = [32, 48] := by unfold sp; rw [itoa_zero]
def midS (s : Stp) : List UInt8 := Lib.itoa s.id ++ (if s.del then [32, 100] else s.lits.flatMap sp ++ [32, 48])
theorem line_mid (s : Stp) : lineS s = midS s ++ (s.hints.flatMap sp ++ [32, 48]) := rfl
set_option maxRecDepth 100000 in
set_option maxHeartbeats 1000000 in
theorem lineC (del : Bool) (id : Int) (lits hints : List Int) (LA HA : Option Addr) (Ln Lc Hn Hc : Nat) (w : World) (h : Hid (StpAt w ⟨⟨LA, Ln, Lc⟩, ⟨HA, Hn, Hc⟩⟩ ⟨del, id, lits, hints⟩)) (hv : Hid (Vars w)) :
    Calls Tryz.prog 34 #[.agg #[.bool del, .int .i64 id, .slice LA Ln Lc, .slice HA Hn Hc]] w fun e w' => e = .returned (.string (str (lineS ⟨del, id, lits, hints⟩))) ∧ Below w.heap.size w w' := by
  have HXa := Lib.hid ((Bk.new w 33 #[.bool del, .int .i64 id, .slice LA Ln Lc, .slice HA Hn Hc]).alloc (.cells #[.pointer none, .slice none 0 0] 70))
  have HBa : Hid (Below w.heap.size w ((w.alloc (.cells #[.bool del, .int .i64 id, .slice LA Ln Lc, .slice HA Hn Hc] 33)).alloc (.cells #[.pointer none, .slice none 0 0] 70))) := balloc (balloc (Below.refl _ _) _) _
  have hld := Bld.new (w.alloc (.cells #[.bool del, .int .i64 id, .slice LA Ln Lc, .slice HA Hn Hc] 33))
  rw [World.size_alloc] at hld
  have HLD := Lib.hid hld
  clear hld
  have HI := Lib.hid h.out.id
  have hLn : Ln ≤ 100000000 := h.out.lits.2.2.2
  have hHn : Hn ≤ 100000000 := h.out.hints.2.2.2
  have HLl := Lib.hid h.out.lits.2.1
  have HHl := Lib.hid h.out.hints.2.1
  have HLi := Lib.hid h.out.lits.2.2.1
  have HHi := Lib.hid h.out.hints.2.2.1
  dsimp only at HI HLl HHl HLi HHi
  have hid21 := itoa_size id HI.out
  go_enter Tryz.func34, Tryz.ntmps34
  go_wp2_with fail
  have hsz : ((w.alloc (.cells #[.bool del, .int .i64 id, .slice LA Ln Lc, .slice HA Hn Hc] 33)).alloc (.cells #[.pointer none, .slice none 0 0] 70)).heap.size = w.heap.size + 2 := by simp
  generalize ((w.alloc (.cells #[.bool del, .int .i64 id, .slice LA Ln Lc, .slice HA Hn Hc] 33)).alloc (.cells #[.pointer none, .slice none 0 0] 70)) = W1 at *
  have hsz1 : w.heap.size + 1 ≤ W1.heap.size := by omega
  clear hsz
  obtain ⟨p, hp⟩ : ∃ p, p = w.heap.size := ⟨_, rfl⟩
  rw [← hp] at HXa HLD hsz1 HBa
  rw [← hp]
  have HP := Lib.hid hp
  clear hp
  refine (itoaC id W1 HI (Lib.hid (hv.out.below (HP.out ▸ HBa.out)))).mono ?_
  rintro e w1 ⟨rfl, hb1⟩
  have HB1 : Hid (Below (p + 1) W1 w1) := Lib.hid (hb1.mono hsz1)
  have HL1 := Lib.hid (HLD.out.below hb1)
  have hs1 : p + 1 ≤ w1.heap.size := Nat.le_trans hsz1 hb1.size
  clear hb1 HLD
  go_wp2_with fail
  refine (bldWrite (p + 1) (p + 1) [] _ w1 HL1 (by rw [List.length_nil]; omega) hs1).mono ?_
  rintro e w2 ⟨rfl, h3, h4, _⟩
  rw [str_data, List.nil_append] at h3
  have HL2 := Lib.hid h3
  have HB2 := Lib.hid (Below.trans HB1.out h4)
  have hs2 : p + 1 ≤ w2.heap.size := Nat.le_trans hs1 h4.size
  clear h3 h4 HL1 HB1 hs1
  obtain ⟨x0, x1, x2, x3⟩ := cells4 (HXa.out.below HB2.out (Nat.lt_succ_self p))
  go_upto_if 15 with fail
  clear x0 x1 x2 x3
  go_cut [] (fun wx => Hid (Bld wx (p + 1) (p + 1) (midS ⟨del, id, lits, hints⟩)) ∧ Hid (Below (p + 1) W1 wx) ∧ p + 1 ≤ wx.heap.size)
  case first =>
    cases del with
    | true =>
      go_wp2_with fail
      refine (bldWrite (p + 1) (p + 1) (Lib.itoa id) _ w2 HL2 (by have h1 := itoa_size id HI.out; rw [str_size] at h1; show _ + 2 ≤ _; omega) hs2).mono ?_
      rintro e w3 ⟨rfl, h3, h4, _⟩
      have HL3 := Lib.hid h3
      have HB3 := Lib.hid (Below.trans HB2.out h4)
      have hs3 : p + 1 ≤ w3.heap.size := Nat.le_trans hs2 h4.size
      clear h3 h4
      go_wp2
      go_meet
      exact ⟨HL3, HB3, hs3⟩
    | false =>
      obtain ⟨x0, x1, x2, x3⟩ := cells4 (HXa.out.below HB2.out (Nat.lt_succ_self p))
      go_wp2_with fail
      clear x0 x1 x2 x3
      go_loopw [20] (fun v20 wr => ∃ (k : Nat), k ≤ Ln ∧ v20 = .int .i64 k ∧ Hid (Bld wr (p + 1) (p + 1) (Lib.itoa id ++ (lits.take k).flatMap sp)) ∧ Hid (Below (p + 1) W1 wr) ∧ p + 1 ≤ wr.heap.size) (fun v20 _ => Ln - (intOf v20).toNat)
      case atStart => exact ⟨0, Nat.zero_le _, rfl, by simpa using HL2, HB2, hs2⟩
      case round =>
        obtain ⟨k, hk, rfl, HLk, HBk, hsk⟩ := hrel
        have HVk := Lib.hid (hv.out.below (HP.out ▸ Below.trans HBa.out (HBk.out.mono (Nat.le_succ p))))
        have hlk : (Lib.itoa id ++ (lits.take k).flatMap sp).length ≤ 139000000000000 := by
          have h1 := itoa_size id HI.out
          rw [str_size] at h1
          have h2 := flat_len (lits.take k) (fun x hx => HLi.out x (List.mem_of_mem_take hx))
          rw [List.length_append]
          rw [List.length_take] at h2
          omega
        have HLK := Lib.hid hlk
        clear hlk
        by_cases hlt : k < Ln
        · obtain ⟨lb, lo, x, rfl, hx, hcx⟩ := ((h.out.lits.below (HP.out ▸ Below.trans HBa.out (HBk.out.mono (Nat.le_succ p)))).1).getm HLl.out hlt
          have HX := Lib.hid hx
          have HI64 := Lib.hid (HLi.out x (List.mem_of_getElem? hx))
          clear hx
          go_wp2_with fail
          refine (addC (p + 1) (p + 1) _ x _ HI64 HVk HLk (by have := HLK.out; omega) hsk).mono ?_
          rintro e w3 ⟨rfl, h3, h4, _⟩
          rw [List.append_assoc, ← flat_take HX.out] at h3
          have HL3 := Lib.hid h3
          have HB3 := Lib.hid (Below.trans HBk.out h4)
          have hs3 : p + 1 ≤ w3.heap.size := Nat.le_trans hsk h4.size
          clear h3 h4
          go_wp2
          go_roundw
          case rel => exact ⟨k + 1, by omega, by go_num, HL3, HB3, hs3⟩
          case measure => simp [intOf]; omega
        · go_wp2_with fail
          refine (addC (p + 1) (p + 1) _ 0 _ (Lib.hid ⟨by omega, by omega⟩) HVk HLk (by have := HLK.out; omega) hsk).mono ?_
          rintro e w3 ⟨rfl, h3, h4, _⟩
          rw [sp_zero, List.take_of_length_le (by rw [HLl.out]; omega), List.append_assoc] at h3
          have HL3 := Lib.hid h3
          have HB3 := Lib.hid (Below.trans HBk.out h4)
          have hs3 : p + 1 ≤ w3.heap.size := Nat.le_trans hsk h4.size
          clear h3 h4
          go_wp2
          go_meet
          exact ⟨HL3, HB3, hs3⟩
  case rest =>
    obtain ⟨HL3, HB3, hs3⟩ := hcut
    obtain ⟨x0, x1, x2, x3⟩ := cells4 (HXa.out.below HB3.out (Nat.lt_succ_self p))
    have hmid : (midS ⟨del, id, lits, hints⟩).length ≤ 100000000000 := by
      have h1 := itoa_size id HI.out
      rw [str_size] at h1
      have h2 := flat_len lits HLi.out
      unfold midS
      dsimp only
      have h3 : lits.length = Ln := HLl.out
      split <;> simp only [List.length_append, List.length_cons, List.length_nil] <;> omega
    have HMID := Lib.hid hmid
    clear hmid
    go_wp2_with fail
    clear x0 x1 x2 x3
    go_loopw [33] (fun v33 wr => ∃ (k : Nat), k ≤ Hn ∧ v33 = .int .i64 k ∧ Hid (Bld wr (p + 1) (p + 1) (midS ⟨del, id, lits, hints⟩ ++ (hints.take k).flatMap sp)) ∧ Hid (Below (p + 1) W1 wr) ∧ p + 1 ≤ wr.heap.size) (fun v33 _ => Hn - (intOf v33).toNat)
    case atStart => exact ⟨0, Nat.zero_le _, rfl, by simpa using HL3, HB3, hs3⟩
    case round =>
      obtain ⟨k, hk, rfl, HLk, HBk, hsk⟩ := hrel
      have HVk := Lib.hid (hv.out.below (HP.out ▸ Below.trans HBa.out (HBk.out.mono (Nat.le_succ p))))
      have hlk : (midS ⟨del, id, lits, hints⟩ ++ (hints.take k).flatMap sp).length ≤ 139000000000000 := by
        have h1 := HMID.out
        have h2 := flat_len (hints.take k) (fun x hx => HHi.out x (List.mem_of_mem_take hx))
        rw [List.length_append]
        rw [List.length_take] at h2
        omega
      have HLK := Lib.hid hlk
      clear hlk
      by_cases hlt : k < Hn
      · obtain ⟨lb, lo, x, rfl, hx, hcx⟩ := ((h.out.hints.below (HP.out ▸ Below.trans HBa.out (HBk.out.mono (Nat.le_succ p)))).1).getm HHl.out hlt
        have HX := Lib.hid hx
        have HI64 := Lib.hid (HHi.out x (List.mem_of_getElem? hx))
        clear hx
        go_wp2_with fail
        refine (addC (p + 1) (p + 1) _ x _ HI64 HVk HLk (by have := HLK.out; omega) hsk).mono ?_
        rintro e w3 ⟨rfl, h3, h4, _⟩
        rw [List.append_assoc, ← flat_take HX.out] at h3
        have HL4 := Lib.hid h3
        have HB4 := Lib.hid (Below.trans HBk.out h4)
        have hs4 : p + 1 ≤ w3.heap.size := Nat.le_trans hsk h4.size
        clear h3 h4
        go_wp2
        go_roundw
        case rel => exact ⟨k + 1, by omega, by go_num, HL4, HB4, hs4⟩
        case measure => simp [intOf]; omega
      · go_wp2_with fail
        refine (addC (p + 1) (p + 1) _ 0 _ (Lib.hid ⟨by omega, by omega⟩) HVk HLk (by have := HLK.out; omega) hsk).mono ?_
        rintro e w3 ⟨rfl, h3, h4, _⟩
        rw [sp_zero, List.take_of_length_le (by rw [HHl.out]; omega), List.append_assoc, ← line_mid] at h3
        have HL4 := Lib.hid h3
        have HB4 := Lib.hid (Below.trans HBk.out h4)
        have hs4 : p + 1 ≤ w3.heap.size := Nat.le_trans hsk h4.size
        clear h3 h4
        go_wp2_with fail
        refine (bldString (p + 1) (p + 1) _ w3 HL4 hs4).mono ?_
        rintro e w4 ⟨rfl, h3, h4, _⟩
        have HB5 := Lib.hid (Below.trans HB4.out h4)
        clear h3 h4
        go_wp2
        go_ret
        exact ⟨rfl, HP.out ▸ Below.trans HBa.out (HB5.out.mono (Nat.le_succ p))⟩
end Go.Proofs.YteglgcfbmjlnkaaGreatDoor
