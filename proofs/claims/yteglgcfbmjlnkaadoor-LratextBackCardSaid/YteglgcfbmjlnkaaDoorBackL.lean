/-
  LratextBack.
-/
import Derived.Test.YteglgcfbmjlnkaaDoorMadeL
import Derived.Test.YteglgcfbmjlnkaaDoorBackP
import Derived.Test.YteglgcfbmjlnkaaDoorIns7
import Derived.Test.YteglgcfbmjlnkaaDoorAwake7
import Derived.Deep.AppendLies
set_option linter.unusedVariables false
set_option linter.unusedSimpArgs false
namespace Go.Proofs.YteglgcfbmjlnkaaDoor
open Go.RowKit

theorem MadeOk.cfB {L : List (StV × Stp)} (h : MadeOk L) : checkF 0 0 L = (-1, 0) := by
  have h1 := h.check
  unfold checkS at h1
  rw [if_neg (by have := h.n40; omega)] at h1
  exact h1
theorem MadeOk.szB {L : List (StV × Stp)} (h : MadeOk L) : (textS L).length ≤ 100000 := by
  have h1 := text_small L h.right
  have h2 := h.n40
  omega
theorem MadeOk.readB {L : List (StV × Stp)} (h : MadeOk L) : readS (textS L) = (L.map (·.2), 0, 0) := readS_text h.cfB (by have := h.n40; omega) (by have := h.szB; omega)
def VB : List ByteArray := [⟨#[99, 32, 49, 32, 48, 32, 48]⟩, ⟨#[]⟩, ⟨#[99]⟩]
def insB (Ws : List ByteArray) (i : Nat) : List ByteArray := Ws.take i ++ (VB ++ Ws.drop i)
theorem insB_data (t : List UInt8) (i : Nat) : (insB (pieces (str t) 10) i).map (·.data.toList) = insC t i := by
  unfold insB insC
  rw [← str_data t, ← pieces_data, str_data]
  simp only [List.map_append, List.map_take, List.map_drop]
  rfl
theorem insB_len (Ws : List ByteArray) (i : Nat) (h : i ≤ Ws.length) : (insB Ws i).length = Ws.length + 3 := by
  unfold insB VB
  simp only [List.length_append, List.length_take, List.length_drop, List.length_cons, List.length_nil]
  omega
theorem insB_map (Ws : List ByteArray) (i : Nat) : (insB Ws i).map Value.string = (Ws.map Value.string).take i ++ ((#[.string ⟨#[99, 32, 49, 32, 48, 32, 48]⟩, .string ⟨#[]⟩, .string ⟨#[99]⟩] : Array Value).toList ++ (Ws.map Value.string).drop i) := by
  unfold insB VB
  simp only [List.map_append, List.map_take, List.map_drop]
  rfl
theorem one_strs (Ws : List ByteArray) : ∀ v ∈ Ws.map Value.string, v.oneCell' = true := by
  intro v hv
  obtain ⟨x, _, rfl⟩ := List.mem_map.1 hv
  rfl
theorem one_VA : ∀ v ∈ (#[.string ⟨#[99, 32, 49, 32, 48, 32, 48]⟩, .string ⟨#[]⟩, .string ⟨#[99]⟩] : Array Value).toList, v.oneCell' = true := one_strs VB
/-- Clone at strings. -/
theorem cloneStrs (q : Nat) (Ws : List ByteArray) (W0 W : World) (hk : Bk W0 q 9 (Ws.map Value.string).toArray) (hn : 0 < Ws.length) (hl : Ws.length ≤ 200000) (hW : Below W0.heap.size W0 W) :
    Calls Tryd.prog 24 #[.slice (some ⟨q, 0, none⟩) Ws.length Ws.length] W fun e w' => ∃ b c', e = .returned (.slice (some ⟨b, 0, none⟩) Ws.length c') ∧ w'.ownsRow W.heap.size 9 1 (.slice (some ⟨b, 0, none⟩) Ws.length c') Ws.length (Ws.map Value.string) ∧ Below W.heap.size W w' := by
  have hk' := bkbel hk hW
  refine (Tryd.slices_Clone_string q 0 Ws.length Ws.length Ws W (Nat.le_refl _) (by omega) (fun j hj => ?_)).mono ?_
  · rw [Nat.zero_add, hk'.cell, List.getElem?_toArray, List.getElem?_map, List.getElem?_eq_getElem hj, List.getD_eq_getElem?_getD, List.getElem?_eq_getElem hj]
    rfl
  · rintro e w' ⟨v', rfl, ho, _, hb⟩
    rw [List.take_of_length_le (Nat.le_refl _)] at ho
    rcases ho.2 with ⟨rfl, h0⟩ | ⟨g, cap, cur, rfl, _⟩
    · omega
    · exact ⟨g, cap, rfl, ho, hb⟩
theorem own_baseB {w : World} {B B' : Nat} {e : TypeId} {size n : Nat} {v : Value} {xs : List Value} (h : w.ownsRow B e size v n xs) (hb : B' ≤ B) : w.ownsRow B' e size v n xs := by
  refine ⟨h.1, ?_⟩
  rcases h.2 with h0 | ⟨g', cap, cur, h1, h2, h3⟩
  · exact .inl h0
  · exact .inr ⟨g', cap, cur, h1, Nat.le_trans hb h2, h3⟩
theorem le_allocB (w : World) (o : Obj) : w.heap.size ≤ (w.alloc o).heap.size := by simp
def InsPost (W0 : World) (Ws : List ByteArray) (i nW : Nat) (v : Value) (wx : World) : Prop :=
  ∃ b' c', v = .slice (some ⟨b', 0, none⟩) (nW + 3) c' ∧ nW + 3 ≤ c' ∧ StrsAt wx b' ((insB Ws i).map Value.string) ∧ Below W0.heap.size W0 wx
theorem insPre1 {W0 W wC : World} {Ws : List ByteArray} {i nW b cC : Nat} (hn : Ws.length = nW) (hi : i < nW) (hs : nW ≤ 200000) (hW : Below W0.heap.size W0 W) (hb : Below W.heap.size W wC) (ho : wC.ownsRow W.heap.size 9 1 (.slice (some ⟨b, 0, none⟩) nW cC) nW (Ws.map Value.string)) :
    Calls Tryd.prog 23 #[.slice (some ⟨b, 0, none⟩) nW cC, .int .i64 i, .slice (some ⟨wC.heap.size, 0, none⟩) 3 3] (wC.alloc (.cells #[.string ⟨#[99, 32, 49, 32, 48, 32, 48]⟩, .string ⟨#[]⟩, .string ⟨#[99]⟩] 9)) fun e w' => ∃ v, e = .returned v ∧ InsPost W0 Ws i nW v w' := by
  have hba : Below wC.heap.size wC (wC.alloc (.cells #[.string ⟨#[99, 32, 49, 32, 48, 32, 48]⟩, .string ⟨#[]⟩, .string ⟨#[99]⟩] 9)) := balloc (Below.refl _ _) _
  have hlt := (ho.lt b rfl).2
  have hsz := hW.size
  have hsz2 := hb.size
  refine (insertC W0.heap.size b nW cC i wC.heap.size 3 (Ws.map Value.string) #[.string ⟨#[99, 32, 49, 32, 48, 32, 48]⟩, .string ⟨#[]⟩, .string ⟨#[99]⟩] _ (by have := hba.size; omega) (Lib.hid (own_fr (F := fun _ => False) (own_baseB ho hsz) (Fr.of_below hba) (fun _ _ h => h))) (Lib.hid (Bk.new wC 9 #[.string ⟨#[99, 32, 49, 32, 48, 32, 48]⟩, .string ⟨#[]⟩, .string ⟨#[99]⟩])) (by omega) rfl hi (by omega) (by omega) (Lib.hid (one_strs Ws)) (Lib.hid one_VA)).mono ?_
  rintro e w' ⟨b', c', rfl, hst, hcc, hB⟩
  exact ⟨_, rfl, b', c', rfl, hcc, by rw [insB_map]; exact hst.out, ((hW.trans (hb.mono hsz)).trans (hba.mono (by omega))).trans hB⟩
theorem insPre2 {W0 W wC : World} {Ws : List ByteArray} {i nW b cC : Nat} (hn : Ws.length = nW) (hi : i < nW) (hs : nW ≤ 200000) (hW : Below W0.heap.size W0 W) (hb : Below (W.alloc (.cells #[.string ⟨#[99, 32, 49, 32, 48, 32, 48]⟩, .string ⟨#[]⟩, .string ⟨#[99]⟩] 9)).heap.size (W.alloc (.cells #[.string ⟨#[99, 32, 49, 32, 48, 32, 48]⟩, .string ⟨#[]⟩, .string ⟨#[99]⟩] 9)) wC) (ho : wC.ownsRow (W.alloc (.cells #[.string ⟨#[99, 32, 49, 32, 48, 32, 48]⟩, .string ⟨#[]⟩, .string ⟨#[99]⟩] 9)).heap.size 9 1 (.slice (some ⟨b, 0, none⟩) nW cC) nW (Ws.map Value.string)) :
    Calls Tryd.prog 23 #[.slice (some ⟨b, 0, none⟩) nW cC, .int .i64 i, .slice (some ⟨W.heap.size, 0, none⟩) 3 3] wC fun e w' => ∃ v, e = .returned v ∧ InsPost W0 Ws i nW v w' := by
  have hba : Below W.heap.size W (W.alloc (.cells #[.string ⟨#[99, 32, 49, 32, 48, 32, 48]⟩, .string ⟨#[]⟩, .string ⟨#[99]⟩] 9)) := balloc (Below.refl _ _) _
  have hlt := (ho.lt b rfl).1
  have hsz := hW.size
  have hsz1 := hba.size
  have hsz2 := hb.size
  have hone : W.heap.size < (W.alloc (.cells #[.string ⟨#[99, 32, 49, 32, 48, 32, 48]⟩, .string ⟨#[]⟩, .string ⟨#[99]⟩] 9)).heap.size := by simp
  refine (insertC W0.heap.size b nW cC i W.heap.size 3 (Ws.map Value.string) #[.string ⟨#[99, 32, 49, 32, 48, 32, 48]⟩, .string ⟨#[]⟩, .string ⟨#[99]⟩] wC (by omega) (Lib.hid (own_baseB ho (by omega))) (Lib.hid (bkbel (Bk.new W 9 #[.string ⟨#[99, 32, 49, 32, 48, 32, 48]⟩, .string ⟨#[]⟩, .string ⟨#[99]⟩]) hb)) (by omega) rfl hi (by omega) (by omega) (Lib.hid (one_strs Ws)) (Lib.hid one_VA)).mono ?_
  rintro e w' ⟨b', c', rfl, hst, hcc, hB⟩
  exact ⟨_, rfl, b', c', rfl, hcc, by rw [insB_map]; exact hst.out, ((hW.trans (hba.mono hsz)).trans (hb.mono (by omega))).trans hB⟩
set_option maxRecDepth 100000 in
set_option maxHeartbeats 4000000 in
theorem mainBack (A : Option Addr) (n c : Nat) (L : List (StV × Sml)) (A' : Option Addr) (n' c' : Nat) (L' : List (StV × Sml)) (s : ByteArray) (m : Nat) (w : World) (hv : Hid (Vars w)) (h : Hid (SmlsAt w A n L)) (h' : Hid (SmlsAt w A' n' L')) (hn : n ≤ 9223372036854775807) (hc : n ≤ c) (hn' : n' ≤ 9223372036854775807) (hc' : n' ≤ c') (hm8 : m ≤ 255) :
    Calls Tryd.prog 8 #[.slice A n c, .slice A' n' c', .string s, .int .u8 (m : Int)] w fun e w' => e = .returned (.bool true) ∧ Below w.heap.size w w' := by
  go_enter Tryd.func8, Tryd.ntmps8
  go_wp2_with fail
  refine (made7C A n c L w h hn hc).mono ?_
  rintro e w1 ⟨A1, n1, c1, M1, rfl, ho, ht, hm, hl, hb⟩
  have HK1 := Lib.hid (made_ok h.out.b hm)
  have hn40 : n1 ≤ 40 := by have := HK1.out.n40; omega
  have HS1 := Lib.hid (made_steps ho ht hl hn40)
  have HB1 := Lib.hid hb
  have H' := Lib.hid (h'.out.below hb)
  clear ho ht hb hm hl h
  go_wp2_with fail
  refine (made7C A' n' c' L' w1 H' hn' hc').mono ?_
  rintro e w2 ⟨A2, n2, c2, M2, rfl, ho, ht, hm, hl, hb⟩
  have HK2 := Lib.hid (made_ok H'.out.b hm)
  have hn41 : n2 ≤ 40 := by have := HK2.out.n40; omega
  have HS2 := Lib.hid (made_steps ho ht hl hn41)
  have HB2 := Lib.hid (bthen HB1.out hb)
  have HS12 := Lib.hid (HS1.out.below hb)
  have HV2 := Lib.hid (hv.out.below HB2.out)
  clear ho ht hb hm hl h' H' HB1 HS1
  go_wp2_with fail
  refine (writeC A1 n1 c1 M1 w2 HS12 HV2 (textS M1) (-1) 0 (Lib.hid HK1.out.write)).mono ?_
  rintro e w3 ⟨rfl, hb⟩
  have HB3 := Lib.hid hb
  clear hb
  dsimp only
  go_wp2_with fail
  refine (writeC A2 n2 c2 M2 w3 (Lib.hid (HS2.out.below HB3.out)) (Lib.hid (HV2.out.below HB3.out)) (textS M2) (-1) 0 (Lib.hid HK2.out.write)).mono ?_
  rintro e w4 ⟨rfl, hb⟩
  have HB4 := Lib.hid (bthen HB3.out hb)
  clear hb HB3
  dsimp only
  have hz1 : (str (textS M1)).size ≤ 100000 := by rw [str_size]; exact HK1.out.szB
  go_wp2_with fail
  refine (readC (str (textS M1)) w4 (Lib.hid (HV2.out.below HB4.out)) (by omega) _ (Lib.hid HK1.out.readB)).mono ?_
  rintro e w5 ⟨A5, n5, c5, L5, rfl, hs5, hm5, hb⟩
  have HB5 := Lib.hid (bthen HB4.out hb)
  have HS5 := Lib.hid hs5
  have HM5 := Lib.hid hm5
  clear hb HB4 hs5 hm5
  dsimp only
  go_upto_region 5 with fail
  go_cut [82] (fun v82 wx => v82 = .bool false ∧ Hid (Below w2.heap.size w2 wx))
  case first =>
    rename_i J1 K1 hR1 hM1
    by_cases hM : M1.map (·.2) = M2.map (·.2)
    · have htt := text_of_map hM
      have hq : ((str (textS M1)).toList == (str (textS M2)).toList) = true := by rw [htt]; simp
      have HM := Lib.hid hM
      clear hM htt
      go_wp2_with fail
      refine (sameC A5 A1 L5 M1 n5 n1 c5 c1 w5 HS5 (Lib.hid (HS12.out.below HB5.out))).mono ?_
      rintro e w6 ⟨rfl, hb⟩
      rw [decide_eq_true HM5.out]
      have HB6 := Lib.hid (bthen HB5.out hb)
      clear hb
      go_wp2_with fail
      refine (sameC A1 A2 M1 M2 n1 n2 c1 c2 w6 (Lib.hid (HS12.out.below HB6.out)) (Lib.hid (HS2.out.below HB6.out))).mono ?_
      rintro e w7 ⟨rfl, hb⟩
      rw [decide_eq_true HM.out]
      have HB7 := Lib.hid (bthen HB6.out hb)
      clear hb
      go_wp2_with fail
      go_meet
      exact ⟨rfl, HB7⟩
    · have hq : ((str (textS M1)).toList == (str (textS M2)).toList) = false := by
        cases hq : ((str (textS M1)).toList == (str (textS M2)).toList) with
        | false => rfl
        | true =>
          refine absurd (text_inj HK1.out.cfB HK2.out.cfB (by have := HK1.out.n40; omega) (by have := HK2.out.n40; omega) (by have := HK1.out.szB; omega) ?_) hM
          have h1 : (str (textS M1)).toList = (str (textS M2)).toList := by simpa using hq
          rw [ByteArray.toList_eq, ByteArray.toList_eq] at h1
          exact h1
      have HM := Lib.hid hM
      clear hM
      go_wp2_with fail
      refine (sameC A5 A1 L5 M1 n5 n1 c5 c1 w5 HS5 (Lib.hid (HS12.out.below HB5.out))).mono ?_
      rintro e w6 ⟨rfl, hb⟩
      rw [decide_eq_true HM5.out]
      have HB6 := Lib.hid (bthen HB5.out hb)
      clear hb
      go_wp2_with fail
      refine (sameC A1 A2 M1 M2 n1 n2 c1 c2 w6 (Lib.hid (HS12.out.below HB6.out)) (Lib.hid (HS2.out.below HB6.out))).mono ?_
      rintro e w7 ⟨rfl, hb⟩
      rw [decide_eq_false HM.out]
      have HB7 := Lib.hid (bthen HB6.out hb)
      clear hb
      go_wp2_with fail
      go_meet
      exact ⟨rfl, HB7⟩
  case rest =>
  obtain ⟨rfl, HB6⟩ := hcut
  generalize wc = w6 at *
  clear HB5 HS5 HM5
  have HV6 := Lib.hid (HV2.out.below HB6.out)
  go_wp2_with fail
  refine (splitC (str (textS M1)) 10 w6 (by omega) HV6).mono ?_
  rintro e w7 ⟨rfl, rfl⟩
  obtain ⟨Ws, hWs⟩ : ∃ Ws, pieces (str (textS M1)) 10 = Ws := ⟨_, rfl⟩
  have HWS := Lib.hid hWs
  have hins := insC_len (textS M1) 0
  have hWl : Ws.length = (Lib.split (textS M1) [10]).length := by
    have h1 := congrArg List.length (pieces_data (str (textS M1)) 10)
    rw [List.length_map, hWs] at h1
    exact h1
  have hW0 : 0 < Ws.length := by
    have h1 := (split_spec 10 (textS M1)).1
    rw [hWl]
    exact List.length_pos_iff.2 h1
  have hWm : Ws.length ≤ 200000 := by have := HK1.out.szB; omega
  rw [hWs]
  have HQ := Lib.hid (Bk.new w6 9 (Ws.map Value.string).toArray)
  have HB0 : Hid (Below w2.heap.size w2 (w6.alloc (.cells (Ws.map Value.string).toArray 9))) := balloc HB6.out _
  obtain ⟨q, hq⟩ : ∃ q, w6.heap.size = q := ⟨_, rfl⟩
  rw [hq] at HQ ⊢
  clear hq hWs hins hWl HB6 HV6
  generalize (w6.alloc (.cells (Ws.map Value.string).toArray 9)) = W0 at *
  have HCL : Hid (∀ W, Below W0.heap.size W0 W → Calls Tryd.prog 24 #[.slice (some ⟨q, 0, none⟩) Ws.length Ws.length] W fun e w' => ∃ b c', e = .returned (.slice (some ⟨b, 0, none⟩) Ws.length c') ∧ w'.ownsRow W.heap.size 9 1 (.slice (some ⟨b, 0, none⟩) Ws.length c') Ws.length (Ws.map Value.string) ∧ Below W.heap.size W w') := fun W hW => cloneStrs q Ws W0 W HQ.out hW0 hWm hW
  obtain ⟨nW, hnW⟩ : ∃ nW, Ws.length = nW := ⟨_, rfl⟩
  rw [hnW] at HCL hW0 hWm ⊢
  have HNW := Lib.hid hnW
  obtain ⟨i, hi⟩ : ∃ i, m % nW = i := ⟨_, rfl⟩
  have hin : i < nW := by have := Nat.mod_lt m (show 0 < nW by omega); omega
  have hw1 : IntKind.i64.wrap (m : Int) = (m : Int) := by rw [IntKind.wrap_i64]; omega
  have ht1 : (m : Int).tmod (nW : Int) = (i : Int) := by rw [Int.tmod_eq_emod_of_nonneg (by omega), ← hi, ← Int.natCast_emod]
  have hd1 : (m : Int) % (nW : Int) = (i : Int) := by rw [← hi, ← Int.natCast_emod]
  have hne : ¬ ((nW : Int) = 0) := by omega
  have hne0 : ¬ (nW = 0) := by omega
  have hsz3 : nW ≤ 200000 := hWm
  clear hi hnW
  go_upto_region 8 with fail
  go_cut [21] (fun v21 wx => Hid (InsPost W0 Ws i nW v21 wx))
  case first =>
    rename_i J1 K1 hR1 hM1
    go_region_law
      (first
        | (go_simp; go_at_call 24
           refine (HCL.out _ ?_).mono ?_
           · first | exact (Below.refl _ _).drew | exact balloc (Below.refl _ _).drew _
           rintro e wC ⟨b, cC, rfl, hoC, hBC⟩
           first
             | (have HI := Lib.hid (insPre2 (W0 := W0) HNW.out hin hsz3 (Below.refl _ _).drew hBC hoC))
             | (have HI := Lib.hid (insPre1 (W0 := W0) HNW.out hin hsz3 (Below.refl _ _).drew hBC hoC))
           clear hoC hBC)
        | (go_simp; go_at_call 23
           refine HI.out.mono ?_
           rintro e wI ⟨v, rfl, hI⟩
           have HII := Lib.hid hI
           clear hI))
    all_goals
      go_wp2_with fail
      go_meet
      exact HII
  case rest =>
  obtain ⟨b', cJ, rfl, hcc, hst, hB⟩ := hcut.out
  generalize wc = w8 at *
  have hxl : (insB Ws i).length = nW + 3 := by rw [insB_len Ws i (by rw [HNW.out]; omega), HNW.out]
  have hdat : (insB Ws i).map (·.data.toList) = insC (textS M1) i := by rw [← HWS.out]; exact insB_data _ _
  have hjl := (insC_len (textS M1) i).1
  have hjz : (str (Lib.join (insC (textS M1) i) [10])).size ≤ 200000 := by rw [str_size]; have := HK1.out.szB; omega
  have hjoin := Tryd.strings_Join b' 0 cJ (insB Ws i) ⟨#[10]⟩ w8 (fun j x hj => by
      rw [Nat.zero_add]
      exact hst.2 j _ (by rw [List.getElem?_map, hj]; rfl)) hst.1 (by rw [hxl]; omega) (by rw [hxl]; exact hcc) (by rw [hdat]; show (Lib.join (insC (textS M1) i) [10]).length ≤ _; have := HK1.out.szB; omega)
  rw [hxl, hdat] at hjoin
  have HJ : Hid (Calls Tryd.prog 25 #[.slice (some ⟨b', 0, none⟩) (nW + 3) cJ, .string ⟨#[10]⟩] w8 fun e w' => e = .returned (.string (str (Lib.join (insC (textS M1) i) [10]))) ∧ Below w8.heap.size w8 w') := hjoin
  have HB8 : Hid (Below w2.heap.size w2 w8) := bthen HB0.out hB
  have HRI := Lib.hid (readS_insert (i := i) HK1.out.readB (by have := HK1.out.szB; omega))
  clear hjoin hst hB hxl hdat hjl hcut HCL HQ HB0
  go_wp2_with fail
  refine HJ.out.mono ?_
  rintro e w9 ⟨rfl, hb⟩
  have HB9 := Lib.hid (bthen HB8.out hb)
  clear hb HB8 HJ
  go_wp2_with fail
  refine (readC (str (Lib.join (insC (textS M1) i) [10])) w9 (Lib.hid (HV2.out.below HB9.out)) (by omega) _ HRI).mono ?_
  rintro e w10 ⟨A6, n6, c6, L6, rfl, hs6, hm6, hb⟩
  have HB10 := Lib.hid (bthen HB9.out hb)
  have HS6 := Lib.hid hs6
  have HM6 := Lib.hid hm6
  clear hb HB9 hs6 hm6
  dsimp only
  go_wp2_with fail
  refine (sameC A6 A1 L6 M1 n6 n1 c6 c1 w10 HS6 (Lib.hid (HS12.out.below HB10.out))).mono ?_
  rintro e w11 ⟨rfl, hb⟩
  rw [decide_eq_true HM6.out]
  have HB11 := Lib.hid (bthen HB10.out hb)
  clear hb HB10
  have HB12 := Lib.hid (bthen HB2.out HB11.out)
  have HV11 := Lib.hid (HV2.out.below HB11.out)
  by_cases hs1 : 1000 < s.size
  · have e9 : decide ((1000 : Int) < (s.size : Int)) = true := by simp; omega
    clear hs1
    go_wp2_with fail
    refine (awakeC w11 HV11).mono ?_
    rintro e w12 ⟨rfl, hb⟩
    have HB13 := Lib.hid (bthen HB12.out hb)
    clear hb
    go_wp2
    go_ret
    exact ⟨rfl, HB13.out⟩
  · have e9 : decide ((1000 : Int) < (s.size : Int)) = false := by simp; omega
    have hsd : s.data.toList.length ≤ 10000 := by rw [data_len]; omega
    have hss : s.size ≤ 20000000 := by omega
    rcases readS_ends hsd with ⟨ys, hr, hyl, hck⟩ | ⟨nn, ee, hr, hnn, hee⟩
    · have HR := Lib.hid hr
      have HCK := Lib.hid hck
      clear hr hck hs1 hsd
      go_wp2_with fail
      refine (readC s w11 HV11 hss _ HR).mono ?_
      rintro e w12 ⟨A7, n7, c7, L7, rfl, hs7, hm7, hb⟩
      have HB13 := Lib.hid (bthen HB12.out hb)
      have HS7 := Lib.hid hs7
      have hcs : checkS L7 = (-1, 0) := by
        have h1 := HCK.out L7 hm7
        have h2 := congrArg List.length hm7
        rw [List.length_map] at h2
        dsimp only at h2
        unfold checkS
        rw [if_neg (by omega)]
        exact h1
      have HCS := Lib.hid hcs
      have HV12 := Lib.hid (HV11.out.below hb)
      clear hb hs7 hm7 hcs
      dsimp only
      go_wp2_with fail
      refine (checkC A7 n7 c7 L7 w12 HS7 (-1) 0 HCS).mono ?_
      rintro e w13 ⟨rfl, hb⟩
      have HB14 := Lib.hid (bthen HB13.out hb)
      have HV13 := Lib.hid (HV12.out.below hb)
      clear hb
      dsimp only
      go_wp2_with fail
      refine (awakeC w13 HV13).mono ?_
      rintro e w14 ⟨rfl, hb⟩
      have HB15 := Lib.hid (bthen HB14.out hb)
      clear hb
      go_wp2
      go_ret
      exact ⟨rfl, HB15.out⟩
    · have HR := Lib.hid hr
      have hge : decide ((1 : Int) ≤ nn) = true := decide_eq_true hnn
      clear hr hs1 hsd
      rcases hee with rfl | rfl
      all_goals
        go_wp2_with fail
        refine (readC s w11 HV11 hss _ HR).mono ?_
        rintro e w12 ⟨A7, n7, c7, L7, rfl, hs7, hm7, hb⟩
        have HB13 := Lib.hid (bthen HB12.out hb)
        have h7 : n7 = 0 := by
          have h1 := hs7.len
          have h2 := congrArg List.length hm7
          rw [List.length_map] at h2
          simp at h2
          rw [← h1, h2]
          rfl
        subst h7
        have HV12 := Lib.hid (HV11.out.below hb)
        clear hb hs7 hm7
        dsimp only
        go_wp2_with fail
        refine (awakeC w12 HV12).mono ?_
        rintro e w13 ⟨rfl, hb⟩
        have HB14 := Lib.hid (bthen HB13.out hb)
        clear hb
        go_wp2
        go_ret
        exact ⟨rfl, HB14.out⟩
end Go.Proofs.YteglgcfbmjlnkaaDoor
