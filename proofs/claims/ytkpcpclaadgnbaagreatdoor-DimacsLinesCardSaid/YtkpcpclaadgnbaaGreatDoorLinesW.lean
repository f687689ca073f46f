/-
  salvorlaw06.DimacsLines: the walk.
-/
import Derived.Test.YtkpcpclaadgnbaaGreatDoorCountP
import Derived.Test.YtkpcpclaadgnbaaGreatDoorAwake6
import Derived.Lib.Fields
import Derived.Deep.DeepCutAuto
set_option linter.unusedVariables false
set_option linter.unusedSimpArgs false
namespace Go.Proofs.YtkpcpclaadgnbaaGreatDoor
open Go.RowKit Go.Shelf

/-! ### the fields of a line -/
theorem sp_dig {b : UInt8} (h : b.toNat = 45 ∨ (48 ≤ b.toNat ∧ b.toNat ≤ 57)) : Lib.isSp b = false := by
  have hne : ∀ n : UInt8, (n.toNat ≠ 45 ∧ (n.toNat < 48 ∨ 57 < n.toNat)) → (b == n) = false := by
    intro n hn
    cases hq : (b == n) with
    | false => rfl
    | true =>
      have he : b = n := by simpa using hq
      subst he
      omega
  unfold Lib.isSp
  rw [hne 9 (by decide), hne 10 (by decide), hne 11 (by decide), hne 12 (by decide), hne 13 (by decide), hne 32 (by decide)]
  rfl
theorem itoa_dg (n : Int) : ∀ c ∈ Lib.itoa n, c.toNat = 45 ∨ (48 ≤ c.toNat ∧ c.toNat ≤ 57) := by
  intro c hc
  have h := itoa_bytes n c hc
  unfold DigB at h
  exact h
theorem fields_word : ∀ (w cur l : List UInt8), (∀ b ∈ w, Lib.isSp b = false) → Lib.fieldsGo cur (w ++ l) = Lib.fieldsGo (cur ++ w) l
  | [], cur, l, _ => by simp
  | b :: w, cur, l, h => by
    rw [List.cons_append, Lib.fieldsGo_more cur b _ (h b (by simp)), fields_word w (cur ++ [b]) l (fun x hx => h x (by simp [hx]))]
    simp
theorem fields_ln : ∀ c : List Int, Lib.fieldsGo [] (lnS c) = c.map Lib.itoa ++ [[48]]
  | [] => by
    show Lib.fieldsGo [] [48] = [[48]]
    decide
  | l :: c => by
    have h1 : lnS (l :: c) = Lib.itoa l ++ 32 :: lnS c := by
      unfold lnS
      simp
    rw [h1, fields_word _ _ _ (fun b hb => sp_dig (itoa_dg l b hb)), List.nil_append, Lib.fieldsGo_end _ _ _ (by decide) (itoa_ne l), fields_ln c]
    rfl
theorem ln_ascii (c : List Int) : ∀ b ∈ lnS c, b.toNat < 128 := by
  intro b hb
  unfold lnS at hb
  rcases List.mem_append.1 hb with h | h
  · obtain ⟨l, _, hl⟩ := List.mem_flatMap.1 h
    rcases List.mem_append.1 hl with h1 | h1
    · have := itoa_dg l b h1
      omega
    · simp at h1
      subst h1
      decide
  · simp at h
    subst h
    decide
theorem fieldsC6 (c : List Int) (w : World) (hs : (lnS c).length ≤ 20000000) (ht : Hid (Lib.TabIs Tryz.prog w "strings.asciiSpace" .u8 Lib.asciiSpaceTab)) :
    Calls Tryz.prog 33 #[.string (str (lnS c))] w fun e w' => ∃ A, e = .returned (.slice A (c.length + 1) (c.length + 1)) ∧ Below w.heap.size w w' := by
  refine (Tryz.strings_Fields_laid (str (lnS c)) w (by rw [str_size]; omega) (fun j b hj => ln_ascii c b (List.mem_of_getElem? hj)) ht.out).mono ?_
  rintro e w' ⟨rfl, rfl⟩
  have h1 : (Lib.fields (str (lnS c)).data.toList).length = c.length + 1 := by
    rw [str_data]
    unfold Lib.fields
    rw [fields_ln]
    simp
  rw [h1]
  exact ⟨_, rfl, balloc (Below.refl _ _) _⟩
theorem gascii : Tryz.prog.globalNamed "strings.asciiSpace" = some 0 := by kernel_rfl
theorem tab_below {w w' : World} (h : Lib.TabIs Tryz.prog w "strings.asciiSpace" .u8 Lib.asciiSpaceTab) (hb : Below w.heap.size w w') : Lib.TabIs Tryz.prog w' "strings.asciiSpace" .u8 Lib.asciiSpaceTab := var?_below hb gascii (var_lt gascii h) h
theorem made_len' (L : List (List Nat)) : (madeD L).cls.length ≤ 30 := by
  show (madeC (L.take 30)).length ≤ 30
  unfold madeC
  rw [List.length_map, List.length_take]
  omega
theorem lines_ln {f : Fm} (h : FmK f) {c : List Int} (hc : c ∈ f.cls) : lineE c = (lnS c, 0) ∧ (lnS c).length ≤ 100000 ∧ c.length ≤ 4096 := by
  obtain ⟨_, _, hg⟩ := checkD_ok.1 h.ok
  obtain ⟨h1, h2⟩ := hg c hc
  have hl : ∀ l ∈ c, litB l = true := fun l hl => (lit_in (h2 l hl)).1
  unfold lineE
  rw [if_pos (clause_mk h1 hl)]
  have := ln_len hl
  exact ⟨rfl, by omega, h1⟩
set_option maxRecDepth 100000 in
set_option maxHeartbeats 4000000 in
theorem mainLines (A : Option Addr) (n c : Nat) (L : List (SV × List Nat)) (w : World) (hv : Hid (Vars w)) (ht : Hid (Lib.TabIs Tryz.prog w "strings.asciiSpace" .u8 Lib.asciiSpaceTab)) (h : Hid (U8At w A n L)) (hn : n ≤ 9223372036854775807) (hc : n ≤ c) :
    Calls Tryz.prog 10 #[.slice A n c] w fun e w' => e = .returned (.bool true) ∧ Below w.heap.size w w' := by
  have HM1 := made5C A n c L w h hn hc
  have hf8 : (madeD (L.map (·.2))).vars = 8 := rfl
  have hf30 := made_len' (L.map (·.2))
  have hfk := made_k (L.map (·.2))
  generalize madeD (L.map (·.2)) = F at *
  have HM1 := Lib.hid HM1
  have HK := Lib.hid hfk
  have H8 := Lib.hid hf8
  have H30 := Lib.hid hf30
  clear h hn hc hf8 hf30 hfk
  go_enter Tryz.func10, Tryz.ntmps10
  go_wp2_with fail
  refine HM1.out.mono ?_
  rintro e w1 hp1
  obtain ⟨v1, A1, n1, c1, Q1, rfl, hc1, hq1, hb⟩ := hp1.v
  obtain rfl : v1 = 8 := by rw [← H8.out, ← hq1]
  have hnn : F.cls.length = n1 := by rw [← hq1]; show (clsOf Q1).length = n1; rw [clsOf_len]; exact hc1.len
  have HN := Lib.hid hnn
  have hn30 : n1 ≤ 30 := by have := H30.out; omega
  have HC1 := Lib.hid hc1
  have HQ1 := Lib.hid hq1
  have HB1 := Lib.hid hb
  clear hc1 hq1 hb hp1 HM1 hnn H30
  go_upto_region 2 with fail
  have HX := Lib.hid (Bk.new w1 24 #[.int .i64 8, .slice A1 n1 c1])
  have HBx : Hid (Below w1.heap.size w1 (w1.alloc (.cells #[.int .i64 8, .slice A1 n1 c1] 24))) := balloc (Below.refl _ _) _
  generalize (w1.alloc (.cells #[.int .i64 8, .slice A1 n1 c1] 24)) = W1 at *
  obtain ⟨p, hp⟩ : ∃ p, w1.heap.size = p := ⟨_, rfl⟩
  have HB2 := Lib.hid (bthen HB1.out HBx.out)
  have HC2 := Lib.hid (HC1.out.below HBx.out)
  rw [hp] at HX ⊢
  clear hp HBx HB1 HC1
  obtain ⟨x0, x1⟩ := cells2 HX.out
  go_wp2_with fail
  refine (writeD6 8 A1 n1 c1 Q1 W1 HC2 (Lib.hid (hv.out.below HB2.out))).mono ?_
  rintro e w2 ⟨rfl, hb⟩
  rw [HQ1.out, HK.out.write]
  have HB3 := Lib.hid (bthen HB2.out hb)
  have HX3 := Lib.hid (bkbel HX.out hb)
  have HC3 := Lib.hid (HC2.out.below hb)
  clear hb x0 x1 HX HB2 HC2
  obtain ⟨x0, x1⟩ := cells2 HX3.out
  have hdk : hdOk 8 (n1 : Int) = true := hdOk_mk (by decide) (by decide) (by omega) (by omega)
  have HDK := Lib.hid hdk
  clear hdk
  dsimp only
  go_wp2_with fail
  refine (headerC 8 (n1 : Int) w2 (Lib.hid (hv.out.below HB3.out))).mono ?_
  rintro e w3 ⟨rfl, hb⟩
  rw [headE_ok HDK.out]
  have HB4 := Lib.hid (bthen HB3.out hb)
  have HX4 := Lib.hid (bkbel HX3.out hb)
  have HC4 := Lib.hid (HC3.out.below hb)
  clear hb x0 x1 HX3 HB3 HC3
  obtain ⟨x0, x1⟩ := cells2 HX4.out
  have hw0 : IntKind.i64.wrap ((0 : Int) + 0) = 0 := rfl
  have hhl : (hdS 8 (n1 : Int)).length ≤ 50 := hd_len ⟨by omega, by omega⟩ ⟨by omega, by omega⟩
  have hk0 : (str (hdS 8 (n1 : Int))).size ≤ 50 := by rw [str_size]; exact hhl
  have hk10 : (⟨#[10]⟩ : ByteArray).size = 1 := rfl
  dsimp only
  have HT0 : Hid (str (hdS 8 (n1 : Int)) ++ ⟨#[10]⟩ = str (txP F 0)) := data_inj (by
    rw [cat_data, str_data, str_data]
    unfold txP
    rw [H8.out, HN.out]
    rfl)
  go_upto_region 7 with fail
  rw [HT0.out]
  go_upto_region 8 with fail
  go_loopw [8, 40] (fun v8 v40 wr => ∃ (k : Nat), k ≤ n1 ∧ v40 = .int .i64 k ∧ v8 = .string (str (txP F k)) ∧ Hid (Below w3.heap.size w3 wr)) (fun _ v40 _ => n1 - (intOf v40).toNat)
  case atStart => exact ⟨0, Nat.zero_le _, rfl, rfl, Below.refl _ _⟩
  case round =>
    obtain ⟨k, hk, rfl, rfl, HBr⟩ := hrel
    by_cases hlt : k < n1
    · have e1 : decide ((k : Int) < (n1 : Int)) = true := by simp; omega
      have hki : (k : Int) < (n1 : Int) := by omega
      obtain ⟨b, off, sA, sn, sc, l, rfl, hq, hbl, y0, hia⟩ := (HC4.out.below HBr.out).at hlt
      have hFl : F.cls[k]? = some l := by rw [← HQ1.out]; exact clsOf_at hq
      obtain ⟨k1, k2, k3⟩ := lines_ln HK.out (List.mem_of_getElem? hFl)
      have hsn : l.length = sn := hia.2.1
      have HIA := Lib.hid hia
      have HLE := Lib.hid k1
      have HTK : Hid (str (txP F k) ++ (str (lnS l) ++ ⟨#[10]⟩) = str (txP F (k + 1))) := data_inj (by
        rw [cat_data, cat_data, str_data, str_data, str_data, txP_take hFl])
      have hz1 : (str (lnS l)).size ≤ 100000 := by rw [str_size]; exact k2
      have hz2 : (str (lnS l) ++ ⟨#[10]⟩ : ByteArray).size ≤ 100001 := by rw [cat_size]; show _ + 1 ≤ _; omega
      have hz3 : (str (txP F k)).size ≤ 100000 := by rw [str_size]; exact Nat.le_trans (txP_le F k) HK.out.sz
      have hz4 : (str (txP F k) ++ (str (lnS l) ++ ⟨#[10]⟩) : ByteArray).size ≤ 300000 := by rw [cat_size]; omega
      have hw1 : IntKind.i64.wrap ((sn : Int) + 1) = (sn : Int) + 1 := by rw [IntKind.wrap_i64]; omega
      have hws : ((sn + 1 : Nat) : Int) = (sn : Int) + 1 := by omega
      have hsn4 : sn ≤ 4096 := by omega
      clear hq hia k1 hFl
      go_wp2_with fail
      refine (lineD6 sA sn sc l wr HIA (Lib.hid (hv.out.below (bthen HB4.out HBr.out)))).mono ?_
      rintro e w5 ⟨rfl, hb⟩
      rw [HLE.out]
      have HB5 := Lib.hid (bthen HBr.out hb)
      clear hb y0 HIA
      dsimp only
      go_wp2_with fail
      refine (fieldsC6 l w5 (by omega) (Lib.hid (tab_below ht.out (bthen HB4.out HB5.out)))).mono ?_
      rintro e w6 ⟨A6, rfl, hb⟩
      have HB6 := Lib.hid (bthen HB5.out hb)
      clear hb HB5
      rw [hsn]
      go_upto_region 14 with fail
      rw [HTK.out]
      go_wp2
      go_roundw
      case rel => exact ⟨k + 1, by omega, by go_num, rfl, HB6⟩
      case measure => simp [intOf]; omega
    · obtain rfl : k = n1 := by omega
      have e1 : decide ((k : Int) < (k : Int)) = false := by simp
      have HTX : Hid (txP F k = textD F) := txP_all F (by rw [HN.out]; omega)
      rw [HTX.out]
      have HB5 := Lib.hid (bthen HB4.out HBr.out)
      obtain ⟨y0, y1⟩ := cells2 (bkbel HX4.out HBr.out)
      have HPH : Hid (headP (hdS 8 (k : Int)) = (8, (k : Int), 0)) := by
        show _ = _
        unfold headP
        rw [(parseH_iff _ _ _).2 ⟨HDK.out, rfl⟩]
      have hq : ((str (textD F)).toList == (str (textD F)).toList) = true := by simp
      go_wp2_with fail
      refine (parseHC (str (hdS 8 (k : Int))) wr (by omega) (Lib.hid (hv.out.below HB5.out))).mono ?_
      rintro e w5 ⟨rfl, hb⟩
      rw [str_data, HPH.out]
      have HB6 := Lib.hid (bthen HB5.out hb)
      obtain ⟨z0, z1⟩ := cells2 ((bkbel HX4.out HBr.out).below hb (bkbel HX4.out HBr.out).lt)
      clear hb y0 y1 x0 x1
      dsimp only
      go_wp2_with fail
      refine (awake6 w5 (Lib.hid (hv.out.below HB6.out))).mono ?_
      rintro e w6 ⟨rfl, hb⟩
      have HB7 := Lib.hid (bthen HB6.out hb)
      clear hb
      go_wp2
      go_ret
      exact ⟨rfl, HB7.out⟩
end Go.Proofs.YtkpcpclaadgnbaaGreatDoor
