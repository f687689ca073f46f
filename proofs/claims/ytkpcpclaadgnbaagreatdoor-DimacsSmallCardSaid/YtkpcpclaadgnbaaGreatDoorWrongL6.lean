/-
  salvorlaw06.DimacsWrong: the walk.
-/
import Derived.Test.YtkpcpclaadgnbaaGreatDoorWrongP6
import Derived.Test.YtkpcpclaadgnbaaGreatDoorCountL
import Derived.Test.YtkpcpclaadgnbaaGreatDoorAwake6
import Derived.Deep.DeepCutAuto
set_option linter.unusedVariables false
set_option linter.unusedSimpArgs false
namespace Go.Proofs.YtkpcpclaadgnbaaGreatDoor
open Go.RowKit Go.Shelf

/-- Strings from the beginning of a block. -/
def StrsR (w : World) (b : Nat) (Ws : List ByteArray) : Prop := b < w.heap.size ∧ ∀ (j : Nat) (x : ByteArray), Ws[j]? = some x → w.cell? ⟨b, j, none⟩ = some (.string x)
theorem StrsR.below {w w' : World} {b : Nat} {Ws : List ByteArray} (h : StrsR w b Ws) (hb : Below w.heap.size w w') : StrsR w' b Ws := ⟨Nat.lt_of_lt_of_le h.1 hb.size, fun i x hx => (hb.cell (p := ⟨b, i, none⟩) h.1).trans (h.2 i x hx)⟩
theorem strs_bk {w : World} {b : Nat} {t : TypeId} {Ws : List ByteArray} (h : Bk w b t (Ws.map Value.string).toArray) : StrsR w b Ws := ⟨h.lt, fun j x hx => by
  rw [h.cell, List.getElem?_toArray, List.getElem?_map, hx]
  rfl⟩
theorem strs_own {w : World} {B b n c : Nat} {t : TypeId} {Ws : List ByteArray} (h : w.ownsRow B t 1 (.slice (some ⟨b, 0, none⟩) n c) n (Ws.map Value.string)) : StrsR w b Ws := by
  obtain ⟨cur, hk⟩ := own_bk h
  refine ⟨hk.lt, fun j x hx => ?_⟩
  obtain ⟨bb, off, he, hc⟩ := (Rd.of_own h).at (k := j) (by rw [List.length_map]; exact (List.getElem?_eq_some_iff.1 hx).1)
  injection he with he
  injection he with he1 he2
  subst he1; subst he2
  rw [Nat.zero_add, List.getElem_map] at hc
  rw [hc, (List.getElem?_eq_some_iff.1 hx).2]
theorem StrsR.set {w : World} {b : Nat} {t : TypeId} {cs : Array Value} {Ws : List ByteArray} (h : StrsR w b Ws) (hk : Bk w b t cs) (i : Nat) (x : ByteArray) (hi : i < cs.size) : StrsR (w.setCell ⟨b, i, none⟩ (.string x)) b (Ws.set i x) := by
  have hp := hk.put i (.string x)
  refine ⟨hp.lt, fun j y hy => ?_⟩
  rw [hp.cell]
  by_cases hji : i = j
  · subst hji
    rw [Array.getElem?_setIfInBounds_self_of_lt hi]
    rw [List.getElem?_set] at hy
    simp only [if_true] at hy
    split at hy
    · obtain rfl := Option.some.inj hy
      rfl
    · cases hy
  · rw [Array.getElem?_setIfInBounds_ne hji, ← hk.cell]
    rw [List.getElem?_set_ne hji] at hy
    exact h.2 j y hy
theorem joinC6 (b c : Nat) (Ws : List ByteArray) (T : List UInt8) (w : World) (h : Hid (StrsR w b Ws)) (hc : Ws.length ≤ c) (hn : Ws.length ≤ 1000) (hT : Lib.join (Ws.map (·.data.toList)) [10] = T) (hl : T.length ≤ 1000000) :
    Calls Tryz.prog 27 #[.slice (some ⟨b, 0, none⟩) Ws.length c, .string ⟨#[10]⟩] w fun e w' => e = .returned (.string (str T)) ∧ Below w.heap.size w w' := by
  have h1 := Tryz.strings_Join b 0 c Ws ⟨#[10]⟩ w (fun j x hj => by rw [Nat.zero_add]; exact h.out.2 j x hj) h.out.1 (by omega) hc (by
    show (Lib.join (Ws.map (·.data.toList)) [10]).length ≤ _
    rw [hT]
    omega)
  refine h1.mono ?_
  rintro e w' ⟨rfl, hb⟩
  refine ⟨?_, hb⟩
  show _ = Ending.returned (.string (str T))
  rw [← hT]
  rfl
def wr8 (mx : Int) : Array Value := #[.string ⟨#[120]⟩, .string ⟨#[48, 48]⟩, .string ⟨#[45, 48]⟩, .string ⟨#[43, 49]⟩, .string ⟨#[49, 46]⟩, .string ⟨#[57]⟩, .string ⟨#[45, 57]⟩, .string (str (Lib.itoa mx))]
theorem wr8_at (mx : Int) (q : Nat) (hq : q < 8) : (wr8 mx)[q]? = some (.string (str (wrW q mx))) := by
  obtain rfl | rfl | rfl | rfl | rfl | rfl | rfl | rfl : q = 0 ∨ q = 1 ∨ q = 2 ∨ q = 3 ∨ q = 4 ∨ q = 5 ∨ q = 6 ∨ q = 7 := by omega
  all_goals rfl
def bad6 : Array Value := #[.string ⟨#[112, 32, 99, 110, 102, 32, 56]⟩, .string ⟨#[99, 110, 102, 32, 56, 32, 49]⟩, .string ⟨#[112, 32, 99, 110, 102, 32, 56, 32, 45, 49]⟩, .string ⟨#[112, 32, 99, 110, 102, 32, 56, 32, 49, 32]⟩, .string ⟨#[80, 32, 99, 110, 102, 32, 56, 32, 49]⟩, .string ⟨#[112, 32, 99, 110, 102, 32, 48, 56, 32, 49]⟩]
theorem bad6_at (q : Nat) (hq : q < 6) : ∃ h ∈ badH, bad6[q]? = some (.string (str h)) := by
  obtain rfl | rfl | rfl | rfl | rfl | rfl : q = 0 ∨ q = 1 ∨ q = 2 ∨ q = 3 ∨ q = 4 ∨ q = 5 := by omega
  · exact ⟨_, List.mem_of_getElem? (i := 0) rfl, rfl⟩
  · exact ⟨_, List.mem_of_getElem? (i := 1) rfl, rfl⟩
  · exact ⟨_, List.mem_of_getElem? (i := 2) rfl, rfl⟩
  · exact ⟨_, List.mem_of_getElem? (i := 3) rfl, rfl⟩
  · exact ⟨_, List.mem_of_getElem? (i := 4) rfl, rfl⟩
  · exact ⟨_, List.mem_of_getElem? (i := 5) rfl, rfl⟩
theorem le_sum6 : ∀ {l : List Nat} {x : Nat}, x ∈ l → x ≤ l.sum
  | [], _, h => by cases h
  | y :: l, x, h => by
    rw [List.sum_cons]
    rcases List.mem_cons.1 h with rfl | h
    · omega
    · have := le_sum6 h
      omega
theorem join_joinB6 (c : UInt8) : ∀ (l : List (List UInt8)), Lib.join l [c] = joinB c l
  | [] => rfl
  | [w] => Lib.join_one w [c]
  | w :: v :: r => by
    have ih := join_joinB6 c (v :: r)
    rw [Lib.join_cons] at ih ⊢
    rw [joinB_cons _ _ _ (by simp), ← ih]
    unfold Lib.joinTail
    simp
def comments : List (List UInt8) := [[99, 32, 49, 32, 48, 32, 48], [], [99]]
theorem joinB_set_len {l : List (List UInt8)} {i : Nat} {x y : List UInt8} (h : l[i]? = some y) : (joinB 10 (l.set i x)).length ≤ (joinB 10 l).length + x.length := by
  induction l generalizing i with
  | nil => simp at h
  | cons a l ih =>
    cases i with
    | zero =>
      rw [List.set_cons_zero]
      cases l with
      | nil => show x.length ≤ a.length + x.length; omega
      | cons b l =>
        rw [joinB_cons 10 x (b :: l) (by simp), joinB_cons 10 a (b :: l) (by simp)]
        simp only [List.length_append, List.length_cons]
        omega
    | succ i =>
      rw [List.set_cons_succ]
      have h1 := ih (i := i) (by simpa using h)
      have hne : l ≠ [] := by intro e; subst e; simp at h
      have hne2 : l.set i x ≠ [] := by intro e; exact hne (by simpa using e)
      rw [joinB_cons _ _ _ hne, joinB_cons _ _ _ hne2]
      simp only [List.length_append, List.length_cons]
      omega
theorem trim_wr {wd ln x : List UInt8} (h : Lib.trimSuffix (wd ++ 32 :: ln) [32] = x) : str (Lib.trimSuffix ((str wd ++ ⟨#[32]⟩) ++ str ln).data.toList (⟨#[32]⟩ : ByteArray).data.toList) = str x := by
  have h1 : ((str wd ++ ⟨#[32]⟩) ++ str ln).data.toList = wd ++ 32 :: ln := by
    rw [cat_data, cat_data, str_data, str_data, List.append_assoc]
    rfl
  rw [h1]
  exact congrArg str h
theorem cloneC6 (q : Nat) (Ws : List ByteArray) (w : World) (h : Hid (StrsR w q Ws)) (hn : 0 < Ws.length) (hl : Ws.length ≤ 1000) :
    Calls Tryz.prog 26 #[.slice (some ⟨q, 0, none⟩) Ws.length Ws.length] w fun e w' => ∃ b c' cur, e = .returned (.slice (some ⟨b, 0, none⟩) Ws.length c') ∧ Ws.length ≤ c' ∧ Bk w' b 9 cur ∧ Ws.length ≤ cur.size ∧ StrsR w' b Ws ∧ w.heap.size ≤ b ∧ Below w.heap.size w w' := by
  refine (Tryz.slices_Clone_string q 0 Ws.length Ws.length Ws w (Nat.le_refl _) (by omega) (fun j hj => ?_)).mono ?_
  · rw [Nat.zero_add, h.out.2 j _ (List.getElem?_eq_getElem hj), List.getD_eq_getElem?_getD, List.getElem?_eq_getElem hj]
    rfl
  · rintro e w' ⟨v', rfl, ho, _, hb⟩
    rw [List.take_of_length_le (Nat.le_refl _)] at ho
    have ho' := ho
    rcases ho.2 with ⟨rfl, h0⟩ | ⟨g, cap, cur, rfl, hB, hh, h3, h4, h5, h6⟩
    · omega
    · exact ⟨g, cap, cur, rfl, by omega, hh, by omega, strs_own ho', by omega, hb⟩
set_option maxRecDepth 100000 in
set_option maxHeartbeats 4000000 in
theorem mainWrong6 (A : Option Addr) (n c : Nat) (L : List (SV × List Nat)) (m wh : Nat) (z : Int) (w : World) (hv : Hid (Vars w)) (h : Hid (U8At w A n L)) (hn : n ≤ 9223372036854775807) (hc : n ≤ c) (hm8 : m ≤ 255) (hw8 : wh ≤ 255) (hz : I64 z) :
    Calls Tryz.prog 7 #[.slice A n c, .int .u8 (m : Int), .int .u8 (wh : Int), .int .i64 z] w fun e w' => e = .returned (.bool true) ∧ Below w.heap.size w w' := by
  have HM1 := made5C A n c L w h hn hc
  have hf8 : (madeD (L.map (·.2))).vars = 8 := rfl
  have hf30 := made_len (L.map (·.2))
  have hfk := made_k (L.map (·.2))
  generalize madeD (L.map (·.2)) = F at *
  have HM1 := Lib.hid HM1
  have HK := Lib.hid hfk
  have H8 := Lib.hid hf8
  have H30 := Lib.hid hf30
  obtain ⟨hz1, hz2⟩ := hz
  clear h hn hc hf8 hf30 hfk
  go_enter Tryz.func7, Tryz.ntmps7
  go_wp2_with fail
  refine HM1.out.mono ?_
  rintro e w1 hp1
  obtain ⟨v1, A1, n1, c1, Q1, rfl, hc1, hq1, hb⟩ := hp1.v
  have HC1 := Lib.hid hc1
  have HQ1 := Lib.hid hq1
  have HB1 := Lib.hid hb
  clear hc1 hq1 hb hp1 HM1
  go_upto_region 2 with fail
  have HX := Lib.hid (Bk.new w1 24 #[.int .i64 v1, .slice A1 n1 c1])
  have HBx : Hid (Below w1.heap.size w1 (w1.alloc (.cells #[.int .i64 v1, .slice A1 n1 c1] 24))) := balloc (Below.refl _ _) _
  generalize (w1.alloc (.cells #[.int .i64 v1, .slice A1 n1 c1] 24)) = W1 at *
  obtain ⟨p, hp⟩ : ∃ p, w1.heap.size = p := ⟨_, rfl⟩
  have HB2 := Lib.hid (bthen HB1.out HBx.out)
  have HC2 := Lib.hid (HC1.out.below HBx.out)
  rw [hp] at HX ⊢
  clear hp HBx HB1 HC1
  obtain ⟨x0, x1⟩ := cells2 HX.out
  go_wp2_with fail
  refine (writeD6 v1 A1 n1 c1 Q1 W1 HC2 (Lib.hid (hv.out.below HB2.out))).mono ?_
  rintro e w2 ⟨rfl, hb⟩
  rw [HQ1.out, HK.out.write]
  have HB3 := Lib.hid (bthen HB2.out hb)
  clear hb x0 x1 HX HB2 HC2 HQ1
  dsimp only
  have hszF : (str (textD F)).size ≤ 4000000000 := by rw [str_size]; have := HK.out.sz; omega
  go_wp2_with fail
  refine (splitC (str (textD F)) 10 w2 hszF (Lib.hid (hv.out.below HB3.out))).mono ?_
  rintro e w3 ⟨rfl, rfl⟩
  obtain ⟨Ws, hWs⟩ : ∃ Ws, pieces (str (textD F)) 10 = Ws := ⟨_, rfl⟩
  rw [hWs]
  have HWD : Hid (Ws.map (·.data.toList) = hdS F.vars F.cls.length :: (F.cls.map lnS ++ [[]])) := by
    show _ = _
    rw [← hWs, pieces_data, str_data, text_split]
  have hWl : Ws.length = F.cls.length + 2 := by
    have h1 := congrArg List.length HWD.out
    rw [List.length_map] at h1
    rw [h1]
    simp
  have hwl32 : Ws.length ≤ 32 := by have := H30.out; omega
  have hwl2 : 2 ≤ Ws.length := by omega
  have HSQ := Lib.hid (Bk.new w2 9 (Ws.map Value.string).toArray)
  have HB4 : Hid (Below w.heap.size w (w2.alloc (.cells (Ws.map Value.string).toArray 9))) := balloc HB3.out _
  obtain ⟨q, hq⟩ : ∃ q, w2.heap.size = q := ⟨_, rfl⟩
  have hwq : w.heap.size ≤ q := by have := HB3.out.size; omega
  rw [hq] at HSQ ⊢
  clear hq hWs hszF HB3
  generalize (w2.alloc (.cells (Ws.map Value.string).toArray 9)) = W3 at *
  obtain ⟨nW, hnW⟩ : ∃ nW, Ws.length = nW := ⟨_, rfl⟩
  have HNW := Lib.hid hnW
  rw [hnW] at hwl32 hwl2 ⊢
  clear hnW hWl
  have hr1 : IntKind.i64.wrap (m : Int) = (m : Int) := by rw [IntKind.wrap_i64]; omega
  obtain ⟨r, hr⟩ : ∃ r, m % nW = r := ⟨_, rfl⟩
  have hrn : r < nW := by have := Nat.mod_lt m (show 0 < nW by omega); omega
  have ht1 : (m : Int).tmod (nW : Int) = (r : Int) := by rw [Int.tmod_eq_emod_of_nonneg (by omega), ← hr, ← Int.natCast_emod]
  have hd1 : (m : Int) % (nW : Int) = (r : Int) := by rw [← hr, ← Int.natCast_emod]
  have hr2 : IntKind.i64.wrap (1 + (r : Int)) = 1 + (r : Int) := by rw [IntKind.wrap_i64]; omega
  have hne0 : ¬ ((nW : Int) = 0) := by omega
  have hne1 : ¬ (nW = 0) := by omega
  clear hr
  go_upto_if 51 with fail
  go_cut [] (fun wx => Hid (Below W3.heap.size W3 wx))
  case first =>
    rename_i J1 K1 hR1 hM1
    by_cases hlt : 1 + r < nW
    rotate_left
    · have e1 : decide (1 + (r : Int) < (nW : Int)) = false := decide_eq_false (by omega)
      have hli : ¬ (1 + (r : Int) < (nW : Int)) := by omega
      have hli2 : (nW : Int) ≤ 1 + (r : Int) := by omega
      go_wp2_with fail
      go_meet
      exact Below.refl _ _
    · have e1 : decide (1 + (r : Int) < (nW : Int)) = true := decide_eq_true (by omega)
      obtain ⟨mx, hmx⟩ : ∃ mx, max z 9 = mx := ⟨_, rfl⟩
      have hmx9 : 9 ≤ mx := by omega
      have hmxi : mx ≤ 9223372036854775807 := by omega
      obtain ⟨t, ht⟩ : ∃ t, wh % 8 = t := ⟨_, rfl⟩
      have ht8 : t < 8 := by omega
      have htm : (wh : Int).tmod 8 = (t : Int) := by rw [Int.tmod_eq_emod_of_nonneg (by omega)]; omega
      have htd : (wh : Int) % 8 = (t : Int) := by omega
      have htw : IntKind.u8.wrap (t : Int) = (t : Int) := by rw [IntKind.wrap_u8]; omega
      have hti : (t : Int) < (8 : Int) := by omega
      have hli : 1 + (r : Int) < (nW : Int) := by omega
      go_wp2_with fail
      refine (itoaC mx W3 (Lib.hid ⟨by omega, hmxi⟩) (Lib.hid (hv.out.below HB4.out))).mono ?_
      rintro e w4 ⟨rfl, hb⟩
      have HB5 := Lib.hid hb
      have HSQ4 := Lib.hid (bkbel HSQ.out hb)
      clear hb
      have y8 : (w4.alloc (.cells #[.string ⟨#[120]⟩, .string ⟨#[48, 48]⟩, .string ⟨#[45, 48]⟩, .string ⟨#[43, 49]⟩, .string ⟨#[49, 46]⟩, .string ⟨#[57]⟩, .string ⟨#[45, 57]⟩, .string (str (Lib.itoa mx))] 9)).cell? ⟨w4.heap.size, t, none⟩ = some (.string (str (wrW t mx))) := bk_at (Bk.new w4 9 (wr8 mx)) (wr8_at mx t ht8)
      have HB6 : Hid (Below W3.heap.size W3 (w4.alloc (.cells #[.string ⟨#[120]⟩, .string ⟨#[48, 48]⟩, .string ⟨#[45, 48]⟩, .string ⟨#[43, 49]⟩, .string ⟨#[49, 46]⟩, .string ⟨#[57]⟩, .string ⟨#[45, 57]⟩, .string (str (Lib.itoa mx))] 9))) := balloc HB5.out _
      have HSQ5 := Lib.hid (HSQ4.out.alloc (.cells #[.string ⟨#[120]⟩, .string ⟨#[48, 48]⟩, .string ⟨#[45, 48]⟩, .string ⟨#[43, 49]⟩, .string ⟨#[49, 46]⟩, .string ⟨#[57]⟩, .string ⟨#[45, 57]⟩, .string (str (Lib.itoa mx))] 9))
      go_upto_region 9 with fail
      generalize (w4.alloc (.cells #[.string ⟨#[120]⟩, .string ⟨#[48, 48]⟩, .string ⟨#[45, 48]⟩, .string ⟨#[43, 49]⟩, .string ⟨#[49, 46]⟩, .string ⟨#[57]⟩, .string ⟨#[45, 57]⟩, .string (str (Lib.itoa mx))] 9)) = W5 at *
      clear y8 HSQ4 HB5
      go_upto_region 10 with fail
      go_cut [77] (fun v77 wx => v77 = .bool (decide (wrE t mx = 62)) ∧ W5 = wx)
      case first =>
        by_cases hb : mx ≤ 1048576
        · rcases (by omega : t ≤ 4 ∨ t = 5 ∨ t = 6 ∨ t = 7) with q0 | q0 | q0 | q0
          · have p4 : ¬ ((4 : Int) < (t : Int)) := by omega
            have d4 : decide ((4 : Int) < (t : Int)) = false := decide_eq_false p4
            have p5 : ((t : Int) == 5) = false := by simp; omega
            have p6 : ((t : Int) == 6) = false := by simp; omega
            have dm : decide (mx ≤ 1048576) = true := decide_eq_true hb
            have hE : decide (wrE t mx = 62) = false := decide_eq_false (by unfold wrE; rw [if_neg (by omega)]; decide)
            have HEE := Lib.hid hE
            clear q0 hE
            go_wp2
            go_meet
            exact ⟨by rw [HEE.out], rfl⟩
          · have p4 : ((4 : Int) < (t : Int)) := by omega
            have d4 : decide ((4 : Int) < (t : Int)) = true := decide_eq_true p4
            have p5 : ((t : Int) == 5) = true := by rw [q0]; rfl
            have p6 : ((t : Int) == 6) = false := by simp; omega
            have dm : decide (mx ≤ 1048576) = true := decide_eq_true hb
            have hE : decide (wrE t mx = 62) = true := decide_eq_true (by unfold wrE; rw [if_pos (by omega)])
            have HEE := Lib.hid hE
            clear q0 hE
            go_wp2
            go_meet
            exact ⟨by rw [HEE.out], rfl⟩
          · have p4 : ((4 : Int) < (t : Int)) := by omega
            have d4 : decide ((4 : Int) < (t : Int)) = true := decide_eq_true p4
            have p5 : ((t : Int) == 5) = false := by simp; omega
            have p6 : ((t : Int) == 6) = true := by rw [q0]; rfl
            have dm : decide (mx ≤ 1048576) = true := decide_eq_true hb
            have hE : decide (wrE t mx = 62) = true := decide_eq_true (by unfold wrE; rw [if_pos (by omega)])
            have HEE := Lib.hid hE
            clear q0 hE
            go_wp2
            go_meet
            exact ⟨by rw [HEE.out], rfl⟩
          · have p4 : ((4 : Int) < (t : Int)) := by omega
            have d4 : decide ((4 : Int) < (t : Int)) = true := decide_eq_true p4
            have p5 : ((t : Int) == 5) = false := by simp; omega
            have p6 : ((t : Int) == 6) = false := by simp; omega
            have dm : decide (mx ≤ 1048576) = true := decide_eq_true hb
            have hE : decide (wrE t mx = 62) = true := decide_eq_true (by unfold wrE; rw [if_pos (by omega)])
            have HEE := Lib.hid hE
            clear q0 hE
            go_wp2
            go_meet
            exact ⟨by rw [HEE.out], rfl⟩
        · rcases (by omega : t ≤ 4 ∨ t = 5 ∨ t = 6 ∨ t = 7) with q0 | q0 | q0 | q0
          · have p4 : ¬ ((4 : Int) < (t : Int)) := by omega
            have d4 : decide ((4 : Int) < (t : Int)) = false := decide_eq_false p4
            have p5 : ((t : Int) == 5) = false := by simp; omega
            have p6 : ((t : Int) == 6) = false := by simp; omega
            have dm : decide (mx ≤ 1048576) = false := decide_eq_false hb
            have hE : decide (wrE t mx = 62) = false := decide_eq_false (by unfold wrE; rw [if_neg (by omega)]; decide)
            have HEE := Lib.hid hE
            clear q0 hE
            go_wp2
            go_meet
            exact ⟨by rw [HEE.out], rfl⟩
          · have p4 : ((4 : Int) < (t : Int)) := by omega
            have d4 : decide ((4 : Int) < (t : Int)) = true := decide_eq_true p4
            have p5 : ((t : Int) == 5) = true := by rw [q0]; rfl
            have p6 : ((t : Int) == 6) = false := by simp; omega
            have dm : decide (mx ≤ 1048576) = false := decide_eq_false hb
            have hE : decide (wrE t mx = 62) = true := decide_eq_true (by unfold wrE; rw [if_pos (by omega)])
            have HEE := Lib.hid hE
            clear q0 hE
            go_wp2
            go_meet
            exact ⟨by rw [HEE.out], rfl⟩
          · have p4 : ((4 : Int) < (t : Int)) := by omega
            have d4 : decide ((4 : Int) < (t : Int)) = true := decide_eq_true p4
            have p5 : ((t : Int) == 5) = false := by simp; omega
            have p6 : ((t : Int) == 6) = true := by rw [q0]; rfl
            have dm : decide (mx ≤ 1048576) = false := decide_eq_false hb
            have hE : decide (wrE t mx = 62) = true := decide_eq_true (by unfold wrE; rw [if_pos (by omega)])
            have HEE := Lib.hid hE
            clear q0 hE
            go_wp2
            go_meet
            exact ⟨by rw [HEE.out], rfl⟩
          · have p4 : ((4 : Int) < (t : Int)) := by omega
            have d4 : decide ((4 : Int) < (t : Int)) = true := decide_eq_true p4
            have p5 : ((t : Int) == 5) = false := by simp; omega
            have p6 : ((t : Int) == 6) = false := by simp; omega
            have dm : decide (mx ≤ 1048576) = false := decide_eq_false hb
            have hE : decide (wrE t mx = 62) = false := decide_eq_false (by unfold wrE; rw [if_neg (by omega)]; decide)
            have HEE := Lib.hid hE
            clear q0 hE
            go_wp2
            go_meet
            exact ⟨by rw [HEE.out], rfl⟩
      case rest =>
      obtain ⟨rfl, rfl⟩ := hcut
      go_upto_if 77 with fail
      go_cut [15] (fun v15 wx => v15 = .int .i64 (wrE t mx) ∧ W5 = wx)
      case first =>
        by_cases h62 : wrE t mx = 62
        · have d1 : decide (wrE t mx = 62) = true := decide_eq_true h62
          go_wp2
          go_meet
          exact ⟨by rw [h62], rfl⟩
        · have d1 : decide (wrE t mx = 62) = false := decide_eq_false h62
          have h61 : wrE t mx = 61 := by
            unfold wrE at h62 ⊢
            split at h62
            · exact absurd rfl h62
            · rename_i hno
              rw [if_neg hno]
          go_wp2
          go_meet
          exact ⟨by rw [h61], rfl⟩
      case rest =>
      obtain ⟨rfl, rfl⟩ := hcut
      have HWK := Lib.hid (wr_ok t ht8 mx hmx9 ⟨by omega, hmxi⟩)
      obtain ⟨wd, hwd⟩ : ∃ x, wrW t mx = x := ⟨_, rfl⟩
      obtain ⟨er, her⟩ : ∃ x, wrE t mx = x := ⟨_, rfl⟩
      rw [hwd, her] at HWK ⊢
      clear hwd her htm htd htw hti ht ht8 hmx hmx9 hmxi
      obtain ⟨ln, hln⟩ : ∃ ln, (hdS F.vars F.cls.length :: (F.cls.map lnS ++ [[]]))[1 + r]? = some ln := by
        rw [← HWD.out]
        exact ⟨_, List.getElem?_eq_getElem (by rw [List.length_map, HNW.out]; omega)⟩
      have hlB : Ws[1 + r]? = some (str ln) := by
        have h1 := hln
        rw [← HWD.out, List.getElem?_map] at h1
        cases hq : Ws[1 + r]? with
        | none => rw [hq] at h1; cases h1
        | some x =>
          rw [hq] at h1
          have h2 : x.data.toList = ln := by simpa using h1
          rw [← h2, str_of]
      obtain ⟨hle, hl10⟩ := line_end (by omega) hln
      have hlsz : ln.length ≤ 100000 := by
        have h1 := HK.out.sz
        rw [← text_join] at h1
        have h2 := joinB_sum 10 (hdS F.vars F.cls.length :: (F.cls.map lnS ++ [[]]))
        have h3 : ln.length ≤ ((hdS F.vars F.cls.length :: (F.cls.map lnS ++ [[]])).map List.length).sum := le_sum6 (List.mem_map.2 ⟨ln, List.mem_of_getElem? hln, rfl⟩)
        have h4 : 1 ≤ (hdS F.vars F.cls.length :: (F.cls.map lnS ++ [[]])).length := by simp
        omega
      have hwl30 := HWK.out.2.2.2.2.1
      obtain ⟨i, hi⟩ : ∃ i, 1 + r = i := ⟨_, rfl⟩
      have hii : 1 + (r : Int) = (i : Int) := by omega
      have HII := Lib.hid hii
      have hi1 : 1 ≤ i := by omega
      have hin : i < nW := by omega
      have hwi : IntKind.i64.wrap ((i : Int) + 1) = (i : Int) + 1 := by rw [IntKind.wrap_i64]; omega
      rw [hi] at hln hlB
      rw [hii]
      have HRD : Hid (readD (joinB 10 ((hdS F.vars F.cls.length :: (F.cls.map lnS ++ [[]])).set i (wrL wd ln))) = (F0, (i : Int) + 1, er)) := by
        have hwo := HWK.out
        have h0 := lines_wrong HK.out H8.out (by have := H30.out; omega) hwo i hi1 ln hln
        have hlen := joinB_set_len (x := wrL wd ln) hln
        have hwl : (wrL wd ln).length ≤ 100040 := by
          unfold wrL
          split
          · omega
          · simp only [List.length_append, List.length_cons]; omega
        rw [text_join] at hlen
        have hsz := HK.out.sz
        show _ = _
        rw [split_join10 (by simp) (fun v hv => ?_) (by omega), h0]
        rcases List.mem_or_eq_of_mem_set hv with hv | rfl
        · rw [← text_split] at hv
          exact (split_spec 10 _).2.1 v hv
        · unfold wrL
          split
          · exact hwo.2.2.1
          · intro hc
            rcases List.mem_append.1 hc with hc | hc
            · exact hwo.2.2.1 hc
            · rcases List.mem_cons.1 hc with hc | hc
              · revert hc; decide
              · exact hl10 hc
      have HTL : Hid ((joinB 10 ((hdS F.vars F.cls.length :: (F.cls.map lnS ++ [[]])).set i (wrL wd ln))).length ≤ 300000) := by
        have hlen := joinB_set_len (x := wrL wd ln) hln
        rw [text_join] at hlen
        have hsz := HK.out.sz
        have hwl : (wrL wd ln).length ≤ 100040 := by
          unfold wrL
          split
          · omega
          · simp only [List.length_append, List.length_cons]; omega
        show _ ≤ _
        omega
      have HTR : Hid (Lib.trimSuffix (wd ++ 32 :: ln) [32] = wrL wd ln) := wr_trim wd ln hle
      have HJN : Hid ((Ws.set i (str (wrL wd ln))).map (·.data.toList) = (hdS F.vars F.cls.length :: (F.cls.map lnS ++ [[]])).set i (wrL wd ln)) := by
        show _ = _
        rw [List.map_set, HWD.out, str_data]
      have HCL := cloneC6 q Ws W5 (Lib.hid (strs_bk HSQ5.out)) (by rw [HNW.out]; omega) (by rw [HNW.out]; omega)
      rw [HNW.out] at HCL
      have HCL := Lib.hid HCL
      clear hle hl10 hln hi hii hr2
      obtain ⟨T, hT⟩ : ∃ T, joinB 10 ((hdS F.vars F.cls.length :: (F.cls.map lnS ++ [[]])).set i (wrL wd ln)) = T := ⟨_, rfl⟩
      rw [hT] at HRD HTL
      have HT := Lib.hid hT
      clear hT
      go_wp2_with fail
      refine HCL.out.mono ?_
      rintro e w6 ⟨b, c', cur, rfl, hcc, hbk, hcs, hst, hbs, hb⟩
      have HB7 := Lib.hid (bthen HB6.out hb)
      have HBK := Lib.hid hbk
      have HST := Lib.hid hst
      have y0 := hst.2 i _ hlB
      have f0 := hbk.frozen i
      have hbW : W3.heap.size ≤ b := Nat.le_trans HB6.out.size hbs
      clear hb hbk hst HCL HSQ5 HB6
      have s1 : (str wd).size ≤ 30 := by rw [str_size]; exact hwl30
      have s0 : (⟨#[32]⟩ : ByteArray).size = 1 := rfl
      have s2 : (str wd ++ ⟨#[32]⟩ : ByteArray).size ≤ 31 := by rw [cat_size]; omega
      have s3 : (str ln).size ≤ 100000 := by rw [str_size]; exact hlsz
      have s4 : ((str wd ++ ⟨#[32]⟩ : ByteArray) ++ str ln).size ≤ 200000 := by rw [cat_size]; omega
      have HTR2 : Hid (str (Lib.trimSuffix ((str wd ++ ⟨#[32]⟩) ++ str ln).data.toList (⟨#[32]⟩ : ByteArray).data.toList) = str (wrL wd ln)) := trim_wr HTR.out
      have HTC := Lib.hid (trimC6 ((str wd ++ ⟨#[32]⟩) ++ str ln) ⟨#[32]⟩ w6 (Nat.le_trans s4 (by decide)))
      have hib : (i : Int) < (nW : Int) := by omega
      have hi0 : (0 : Int) ≤ (i : Int) := by omega
      go_wp2_with fail
      with_reducible refine HTC.out.mono ?_
      rintro e w7 ⟨rfl, rfl⟩
      rw [HTR2.out]
      clear HTR HTR2 s0 s1 s2 s3 s4
      have HSET := Lib.hid (HST.out.set HBK.out i (str (wrL wd ln)) (by omega))
      have HB8 : Hid (Below W3.heap.size W3 (w6.setCell ⟨b, i, none⟩ (.string (str (wrL wd ln))))) := HB7.out.trans (((Fr.refl (fun k => k = b) w6).setCell (p := ⟨b, i, none⟩) (.inl rfl) _).below W3.heap.size HB7.out.size (fun k hk e => by omega))
      go_upto_region 14 with fail
      generalize (w6.setCell ⟨b, i, none⟩ (.string (str (wrL wd ln)))) = w7 at *
      have HJ := joinC6 b c' (Ws.set i (str (wrL wd ln))) T w7 HSET (by rw [List.length_set, HNW.out]; exact hcc) (by rw [List.length_set, HNW.out]; omega) (by rw [HJN.out, join_joinB6, HT.out]) (by have := HTL.out; omega)
      rw [List.length_set, HNW.out] at HJ
      have HJ := Lib.hid HJ
      have hTs : (str T).size ≤ 20000000 := by rw [str_size]; have := HTL.out; omega
      clear HSET HST HBK HJN HT HTL HWK hwl30 hlsz y0 f0 HB7 hlB
      go_wp2_with fail
      refine HJ.out.mono ?_
      rintro e w8 ⟨rfl, hb⟩
      have HB9 := Lib.hid (bthen HB8.out hb)
      clear hb HB8 HJ
      go_wp2_with fail
      refine (readV6 (str T) w8 (Lib.hid (hv.out.below (bthen HB4.out HB9.out))) hTs (F0, (i : Int) + 1, er) (Lib.hid (by show readD _ = _; rw [str_data]; exact HRD.out))).mono ?_
      rintro e w9 ⟨v9, A9, n9, c9, Q9, rfl, hc9, hq9, hb⟩
      have HB10 : Hid (Below W3.heap.size W3 (w9.alloc (.cells #[.int .i64 v9, .slice A9 n9 c9] 24))) := balloc (bthen HB9.out hb) _
      clear hc9 hq9 hb HB9 HRD
      dsimp only
      go_wp2_with fail
      rw [← HII.out]
      go_meet
      exact HB10
  case rest =>
    have HB5 := hcut
    generalize wc = W5 at *
    have HSQ5 := Lib.hid (bkbel HSQ.out HB5.out)
    have HB6 := Lib.hid (bthen HB4.out HB5.out)
    clear HSQ HB4 HB5 hcut
    obtain ⟨t, ht⟩ : ∃ t, wh % 6 = t := ⟨_, rfl⟩
    have ht6 : t < 6 := by omega
    have htm : (wh : Int).tmod 6 = (t : Int) := by rw [Int.tmod_eq_emod_of_nonneg (by omega)]; omega
    have htd : (wh : Int) % 6 = (t : Int) := by omega
    have htw : IntKind.u8.wrap (t : Int) = (t : Int) := by rw [IntKind.wrap_u8]; omega
    have hti : (t : Int) < (6 : Int) := by omega
    obtain ⟨hd, hmem, hat⟩ := bad6_at t ht6
    have HMEM := Lib.hid hmem
    have y6 : (W5.alloc (.cells #[.string ⟨#[112, 32, 99, 110, 102, 32, 56]⟩, .string ⟨#[99, 110, 102, 32, 56, 32, 49]⟩, .string ⟨#[112, 32, 99, 110, 102, 32, 56, 32, 45, 49]⟩, .string ⟨#[112, 32, 99, 110, 102, 32, 56, 32, 49, 32]⟩, .string ⟨#[80, 32, 99, 110, 102, 32, 56, 32, 49]⟩, .string ⟨#[112, 32, 99, 110, 102, 32, 48, 56, 32, 49]⟩] 9)).cell? ⟨W5.heap.size, t, none⟩ = some (.string (str hd)) := bk_at (Bk.new W5 9 bad6) hat
    have HSQ6 := Lib.hid (HSQ5.out.alloc (.cells #[.string ⟨#[112, 32, 99, 110, 102, 32, 56]⟩, .string ⟨#[99, 110, 102, 32, 56, 32, 49]⟩, .string ⟨#[112, 32, 99, 110, 102, 32, 56, 32, 45, 49]⟩, .string ⟨#[112, 32, 99, 110, 102, 32, 56, 32, 49, 32]⟩, .string ⟨#[80, 32, 99, 110, 102, 32, 56, 32, 49]⟩, .string ⟨#[112, 32, 99, 110, 102, 32, 48, 56, 32, 49]⟩] 9))
    have HB7 : Hid (Below w.heap.size w (W5.alloc (.cells #[.string ⟨#[112, 32, 99, 110, 102, 32, 56]⟩, .string ⟨#[99, 110, 102, 32, 56, 32, 49]⟩, .string ⟨#[112, 32, 99, 110, 102, 32, 56, 32, 45, 49]⟩, .string ⟨#[112, 32, 99, 110, 102, 32, 56, 32, 49, 32]⟩, .string ⟨#[80, 32, 99, 110, 102, 32, 56, 32, 49]⟩, .string ⟨#[112, 32, 99, 110, 102, 32, 48, 56, 32, 49]⟩] 9))) := balloc HB6.out _
    obtain ⟨w0s, hw0s⟩ : ∃ x, Ws[0]? = some x := ⟨_, List.getElem?_eq_getElem (by rw [HNW.out]; omega)⟩
    have u0 := (strs_bk HSQ6.out).2 0 w0s hw0s
    have f0 := HSQ6.out.frozen 0
    have hn0 : (0 : Int) < (nW : Int) := by omega
    clear hmem hat ht hw0s
    have HSET := Lib.hid ((strs_bk HSQ6.out).set HSQ6.out 0 (str hd) (by simp; rw [HNW.out]; omega))
    have HB8 : Hid (Below w.heap.size w ((W5.alloc (.cells #[.string ⟨#[112, 32, 99, 110, 102, 32, 56]⟩, .string ⟨#[99, 110, 102, 32, 56, 32, 49]⟩, .string ⟨#[112, 32, 99, 110, 102, 32, 56, 32, 45, 49]⟩, .string ⟨#[112, 32, 99, 110, 102, 32, 56, 32, 49, 32]⟩, .string ⟨#[80, 32, 99, 110, 102, 32, 56, 32, 49]⟩, .string ⟨#[112, 32, 99, 110, 102, 32, 48, 56, 32, 49]⟩] 9)).setCell ⟨q, 0, none⟩ (.string (str hd)))) := HB7.out.trans (((Fr.refl (fun k => k = q) _).setCell (p := ⟨q, 0, none⟩) (.inl rfl) _).below w.heap.size HB7.out.size (fun k hk e => by omega))
    go_upto_region 18 with fail
    generalize ((W5.alloc (.cells #[.string ⟨#[112, 32, 99, 110, 102, 32, 56]⟩, .string ⟨#[99, 110, 102, 32, 56, 32, 49]⟩, .string ⟨#[112, 32, 99, 110, 102, 32, 56, 32, 45, 49]⟩, .string ⟨#[112, 32, 99, 110, 102, 32, 56, 32, 49, 32]⟩, .string ⟨#[80, 32, 99, 110, 102, 32, 56, 32, 49]⟩, .string ⟨#[112, 32, 99, 110, 102, 32, 48, 56, 32, 49]⟩] 9)).setCell ⟨q, 0, none⟩ (.string (str hd))) = W6 at *
    obtain ⟨T, hT⟩ : ∃ T, joinB 10 ((hdS F.vars F.cls.length :: (F.cls.map lnS ++ [[]])).set 0 hd) = T := ⟨_, rfl⟩
    obtain ⟨b1, b2, b3, b4⟩ := bad_head hd HMEM.out
    have hTl : T.length ≤ 200000 := by
      have hlen := joinB_set_len (i := 0) (x := hd) (l := hdS F.vars F.cls.length :: (F.cls.map lnS ++ [[]])) (y := hdS F.vars F.cls.length) rfl
      rw [text_join, hT] at hlen
      have hsz := HK.out.sz
      omega
    have HRD : Hid (readD T = (F0, 1, 60)) := by
      show _ = _
      rw [← hT, split_join10 (by simp) (fun v hv => ?_) (by rw [hT]; omega)]
      · rw [List.set_cons_zero, readL_bad HMEM.out]
      · rcases List.mem_or_eq_of_mem_set hv with hv | rfl
        · rw [← text_split] at hv
          exact (split_spec 10 _).2.1 v hv
        · exact b3
    have HJ := joinC6 q nW (Ws.set 0 (str hd)) T W6 HSET (by rw [List.length_set, HNW.out]; exact Nat.le_refl _) (by rw [List.length_set, HNW.out]; omega) (by rw [List.map_set, HWD.out, str_data, join_joinB6, hT]) (by omega)
    rw [List.length_set, HNW.out] at HJ
    have HJ := Lib.hid HJ
    have hTs : (str T).size ≤ 20000000 := by rw [str_size]; omega
    obtain ⟨mn, hmn⟩ : ∃ mn, min z (-1) = mn := ⟨_, rfl⟩
    obtain ⟨mx, hmx⟩ : ∃ mx, max z 262145 = mx := ⟨_, rfl⟩
    have hmn1 : mn ≤ -1 := by omega
    have hmx1 : 262145 ≤ mx := by omega
    have HW50 : Hid (writeD ⟨mn, clsOf []⟩ = ([], 50)) := by
      show _ = _
      have h1 : checkD ⟨mn, clsOf []⟩ = (-1, 50) := by unfold checkD; rw [if_pos (.inl (by show mn < 0; omega))]
      unfold writeD
      rw [h1]
      rfl
    have HL20 : Hid (lineE [1, 0] = ([], 20)) := by show _ = _; decide
    have HH50 : Hid (headE mn (-1) = ([], 50)) := by show _ = _; unfold headE; rw [if_pos (.inl (by omega))]
    have HH5 : Hid (headE 1 mx = ([], 5)) := by show _ = _; unfold headE; rw [if_neg (by omega), if_pos (.inr (by omega))]
    clear hT HSET HSQ6 HSQ5 HB7 HB6 y6 u0 f0 b1 b2 b3 b4 HMEM HNW HWD htm htd htw hti
    go_wp2_with fail
    refine HJ.out.mono ?_
    rintro e w8 ⟨rfl, hb⟩
    have HB9 := Lib.hid (bthen HB8.out hb)
    clear hb HB8 HJ
    go_wp2_with fail
    refine (readV6 (str T) w8 (Lib.hid (hv.out.below HB9.out)) hTs (F0, 1, 60) (Lib.hid (by show readD _ = _; rw [str_data]; exact HRD.out))).mono ?_
    rintro e w9 ⟨v9, A9, n9, c9, Q9, rfl, hc9, hq9, hb⟩
    have HB10 : Hid (Below w.heap.size w (w9.alloc (.cells #[.int .i64 v9, .slice A9 n9 c9] 24))) := balloc (bthen HB9.out hb) _
    clear hc9 hq9 hb HB9 HRD
    dsimp only
    go_upto_region 19 with fail
    generalize (w9.alloc (.cells #[.int .i64 v9, .slice A9 n9 c9] 24)) = W9 at *
    go_wp2_with fail
    refine (writeD6 mn none 0 0 [] W9 (Lib.hid (cls_nil _)) (Lib.hid (hv.out.below HB10.out))).mono ?_
    rintro e w10 ⟨rfl, hb⟩
    rw [HW50.out]
    have HB11 := Lib.hid (bthen HB10.out hb)
    clear hb HB10
    dsimp only
    have HBa : Hid (Below w.heap.size w (w10.alloc (.cells #[.int .i64 1, .int .i64 0] 53))) := balloc HB11.out _
    go_wp2_with fail
    refine (lineD6 (some ⟨w10.heap.size, 0, none⟩) 2 2 [1, 0] _ (Lib.hid (ints2 (Bk.new w10 53 #[.int .i64 1, .int .i64 0]) (i64_small 1 (by decide) (by decide)) (i64_small 0 (by decide) (by decide)))) (Lib.hid (hv.out.below HBa.out))).mono ?_
    rintro e w11 ⟨rfl, hb⟩
    rw [HL20.out]
    have HB12 := Lib.hid (bthen HBa.out hb)
    clear hb HB11 HBa
    dsimp only
    go_wp2_with fail
    refine (headerC mn (-1) w11 (Lib.hid (hv.out.below HB12.out))).mono ?_
    rintro e w12 ⟨rfl, hb⟩
    rw [HH50.out]
    have HB13 := Lib.hid (bthen HB12.out hb)
    clear hb HB12
    dsimp only
    go_wp2_with fail
    refine (headerC 1 mx w12 (Lib.hid (hv.out.below HB13.out))).mono ?_
    rintro e w13 ⟨rfl, hb⟩
    rw [HH5.out]
    have HB14 := Lib.hid (bthen HB13.out hb)
    clear hb HB13
    dsimp only
    go_wp2_with fail
    refine (awake6 w13 (Lib.hid (hv.out.below HB14.out))).mono ?_
    rintro e w14 ⟨rfl, hb⟩
    have HB15 := Lib.hid (bthen HB14.out hb)
    clear hb
    go_wp2
    go_ret
    exact ⟨rfl, HB15.out⟩
end Go.Proofs.YtkpcpclaadgnbaaGreatDoor
