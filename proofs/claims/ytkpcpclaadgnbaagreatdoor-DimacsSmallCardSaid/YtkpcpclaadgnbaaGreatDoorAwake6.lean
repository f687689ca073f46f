/-
  salvorlaw06.awake: the examples of the chapter.
-/
import Derived.Test.YtkpcpclaadgnbaaGreatDoorOf6
import Derived.Test.YtkpcpclaadgnbaaGreatDoorFmT
import Derived.Deep.RegionHeld3
import Derived.Deep.DeepCutAuto
set_option linter.unusedVariables false
set_option linter.unusedSimpArgs false
namespace Go.Proofs.YtkpcpclaadgnbaaGreatDoor
open Go.RowKit

theorem i64_small (r : Int) (h1 : -10000000000 ≤ r) (h2 : r ≤ 10000000000) : I64 r := ⟨by omega, by omega⟩
theorem Rd.of_bk {w : World} {g : Nat} {t : TypeId} {cs : Array Value} {xs : List Value} (h : Bk w g t cs) (hx : xs = cs.toList) : Rd w (some ⟨g, 0, none⟩) xs := fun _ =>
  ⟨g, 0, cs, t, (0, 0), rfl, h, fun j u hu => by rw [hx] at hu; simpa using hu⟩
theorem ints2 {w : World} {g : Nat} {t : TypeId} {a b : Int} (h : Bk w g t #[.int .i64 a, .int .i64 b]) (ha : I64 a) (hb : I64 b) : IntsAt w ⟨some ⟨g, 0, none⟩, 2, 2⟩ [a, b] :=
  ⟨Rd.of_bk h rfl, rfl, fun u hu => by
    simp only [List.mem_cons, List.not_mem_nil, or_false] at hu
    rcases hu with rfl | rfl <;> assumption, by show 2 ≤ _; omega⟩
theorem ints1 {w : World} {g : Nat} {t : TypeId} {a : Int} (h : Bk w g t #[.int .i64 a]) (ha : I64 a) : IntsAt w ⟨some ⟨g, 0, none⟩, 1, 1⟩ [a] :=
  ⟨Rd.of_bk h rfl, rfl, fun u hu => by
    simp only [List.mem_cons, List.not_mem_nil, or_false] at hu
    rcases hu with rfl
    assumption, by show 1 ≤ _; omega⟩
theorem ints0 {w : World} {c : Nat} : IntsAt w ⟨none, 0, c⟩ [] := ⟨Rd.nil, rfl, fun u hu => (by cases hu), by show 0 ≤ _; omega⟩
def awF1 : Fm := ⟨3, [[1, -2], [], [3]]⟩
def awF2 : Fm := ⟨2, [[1, 2], [-1]]⟩
def awT1 : List UInt8 := [112, 32, 99, 110, 102, 32, 51, 32, 51, 10, 49, 32, 45, 50, 32, 48, 10, 48, 10, 51, 32, 48, 10]
def awN6 : List (ByteArray × Int × Int) := [(⟨#[112, 32, 99, 110, 102, 32, 49, 32, 49, 10, 50, 32, 48]⟩, 2, 62), (⟨#[112, 32, 99, 110, 102, 32, 49, 32, 49, 10, 49, 32, 48, 32, 49, 32, 48]⟩, 2, 63), (⟨#[112, 32, 99, 110, 102, 32, 49, 32, 49, 10, 49]⟩, 3, 63), (⟨#[112, 32, 99, 110, 102, 32, 49, 32, 49, 10, 49, 32, 120, 32, 48]⟩, 2, 61), (⟨#[112, 32, 99, 110, 102, 32, 48, 49, 32, 49]⟩, 1, 60), (⟨#[]⟩, 2, 60)]
theorem aw_write : writeD awF1 = (awT1, 0) := by decide +kernel
theorem aw_read : readD [99, 32, 120, 10, 112, 32, 99, 110, 102, 32, 50, 32, 50, 10, 49, 32, 50, 10, 48, 32, 45, 49, 32, 48] = (awF2, 0, 0) := by decide +kernel
theorem aw_no : ∀ x ∈ awN6, readD x.1.data.toList = (F0, x.2.1, x.2.2) ∧ x.1.size ≤ 100 := by decide +kernel
theorem aw_cls (w : World) : ClsAt (((w.alloc (.cells #[.int .i64 1, .int .i64 (-2)] 3)).alloc (.cells #[.int .i64 3] 3)).alloc (.cells #[.slice (some ⟨w.heap.size, 0, none⟩) 2 2, .slice none 0 0, .slice (some ⟨w.heap.size + 1, 0, none⟩) 1 1] 61)) (some ⟨w.heap.size + 2, 0, none⟩) 3 [(⟨some ⟨w.heap.size, 0, none⟩, 2, 2⟩, [1, -2]), (⟨none, 0, 0⟩, []), (⟨some ⟨w.heap.size + 1, 0, none⟩, 1, 1⟩, [3])] := by
  have k0 : Bk (((w.alloc (.cells #[.int .i64 1, .int .i64 (-2)] 3)).alloc (.cells #[.int .i64 3] 3)).alloc (.cells #[.slice (some ⟨w.heap.size, 0, none⟩) 2 2, .slice none 0 0, .slice (some ⟨w.heap.size + 1, 0, none⟩) 1 1] 61)) w.heap.size 3 #[.int .i64 1, .int .i64 (-2)] := ((Bk.new w 3 #[.int .i64 1, .int .i64 (-2)]).alloc _).alloc _
  have k1 : Bk (((w.alloc (.cells #[.int .i64 1, .int .i64 (-2)] 3)).alloc (.cells #[.int .i64 3] 3)).alloc (.cells #[.slice (some ⟨w.heap.size, 0, none⟩) 2 2, .slice none 0 0, .slice (some ⟨w.heap.size + 1, 0, none⟩) 1 1] 61)) (w.heap.size + 1) 3 #[.int .i64 3] := (Bk.newAt6 (w.alloc (.cells #[.int .i64 1, .int .i64 (-2)] 3)) 3 #[.int .i64 3] _ (by simp)).alloc _
  have k2 : Bk (((w.alloc (.cells #[.int .i64 1, .int .i64 (-2)] 3)).alloc (.cells #[.int .i64 3] 3)).alloc (.cells #[.slice (some ⟨w.heap.size, 0, none⟩) 2 2, .slice none 0 0, .slice (some ⟨w.heap.size + 1, 0, none⟩) 1 1] 61)) (w.heap.size + 2) 61 #[.slice (some ⟨w.heap.size, 0, none⟩) 2 2, .slice none 0 0, .slice (some ⟨w.heap.size + 1, 0, none⟩) 1 1] := Bk.newAt6 _ _ _ _ (by simp)
  refine ⟨Rd.of_bk k2 rfl, rfl, fun i p hi => ?_, by omega⟩
  match i, hi with
  | 0, hi => obtain rfl := Option.some.inj hi; exact ints2 k0 (i64_small 1 (by decide) (by decide)) (i64_small (-2) (by decide) (by decide))
  | 1, hi => obtain rfl := Option.some.inj hi; exact ints0
  | 2, hi => obtain rfl := Option.some.inj hi; exact ints1 k1 (i64_small 3 (by decide) (by decide))
  | i + 3, hi => cases hi
theorem two_cls {W : World} {i1 i2 o : Nat} {t : TypeId} (h1 : Bk W i1 t #[.int .i64 1, .int .i64 2]) (h2 : Bk W i2 t #[.int .i64 (-1)]) {t' : TypeId} (h3 : Bk W o t' #[.slice (some ⟨i1, 0, none⟩) 2 2, .slice (some ⟨i2, 0, none⟩) 1 1]) : ClsAt W (some ⟨o, 0, none⟩) 2 [(⟨some ⟨i1, 0, none⟩, 2, 2⟩, [1, 2]), (⟨some ⟨i2, 0, none⟩, 1, 1⟩, [-1])] := by
  refine ⟨Rd.of_bk h3 rfl, rfl, fun i p hi => ?_, by omega⟩
  match i, hi with
  | 0, hi => obtain rfl := Option.some.inj hi; exact ints2 h1 (i64_small 1 (by decide) (by decide)) (i64_small 2 (by decide) (by decide))
  | 1, hi => obtain rfl := Option.some.inj hi; exact ints1 h2 (i64_small (-1) (by decide) (by decide))
  | i + 2, hi => cases hi
theorem two_a (w : World) : ClsAt (((w.alloc (.cells #[.int .i64 1, .int .i64 2] 3)).alloc (.cells #[.int .i64 (-1)] 3)).alloc (.cells #[.slice (some ⟨w.heap.size, 0, none⟩) 2 2, .slice (some ⟨w.heap.size + 1, 0, none⟩) 1 1] 61)) (some ⟨w.heap.size + 1 + 1, 0, none⟩) 2 [(⟨some ⟨w.heap.size, 0, none⟩, 2, 2⟩, [1, 2]), (⟨some ⟨w.heap.size + 1, 0, none⟩, 1, 1⟩, [-1])] :=
  two_cls (((Bk.new w 3 #[.int .i64 1, .int .i64 2]).alloc _).alloc _) ((Bk.newAt6 (w.alloc (.cells #[.int .i64 1, .int .i64 2] 3)) 3 #[.int .i64 (-1)] _ (by simp)).alloc _) (Bk.newAt6 _ _ _ _ (by simp))
theorem two_b (w : World) : ClsAt (((w.alloc (.cells #[.int .i64 (-1)] 3)).alloc (.cells #[.int .i64 1, .int .i64 2] 3)).alloc (.cells #[.slice (some ⟨w.heap.size + 1, 0, none⟩) 2 2, .slice (some ⟨w.heap.size, 0, none⟩) 1 1] 61)) (some ⟨w.heap.size + 1 + 1, 0, none⟩) 2 [(⟨some ⟨w.heap.size + 1, 0, none⟩, 2, 2⟩, [1, 2]), (⟨some ⟨w.heap.size, 0, none⟩, 1, 1⟩, [-1])] :=
  two_cls ((Bk.newAt6 (w.alloc (.cells #[.int .i64 (-1)] 3)) 3 #[.int .i64 1, .int .i64 2] _ (by simp)).alloc _) (((Bk.new w 3 #[.int .i64 (-1)]).alloc _).alloc _) (Bk.newAt6 _ _ _ _ (by simp))
theorem of_two {W : World} {w : World} {i1 i2 o : Nat} (hs : w.heap.size ≤ W.heap.size) (hb : Below w.heap.size w W) (h : ClsAt W (some ⟨o, 0, none⟩) 2 [(⟨some ⟨i1, 0, none⟩, 2, 2⟩, [1, 2]), (⟨some ⟨i2, 0, none⟩, 1, 1⟩, [-1])]) : Calls Tryz.prog 31 #[.int .i64 2, .slice (some ⟨o, 0, none⟩) 2 2] W.drew fun e w5 => ∃ A5 c5 Q5, e = .returned (.agg #[.int .i64 2, .slice A5 2 c5]) ∧ ClsAt w5 A5 2 Q5 ∧ clsOf Q5 = awF2.cls ∧ Below w.heap.size w w5 := by
  refine (ofC 2 _ 2 2 _ W.drew (Lib.hid (h.below (Below.refl _ _).drew)) (by omega)).mono ?_
  rintro e w5 ⟨A5, c5, Q5, rfl, hc5, hq5, hb5⟩
  exact ⟨A5, c5, Q5, rfl, hc5, hq5, bthen hb.drew hb5⟩
theorem of_a (w : World) : Calls Tryz.prog 31 #[.int .i64 2, .slice (some ⟨w.heap.size + 1 + 1, 0, none⟩) 2 2] (((w.alloc (.cells #[.int .i64 1, .int .i64 2] 3)).alloc (.cells #[.int .i64 (-1)] 3)).alloc (.cells #[.slice (some ⟨w.heap.size, 0, none⟩) 2 2, .slice (some ⟨w.heap.size + 1, 0, none⟩) 1 1] 61)).drew fun e w5 => ∃ A5 c5 Q5, e = .returned (.agg #[.int .i64 2, .slice A5 2 c5]) ∧ ClsAt w5 A5 2 Q5 ∧ clsOf Q5 = awF2.cls ∧ Below w.heap.size w w5 :=
  of_two (by simp only [World.size_alloc]; omega) (balloc (balloc (balloc (Below.refl _ _) _) _) _) (two_a w)
theorem of_b (w : World) : Calls Tryz.prog 31 #[.int .i64 2, .slice (some ⟨w.heap.size + 1 + 1, 0, none⟩) 2 2] (((w.alloc (.cells #[.int .i64 (-1)] 3)).alloc (.cells #[.int .i64 1, .int .i64 2] 3)).alloc (.cells #[.slice (some ⟨w.heap.size + 1, 0, none⟩) 2 2, .slice (some ⟨w.heap.size, 0, none⟩) 1 1] 61)).drew fun e w5 => ∃ A5 c5 Q5, e = .returned (.agg #[.int .i64 2, .slice A5 2 c5]) ∧ ClsAt w5 A5 2 Q5 ∧ clsOf Q5 = awF2.cls ∧ Below w.heap.size w w5 :=
  of_two (by simp only [World.size_alloc]; omega) (balloc (balloc (balloc (Below.refl _ _) _) _) _) (two_b w)
theorem same_aw (A2 A5 : Option Addr) (c2 c5 : Nat) (Q2 Q5 : List (SV × List Int)) (W : World) (H1 : Hid (ClsAt W A2 2 Q2)) (H2 : Hid (ClsAt W A5 2 Q5)) (h1 : Hid (clsOf Q2 = awF2.cls)) (h2 : Hid (clsOf Q5 = awF2.cls)) : Calls Tryz.prog 19 #[.agg #[.int .i64 awF2.vars, .slice A2 2 c2], .agg #[.int .i64 2, .slice A5 2 c5]] W fun e w' => e = .returned (.bool true) ∧ Below W.heap.size W w' := by
  refine (sameF awF2.vars 2 A2 A5 Q2 Q5 2 2 c2 c5 W H1 H2).mono ?_
  rintro e w' ⟨rfl, hb⟩
  rw [h1.out, h2.out]
  exact ⟨by rw [decide_eq_true (show (⟨awF2.vars, awF2.cls⟩ : Fm) = ⟨2, awF2.cls⟩ from rfl)], hb⟩
def awSC : Array Value := #[.string ⟨#[112, 32, 99, 110, 102, 32, 49, 32, 49, 10, 50, 32, 48]⟩, .string ⟨#[112, 32, 99, 110, 102, 32, 49, 32, 49, 10, 49, 32, 48, 32, 49, 32, 48]⟩, .string ⟨#[112, 32, 99, 110, 102, 32, 49, 32, 49, 10, 49]⟩, .string ⟨#[112, 32, 99, 110, 102, 32, 49, 32, 49, 10, 49, 32, 120, 32, 48]⟩, .string ⟨#[112, 32, 99, 110, 102, 32, 48, 49, 32, 49]⟩, .string ⟨#[]⟩]
def awPC : Array Value := #[.int .i64 2, .int .i64 2, .int .i64 3, .int .i64 2, .int .i64 1, .int .i64 2]
def awEC : Array Value := #[.int .i64 62, .int .i64 63, .int .i64 63, .int .i64 61, .int .i64 60, .int .i64 60]
def awS : List ByteArray := [⟨#[112, 32, 99, 110, 102, 32, 49, 32, 49, 10, 50, 32, 48]⟩, ⟨#[112, 32, 99, 110, 102, 32, 49, 32, 49, 10, 49, 32, 48, 32, 49, 32, 48]⟩, ⟨#[112, 32, 99, 110, 102, 32, 49, 32, 49, 10, 49]⟩, ⟨#[112, 32, 99, 110, 102, 32, 49, 32, 49, 10, 49, 32, 120, 32, 48]⟩, ⟨#[112, 32, 99, 110, 102, 32, 48, 49, 32, 49]⟩, ⟨#[]⟩]
theorem aw_at (k : Nat) (hk : k < 6) : ∃ (s : ByteArray) (p e : Int), awS[k]? = some s ∧ awSC[k]? = some (.string s) ∧ awPC[k]? = some (.int .i64 p) ∧ awEC[k]? = some (.int .i64 e) ∧ readD s.data.toList = (F0, p, e) ∧ s.size ≤ 100 := by
  obtain rfl | rfl | rfl | rfl | rfl | rfl : k = 0 ∨ k = 1 ∨ k = 2 ∨ k = 3 ∨ k = 4 ∨ k = 5 := by omega
  all_goals
    refine ⟨_, _, _, rfl, rfl, rfl, rfl, ?_⟩
    exact aw_no (_, _, _) (by simp [awN6])
theorem bk_at {w : World} {g : Nat} {t : TypeId} {cs : Array Value} {k : Nat} {v : Value} (h : Bk w g t cs) (hk : cs[k]? = some v) : w.cell? ⟨g, k, none⟩ = some v := by rw [h.cell, hk]
set_option maxRecDepth 100000 in
set_option maxHeartbeats 4000000 in
theorem awake6 (w : World) (hv : Hid (Vars w)) : Calls Tryz.prog 13 #[] w fun e w' => e = .returned (.bool true) ∧ Below w.heap.size w w' := by
  have HC0 := Lib.hid (aw_cls w)
  have HB0 : Hid (Below w.heap.size w (((w.alloc (.cells #[.int .i64 1, .int .i64 (-2)] 3)).alloc (.cells #[.int .i64 3] 3)).alloc (.cells #[.slice (some ⟨w.heap.size, 0, none⟩) 2 2, .slice none 0 0, .slice (some ⟨w.heap.size + 1, 0, none⟩) 1 1] 61))) := balloc (balloc (balloc (Below.refl _ _) _) _) _
  go_enter Tryz.func13, Tryz.ntmps13
  go_wp2_with fail
  generalize (((w.alloc (.cells #[.int .i64 1, .int .i64 (-2)] 3)).alloc (.cells #[.int .i64 3] 3)).alloc (.cells #[.slice (some ⟨w.heap.size, 0, none⟩) 2 2, .slice none 0 0, .slice (some ⟨w.heap.size + 1, 0, none⟩) 1 1] 61)) = W0 at *
  refine (ofC 3 _ 3 3 _ W0 HC0 (by omega)).mono ?_
  rintro e w1 ⟨A1, c1, Q1, rfl, hc1, hq1, hb⟩
  have HC1 := Lib.hid hc1
  have HQ1 : Hid (clsOf Q1 = awF1.cls) := hq1
  have HB1 := Lib.hid (bthen HB0.out hb)
  clear hb hc1 hq1
  go_wp2_with fail
  refine (writeD6 3 A1 3 c1 Q1 w1 HC1 (Lib.hid (hv.out.below HB1.out))).mono ?_
  rintro e w2 ⟨rfl, hb⟩
  rw [show (⟨3, clsOf Q1⟩ : Fm) = awF1 by rw [HQ1.out]; rfl, aw_write]
  have HB2 := Lib.hid (bthen HB1.out hb)
  clear hb HB1 HC1 HQ1 HB0 HC0
  dsimp only
  go_wp2_with fail
  refine (readD6 _ w2 (Lib.hid (hv.out.below HB2.out)) (by decide) (awF2, 0, 0) (Lib.hid aw_read)).mono ?_
  rintro e w3 ⟨A2, n2, c2, Q2, rfl, hc2, hq2, hb⟩
  have hn2 : n2 = 2 := by rw [← hc2.len, ← clsOf_len, hq2]; rfl
  subst hn2
  have HC2 := Lib.hid hc2
  have HQ2 : Hid (clsOf Q2 = awF2.cls) := hq2
  have HB3 := Lib.hid (bthen HB2.out hb)
  clear hb HB2 hc2 hq2
  dsimp only
  have HX := Lib.hid (Bk.new w3 24 #[.int .i64 awF2.vars, .slice A2 2 c2])
  have HBx : Hid (Below w3.heap.size w3 (w3.alloc (.cells #[.int .i64 awF2.vars, .slice A2 2 c2] 24))) := balloc (Below.refl _ _) _
  have hs1 : ((str awT1).toList != [112, 32, 99, 110, 102, 32, 51, 32, 51, 10, 49, 32, 45, 50, 32, 48, 10, 48, 10, 51, 32, 48, 10]) = false := by rw [toList_data, str_data]; rfl
  have hs2 : ((str awT1).toList == [112, 32, 99, 110, 102, 32, 51, 32, 51, 10, 49, 32, 45, 50, 32, 48, 10, 48, 10, 51, 32, 48, 10]) = true := by rw [toList_data, str_data]; rfl
  go_upto_region 3 with fail
  generalize (w3.alloc (.cells #[.int .i64 awF2.vars, .slice A2 2 c2] 24)) = W3 at *
  obtain ⟨p, hp⟩ : ∃ p, w3.heap.size = p := ⟨_, rfl⟩
  rw [hp] at HX ⊢
  have HB4 := Lib.hid (bthen HB3.out HBx.out)
  have HC4 := Lib.hid (HC2.out.below HBx.out)
  clear hp HB3 HC2 HBx
  obtain ⟨y0, y1⟩ := cells2 HX.out
  have hpl := HX.out.lt
  have hw0 : IntKind.i64.wrap ((0 : Int) + 0) = 0 := rfl
  go_cut [44] (fun v44 wx => v44 = .bool false ∧ Hid (Below W3.heap.size W3 wx))
  case first =>
    have HBX := HX
    go_region_held3 (fun w' => w'.cell? ⟨p, 0, none⟩ = some (.int .i64 awF2.vars) ∧ w'.cell? ⟨p, 1, none⟩ = some (.slice A2 2 c2))
      (first | exact ⟨HBX.out.cell 0, HBX.out.cell 1⟩ | exact ⟨(HBX.out.alloc _).cell 0, (HBX.out.alloc _).cell 1⟩ | exact ⟨((HBX.out.alloc _).alloc _).cell 0, ((HBX.out.alloc _).alloc _).cell 1⟩ | exact ⟨(((HBX.out.alloc _).alloc _).alloc _).cell 0, (((HBX.out.alloc _).alloc _).alloc _).cell 1⟩)
      (first
        | (go_at_call 31
           first | with_reducible refine (of_a W3).mono ?_ | with_reducible refine (of_b W3).mono ?_
           rintro e w5 ⟨A5, c5, Q5, rfl, hc5, hq5, hb5⟩
           have HC5 := Lib.hid hc5
           have HQ5 := Lib.hid hq5
           have HB5 := Lib.hid hb5
           have HBX' := Lib.hid (HBX.out.below hb5 hpl)
           clear HBX
           have HBX := HBX'
           clear HBX' hc5 hq5 hb5)
        | (go_at_call 19
           refine (same_aw A2 A5 c2 c5 Q2 Q5 _ (Lib.hid (HC4.out.below HB5.out)) HC5 HQ2 HQ5).mono ?_
           rintro e w7 ⟨rfl, hb7⟩
           have HB7 : Hid (Below W3.heap.size W3 w7) := bthen HB5.out hb7
           have HBX' := Lib.hid (HBX.out.below hb7 HBX.out.lt)
           clear HBX
           have HBX := HBX'
           clear HBX' hb7))
    all_goals
      go_wp2
      go_meet
      exact ⟨rfl, HB7.out⟩
  case rest =>
  obtain ⟨rfl, HB5⟩ := hcut
  generalize wc = w5 at *
  have HB6 := Lib.hid (bthen HB4.out HB5.out)
  clear HB4 HB5 HX HC4 y0 y1 hpl hs1 hs2 HQ2
  go_upto_region 5 with fail
  have HS := Lib.hid (Bk.new w5 9 awSC)
  have HB7 : Hid (Below w.heap.size w (w5.alloc (.cells awSC 9))) := balloc HB6.out _
  obtain ⟨q, hq⟩ : ∃ q, w5.heap.size = q := ⟨_, rfl⟩
  rw [hq] at HS
  generalize hW7 : w5.alloc (.cells awSC 9) = w7 at *
  have hW7' : w5.alloc (.cells #[.string ⟨#[112, 32, 99, 110, 102, 32, 49, 32, 49, 10, 50, 32, 48]⟩, .string ⟨#[112, 32, 99, 110, 102, 32, 49, 32, 49, 10, 49, 32, 48, 32, 49, 32, 48]⟩, .string ⟨#[112, 32, 99, 110, 102, 32, 49, 32, 49, 10, 49]⟩, .string ⟨#[112, 32, 99, 110, 102, 32, 49, 32, 49, 10, 49, 32, 120, 32, 48]⟩, .string ⟨#[112, 32, 99, 110, 102, 32, 48, 49, 32, 49]⟩, .string ⟨#[]⟩] 9) = w7 := hW7
  go_upto_region 6 with fail
  first | rw [hW7'] | skip
  first | rw [hq] | skip
  clear hW7 hW7' HB6 hq
  go_loopw [47] (fun v47 wr => ∃ (k : Nat), k ≤ 6 ∧ v47 = .int .i64 k ∧ Hid (Below w.heap.size w wr) ∧ Hid (Bk wr q 9 awSC)) (fun v47 _ => 6 - (intOf v47).toNat)
  case atStart => exact ⟨0, Nat.zero_le _, rfl, HB7, HS⟩
  case round =>
    obtain ⟨k, hk, rfl, HBr, HSr⟩ := hrel
    clear HB7 HS
    by_cases hlt : k < 6
    · have e1 : decide ((k : Int) < (6 : Int)) = true := by simp; omega
      have hki : (k : Int) < (6 : Int) := by omega
      obtain ⟨s, p, e, -, a1, a2, a3, a4, a5⟩ := aw_at k hlt
      have y0 := bk_at HSr.out a1
      have R4 := Lib.hid a4
      have ha5 : s.size ≤ 20000000 := by omega
      have A2 := Lib.hid a2
      have A3 := Lib.hid a3
      clear a1 a2 a3 a4 a5
      go_upto_region 8 with fail
      go_wp2_with fail
      refine (readD6 s wr (Lib.hid (hv.out.below HBr.out)) ha5 (F0, p, e) R4).mono ?_
      rintro e' w8 ⟨A8, n8, c8, Q8, rfl, hc8, hq8, hb8⟩
      have HB8 := Lib.hid (bthen HBr.out hb8)
      have HS8 := Lib.hid (bkbel HSr.out hb8)
      clear hc8 hq8 hb8 HBr HSr y0
      dsimp only
      go_upto_region 9 with fail
      have HB9 : Hid (Below w.heap.size w (w8.alloc (.cells #[.int .i64 F0.vars, .slice A8 n8 c8] 24))) := balloc HB8.out _
      have HS9 := Lib.hid (HS8.out.alloc (.cells #[.int .i64 F0.vars, .slice A8 n8 c8] 24))
      generalize (w8.alloc (.cells #[.int .i64 F0.vars, .slice A8 n8 c8] 24)) = w9 at *
      have u1 : (w9.alloc (.cells #[.int .i64 2, .int .i64 2, .int .i64 3, .int .i64 2, .int .i64 1, .int .i64 2] 3)).cell? ⟨w9.heap.size, k, none⟩ = some (.int .i64 p) := bk_at (Bk.new w9 3 awPC) A2.out
      have u2 : ((w9.alloc (.cells #[.int .i64 2, .int .i64 2, .int .i64 3, .int .i64 2, .int .i64 1, .int .i64 2] 3)).alloc (.cells #[.int .i64 62, .int .i64 63, .int .i64 63, .int .i64 61, .int .i64 60, .int .i64 60] 31)).cell? ⟨w9.heap.size + 1, k, none⟩ = some (.int .i64 e) := bk_at (Bk.newAt6 (w9.alloc (.cells awPC 3)) 31 awEC _ (by simp)) A3.out
      have HB10 : Hid (Below w.heap.size w ((w9.alloc (.cells #[.int .i64 2, .int .i64 2, .int .i64 3, .int .i64 2, .int .i64 1, .int .i64 2] 3)).alloc (.cells #[.int .i64 62, .int .i64 63, .int .i64 63, .int .i64 61, .int .i64 60, .int .i64 60] 31))) := balloc (balloc HB9.out _) _
      have HS10 : Hid (Bk ((w9.alloc (.cells #[.int .i64 2, .int .i64 2, .int .i64 3, .int .i64 2, .int .i64 1, .int .i64 2] 3)).alloc (.cells #[.int .i64 62, .int .i64 63, .int .i64 63, .int .i64 61, .int .i64 60, .int .i64 60] 31)) q 9 awSC) := (HS9.out.alloc _).alloc _
      clear A2 A3 HB8 HS8 HB9 HS9 R4
      go_upto_region 10 with fail
      exact ⟨⟨k + 1, by omega, rfl, HB10, HS10⟩, by simp [intOf]; omega⟩
    · obtain rfl : k = 6 := by omega
      go_wp2
      go_ret
      exact ⟨rfl, HBr.out⟩
end Go.Proofs.YtkpcpclaadgnbaaGreatDoor
