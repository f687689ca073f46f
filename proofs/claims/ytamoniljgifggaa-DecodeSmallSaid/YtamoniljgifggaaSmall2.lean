/-
  The walk of salvorlaw42.DecodeSmall (written by gen/small_dev.py).
-/
import Derived.Test.YtamoniljgifggaaSmA
set_option linter.unusedVariables false
set_option linter.unusedSimpArgs false
namespace Go.Proofs.Ytamoniljgifggaa
open Go.RowKit

set_option maxHeartbeats 40000000 in
set_option maxRecDepth 100000 in
theorem smallC (w : World) : Calls Try.prog 5 #[] w fun e w' => e = .returned (.bool true) ∧ Below w.heap.size w w' := by
  go_enter Try.func5, Try.ntmps5
  go_wp2_with fail
  go_loopw [24] (fun v24 wr => ∃ (k : Nat), k ≤ 64 ∧ v24 = .int .i64 k ∧ Hid (Below w.heap.size w wr)) (fun v24 _ => 64 - (intOf v24).toNat)
  case atStart => exact ⟨0, by omega, rfl, Below.refl _ _⟩
  case round =>
    obtain ⟨k, hk, rfl, HB⟩ := hrel
    obtain ⟨W1, hW1⟩ : ∃ W, W = wr := ⟨_, rfl⟩
    subst hW1
    by_cases hlt : k < 64
    · have hd64 : decide ((k : Int) < 64) = true := decide_eq_true (by omega)
      go_wp2_with fail
      go_loopw [2, 27] (fun v2 v27 wr2 => ∃ (j : Nat) (l : List Bool) (A' : Option Addr) (c' : Nat), j ≤ 6 ∧ v27 = .int .i64 j ∧ v2 = .slice A' j c' ∧ Hid (l.length = j) ∧ Hid (wr2.ownsRow W1.heap.size 4 1 (.slice A' j c') j (l.map Value.bool)) ∧ Hid (Below W1.heap.size W1 wr2)) (fun _ v27 _ => 6 - (intOf v27).toNat)
      case atStart => exact ⟨0, [], none, 0, by omega, rfl, rfl, rfl, World.ownsRow_nil _ _ _ _, Below.refl _ _⟩
      case round =>
        obtain ⟨j, l, A', c', hj, rfl, rfl, HL, Ho, Hb⟩ := hrel
        have hsz : W1.heap.size ≤ wr.heap.size := Hb.out.size
        by_cases hjl : j < 6
        · go_wp2_with (at_builtin; refine wpList_app el_bool rfl (.tmp 30) (.tmp 36) rfl W1.heap.size (.slice A' j c') j _ rfl (Ho.out.alloc _) (some ⟨wr.heap.size, 0, none⟩) 1 1 [.bool _] rfl (Rd.new _ #[_] _) rfl (by simp [Value.oneCell']) (by omega) (by simp; omega) ?_; intro A2 c2 w1 ho1 hg1 hat1; have Ho1 := Lib.hid ho1; have Hg1 := Lib.hid hg1; clear ho1 hg1 hat1)
          go_roundw
          case rel => exact ⟨j + 1, l ++ [_], A2, c2, by omega, by go_num, rfl, by show _ = _; rw [List.length_append, HL.out]; rfl, by show World.ownsRow _ _ _ _ _ _ _; rw [List.map_append]; exact Ho1.out, own_step Hb.out Ho.out _ Hg1.out⟩
          case measure => simp [intOf]; omega
        · obtain rfl : j = 6 := by omega
          go_wp2_with fail
          refine (exampleC wr).mono ?_
          rintro e W2 ⟨b, hb, rfl, hex, hbe⟩
          have HEX := Lib.hid hex
          have HB2 := Lib.hid (bthen (bthen HB.out Hb.out) hbe)
          obtain ⟨ib, rfl⟩ : ∃ ib, A' = some ⟨ib, 0, none⟩ := by
            rcases Ho.out.2 with ⟨h0, h1⟩ | ⟨g', cap, cur, h0, _⟩
            · omega
            · injection h0 with h0
              exact ⟨g', h0⟩
          have hcap : 6 ≤ c' := own_cap Ho.out
          have HO2 := Lib.hid (own_fr (F := fun _ => False) Ho.out (Fr.of_below hbe) (fun _ _ h => h))
          have HBK := Lib.hid (Bk.new W2 27 #[.int .u8 6, .slice (some ⟨b, 0, none⟩) 1 1, .slice (some ⟨b + 2, 0, none⟩) 1 1, .slice (some ⟨b + 3, 0, none⟩) 2 2, .slice (some ⟨b + 4, 0, none⟩) 2 2, .slice (some ⟨b + 5, 0, none⟩) 2 2, .slice (some ⟨b + 6, 0, none⟩) 1 1, .int .i64 1, .int .i64 14, .int .i64 3])
          have HB3 := Lib.hid (balloc HB2.out (.cells #[.int .u8 6, .slice (some ⟨b, 0, none⟩) 1 1, .slice (some ⟨b + 2, 0, none⟩) 1 1, .slice (some ⟨b + 3, 0, none⟩) 2 2, .slice (some ⟨b + 4, 0, none⟩) 2 2, .slice (some ⟨b + 5, 0, none⟩) 2 2, .slice (some ⟨b + 6, 0, none⟩) 1 1, .int .i64 1, .int .i64 14, .int .i64 3] 27))
          have HE3 := Lib.hid (hex.g.below (balloc (Below.refl _ _) (.cells #[.int .u8 6, .slice (some ⟨b, 0, none⟩) 1 1, .slice (some ⟨b + 2, 0, none⟩) 1 1, .slice (some ⟨b + 3, 0, none⟩) 2 2, .slice (some ⟨b + 4, 0, none⟩) 2 2, .slice (some ⟨b + 5, 0, none⟩) 2 2, .slice (some ⟨b + 6, 0, none⟩) 1 1, .int .i64 1, .int .i64 14, .int .i64 3] 27)))
          have HO3 := Lib.hid (HO2.out.alloc (.cells #[.int .u8 6, .slice (some ⟨b, 0, none⟩) 1 1, .slice (some ⟨b + 2, 0, none⟩) 1 1, .slice (some ⟨b + 3, 0, none⟩) 2 2, .slice (some ⟨b + 4, 0, none⟩) 2 2, .slice (some ⟨b + 5, 0, none⟩) 2 2, .slice (some ⟨b + 6, 0, none⟩) 1 1, .int .i64 1, .int .i64 14, .int .i64 3] 27))
          have hp4 : b + 6 < W2.heap.size := hex.k6.lt
          have hib : ib < b := by have := (Ho.out.lt ib rfl).2; omega
          have hW1 : W1.heap.size ≤ ib := (Ho.out.lt ib rfl).1
          clear hex hbe HEX HB2 HO2 Ho Hb
          go_upto_if 42 with fail
          have hsz3 : W2.heap.size < (W2.alloc (.cells #[.int .u8 6, .slice (some ⟨b, 0, none⟩) 1 1, .slice (some ⟨b + 2, 0, none⟩) 1 1, .slice (some ⟨b + 3, 0, none⟩) 2 2, .slice (some ⟨b + 4, 0, none⟩) 2 2, .slice (some ⟨b + 5, 0, none⟩) 2 2, .slice (some ⟨b + 6, 0, none⟩) 1 1, .int .i64 1, .int .i64 14, .int .i64 3] 27)).heap.size := by simp
          generalize (W2.alloc (.cells #[.int .u8 6, .slice (some ⟨b, 0, none⟩) 1 1, .slice (some ⟨b + 2, 0, none⟩) 1 1, .slice (some ⟨b + 3, 0, none⟩) 2 2, .slice (some ⟨b + 4, 0, none⟩) 2 2, .slice (some ⟨b + 5, 0, none⟩) 2 2, .slice (some ⟨b + 6, 0, none⟩) 1 1, .int .i64 1, .int .i64 14, .int .i64 3] 27)) = W3 at *
          generalize W2.heap.size = p4 at *
          go_cut [2] (fun v2 wx => ∃ (m c2 jb : Nat) (l2 : List Bool) (v : RawV) (x : RawP), 6 ≤ m ∧ m ≤ 8 ∧ m ≤ c2 ∧ v2 = .slice (some ⟨jb, 0, none⟩) m c2 ∧ Hid (l2.length = m) ∧ Hid (Rd wx (some ⟨jb, 0, none⟩) (l2.map Value.bool)) ∧ Hid (Bk wx p4 27 (rawCells v x)) ∧ Hid (RawAt wx v x) ∧ Hid (Below w.heap.size w wx))
          case first =>
            rename_i J1 K1 hR1 hM1
            revert hR1 hM1
            repeat (rename ∀ (a' : Act) (w' : World), _ → _ => hZ; clear hZ)
            intro hR1 hM1
            by_cases h3 : k % 3 = 1
            · have hd3 : (((k : Int) % 3) == 1) = true := by simp; omega
              have hwp4 : w.heap.size ≤ p4 := by have := HB.out.size; omega
              obtain ⟨⟨q0, q1, q2, q3, q4, q5, q6, q7, q8, q9⟩, ⟨f0, f1, f2, f3, f4, f5, f6, f7, f8, f9⟩⟩ := cells10 HBK.out
              go_upto_region 12 with fail
              go_cut [] (fun wx => ∃ o, p4 < o ∧ Hid (Bk wx p4 27 #[.int .u8 6, .slice (some ⟨b, 0, none⟩) 1 1, .slice (some ⟨b + 2, 0, none⟩) 1 1, .slice (some ⟨o, 0, none⟩) 3 3, .slice (some ⟨b + 4, 0, none⟩) 2 2, .slice (some ⟨b + 5, 0, none⟩) 2 2, .slice (some ⟨b + 6, 0, none⟩) 1 1, .int .i64 1, .int .i64 14, .int .i64 3]) ∧ Hid (Bk wx o 37 #[.int .u8 3, .int .i64 3, .int .i64 6, .int .i64 0, .int .u8 5, .int .i64 1, .int .i64 8, .int .i64 (-1), .int .u8 3, .int .i64 2, .int .i64 12, .int .i64 1]) ∧ Hid (ExG wx b ⟨3, 1, 6, 0⟩ ⟨3, 1, 8, 1⟩ 10 12 7 14) ∧ Hid (wx.ownsRow W1.heap.size 4 1 (.slice (some ⟨ib, 0, none⟩) 6 c') 6 (l.map Value.bool)) ∧ Hid (Below w.heap.size w wx))
              case first =>
                rename_i J1 K1 hR1 hM1
                revert hR1 hM1
                repeat (rename ∀ (a' : Act) (w' : World), _ → _ => hZ; clear hZ)
                intro hR1 hM1
                go_wp2_with fail
                go_meet
                refine ⟨W3.heap.size, hsz3, ?_, ?_, ?_, ?_, ?_⟩
                · have h1 := HBK.out.put 3 (.slice (some ⟨W3.heap.size, 0, none⟩) 3 3)
                  simp only [List.setIfInBounds_toArray, List.set_cons_succ, List.set_cons_zero] at h1
                  exact h1.alloc _
                · exact Bk.newAt _ _ _ _ (by simp [World.setCell])
                · exact (HE3.out.far (p := ⟨p4, 3, none⟩) (by show p4 < b ∨ b + 6 < p4; omega) _).below (balloc (Below.refl _ _) _)
                · exact (ownsRow_setCell_other HO3.out (a := ⟨p4, 3, none⟩) (by simp [Value.ownBlock]; omega) _).alloc _
                · exact balloc (HB3.out.setCell (p := ⟨p4, 3, none⟩) hwp4 _) _
              case rest =>
                obtain ⟨o, hpo, HBK2, HOP, HE4, HO4, HB4⟩ := hcut
                clear HBK HE3 HO3 HB3 q0 q1 q2 q3 q4 q5 q6 q7 q8 q9 f0 f1 f2 f3 f4 f5 f6 f7 f8 f9
                obtain ⟨⟨q0, q1, q2, q3, q4, q5, q6, q7, q8, q9⟩, ⟨f0, f1, f2, f3, f4, f5, f6, f7, f8, f9⟩⟩ := cells10 HBK2.out
                have hpl : p4 < wc.heap.size := HBK2.out.lt
                have hol : o < wc.heap.size := HOP.out.lt
                generalize wc = W4 at *
                go_upto_region 13 with fail
                go_cut [] (fun wx => ∃ o4 o5, Hid (Bk wx p4 27 #[.int .u8 8, .slice none 0 0, .slice (some ⟨b + 2, 0, none⟩) 1 1, .slice (some ⟨o, 0, none⟩) 3 3, .slice (some ⟨o4, 0, none⟩) 2 2, .slice (some ⟨o5, 0, none⟩) 2 2, .slice (some ⟨b + 6, 0, none⟩) 1 1, .int .i64 1, .int .i64 14, .int .i64 3]) ∧ Hid (Bk wx o 37 #[.int .u8 3, .int .i64 3, .int .i64 6, .int .i64 0, .int .u8 5, .int .i64 1, .int .i64 8, .int .i64 (-1), .int .u8 3, .int .i64 2, .int .i64 12, .int .i64 1]) ∧ Hid (Bk wx o4 3 #[.int .i64 10, .int .i64 14]) ∧ Hid (Bk wx o5 3 #[.int .i64 3, .int .i64 2]) ∧ Hid (ExG wx b ⟨3, 1, 6, 0⟩ ⟨3, 1, 8, 1⟩ 10 12 7 14) ∧ Hid (wx.ownsRow W1.heap.size 4 1 (.slice (some ⟨ib, 0, none⟩) 6 c') 6 (l.map Value.bool)) ∧ Hid (Below w.heap.size w wx))
                case first =>
                  rename_i J1 K1 hR1 hM1
                  revert hR1 hM1
                  repeat (rename ∀ (a' : Act) (w' : World), _ → _ => hZ; clear hZ)
                  intro hR1 hM1
                  go_wp2_with fail
                  go_meet
                  refine ⟨W4.heap.size, W4.heap.size + 1, ?_, ?_, ?_, ?_, ?_, ?_, ?_⟩
                  · have h1 := (((HBK2.out.put 0 (.int .u8 8)).put 1 (.slice none 0 0)).put 4 (.slice (some ⟨W4.heap.size, 0, none⟩) 2 2)).put 5 (.slice (some ⟨W4.heap.size + 1, 0, none⟩) 2 2)
                    simp only [List.setIfInBounds_toArray, List.set_cons_succ, List.set_cons_zero] at h1
                    exact (h1.alloc _).alloc _
                  · exact (((((HOP.out.far (p := ⟨p4, 0, none⟩) (by show o ≠ p4; omega) _).far (p := ⟨p4, 1, none⟩) (by show o ≠ p4; omega) _).far (p := ⟨p4, 4, none⟩) (by show o ≠ p4; omega) _).far (p := ⟨p4, 5, none⟩) (by show o ≠ p4; omega) _).alloc _).alloc _
                  · exact (Bk.newAt _ _ _ _ (by simp [World.setCell])).alloc _
                  · exact Bk.newAt _ _ _ _ (by simp [World.setCell])
                  · have hp : p4 < b ∨ b + 6 < p4 := by omega
                    exact ((((HE4.out.far (p := ⟨p4, 0, none⟩) hp _).far (p := ⟨p4, 1, none⟩) hp _).far (p := ⟨p4, 4, none⟩) hp _).far (p := ⟨p4, 5, none⟩) hp _).below (balloc (balloc (Below.refl _ _) _) _)
                  · have hp : ∀ i, (Value.slice (some ⟨ib, 0, none⟩) 6 c').ownBlock ≠ some (⟨p4, i, none⟩ : Addr).block := by intro i; simp [Value.ownBlock]; omega
                    exact ((ownsRow_setCell_other (ownsRow_setCell_other (ownsRow_setCell_other (ownsRow_setCell_other HO4.out (a := ⟨p4, 0, none⟩) (hp 0) _) (a := ⟨p4, 1, none⟩) (hp 1) _) (a := ⟨p4, 4, none⟩) (hp 4) _) (a := ⟨p4, 5, none⟩) (hp 5) _).alloc _).alloc _
                  · exact balloc (balloc ((((HB4.out.setCell (p := ⟨p4, 0, none⟩) hwp4 _).setCell (p := ⟨p4, 1, none⟩) hwp4 _).setCell (p := ⟨p4, 4, none⟩) hwp4 _).setCell (p := ⟨p4, 5, none⟩) hwp4 _) _) _
                case rest =>
                  obtain ⟨o4, o5, HBK3, HOP3, HK4, HK5, HE5, HO5, HB5⟩ := hcut
                  clear HBK2 HE4 HO4 HB4 HOP hpl hol q0 q1 q2 q3 q4 q5 q6 q7 q8 q9 f0 f1 f2 f3 f4 f5 f6 f7 f8 f9
                  have hws : W1.heap.size ≤ wc.heap.size := by have := (HO5.out.lt ib rfl).2; omega
                  go_wp2_with (at_builtin; refine wpList_app el_bool rfl (.tmp 54) (.tmp 61) rfl W1.heap.size (.slice (some ⟨ib, 0, none⟩) 6 c') 6 _ rfl (HO5.out.alloc _) (some ⟨wc.heap.size, 0, none⟩) 2 2 [.bool _, .bool _] rfl (Rd.new _ #[_, _] _) rfl (by simp [Value.oneCell']) (by omega) (by simp; omega) ?_; intro A2 c2 w1 ho1 hg1 hat1; have Ho1 := Lib.hid ho1; have Hg1 := Lib.hid hg1; clear ho1 hg1 hat1)
                  go_meet
                  obtain ⟨jb, rfl⟩ : ∃ ib, A2 = some ⟨ib, 0, none⟩ := by
                    rcases Ho1.out.2 with ⟨h0, h1⟩ | ⟨g', cap, cur, h0, _⟩
                    · omega
                    · injection h0 with h0
                      exact ⟨g', h0⟩
                  have hfar : ∀ (g : Nat) (t : TypeId) (cs : Array Value), t ≠ 4 → Bk wc g t cs → Bk w1 g t cs := fun g t cs hne hb => (hb.alloc _).grown Hg1.out (own_ne HO5.out hb (fun e => hne e.symm))
                  have HEn : ExG w1 b ⟨3, 1, 6, 0⟩ ⟨3, 1, 8, 1⟩ 10 12 7 14 := ⟨hfar _ _ _ (by decide) HE5.out.e0, hfar _ _ _ (by decide) HE5.out.e1, hfar _ _ _ (by decide) HE5.out.e2, hfar _ _ _ (by decide) HE5.out.e3, hfar _ _ _ (by decide) HE5.out.e4, hfar _ _ _ (by decide) HE5.out.e5, hfar _ _ _ (by decide) HE5.out.e6⟩
                  have hraw := HEn.raw ok1 ok2 (i64_small _ (by decide) (by decide)) (i64_small _ (by decide) (by decide)) (i64_small _ (by decide) (by decide)) (i64_small _ (by decide) (by decide))
                  obtain ⟨l2, hr2, hl2⟩ : ∃ l2 : List Bool, Rd w1 (some ⟨jb, 0, none⟩) (l2.map Value.bool) ∧ l2.length = 8 := ⟨l ++ [_, _], by rw [List.map_append]; exact Rd.of_own Ho1.out, by rw [List.length_append, HL.out]; rfl⟩
                  refine ⟨8, c2, jb, l2, ⟨⟨none, 0, 0⟩, (exV b).W, (exV b).S, ⟨some ⟨o, 0, none⟩, 3, 3⟩, ⟨some ⟨o4, 0, none⟩, 2, 2⟩, ⟨some ⟨o5, 0, none⟩, 2, 2⟩, (exV b).R⟩, ⟨8, [], [[2, 4]], [⟨3, 3, 6, 0⟩, ⟨5, 1, 8, -1⟩, ⟨3, 2, 12, 1⟩], [10, 14], [3, 2], [13], 1, 14, 3⟩, by omega, by omega, own_cap Ho1.out, rfl, ?_, ?_, ?_, ?_, ?_⟩
                  · exact hl2
                  · exact hr2
                  · exact hfar _ _ _ (by decide) HBK3.out
                  · refine ⟨by show 8 ≤ 255; omega, Rd.nil, rfl, fun p hp => (by cases hp), hraw.words, Rd.of_bk (hfar _ _ _ (by decide) HOP3.out) rfl, rfl, ?_, ints2 (hfar _ _ _ (by decide) HK4.out) (i64_small _ (by decide) (by decide)) (i64_small _ (by decide) (by decide)), ints2 (hfar _ _ _ (by decide) HK5.out) (i64_small _ (by decide) (by decide)) (i64_small _ (by decide) (by decide)), hraw.rules, hraw.nums, by simp [exV]⟩
                    intro oo ho
                    simp only [List.mem_cons, List.not_mem_nil, or_false] at ho
                    rcases ho with rfl | rfl | rfl
                    · exact ⟨i64_small _ (by decide) (by decide), i64_small _ (by decide) (by decide), i64_small _ (by decide) (by decide), by decide, by decide⟩
                    · exact ⟨i64_small _ (by decide) (by decide), i64_small _ (by decide) (by decide), i64_small _ (by decide) (by decide), by decide, by decide⟩
                    · exact ⟨i64_small _ (by decide) (by decide), i64_small _ (by decide) (by decide), i64_small _ (by decide) (by decide), by decide, by decide⟩
                  · exact (balloc HB5.out _).grown Hg1.out (by have := HB5.out.size; simp; omega) (fun q hq => by have := (HO5.out.lt q hq).1; have := HB.out.size; omega)
            · have hd3 : (((k : Int) % 3) == 1) = false := by simp; omega
              go_wp2_with fail
              go_meet
              exact ⟨6, c', ib, l, exV b, exX ⟨3, 1, 6, 0⟩ ⟨3, 1, 8, 1⟩ 10 12 7 14, by omega, by omega, hcap, rfl, HL, Lib.hid (Rd.of_own HO3.out), HBK, Lib.hid (HE3.out.raw ok1 ok2 (i64_small _ (by decide) (by decide)) (i64_small _ (by decide) (by decide)) (i64_small _ (by decide) (by decide)) (i64_small _ (by decide) (by decide))), HB3⟩
          case rest =>
            obtain ⟨m, c2, jb, l2, v, x, hm6, hm8, hmc, rfl, HL2, HR2, HX2, HRW, HBc⟩ := hcut
            clear HBK HE3 HO3 HB3
            obtain ⟨⟨AA, nA, cA⟩, ⟨AW, nW, cW⟩, S, ⟨AO, nO, cO⟩, ⟨AK, nK, cK⟩, ⟨AC, nC, cC⟩, ⟨AR, nR, cR⟩⟩ := v
            obtain ⟨inp0, ands, words, ops, keep, cached, rules, req, bey, hol⟩ := x
            unfold rawCells at HX2
            dsimp only at HX2
            generalize wc = W5 at *
            obtain ⟨q0, q1, q2, q3, q4, q5, q6, q7, q8, q9⟩ := (cells10 HX2.out).1
            have hp4l : p4 < W5.heap.size := HX2.out.lt
            have HBe : Hid (Below W5.heap.size W5 W5) := Below.refl _ _
            have HXX := HX2
            have HR1 : Hid (∀ W, Below W5.heap.size W5 W → Calls Try.prog 7 #[.agg #[.int .u8 inp0, .slice AA nA cA, .slice AW nW cW, .slice AO nO cO, .slice AK nK cK, .slice AC nC cC, .slice AR nR cR, .int .i64 req, .int .i64 bey, .int .i64 hol], .slice (some ⟨jb, 0, none⟩) m c2] W fun e w' => e = .returned (.bool true) ∧ Below W.heap.size W w') := fun W hW => reads ⟨⟨AA, nA, cA⟩, ⟨AW, nW, cW⟩, S, ⟨AO, nO, cO⟩, ⟨AK, nK, cK⟩, ⟨AC, nC, cC⟩, ⟨AR, nR, cR⟩⟩ ⟨inp0, ands, words, ops, keep, cached, rules, req, bey, hol⟩ (some ⟨jb, 0, none⟩) m c2 l2 W (Lib.hid (HRW.out.below hW)) (Lib.hid (HR2.out.below hW)) HL2 (by omega)
            have HR3 : Hid (∀ W A' n' c', A' = some ⟨jb, 1, none⟩ → n' + 1 = m → Below W5.heap.size W5 W → Calls Try.prog 7 #[.agg #[.int .u8 inp0, .slice AA nA cA, .slice AW nW cW, .slice AO nO cO, .slice AK nK cK, .slice AC nC cC, .slice AR nR cR, .int .i64 req, .int .i64 bey, .int .i64 hol], .slice A' n' c'] W fun e w' => e = .returned (.bool true) ∧ Below W.heap.size W w') := fun W A' n' c' hA' hn' hW => hA' ▸ reads ⟨⟨AA, nA, cA⟩, ⟨AW, nW, cW⟩, S, ⟨AO, nO, cO⟩, ⟨AK, nK, cK⟩, ⟨AC, nC, cC⟩, ⟨AR, nR, cR⟩⟩ ⟨inp0, ands, words, ops, keep, cached, rules, req, bey, hol⟩ (some ⟨jb, 1, none⟩) n' c' l2.tail W (Lib.hid (HRW.out.below hW)) (Lib.hid ((HR2.out.below hW).tail1)) (by show _ = _; rw [List.length_tail, HL2.out]; omega) (by omega)
            have HA : Hid (∀ W Aw Ai wd pt n4 n7 n76, 0 ≤ wd ∧ wd ≤ 1000 → I64 pt → n4 ≤ m → n7 ≤ 6 → n76 ≤ m → Below W5.heap.size W5 W → Rd W Aw [.int .u32 wd] → Rd W Ai [.int .i64 1, .int .i64 2, .int .i64 3, .int .i64 4, .int .i64 5, .int .i64 6] → Calls Try.prog 9 #[.agg #[.int .u8 inp0, .slice AA nA cA, .slice AW nW cW, .slice AO nO cO, .slice AK nK cK, .slice AC nC cC, .slice AR nR cR, .int .i64 req, .int .i64 bey, .int .i64 hol], .slice Aw 1 1, .int .i64 pt, .slice (some ⟨jb, 0, none⟩) n4 c2, .slice Ai n7 6, .slice (some ⟨jb, 0, none⟩) n76 c2] W fun e w' => e = .returned (.bool true) ∧ Below W.heap.size W w') := fun W Aw Ai wd pt n4 n7 n76 hwd hpt h4 h7 h76 hW hw hi =>
              assigns ⟨⟨AA, nA, cA⟩, ⟨AW, nW, cW⟩, S, ⟨AO, nO, cO⟩, ⟨AK, nK, cK⟩, ⟨AC, nC, cC⟩, ⟨AR, nR, cR⟩⟩ ⟨inp0, ands, words, ops, keep, cached, rules, req, bey, hol⟩ Aw 1 1 [wd] pt (some ⟨jb, 0, none⟩) n4 c2 (l2.take n4) Ai n7 6 (([1, 2, 3, 4, 5, 6] : List Int).take n7) (some ⟨jb, 0, none⟩) n76 c2 (l2.take n76) W (Lib.hid (HRW.out.below hW)) (Lib.hid hw) (Lib.hid rfl) (Lib.hid (u32_one wd hwd.1 hwd.2)) (by omega) hpt (Lib.hid ((HR2.out.below hW).takeB _)) (by show _ = _; rw [List.length_take, HL2.out]; omega) (by omega) (Lib.hid (by rw [List.map_take]; exact Rd.take hi _)) (by show _ = _; simp; omega) (by omega) (Lib.hid ((HR2.out.below hW).takeB _)) (by show _ = _; rw [List.length_take, HL2.out]; omega) (by omega)
            obtain ⟨r7, n7, g7⟩ : ∃ r : Nat, k % 7 = r ∧ r ≤ 6 := ⟨k % 7, rfl, by omega⟩
            obtain ⟨r76, n76, g76⟩ : ∃ r : Nat, r7 % 6 = r ∧ r ≤ 5 := ⟨r7 % 6, rfl, by omega⟩
            have e7 : (k : Int).tmod 7 = (r7 : Int) := by rw [Int.tmod_eq_emod_of_nonneg (by omega)]; omega
            have e76 : (r7 : Int).tmod 6 = (r76 : Int) := by rw [Int.tmod_eq_emod_of_nonneg (by omega)]; omega
            have d7 : (k : Int) % 7 = (r7 : Int) := by omega
            have d76 : (r7 : Int) % 6 = (r76 : Int) := by omega
            obtain ⟨q5, n5, g5⟩ : ∃ r : Nat, k / 5 = r ∧ r ≤ 12 := ⟨k / 5, rfl, by omega⟩
            obtain ⟨r55, n55, g55⟩ : ∃ r : Nat, q5 % 5 = r ∧ r ≤ 4 := ⟨q5 % 5, rfl, by omega⟩
            have w5 : IntKind.i64.wrap ((k : Int) / 5) = (q5 : Int) := by rw [IntKind.wrap_i64]; omega
            have d5 : (k : Int) / 5 = (q5 : Int) := by omega
            have w5' : IntKind.i64.wrap (q5 : Int) = (q5 : Int) := by rw [IntKind.wrap_i64]; omega
            have t55 : (q5 : Int).tmod 5 = (r55 : Int) := by rw [Int.tmod_eq_emod_of_nonneg (by omega)]; omega
            have d55 : (q5 : Int) % 5 = (r55 : Int) := by omega
            have w6 : IntKind.i64.wrap ((r55 : Int) - 1) = (r55 : Int) - 1 := by rw [IntKind.wrap_i64]; omega
            obtain ⟨r5, m5, h5⟩ : ∃ r : Nat, k % 5 = r ∧ r ≤ 4 := ⟨k % 5, rfl, by omega⟩
            have t5 : (k : Int).tmod 5 = (r5 : Int) := by rw [Int.tmod_eq_emod_of_nonneg (by omega)]; omega
            have dd5 : (k : Int) % 5 = (r5 : Int) := by omega
            have w32 : IntKind.u32.wrap (r5 : Int) = (r5 : Int) := by rw [IntKind.wrap_u32]; omega
            have i7 : (r7 : Int) ≤ 6 := by omega
            have z7 : (0 : Int) ≤ (r7 : Int) := by omega
            have i76 : (r76 : Int) ≤ (c2 : Int) := by omega
            have z76 : (0 : Int) ≤ (r76 : Int) := by omega
            have R7 := fun w => slL28 jb m c2 (by omega) (by omega) w
            go_upto_region 16 with fail
            go_cut [100] (fun v100 wx => v100 = .bool false ∧ Hid (Below W5.heap.size W5 wx))
            case first =>
              rename_i J1 K1 hR1 hM1
              revert hR1 hM1
              repeat (rename ∀ (a' : Act) (w' : World), _ → _ => hZ; clear hZ)
              intro hR1 hM1
              go_region_held3 (fun w' => w'.cell? ⟨p4, 0, none⟩ = some (.int .u8 inp0) ∧ w'.cell? ⟨p4, 1, none⟩ = some (.slice AA nA cA) ∧ w'.cell? ⟨p4, 2, none⟩ = some (.slice AW nW cW) ∧ w'.cell? ⟨p4, 3, none⟩ = some (.slice AO nO cO) ∧ w'.cell? ⟨p4, 4, none⟩ = some (.slice AK nK cK) ∧ w'.cell? ⟨p4, 5, none⟩ = some (.slice AC nC cC) ∧ w'.cell? ⟨p4, 6, none⟩ = some (.slice AR nR cR) ∧ w'.cell? ⟨p4, 7, none⟩ = some (.int .i64 req) ∧ w'.cell? ⟨p4, 8, none⟩ = some (.int .i64 bey) ∧ w'.cell? ⟨p4, 9, none⟩ = some (.int .i64 hol))
                ((refine (cells10 (t := 27) (v0 := .int .u8 inp0) (v1 := .slice AA nA cA) (v2 := .slice AW nW cW) (v3 := .slice AO nO cO) (v4 := .slice AK nK cK) (v5 := .slice AC nC cC) (v6 := .slice AR nR cR) (v7 := .int .i64 req) (v8 := .int .i64 bey) (v9 := .int .i64 hol) ?_).1 <;> (repeat (first | with_reducible exact HXX.out | with_reducible refine Bk.drew ?_ | with_reducible refine Bk.alloc ?_ _))))
                (first
                  | (
                    go_at_call 7
                    first
                      | with_reducible refine (HR1.out _ ?_).mono ?_
                      | with_reducible refine (HR3.out _ _ _ _ (by first | rfl | (rw [if_neg (by omega)])) (by omega) ?_).mono ?_
                    · (first | with_reducible exact HBe.out | with_reducible exact HBe.out.drew)
                    rintro e wI ⟨rfl, hbI⟩
                    (first | with_reducible have HBn := Lib.hid (bthen HBe.out hbI) | with_reducible have HBn := Lib.hid (bthen HBe.out.drew hbI))
                    (first | with_reducible have HXn := Lib.hid (bkbel HXX.out hbI) | with_reducible have HXn := Lib.hid (bkbel HXX.out.drew hbI))
                    clear HBe HXX hbI
                    have HBe := HBn
                    have HXX := HXn
                    clear HBn HXn)
                  | (
                    go_at_call 9
                    with_reducible refine (HA.out _ _ _ (r5 : Int) _ _ _ _ ⟨by omega, by omega⟩ (i64_small _ (by omega) (by omega)) (by omega) (by omega) (by omega) ?_ ?_ ?_).mono ?_
                    · (first | with_reducible exact balloc (balloc HBe.out _) _ | with_reducible exact balloc (balloc HBe.out.drew _) _)
                    · (first | exact Rd.newAt _ #[_] _ _ (by first | rfl | simp) | exact Rd.alloc (Rd.newAt _ #[_] _ _ (by first | rfl | simp)) _)
                    · (first | exact Rd.newAt _ #[_, _, _, _, _, _] _ _ (by first | rfl | simp) | exact Rd.alloc (Rd.newAt _ #[_, _, _, _, _, _] _ _ (by first | rfl | simp)) _)
                    rintro e wE ⟨rfl, hbE⟩
                    (first | with_reducible have HBn := Lib.hid (bthen (balloc (balloc HBe.out _) _) hbE) | with_reducible have HBn := Lib.hid (bthen (balloc (balloc HBe.out.drew _) _) hbE))
                    (first | with_reducible have HXn := Lib.hid (bkbel ((HXX.out.alloc _).alloc _) hbE) | with_reducible have HXn := Lib.hid (bkbel ((HXX.out.drew.alloc _).alloc _) hbE))
                    clear HBe HXX hbE
                    have HBe := HBn
                    have HXX := HXn
                    clear HBn HXn))
              all_goals
                go_wp2_with fail
                go_meet
                exact ⟨rfl, HBe⟩
            case rest =>
              obtain ⟨rfl, HBe2⟩ := hcut
              clear HBe
              have HBe := HBe2
              clear HBe2
              go_wp2_with fail
              go_roundw
              case rel => exact ⟨k + 1, by omega, by go_num, Lib.hid (bthen HBc.out HBe.out)⟩
              case measure => simp [intOf]; omega
    · obtain rfl : k = 64 := by omega
      have hd64 : decide (((64 : Nat) : Int) < 64) = false := rfl
      have HCN := Lib.hid (Bk.new W1 3 #[.int .i64 (-9223372036854775808), .int .i64 (-1), .int .i64 0, .int .i64 1, .int .i64 3, .int .i64 14, .int .i64 15, .int .i64 16, .int .i64 9223372036854775807])
      have HBV := Lib.hid (balloc HB.out (.cells #[.int .i64 (-9223372036854775808), .int .i64 (-1), .int .i64 0, .int .i64 1, .int .i64 3, .int .i64 14, .int .i64 15, .int .i64 16, .int .i64 9223372036854775807] 3))
      go_wp2_with fail
      have hszV : W1.heap.size < (W1.alloc (.cells #[.int .i64 (-9223372036854775808), .int .i64 (-1), .int .i64 0, .int .i64 1, .int .i64 3, .int .i64 14, .int .i64 15, .int .i64 16, .int .i64 9223372036854775807] 3)).heap.size := by simp
      generalize (W1.alloc (.cells #[.int .i64 (-9223372036854775808), .int .i64 (-1), .int .i64 0, .int .i64 1, .int .i64 3, .int .i64 14, .int .i64 15, .int .i64 16, .int .i64 9223372036854775807] 3)) = V at *
      generalize W1.heap.size = p102 at *
      clear HB
      go_loopw [104] (fun v104 wr => ∃ (i : Nat), i ≤ 9 ∧ v104 = .int .i64 i ∧ Hid (Below V.heap.size V wr)) (fun v104 _ => 9 - (intOf v104).toNat)
      case atStart => exact ⟨0, by omega, rfl, Below.refl _ _⟩
      case round =>
        obtain ⟨i, hi, rfl, HBi⟩ := hrel
        obtain ⟨W6, hW6⟩ : ∃ W, W = wr := ⟨_, rfl⟩
        subst hW6
        by_cases hil : i < 9
        · have hd9 : decide ((i : Int) < 9) = true := decide_eq_true (by omega)
          obtain ⟨n, hn, hn64⟩ := nine_at i hil
          have cn : W6.cell? ⟨p102, i, none⟩ = some (.int .i64 n) := ((bkbel HCN.out HBi.out).cell i).trans hn
          have HN64 := Lib.hid hn64
          clear hn hn64
          go_wp2_with fail
          clear cn
          go_loopw [108] (fun v108 wr2 => ∃ (j : Nat), j ≤ 14 ∧ v108 = .int .i64 j ∧ Hid (Below V.heap.size V wr2)) (fun v108 _ => 14 - (intOf v108).toNat)
          case atStart => exact ⟨0, by omega, rfl, HBi⟩
          case round =>
            obtain ⟨j, hj, rfl, HBj⟩ := hrel
            by_cases hjl : j < 14
            · have hd14 : decide ((j : Int) < 14) = true := decide_eq_true (by omega)
              go_wp2_with fail
              refine (exampleC wr).mono ?_
              rintro e W7 ⟨b, hb, rfl, hex, hbe⟩
              have HB7 := Lib.hid (bthen HBj.out hbe)
              have HBK := Lib.hid (Bk.new W7 27 #[.int .u8 6, .slice (some ⟨b, 0, none⟩) 1 1, .slice (some ⟨b + 2, 0, none⟩) 1 1, .slice (some ⟨b + 3, 0, none⟩) 2 2, .slice (some ⟨b + 4, 0, none⟩) 2 2, .slice (some ⟨b + 5, 0, none⟩) 2 2, .slice (some ⟨b + 6, 0, none⟩) 1 1, .int .i64 1, .int .i64 14, .int .i64 3])
              have HB3 := Lib.hid (balloc HB7.out (.cells #[.int .u8 6, .slice (some ⟨b, 0, none⟩) 1 1, .slice (some ⟨b + 2, 0, none⟩) 1 1, .slice (some ⟨b + 3, 0, none⟩) 2 2, .slice (some ⟨b + 4, 0, none⟩) 2 2, .slice (some ⟨b + 5, 0, none⟩) 2 2, .slice (some ⟨b + 6, 0, none⟩) 1 1, .int .i64 1, .int .i64 14, .int .i64 3] 27))
              have HE3 := Lib.hid (hex.g.below (balloc (Below.refl _ _) (.cells #[.int .u8 6, .slice (some ⟨b, 0, none⟩) 1 1, .slice (some ⟨b + 2, 0, none⟩) 1 1, .slice (some ⟨b + 3, 0, none⟩) 2 2, .slice (some ⟨b + 4, 0, none⟩) 2 2, .slice (some ⟨b + 5, 0, none⟩) 2 2, .slice (some ⟨b + 6, 0, none⟩) 1 1, .int .i64 1, .int .i64 14, .int .i64 3] 27)))
              have hp9 : b + 6 < W7.heap.size := hex.k6.lt
              have hVb : V.heap.size ≤ b := by have := HBj.out.size; omega
              clear hex hbe HB7
              go_upto_block 8 with fail
              have hszW : W7.heap.size < (W7.alloc (.cells #[.int .u8 6, .slice (some ⟨b, 0, none⟩) 1 1, .slice (some ⟨b + 2, 0, none⟩) 1 1, .slice (some ⟨b + 3, 0, none⟩) 2 2, .slice (some ⟨b + 4, 0, none⟩) 2 2, .slice (some ⟨b + 5, 0, none⟩) 2 2, .slice (some ⟨b + 6, 0, none⟩) 1 1, .int .i64 1, .int .i64 14, .int .i64 3] 27)).heap.size := by simp
              generalize (W7.alloc (.cells #[.int .u8 6, .slice (some ⟨b, 0, none⟩) 1 1, .slice (some ⟨b + 2, 0, none⟩) 1 1, .slice (some ⟨b + 3, 0, none⟩) 2 2, .slice (some ⟨b + 4, 0, none⟩) 2 2, .slice (some ⟨b + 5, 0, none⟩) 2 2, .slice (some ⟨b + 6, 0, none⟩) 1 1, .int .i64 1, .int .i64 14, .int .i64 3] 27)) = W8 at *
              generalize W7.heap.size = p9 at *
              have hp9' : p9 < b ∨ b + 6 < p9 := by omega
              have hVp9 : V.heap.size ≤ p9 := by omega
              go_cut [] (fun wx => ∃ (v : RawV) (x : RawP), Hid (Bk wx p9 27 (rawCells v x)) ∧ Hid (RawAt wx v x) ∧ Hid (Below V.heap.size V wx))
              case first =>
                obtain ⟨⟨q0, q1, q2, q3, q4, q5, q6, q7, q8, q9⟩, ⟨f0, f1, f2, f3, f4, f5, f6, f7, f8, f9⟩⟩ := cells10 HBK.out
                have a0 := HE3.out.e3.cell 0
                have a1 := HE3.out.e3.cell 1
                have a6 := HE3.out.e3.cell 6
                have a7 := HE3.out.e3.cell 7
                have b0 := HE3.out.e3.frozen 0
                have b1 := HE3.out.e3.frozen 1
                have b6 := HE3.out.e3.frozen 6
                have b7 := HE3.out.e3.frozen 7
                have c0 := HE3.out.e4.cell 0
                have c1 := HE3.out.e4.frozen 0
                have d0 := HE3.out.e5.cell 1
                have d1 := HE3.out.e5.frozen 1
                have hbl : b + 6 < W8.heap.size := by omega
                rcases (by omega : j = 0 ∨ j = 1 ∨ j = 2 ∨ j = 3 ∨ j = 4 ∨ j = 5 ∨ j = 6 ∨ j = 7 ∨ j = 8 ∨ j = 9 ∨ j = 10 ∨ j = 11 ∨ j = 12 ∨ j = 13) with rfl | rfl | rfl | rfl | rfl | rfl | rfl | rfl | rfl | rfl | rfl | rfl | rfl | rfl
                · as_aux_lemma =>
                  go_wp2_with fail
                  go_meet
                  refine ⟨{ exV b with W := ⟨some ⟨W8.heap.size + 1, 0, none⟩, 1, 1⟩, S := [⟨some ⟨W8.heap.size, 0, none⟩, 2, 2⟩] }, { exX ⟨3, 1, 6, 0⟩ ⟨3, 1, 8, 1⟩ 10 12 7 14 with words := [[2, n]] }, ?_, ?_, ?_⟩
                  · have h1 := HBK.out.put 2 (.slice (some ⟨W8.heap.size + 1, 0, none⟩) 1 1)
                    simp only [List.setIfInBounds_toArray, List.set_cons_succ, List.set_cons_zero] at h1
                    exact (h1.alloc _).alloc _
                  · exact RawAt.words' (((HE3.out.far (p := ⟨p9, 2, none⟩) hp9' _).below (balloc (balloc (Below.refl _ _) _) _)).raw ok1 ok2 (i64_small _ (by decide) (by decide)) (i64_small _ (by decide) (by decide)) (i64_small _ (by decide) (by decide)) (i64_small _ (by decide) (by decide))) _ _ _ (lists1 ((Bk.newAt _ _ _ _ (by simp [World.setCell])).alloc _) (Bk.newAt _ _ _ _ (by simp [World.setCell])) (i64_small _ (by decide) (by decide)) HN64.out) (by show 1 ≤ 20; omega)
                  · exact balloc (balloc (HB3.out.setCell (p := ⟨p9, 2, none⟩) hVp9 _) _) _
                · as_aux_lemma =>
                  go_wp2_with fail
                  go_meet
                  have hE : ExG (W8.setCell ⟨b + 3, 1, none⟩ (.int .i64 n)) b ⟨3, n, 6, 0⟩ ⟨3, 1, 8, 1⟩ 10 12 7 14 := by
                    refine ⟨HE3.out.e0.far (by show b ≠ b + 3; omega) _, HE3.out.e1.far (by show b + 1 ≠ b + 3; omega) _, HE3.out.e2.far (by show b + 2 ≠ b + 3; omega) _, ?_, HE3.out.e4.far (by show b + 4 ≠ b + 3; omega) _, HE3.out.e5.far (by show b + 5 ≠ b + 3; omega) _, HE3.out.e6.far (by show b + 6 ≠ b + 3; omega) _⟩
                    have h1 := HE3.out.e3.put 1 (.int .i64 n)
                    simp only [List.setIfInBounds_toArray, List.set_cons_succ, List.set_cons_zero] at h1
                    exact h1
                  refine ⟨exV b, exX ⟨3, n, 6, 0⟩ ⟨3, 1, 8, 1⟩ 10 12 7 14, ?_, ?_, ?_⟩
                  · exact HBK.out.far (by show p9 ≠ b + 3; omega) _
                  · exact hE.raw (opOk 3 n 6 0 HN64.out (i64_small _ (by decide) (by decide)) (i64_small _ (by decide) (by decide)) (by decide) (by decide)) ok2 (i64_small _ (by decide) (by decide)) (i64_small _ (by decide) (by decide)) (i64_small _ (by decide) (by decide)) (i64_small _ (by decide) (by decide))
                  · exact HB3.out.setCell (p := ⟨b + 3, 1, none⟩) (by show V.heap.size ≤ b + 3; omega) _
                · as_aux_lemma =>
                  go_wp2_with fail
                  go_meet
                  have hE : ExG (W8.setCell ⟨b + 3, 6, none⟩ (.int .i64 n)) b ⟨3, 1, 6, 0⟩ ⟨3, 1, n, 1⟩ 10 12 7 14 := by
                    refine ⟨HE3.out.e0.far (by show b ≠ b + 3; omega) _, HE3.out.e1.far (by show b + 1 ≠ b + 3; omega) _, HE3.out.e2.far (by show b + 2 ≠ b + 3; omega) _, ?_, HE3.out.e4.far (by show b + 4 ≠ b + 3; omega) _, HE3.out.e5.far (by show b + 5 ≠ b + 3; omega) _, HE3.out.e6.far (by show b + 6 ≠ b + 3; omega) _⟩
                    have h1 := HE3.out.e3.put 6 (.int .i64 n)
                    simp only [List.setIfInBounds_toArray, List.set_cons_succ, List.set_cons_zero] at h1
                    exact h1
                  refine ⟨exV b, exX ⟨3, 1, 6, 0⟩ ⟨3, 1, n, 1⟩ 10 12 7 14, ?_, ?_, ?_⟩
                  · exact HBK.out.far (by show p9 ≠ b + 3; omega) _
                  · exact hE.raw ok1 (opOk 3 1 n 1 (i64_small _ (by decide) (by decide)) HN64.out (i64_small _ (by decide) (by decide)) (by decide) (by decide)) (i64_small _ (by decide) (by decide)) (i64_small _ (by decide) (by decide)) (i64_small _ (by decide) (by decide)) (i64_small _ (by decide) (by decide))
                  · exact HB3.out.setCell (p := ⟨b + 3, 6, none⟩) (by show V.heap.size ≤ b + 3; omega) _
                · as_aux_lemma =>
                  go_wp2_with fail
                  go_meet
                  have hE : ExG (W8.setCell ⟨b + 3, 7, none⟩ (.int .i64 n)) b ⟨3, 1, 6, 0⟩ ⟨3, 1, 8, n⟩ 10 12 7 14 := by
                    refine ⟨HE3.out.e0.far (by show b ≠ b + 3; omega) _, HE3.out.e1.far (by show b + 1 ≠ b + 3; omega) _, HE3.out.e2.far (by show b + 2 ≠ b + 3; omega) _, ?_, HE3.out.e4.far (by show b + 4 ≠ b + 3; omega) _, HE3.out.e5.far (by show b + 5 ≠ b + 3; omega) _, HE3.out.e6.far (by show b + 6 ≠ b + 3; omega) _⟩
                    have h1 := HE3.out.e3.put 7 (.int .i64 n)
                    simp only [List.setIfInBounds_toArray, List.set_cons_succ, List.set_cons_zero] at h1
                    exact h1
                  refine ⟨exV b, exX ⟨3, 1, 6, 0⟩ ⟨3, 1, 8, n⟩ 10 12 7 14, ?_, ?_, ?_⟩
                  · exact HBK.out.far (by show p9 ≠ b + 3; omega) _
                  · exact hE.raw ok1 (opOk 3 1 8 n (i64_small _ (by decide) (by decide)) (i64_small _ (by decide) (by decide)) HN64.out (by decide) (by decide)) (i64_small _ (by decide) (by decide)) (i64_small _ (by decide) (by decide)) (i64_small _ (by decide) (by decide)) (i64_small _ (by decide) (by decide))
                  · exact HB3.out.setCell (p := ⟨b + 3, 7, none⟩) (by show V.heap.size ≤ b + 3; omega) _
                · as_aux_lemma =>
                  go_wp2_with fail
                  go_meet
                  have hE : ExG (W8.setCell ⟨b + 3, 0, none⟩ (.int .u8 (IntKind.u8.wrap n))) b ⟨IntKind.u8.wrap n, 1, 6, 0⟩ ⟨3, 1, 8, 1⟩ 10 12 7 14 := by
                    refine ⟨HE3.out.e0.far (by show b ≠ b + 3; omega) _, HE3.out.e1.far (by show b + 1 ≠ b + 3; omega) _, HE3.out.e2.far (by show b + 2 ≠ b + 3; omega) _, ?_, HE3.out.e4.far (by show b + 4 ≠ b + 3; omega) _, HE3.out.e5.far (by show b + 5 ≠ b + 3; omega) _, HE3.out.e6.far (by show b + 6 ≠ b + 3; omega) _⟩
                    have h1 := HE3.out.e3.put 0 (.int .u8 (IntKind.u8.wrap n))
                    simp only [List.setIfInBounds_toArray, List.set_cons_succ, List.set_cons_zero] at h1
                    exact h1
                  refine ⟨exV b, exX ⟨IntKind.u8.wrap n, 1, 6, 0⟩ ⟨3, 1, 8, 1⟩ 10 12 7 14, ?_, ?_, ?_⟩
                  · exact HBK.out.far (by show p9 ≠ b + 3; omega) _
                  · exact hE.raw (opOk (IntKind.u8.wrap n) 1 6 0 (i64_small _ (by decide) (by decide)) (i64_small _ (by decide) (by decide)) (i64_small _ (by decide) (by decide)) (u8_lo n) (u8_hi n)) ok2 (i64_small _ (by decide) (by decide)) (i64_small _ (by decide) (by decide)) (i64_small _ (by decide) (by decide)) (i64_small _ (by decide) (by decide))
                  · exact HB3.out.setCell (p := ⟨b + 3, 0, none⟩) (by show V.heap.size ≤ b + 3; omega) _
                · as_aux_lemma =>
                  go_wp2_with fail
                  go_meet
                  have hE : ExG (W8.setCell ⟨b + 4, 0, none⟩ (.int .i64 n)) b ⟨3, 1, 6, 0⟩ ⟨3, 1, 8, 1⟩ n 12 7 14 := by
                    refine ⟨HE3.out.e0.far (by show b ≠ b + 4; omega) _, HE3.out.e1.far (by show b + 1 ≠ b + 4; omega) _, HE3.out.e2.far (by show b + 2 ≠ b + 4; omega) _, HE3.out.e3.far (by show b + 3 ≠ b + 4; omega) _, ?_, HE3.out.e5.far (by show b + 5 ≠ b + 4; omega) _, HE3.out.e6.far (by show b + 6 ≠ b + 4; omega) _⟩
                    have h1 := HE3.out.e4.put 0 (.int .i64 n)
                    simp only [List.setIfInBounds_toArray, List.set_cons_succ, List.set_cons_zero] at h1
                    exact h1
                  refine ⟨exV b, exX ⟨3, 1, 6, 0⟩ ⟨3, 1, 8, 1⟩ n 12 7 14, ?_, ?_, ?_⟩
                  · exact HBK.out.far (by show p9 ≠ b + 4; omega) _
                  · exact hE.raw ok1 ok2 HN64.out (i64_small _ (by decide) (by decide)) (i64_small _ (by decide) (by decide)) (i64_small _ (by decide) (by decide))
                  · exact HB3.out.setCell (p := ⟨b + 4, 0, none⟩) (by show V.heap.size ≤ b + 4; omega) _
                · as_aux_lemma =>
                  go_wp2_with fail
                  go_meet
                  have hE : ExG (W8.setCell ⟨b + 5, 1, none⟩ (.int .i64 n)) b ⟨3, 1, 6, 0⟩ ⟨3, 1, 8, 1⟩ 10 12 7 n := by
                    refine ⟨HE3.out.e0.far (by show b ≠ b + 5; omega) _, HE3.out.e1.far (by show b + 1 ≠ b + 5; omega) _, HE3.out.e2.far (by show b + 2 ≠ b + 5; omega) _, HE3.out.e3.far (by show b + 3 ≠ b + 5; omega) _, HE3.out.e4.far (by show b + 4 ≠ b + 5; omega) _, ?_, HE3.out.e6.far (by show b + 6 ≠ b + 5; omega) _⟩
                    have h1 := HE3.out.e5.put 1 (.int .i64 n)
                    simp only [List.setIfInBounds_toArray, List.set_cons_succ, List.set_cons_zero] at h1
                    exact h1
                  refine ⟨exV b, exX ⟨3, 1, 6, 0⟩ ⟨3, 1, 8, 1⟩ 10 12 7 n, ?_, ?_, ?_⟩
                  · exact HBK.out.far (by show p9 ≠ b + 5; omega) _
                  · exact hE.raw ok1 ok2 (i64_small _ (by decide) (by decide)) (i64_small _ (by decide) (by decide)) (i64_small _ (by decide) (by decide)) HN64.out
                  · exact HB3.out.setCell (p := ⟨b + 5, 1, none⟩) (by show V.heap.size ≤ b + 5; omega) _
                · as_aux_lemma =>
                  go_wp2_with fail
                  go_meet
                  refine ⟨{ exV b with R := ⟨some ⟨W8.heap.size, 0, none⟩, 2, 2⟩ }, { exX ⟨3, 1, 6, 0⟩ ⟨3, 1, 8, 1⟩ 10 12 7 14 with rules := [1, n] }, ?_, ?_, ?_⟩
                  · have h1 := HBK.out.put 6 (.slice (some ⟨W8.heap.size, 0, none⟩) 2 2)
                    simp only [List.setIfInBounds_toArray, List.set_cons_succ, List.set_cons_zero] at h1
                    exact h1.alloc _
                  · exact RawAt.rules' (((HE3.out.far (p := ⟨p9, 6, none⟩) hp9' _).below (balloc (Below.refl _ _) _)).raw ok1 ok2 (i64_small _ (by decide) (by decide)) (i64_small _ (by decide) (by decide)) (i64_small _ (by decide) (by decide)) (i64_small _ (by decide) (by decide))) _ _ (ints2 (Bk.newAt _ _ _ _ (by simp [World.setCell])) (i64_small _ (by decide) (by decide)) HN64.out) (by show 2 ≤ 20; omega)
                  · exact balloc (HB3.out.setCell (p := ⟨p9, 6, none⟩) hVp9 _) _
                · as_aux_lemma =>
                  go_wp2_with fail
                  go_meet
                  refine ⟨exV b, { exX ⟨3, 1, 6, 0⟩ ⟨3, 1, 8, 1⟩ 10 12 7 14 with req := n, bey := 14, hol := 3 }, ?_, ?_, ?_⟩
                  · have h1 := HBK.out.put 7 (.int .i64 n)
                    simp only [List.setIfInBounds_toArray, List.set_cons_succ, List.set_cons_zero] at h1
                    exact h1
                  · exact RawAt.nums' ((HE3.out.far (p := ⟨p9, 7, none⟩) hp9' _).raw ok1 ok2 (i64_small _ (by decide) (by decide)) (i64_small _ (by decide) (by decide)) (i64_small _ (by decide) (by decide)) (i64_small _ (by decide) (by decide))) _ _ _ ⟨HN64.out, (i64_small _ (by decide) (by decide)), (i64_small _ (by decide) (by decide))⟩
                  · exact HB3.out.setCell (p := ⟨p9, 7, none⟩) hVp9 _
                · as_aux_lemma =>
                  go_wp2_with fail
                  go_meet
                  refine ⟨exV b, { exX ⟨3, 1, 6, 0⟩ ⟨3, 1, 8, 1⟩ 10 12 7 14 with req := 1, bey := n, hol := 3 }, ?_, ?_, ?_⟩
                  · have h1 := HBK.out.put 8 (.int .i64 n)
                    simp only [List.setIfInBounds_toArray, List.set_cons_succ, List.set_cons_zero] at h1
                    exact h1
                  · exact RawAt.nums' ((HE3.out.far (p := ⟨p9, 8, none⟩) hp9' _).raw ok1 ok2 (i64_small _ (by decide) (by decide)) (i64_small _ (by decide) (by decide)) (i64_small _ (by decide) (by decide)) (i64_small _ (by decide) (by decide))) _ _ _ ⟨(i64_small _ (by decide) (by decide)), HN64.out, (i64_small _ (by decide) (by decide))⟩
                  · exact HB3.out.setCell (p := ⟨p9, 8, none⟩) hVp9 _
                · as_aux_lemma =>
                  go_wp2_with fail
                  go_meet
                  refine ⟨exV b, { exX ⟨3, 1, 6, 0⟩ ⟨3, 1, 8, 1⟩ 10 12 7 14 with req := 1, bey := 14, hol := n }, ?_, ?_, ?_⟩
                  · have h1 := HBK.out.put 9 (.int .i64 n)
                    simp only [List.setIfInBounds_toArray, List.set_cons_succ, List.set_cons_zero] at h1
                    exact h1
                  · exact RawAt.nums' ((HE3.out.far (p := ⟨p9, 9, none⟩) hp9' _).raw ok1 ok2 (i64_small _ (by decide) (by decide)) (i64_small _ (by decide) (by decide)) (i64_small _ (by decide) (by decide)) (i64_small _ (by decide) (by decide))) _ _ _ ⟨(i64_small _ (by decide) (by decide)), (i64_small _ (by decide) (by decide)), HN64.out⟩
                  · exact HB3.out.setCell (p := ⟨p9, 9, none⟩) hVp9 _
                · as_aux_lemma =>
                  go_wp2_with fail
                  go_meet
                  refine ⟨{ exV b with K := ⟨some ⟨b + 4, 0, none⟩, 1, 2⟩ }, { exX ⟨3, 1, 6, 0⟩ ⟨3, 1, 8, 1⟩ 10 12 7 14 with keep := [10] }, ?_, ?_, ?_⟩
                  · have h1 := HBK.out.put 4 (.slice (some ⟨b + 4, 0, none⟩) 1 2)
                    simp only [List.setIfInBounds_toArray, List.set_cons_succ, List.set_cons_zero] at h1
                    exact h1
                  · exact RawAt.keep' ((HE3.out.far (p := ⟨p9, 4, none⟩) hp9' _).raw ok1 ok2 (i64_small _ (by decide) (by decide)) (i64_small _ (by decide) (by decide)) (i64_small _ (by decide) (by decide)) (i64_small _ (by decide) (by decide))) _ _ ⟨Rd.take (Rd.of_bk (xs := [.int .i64 10, .int .i64 12]) (HE3.out.far (p := ⟨p9, 4, none⟩) hp9' _).e4 rfl) 1, rfl, one64 10 (i64_small _ (by decide) (by decide))⟩ (by show 1 ≤ 20; omega)
                  · exact HB3.out.setCell (p := ⟨p9, 4, none⟩) hVp9 _
                · as_aux_lemma =>
                  obtain ⟨a, ha, hand⟩ := and_one n
                  have hmk := make17
                  have hF := (((HBK.out.alloc (.cells #[.int .i64 2, .int .i64 4] 3)).alloc (.cells #[] 3)).alloc (.cells (icells z17) 3)).alloc (.cells #[.slice (some ⟨W8.heap.size, 0, none⟩) 2 2, .slice (some ⟨W8.heap.size + 1, 0, none⟩) 0 0, .slice (some ⟨W8.heap.size + 1 + 1, 0, none⟩) 17 17] 25)
                  have fz := hF.frozen 2
                  have cz := hF.cell 2
                  have HFZ := Lib.hid hF
                  clear hF
                  rcases (by omega : a = 0 ∨ a = 1) with rfl | rfl
                  · go_wp2_with fail
                    go_meet
                    refine ⟨{ exV b with W := ⟨some ⟨W8.heap.size + 3, 0, none⟩, 1, 3⟩, S := [⟨some ⟨W8.heap.size, 0, none⟩, 2, 2⟩] }, { exX ⟨3, 1, 6, 0⟩ ⟨3, 1, 8, 1⟩ 10 12 7 14 with words := [[2, 4]] }, ?_, ?_, ?_⟩
                    · have h1 := HFZ.out.put 2 (.slice (some ⟨W8.heap.size + 3, 0, none⟩) 1 3)
                      simp only [List.setIfInBounds_toArray, List.set_cons_succ, List.set_cons_zero] at h1
                      exact h1
                    · have k0 := (((Bk.newAt W8 3 #[.int .i64 2, .int .i64 4] W8.heap.size rfl).alloc (.cells #[] 3)).alloc (.cells (icells z17) 3)).alloc (.cells #[.slice (some ⟨W8.heap.size, 0, none⟩) 2 2, .slice (some ⟨W8.heap.size + 1, 0, none⟩) 0 0, .slice (some ⟨W8.heap.size + 2, 0, none⟩) 17 17] 25)
                      have k2 := (Bk.newAt ((W8.alloc (.cells #[.int .i64 2, .int .i64 4] 3)).alloc (.cells #[] 3)) 3 (icells z17) (W8.heap.size + 2) (by simp [World.setCell])).alloc (.cells #[.slice (some ⟨W8.heap.size, 0, none⟩) 2 2, .slice (some ⟨W8.heap.size + 1, 0, none⟩) 0 0, .slice (some ⟨W8.heap.size + 2, 0, none⟩) 17 17] 25)
                      have k3 := Bk.newAt (((W8.alloc (.cells #[.int .i64 2, .int .i64 4] 3)).alloc (.cells #[] 3)).alloc (.cells (icells z17) 3)) 25 #[.slice (some ⟨W8.heap.size, 0, none⟩) 2 2, .slice (some ⟨W8.heap.size + 1, 0, none⟩) 0 0, .slice (some ⟨W8.heap.size + 2, 0, none⟩) 17 17] (W8.heap.size + 3) (by simp [World.setCell])
                      exact RawAt.words' (((HE3.out.below (balloc (balloc (balloc (balloc (Below.refl _ _) _) _) _) _)).far (p := ⟨p9, 2, none⟩) hp9' _).raw ok1 ok2 (i64_small _ (by decide) (by decide)) (i64_small _ (by decide) (by decide)) (i64_small _ (by decide) (by decide)) (i64_small _ (by decide) (by decide))) _ _ _ (lists3a (k0.far (by show W8.heap.size ≠ p9; omega) _) (k3.far (by show W8.heap.size + 3 ≠ p9; omega) _)) (by show 1 ≤ 20; omega)
                    · exact (balloc (balloc (balloc (balloc HB3.out _) _) _) _).setCell (p := ⟨p9, 2, none⟩) hVp9 _
                  · go_wp2_with fail
                    go_meet
                    refine ⟨{ exV b with W := ⟨some ⟨W8.heap.size + 3, 0, none⟩, 3, 3⟩, S := [⟨some ⟨W8.heap.size, 0, none⟩, 2, 2⟩, ⟨some ⟨W8.heap.size + 1, 0, none⟩, 0, 0⟩, ⟨some ⟨W8.heap.size + 2, 0, none⟩, 17, 17⟩] }, { exX ⟨3, 1, 6, 0⟩ ⟨3, 1, 8, 1⟩ 10 12 7 14 with words := [[2, 4], [], List.replicate 17 0] }, ?_, ?_, ?_⟩
                    · have h1 := HFZ.out.put 2 (.slice (some ⟨W8.heap.size + 3, 0, none⟩) 3 3)
                      simp only [List.setIfInBounds_toArray, List.set_cons_succ, List.set_cons_zero] at h1
                      exact h1
                    · have k0 := (((Bk.newAt W8 3 #[.int .i64 2, .int .i64 4] W8.heap.size rfl).alloc (.cells #[] 3)).alloc (.cells (icells z17) 3)).alloc (.cells #[.slice (some ⟨W8.heap.size, 0, none⟩) 2 2, .slice (some ⟨W8.heap.size + 1, 0, none⟩) 0 0, .slice (some ⟨W8.heap.size + 2, 0, none⟩) 17 17] 25)
                      have k2 := (Bk.newAt ((W8.alloc (.cells #[.int .i64 2, .int .i64 4] 3)).alloc (.cells #[] 3)) 3 (icells z17) (W8.heap.size + 2) (by simp [World.setCell])).alloc (.cells #[.slice (some ⟨W8.heap.size, 0, none⟩) 2 2, .slice (some ⟨W8.heap.size + 1, 0, none⟩) 0 0, .slice (some ⟨W8.heap.size + 2, 0, none⟩) 17 17] 25)
                      have k3 := Bk.newAt (((W8.alloc (.cells #[.int .i64 2, .int .i64 4] 3)).alloc (.cells #[] 3)).alloc (.cells (icells z17) 3)) 25 #[.slice (some ⟨W8.heap.size, 0, none⟩) 2 2, .slice (some ⟨W8.heap.size + 1, 0, none⟩) 0 0, .slice (some ⟨W8.heap.size + 2, 0, none⟩) 17 17] (W8.heap.size + 3) (by simp [World.setCell])
                      exact RawAt.words' (((HE3.out.below (balloc (balloc (balloc (balloc (Below.refl _ _) _) _) _) _)).far (p := ⟨p9, 2, none⟩) hp9' _).raw ok1 ok2 (i64_small _ (by decide) (by decide)) (i64_small _ (by decide) (by decide)) (i64_small _ (by decide) (by decide)) (i64_small _ (by decide) (by decide))) _ _ _ (lists3b (k0.far (by show W8.heap.size ≠ p9; omega) _) (k2.far (by show W8.heap.size + 2 ≠ p9; omega) _) (k3.far (by show W8.heap.size + 3 ≠ p9; omega) _)) (by show 3 ≤ 20; omega)
                    · exact (balloc (balloc (balloc (balloc HB3.out _) _) _) _).setCell (p := ⟨p9, 2, none⟩) hVp9 _
                · as_aux_lemma =>
                  go_wp2_with fail
                  go_meet
                  refine ⟨{ exV b with W := ⟨some ⟨W8.heap.size + 1, 0, none⟩, 1, 1⟩, S := [⟨some ⟨W8.heap.size, 0, none⟩, 2, 2⟩] }, { exX ⟨3, 1, 6, 0⟩ ⟨3, 1, 8, 1⟩ 10 12 7 14 with words := [[4, 6]] }, ?_, ?_, ?_⟩
                  · have h1 := HBK.out.put 2 (.slice (some ⟨W8.heap.size + 1, 0, none⟩) 1 1)
                    simp only [List.setIfInBounds_toArray, List.set_cons_succ, List.set_cons_zero] at h1
                    exact (h1.alloc _).alloc _
                  · exact RawAt.words' (((HE3.out.far (p := ⟨p9, 2, none⟩) hp9' _).below (balloc (balloc (Below.refl _ _) _) _)).raw ok1 ok2 (i64_small _ (by decide) (by decide)) (i64_small _ (by decide) (by decide)) (i64_small _ (by decide) (by decide)) (i64_small _ (by decide) (by decide))) _ _ _ (lists1 ((Bk.newAt _ _ _ _ (by simp [World.setCell])).alloc _) (Bk.newAt _ _ _ _ (by simp [World.setCell])) (i64_small _ (by decide) (by decide)) (i64_small _ (by decide) (by decide))) (by show 1 ≤ 20; omega)
                  · exact balloc (balloc (HB3.out.setCell (p := ⟨p9, 2, none⟩) hVp9 _) _) _
              case rest =>
                as_aux_lemma =>
                obtain ⟨v, x, HX2, HRW, HBc⟩ := hcut
                clear HBK HE3 HB3 HBj HBi
                obtain ⟨⟨AA, nA, cA⟩, ⟨AW, nW, cW⟩, S, ⟨AO, nO, cO⟩, ⟨AK, nK, cK⟩, ⟨AC, nC, cC⟩, ⟨AR, nR, cR⟩⟩ := v
                obtain ⟨inp0, ands, words, ops, keep, cached, rules, req, bey, hol⟩ := x
                unfold rawCells at HX2
                dsimp only at HX2
                generalize wc = W9 at *
                obtain ⟨q0, q1, q2, q3, q4, q5, q6, q7, q8, q9⟩ := (cells10 HX2.out).1
                have hp9l : p9 < W9.heap.size := HX2.out.lt
                have HBe : Hid (Below W9.heap.size W9 W9) := Below.refl _ _
                have HXX := HX2
                have hmk := make6
                have HR1 : Hid (∀ W A, Below W9.heap.size W9 W → Rd W A (z6.map Value.bool) → Calls Try.prog 7 #[.agg #[.int .u8 inp0, .slice AA nA cA, .slice AW nW cW, .slice AO nO cO, .slice AK nK cK, .slice AC nC cC, .slice AR nR cR, .int .i64 req, .int .i64 bey, .int .i64 hol], .slice A 6 6] W fun e w' => e = .returned (.bool true) ∧ Below W.heap.size W w') := fun W A hW hA => reads ⟨⟨AA, nA, cA⟩, ⟨AW, nW, cW⟩, S, ⟨AO, nO, cO⟩, ⟨AK, nK, cK⟩, ⟨AC, nC, cC⟩, ⟨AR, nR, cR⟩⟩ ⟨inp0, ands, words, ops, keep, cached, rules, req, bey, hol⟩ A 6 6 z6 W (Lib.hid (HRW.out.below hW)) (Lib.hid hA) (Lib.hid rfl) (by omega)
                have HA : Hid (∀ W Aw Ak Ai Ab, Below W9.heap.size W9 W → Rd W Aw [.int .u32 1] → Rd W Ak [.bool true] → Rd W Ai [.int .i64 1, .int .i64 3] → Rd W Ab [.bool true, .bool true] → Calls Try.prog 9 #[.agg #[.int .u8 inp0, .slice AA nA cA, .slice AW nW cW, .slice AO nO cO, .slice AK nK cK, .slice AC nC cC, .slice AR nR cR, .int .i64 req, .int .i64 bey, .int .i64 hol], .slice Aw 1 1, .int .i64 1, .slice Ak 1 1, .slice Ai 2 2, .slice Ab 2 2] W fun e w' => e = .returned (.bool true) ∧ Below W.heap.size W w') := fun W Aw Ak Ai Ab hW hw hk hi hb =>
                  assigns ⟨⟨AA, nA, cA⟩, ⟨AW, nW, cW⟩, S, ⟨AO, nO, cO⟩, ⟨AK, nK, cK⟩, ⟨AC, nC, cC⟩, ⟨AR, nR, cR⟩⟩ ⟨inp0, ands, words, ops, keep, cached, rules, req, bey, hol⟩ Aw 1 1 [1] 1 Ak 1 1 [true] Ai 2 2 [1, 3] Ab 2 2 [true, true] W (Lib.hid (HRW.out.below hW)) (Lib.hid hw) (Lib.hid rfl) (Lib.hid (u32_one 1 (by omega) (by omega))) (by omega) (i64_small _ (by omega) (by omega)) (Lib.hid hk) (Lib.hid rfl) (by omega) (Lib.hid hi) (Lib.hid rfl) (by omega) (Lib.hid hb) (Lib.hid rfl) (by omega)
                go_upto_region 54 with fail
                go_cut [210] (fun v210 wx => v210 = .bool false ∧ Hid (Below W9.heap.size W9 wx))
                case first =>
                  rename_i J1 K1 hR1 hM1
                  revert hR1 hM1
                  repeat (rename ∀ (a' : Act) (w' : World), _ → _ => hZ; clear hZ)
                  intro hR1 hM1
                  go_region_held3 (fun w' => w'.cell? ⟨p9, 0, none⟩ = some (.int .u8 inp0) ∧ w'.cell? ⟨p9, 1, none⟩ = some (.slice AA nA cA) ∧ w'.cell? ⟨p9, 2, none⟩ = some (.slice AW nW cW) ∧ w'.cell? ⟨p9, 3, none⟩ = some (.slice AO nO cO) ∧ w'.cell? ⟨p9, 4, none⟩ = some (.slice AK nK cK) ∧ w'.cell? ⟨p9, 5, none⟩ = some (.slice AC nC cC) ∧ w'.cell? ⟨p9, 6, none⟩ = some (.slice AR nR cR) ∧ w'.cell? ⟨p9, 7, none⟩ = some (.int .i64 req) ∧ w'.cell? ⟨p9, 8, none⟩ = some (.int .i64 bey) ∧ w'.cell? ⟨p9, 9, none⟩ = some (.int .i64 hol))
                    ((refine (cells10 (t := 27) (v0 := .int .u8 inp0) (v1 := .slice AA nA cA) (v2 := .slice AW nW cW) (v3 := .slice AO nO cO) (v4 := .slice AK nK cK) (v5 := .slice AC nC cC) (v6 := .slice AR nR cR) (v7 := .int .i64 req) (v8 := .int .i64 bey) (v9 := .int .i64 hol) ?_).1 <;> (repeat (first | with_reducible exact HXX.out | with_reducible refine Bk.drew ?_ | with_reducible refine Bk.alloc ?_ _))))
                    (first
                      | (
                        go_at_call 7
                        with_reducible refine (HR1.out _ _ ?_ ?_).mono ?_
                        · (repeat (first | with_reducible exact HBe.out | with_reducible refine Below.drew ?_ | with_reducible refine balloc ?_ _))
                        · (repeat (first | with_reducible exact rd6 _ | with_reducible refine Rd.drew ?_))
                        rintro e wI ⟨rfl, hbI⟩
                        (first | with_reducible have HBn := Lib.hid (bthen (balloc HBe.out _) hbI) | with_reducible have HBn := Lib.hid (bthen (balloc HBe.out _).drew hbI) | with_reducible have HBn := Lib.hid (bthen (balloc HBe.out.drew _) hbI))
                        (first | with_reducible have HXn := Lib.hid (bkbel (HXX.out.alloc _) hbI) | with_reducible have HXn := Lib.hid (bkbel (HXX.out.alloc _).drew hbI) | with_reducible have HXn := Lib.hid (bkbel (HXX.out.drew.alloc _) hbI))
                        clear HBe HXX hbI
                        have HBe := HBn
                        have HXX := HXn
                        clear HBn HXn)
                      | (
                        go_at_call 9
                        with_reducible refine (HA.out _ _ _ _ _ ?_ ?_ ?_ ?_ ?_).mono ?_
                        · (repeat (first | with_reducible exact HBe.out | with_reducible refine Below.drew ?_ | with_reducible refine balloc ?_ _))
                        · (repeat (first | with_reducible exact rdA1 _ _ _ _ (by simp) | with_reducible refine Rd.alloc ?_ _))
                        · (repeat (first | with_reducible exact rdA1 _ _ _ _ (by simp) | with_reducible refine Rd.alloc ?_ _))
                        · (repeat (first | with_reducible exact rdA2 _ _ _ _ _ (by simp) | with_reducible refine Rd.alloc ?_ _))
                        · (repeat (first | with_reducible exact rdA2 _ _ _ _ _ (by simp) | with_reducible refine Rd.alloc ?_ _))
                        rintro e wE ⟨rfl, hbE⟩
                        have HBn : Hid (Below W9.heap.size W9 wE) := Lib.hid (bthen (by (repeat (first | with_reducible exact HBe.out | with_reducible refine Below.drew ?_ | with_reducible refine balloc ?_ _))) hbE)
                        have HXn : Hid (Bk wE p9 27 #[.int .u8 inp0, .slice AA nA cA, .slice AW nW cW, .slice AO nO cO, .slice AK nK cK, .slice AC nC cC, .slice AR nR cR, .int .i64 req, .int .i64 bey, .int .i64 hol]) := Lib.hid (bkbel (by (repeat (first | with_reducible exact HXX.out | with_reducible refine Bk.drew ?_ | with_reducible refine Bk.alloc ?_ _))) hbE)
                        clear HBe HXX hbE
                        have HBe := HBn
                        have HXX := HXn
                        clear HBn HXn))
                  all_goals
                    go_wp2_with fail
                    go_meet
                    exact ⟨rfl, HBe⟩
                case rest =>
                  obtain ⟨rfl, HBe2⟩ := hcut
                  clear HBe
                  have HBe := HBe2
                  clear HBe2
                  go_wp2_with fail
                  refine ⟨?_, ?measure⟩
                  (repeat apply Exists.intro)
                  refine ⟨?rel, ?eq⟩
                  case eq => simp only [Act.mk.injEq, and_true]; congr 1
                  case rel => exact ⟨j + 1, by omega, by go_num, Lib.hid (bthen HBc.out HBe.out)⟩
                  case measure => simp [intOf]; omega
            · as_aux_lemma =>
              obtain rfl : j = 14 := by omega
              have hd14 : decide (((14 : Nat) : Int) < 14) = false := rfl
              go_wp2_with fail
              refine (exampleC wr).mono ?_
              rintro e W7 ⟨b, hb, rfl, hex, hbe⟩
              have HB7 := Lib.hid (bthen HBj.out hbe)
              have HRW := Lib.hid (hex.g.raw ok1 ok2 (i64_small _ (by decide) (by decide)) (i64_small _ (by decide) (by decide)) (i64_small _ (by decide) (by decide)) (i64_small _ (by decide) (by decide)))
              have hA := assigns (exV b) (exX ⟨3, 1, 6, 0⟩ ⟨3, 1, 8, 1⟩ 10 12 7 14) (some ⟨W7.heap.size, 0, none⟩) 1 1 [1] n (some ⟨W7.heap.size + 1, 0, none⟩) 1 1 [true] none 0 0 [] none 0 0 [] ((W7.alloc (.cells #[.int .u32 1] 39)).alloc (.cells #[.bool true] 4)) (Lib.hid (HRW.out.below (balloc (balloc (Below.refl _ _) _) _))) (Lib.hid (Rd.alloc (Rd.newAt _ #[_] _ _ rfl) _)) (Lib.hid rfl) (Lib.hid (u32_one 1 (by omega) (by omega))) (by omega) HN64.out (Lib.hid (Rd.newAt _ #[_] _ _ (by simp))) (Lib.hid rfl) (by omega) (Lib.hid Rd.nil) (Lib.hid rfl) (by omega) (Lib.hid Rd.nil) (Lib.hid rfl) (by omega)
              have HA := Lib.hid hA
              clear hA hex hbe
              go_wp2_with fail
              refine HA.out.mono ?_
              rintro e W8 ⟨rfl, hb8⟩
              have HB8 := Lib.hid (bthen (balloc (balloc HB7.out _) _) hb8)
              clear hb8 HA
              go_wp2
              refine ⟨?_, ?measure⟩
              (repeat apply Exists.intro)
              refine ⟨?rel, ?eq⟩
              case eq => simp only [Act.mk.injEq, and_true]; congr 1
              case rel => exact ⟨i + 1, by omega, by go_num, HB8⟩
              case measure => simp [intOf]; omega
        · obtain rfl : i = 9 := by omega
          as_aux_lemma =>
          have hd9 : decide (((9 : Nat) : Int) < 9) = false := rfl
          clear HCN hszV hi hil
          have HG1 := Lib.hid ((Bk.new W6 45 #[.int .i64 0, .slice none 0 0, .map none, .slice none 0 0]).alloc (.cells #[.pointer none, .pointer (some ⟨W6.heap.size, 0, none⟩)] 40))
          have HA1 := Lib.hid (Bk.newAt (W6.alloc (.cells #[.int .i64 0, .slice none 0 0, .map none, .slice none 0 0] 45)) 40 #[.pointer none, .pointer (some ⟨W6.heap.size, 0, none⟩)] (W6.heap.size + 1) (by simp))
          have HBv := Lib.hid (balloc (balloc HBi.out (.cells #[.int .i64 0, .slice none 0 0, .map none, .slice none 0 0] 45)) (.cells #[.pointer none, .pointer (some ⟨W6.heap.size, 0, none⟩)] 40))
          go_wp2_with fail
          have hszv : W6.heap.size + 1 < ((W6.alloc (.cells #[.int .i64 0, .slice none 0 0, .map none, .slice none 0 0] 45)).alloc (.cells #[.pointer none, .pointer (some ⟨W6.heap.size, 0, none⟩)] 40)).heap.size := by simp
          generalize ((W6.alloc (.cells #[.int .i64 0, .slice none 0 0, .map none, .slice none 0 0] 45)).alloc (.cells #[.pointer none, .pointer (some ⟨W6.heap.size, 0, none⟩)] 40)) = V2 at *
          generalize W6.heap.size = pg at *
          clear HBi
          go_loopw [223] (fun v223 wr => ∃ (i : Nat), i ≤ 2 ∧ v223 = .int .i64 i ∧ Hid (Below V2.heap.size V2 wr)) (fun v223 _ => 2 - (intOf v223).toNat)
          case atStart => exact ⟨0, by omega, rfl, Below.refl _ _⟩
          case round =>
            obtain ⟨i, hi, rfl, HBi2⟩ := hrel
            obtain ⟨W7, hW7⟩ : ∃ W, W = wr := ⟨_, rfl⟩
            subst hW7
            by_cases hil : i < 2
            · as_aux_lemma =>
              obtain ⟨PA, hP, HLZ⟩ : ∃ PA, W7.cell? ⟨pg + 1, i, none⟩ = some (.pointer PA) ∧ Hid (LenZ W7 (.pointer PA)) := by
                have h1 := bkbel HA1.out HBi2.out
                have h2 := bkbel HG1.out HBi2.out
                rcases (by omega : i = 0 ∨ i = 1) with rfl | rfl
                · exact ⟨_, h1.cell 0, lenZ_nil _⟩
                · exact ⟨_, h1.cell 1, lenZ_zero _ _ _ _ _ _ h2⟩
              clear HG1 HA1
              have hd2 : decide ((i : Int) < 2) = true := decide_eq_true (by omega)
              have HXX := Lib.hid (Bk.new W7 49 #[.pointer PA, .slice none 0 0, .int .i64 0, .slice none 0 0, .slice none 0 0, .slice none 0 0, .slice none 0 0, .int .i64 0, .int .i64 0])
              have HBe := Lib.hid (balloc (Below.refl W7.heap.size W7) (.cells #[.pointer PA, .slice none 0 0, .int .i64 0, .slice none 0 0, .slice none 0 0, .slice none 0 0, .slice none 0 0, .int .i64 0, .int .i64 0] 49))
              have HLE := Lib.hid (HLZ.out.below HBe.out)
              clear HLZ
              go_wp2_with fail
              generalize (W7.alloc (.cells #[.pointer PA, .slice none 0 0, .int .i64 0, .slice none 0 0, .slice none 0 0, .slice none 0 0, .slice none 0 0, .int .i64 0, .int .i64 0] 49)) = W8 at *
              refine (schedule0 (.pointer PA) _ HLE).mono ?_
              rintro e w1 ⟨rfl, hb⟩
              have HXn := Lib.hid (bkbel HXX.out hb)
              have HBn := Lib.hid (bthen HBe.out hb)
              have HLn := Lib.hid (HLE.out.below hb)
              clear HXX HBe HLE
              have HXX := HXn
              have HBe := HBn
              have HLE := HLn
              clear HXn HBn HLn
              clear hb
              have hlt := HXX.out.lt
              obtain ⟨q10, q11, q12, q13, q14, q15, q16, q17, q18⟩ := (cells9 HXX.out).1
              have hal := balloc (Below.refl w1.heap.size w1) (.cells #[.slice none 0 0, .int .i64 0, .slice none 0 0] 51)
              obtain ⟨r10, r11, r12, r13, r14, r15, r16, r17, r18⟩ := (cells9 (HXX.out.alloc (.cells #[.slice none 0 0, .int .i64 0, .slice none 0 0] 51))).1
              have HAL := Lib.hid hal
              clear hal
              go_wp2_with fail
              clear q10 q11 q12 q13 q14 q15 q16 q17 q18 hlt r10 r11 r12 r13 r14 r15 r16 r17 r18
              have HXn := Lib.hid (bkbel HXX.out HAL.out)
              have HBn := Lib.hid (bthen HBe.out HAL.out)
              have HLn := Lib.hid (HLE.out.below HAL.out)
              clear HXX HBe HLE
              have HXX := HXn
              have HBe := HBn
              have HLE := HLn
              clear HXn HBn HLn
              clear HAL
              generalize (w1.alloc (.cells #[.slice none 0 0, .int .i64 0, .slice none 0 0] 51)) = w1a at *
              refine (assign0 (.pointer PA) _ HLE).mono ?_
              rintro e w2 ⟨rfl, hb⟩
              have HXn := Lib.hid (bkbel HXX.out hb)
              have HBn := Lib.hid (bthen HBe.out hb)
              have HLn := Lib.hid (HLE.out.below hb)
              clear HXX HBe HLE
              have HXX := HXn
              have HBe := HBn
              have HLE := HLn
              clear HXn HBn HLn
              clear hb
              have hlt := HXX.out.lt
              obtain ⟨q20, q21, q22, q23, q24, q25, q26, q27, q28⟩ := (cells9 HXX.out).1
              go_wp2_with fail
              clear q20 q21 q22 q23 q24 q25 q26 q27 q28 hlt
              refine (model0 (.pointer PA) _ HLE).mono ?_
              rintro e w3 ⟨rfl, hb⟩
              have HXn := Lib.hid (bkbel HXX.out hb)
              have HBn := Lib.hid (bthen HBe.out hb)
              have HLn := Lib.hid (HLE.out.below hb)
              clear HXX HBe HLE
              have HXX := HXn
              have HBe := HBn
              have HLE := HLn
              clear HXn HBn HLn
              clear hb
              have hlt := HXX.out.lt
              obtain ⟨q30, q31, q32, q33, q34, q35, q36, q37, q38⟩ := (cells9 HXX.out).1
              have hal := balloc (Below.refl w3.heap.size w3) (.cells #[.slice none 0 0, .int .i64 0, .slice none 0 0] 51)
              obtain ⟨r30, r31, r32, r33, r34, r35, r36, r37, r38⟩ := (cells9 (HXX.out.alloc (.cells #[.slice none 0 0, .int .i64 0, .slice none 0 0] 51))).1
              have HAL := Lib.hid hal
              clear hal
              go_wp2_with fail
              clear q30 q31 q32 q33 q34 q35 q36 q37 q38 hlt r30 r31 r32 r33 r34 r35 r36 r37 r38
              have HXn := Lib.hid (bkbel HXX.out HAL.out)
              have HBn := Lib.hid (bthen HBe.out HAL.out)
              have HLn := Lib.hid (HLE.out.below HAL.out)
              clear HXX HBe HLE
              have HXX := HXn
              have HBe := HBn
              have HLE := HLn
              clear HXn HBn HLn
              clear HAL
              generalize (w3.alloc (.cells #[.slice none 0 0, .int .i64 0, .slice none 0 0] 51)) = w3a at *
              refine (valid0 (.pointer PA) _ HLE).mono ?_
              rintro e w4 ⟨rfl, hb⟩
              have HXn := Lib.hid (bkbel HXX.out hb)
              have HBn := Lib.hid (bthen HBe.out hb)
              have HLn := Lib.hid (HLE.out.below hb)
              clear HXX HBe HLE
              have HXX := HXn
              have HBe := HBn
              have HLE := HLn
              clear HXn HBn HLn
              clear hb
              have hlt := HXX.out.lt
              obtain ⟨q40, q41, q42, q43, q44, q45, q46, q47, q48⟩ := (cells9 HXX.out).1
              go_wp2_with fail
              clear q40 q41 q42 q43 q44 q45 q46 q47 q48 hlt
              refine (tells0 (.pointer PA) _ HLE).mono ?_
              rintro e w5 ⟨rfl, hb⟩
              have HXn := Lib.hid (bkbel HXX.out hb)
              have HBn := Lib.hid (bthen HBe.out hb)
              have HLn := Lib.hid (HLE.out.below hb)
              clear HXX HBe HLE
              have HXX := HXn
              have HBe := HBn
              have HLE := HLn
              clear HXn HBn HLn
              clear hb
              have hlt := HXX.out.lt
              obtain ⟨q50, q51, q52, q53, q54, q55, q56, q57, q58⟩ := (cells9 HXX.out).1
              go_wp2_with fail
              clear q50 q51 q52 q53 q54 q55 q56 q57 q58 hlt
              refine (rightZ (.pointer PA) _ HLE).mono ?_
              rintro e w6 ⟨rfl, hb⟩
              have HBn := Lib.hid (bthen HBe.out hb)
              clear HXX HBe HLE hb
              go_wp2_with fail
              refine ⟨?_, ?measure⟩
              (repeat apply Exists.intro)
              refine ⟨?rel, ?eq⟩
              case eq => simp only [Act.mk.injEq, and_true]; congr 1
              case rel => exact ⟨i + 1, by omega, by go_num, Lib.hid (bthen HBi2.out HBn.out)⟩
              case measure => simp [intOf]; omega
            · obtain rfl : i = 2 := by omega
              have hd2 : decide (((2 : Nat) : Int) < 2) = false := rfl
              go_wp2_with fail
              refine (awakeC W7).mono ?_
              rintro e w8 ⟨rfl, hb⟩
              have HBn := Lib.hid (bthen HBV.out (bthen HBv.out (bthen HBi2.out hb)))
              clear hb
              go_wp2
              go_ret
              exact ⟨rfl, HBn.out⟩
end Go.Proofs.Ytamoniljgifggaa
