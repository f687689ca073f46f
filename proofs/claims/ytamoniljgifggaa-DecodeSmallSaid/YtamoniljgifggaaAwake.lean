/-
  Contract of salvorlaw42.awake.
-/
import Derived.Test.YtamoniljgifggaaAssign
import Derived.Test.YtamoniljgifggaaReads
set_option linter.unusedVariables false
set_option linter.unusedSimpArgs false
namespace Go.Proofs.Ytamoniljgifggaa
open Go.RowKit

def G0 : List Nd := [⟨1, 0, 0⟩, ⟨2, 0, 0⟩, ⟨2, 0, 0⟩, ⟨2, 0, 0⟩, ⟨2, 0, 0⟩, ⟨2, 0, 0⟩, ⟨2, 0, 0⟩, ⟨3, 7, 9⟩]
def R0 : Res := ⟨G0, [[2, 4]], 1, [⟨3, 1, 6, 0⟩, ⟨3, 1, 8, 1⟩], [10, 12], [7, 14], [], 0, 0⟩
theorem and0 : andG (gInit 6) 7 9 = (G0, 14) := by decide
theorem right0 : rightR R0 = true := by decide +kernel
theorem sched0 : schedR R0 [true, false, false, true, false, false] = ⟨[1], 1, [false]⟩ := by rfl
theorem sched1 : schedR R0 [false, true, false, false, true, true] = ⟨[2], 2, [true, true]⟩ := by rfl
theorem err0 : errR R0 6 = 0 := by decide +kernel
theorem asgA : assignR R0 [3] 1 [true] = ([true, true, false, true, true, false], 0) := by rfl
theorem asgB : assignR R0 [3] 3 [] = ([], 422) := by rfl

theorem g0_ok : GOk G0 := by
  have h := andG_ok (gInit_ok 6) 7 9 (by omega) (by rw [gInit_len]; omega) (by omega) (by rw [gInit_len]; omega)
  rw [and0] at h
  exact h
theorem rd_at {w : World} {n : Nat} (cs : Array Value) (t : TypeId) (h : w.heap.size = n) : Rd (w.alloc (.cells cs t)) (some ⟨n, 0, none⟩) cs.toList := Rd.newAt w cs t n h
theorem res0 (w : World) (B g : Nat) (h : GAt w B g 20 G0) : ResAt (((((((w.alloc (.cells #[.int .i64 2, .int .i64 4] 35)).alloc (.cells #[.slice (some ⟨w.heap.size, 0, none⟩) 2 2] 43)).alloc (.cells #[.int .u8 3, .int .i64 1, .int .i64 6, .int .i64 0, .int .u8 3, .int .i64 1, .int .i64 8, .int .i64 1] 37)).alloc (.cells #[.int .i64 10, .int .i64 12] 35)).alloc (.cells #[.int .i64 7, .int .i64 14] 35)).alloc (.cells #[.pointer (some ⟨g, 0, none⟩), .slice (some ⟨w.heap.size + 1, 0, none⟩) 1 1, .int .i64 1, .slice (some ⟨w.heap.size + 1 + 1, 0, none⟩) 2 2, .slice (some ⟨w.heap.size + 1 + 1 + 1, 0, none⟩) 2 2, .slice (some ⟨w.heap.size + 1 + 1 + 1 + 1, 0, none⟩) 2 2, .slice none 0 0, .int .i64 0, .int .i64 0] 49))) B 20 ⟨g, ⟨some ⟨w.heap.size + 1, 0, none⟩, 1, 1⟩, [⟨some ⟨w.heap.size, 0, none⟩, 2, 2⟩], ⟨some ⟨w.heap.size + 1 + 1, 0, none⟩, 2, 2⟩, ⟨some ⟨w.heap.size + 1 + 1 + 1, 0, none⟩, 2, 2⟩, ⟨some ⟨w.heap.size + 1 + 1 + 1 + 1, 0, none⟩, 2, 2⟩, ⟨none, 0, 0⟩⟩ R0 ∧ Bk (((((((w.alloc (.cells #[.int .i64 2, .int .i64 4] 35)).alloc (.cells #[.slice (some ⟨w.heap.size, 0, none⟩) 2 2] 43)).alloc (.cells #[.int .u8 3, .int .i64 1, .int .i64 6, .int .i64 0, .int .u8 3, .int .i64 1, .int .i64 8, .int .i64 1] 37)).alloc (.cells #[.int .i64 10, .int .i64 12] 35)).alloc (.cells #[.int .i64 7, .int .i64 14] 35)).alloc (.cells #[.pointer (some ⟨g, 0, none⟩), .slice (some ⟨w.heap.size + 1, 0, none⟩) 1 1, .int .i64 1, .slice (some ⟨w.heap.size + 1 + 1, 0, none⟩) 2 2, .slice (some ⟨w.heap.size + 1 + 1 + 1, 0, none⟩) 2 2, .slice (some ⟨w.heap.size + 1 + 1 + 1 + 1, 0, none⟩) 2 2, .slice none 0 0, .int .i64 0, .int .i64 0] 49))) (w.heap.size + 1 + 1 + 1 + 1 + 1) 49 #[.pointer (some ⟨g, 0, none⟩), .slice (some ⟨w.heap.size + 1, 0, none⟩) 1 1, .int .i64 1, .slice (some ⟨w.heap.size + 1 + 1, 0, none⟩) 2 2, .slice (some ⟨w.heap.size + 1 + 1 + 1, 0, none⟩) 2 2, .slice (some ⟨w.heap.size + 1 + 1 + 1 + 1, 0, none⟩) 2 2, .slice none 0 0, .int .i64 0, .int .i64 0] ∧ Below w.heap.size w (((((((w.alloc (.cells #[.int .i64 2, .int .i64 4] 35)).alloc (.cells #[.slice (some ⟨w.heap.size, 0, none⟩) 2 2] 43)).alloc (.cells #[.int .u8 3, .int .i64 1, .int .i64 6, .int .i64 0, .int .u8 3, .int .i64 1, .int .i64 8, .int .i64 1] 37)).alloc (.cells #[.int .i64 10, .int .i64 12] 35)).alloc (.cells #[.int .i64 7, .int .i64 14] 35)).alloc (.cells #[.pointer (some ⟨g, 0, none⟩), .slice (some ⟨w.heap.size + 1, 0, none⟩) 1 1, .int .i64 1, .slice (some ⟨w.heap.size + 1 + 1, 0, none⟩) 2 2, .slice (some ⟨w.heap.size + 1 + 1 + 1, 0, none⟩) 2 2, .slice (some ⟨w.heap.size + 1 + 1 + 1 + 1, 0, none⟩) 2 2, .slice none 0 0, .int .i64 0, .int .i64 0] 49))) := by
  have hb : Below w.heap.size w (((((((w.alloc (.cells #[.int .i64 2, .int .i64 4] 35)).alloc (.cells #[.slice (some ⟨w.heap.size, 0, none⟩) 2 2] 43)).alloc (.cells #[.int .u8 3, .int .i64 1, .int .i64 6, .int .i64 0, .int .u8 3, .int .i64 1, .int .i64 8, .int .i64 1] 37)).alloc (.cells #[.int .i64 10, .int .i64 12] 35)).alloc (.cells #[.int .i64 7, .int .i64 14] 35)).alloc (.cells #[.pointer (some ⟨g, 0, none⟩), .slice (some ⟨w.heap.size + 1, 0, none⟩) 1 1, .int .i64 1, .slice (some ⟨w.heap.size + 1 + 1, 0, none⟩) 2 2, .slice (some ⟨w.heap.size + 1 + 1 + 1, 0, none⟩) 2 2, .slice (some ⟨w.heap.size + 1 + 1 + 1 + 1, 0, none⟩) 2 2, .slice none 0 0, .int .i64 0, .int .i64 0] 49))) := balloc (balloc (balloc (balloc (balloc (balloc (Below.refl _ _) _) _) _) _) _) _
  refine ⟨⟨h.below hb, g0_ok, by decide, ?_, rfl, ⟨rfl, ?_⟩, ?_, rfl, ?_, ⟨?_, rfl, ?_⟩, ⟨?_, rfl, ?_⟩, ⟨Rd.nil, rfl, fun u hu => by cases hu⟩, ?_, ?_⟩, ?_, hb⟩
  · exact ((((rd_at (n := w.heap.size + 1) #[.slice (some ⟨w.heap.size, 0, none⟩) 2 2] 43 (by simp)).alloc _).alloc _).alloc _).alloc _
  · intro i s l hs hl
    cases i with
    | zero =>
      simp at hs
      simp [R0] at hl
      subst hs hl
      refine ⟨⟨?_, rfl, fun u hu => by simp at hu; rcases hu with rfl | rfl <;> simp [I64]⟩, by simp⟩
      exact (((((rd_at (n := w.heap.size) #[.int .i64 2, .int .i64 4] 35 rfl).alloc _).alloc _).alloc _).alloc _).alloc _
    | succ i => simp at hs
  · exact (((rd_at (n := w.heap.size + 1 + 1) #[.int .u8 3, .int .i64 1, .int .i64 6, .int .i64 0, .int .u8 3, .int .i64 1, .int .i64 8, .int .i64 1] 37 (by simp)).alloc _).alloc _).alloc _
  · intro q hq
    simp [R0] at hq
    rcases hq with rfl | rfl <;> simp [I64]
  · exact ((rd_at (n := w.heap.size + 1 + 1 + 1) #[.int .i64 10, .int .i64 12] 35 (by simp)).alloc _).alloc _
  · intro u hu
    simp [R0] at hu
    rcases hu with rfl | rfl <;> simp [I64]
  · exact (rd_at (n := w.heap.size + 1 + 1 + 1 + 1) #[.int .i64 7, .int .i64 14] 35 (by simp)).alloc _
  · intro u hu
    simp [R0] at hu
    rcases hu with rfl | rfl <;> simp [I64]
  · simp [R0, I64]
  · simp
  · have h1 := Bk.new ((((((w.alloc (.cells #[.int .i64 2, .int .i64 4] 35)).alloc (.cells #[.slice (some ⟨w.heap.size, 0, none⟩) 2 2] 43)).alloc (.cells #[.int .u8 3, .int .i64 1, .int .i64 6, .int .i64 0, .int .u8 3, .int .i64 1, .int .i64 8, .int .i64 1] 37)).alloc (.cells #[.int .i64 10, .int .i64 12] 35)).alloc (.cells #[.int .i64 7, .int .i64 14] 35))) 49 #[.pointer (some ⟨g, 0, none⟩), .slice (some ⟨w.heap.size + 1, 0, none⟩) 1 1, .int .i64 1, .slice (some ⟨w.heap.size + 1 + 1, 0, none⟩) 2 2, .slice (some ⟨w.heap.size + 1 + 1 + 1, 0, none⟩) 2 2, .slice (some ⟨w.heap.size + 1 + 1 + 1 + 1, 0, none⟩) 2 2, .slice none 0 0, .int .i64 0, .int .i64 0]
    simp only [World.size_alloc] at h1
    exact h1

set_option maxHeartbeats 4000000 in
set_option maxRecDepth 100000 in
theorem awakeC (w : World) : Calls Try.prog 8 #[] w fun e w' => e = .returned (.bool true) ∧ Below w.heap.size w w' := by
  go_enter Try.func8, Try.ntmps8
  go_wp2_with fail
  refine (gNew 20 w (by omega) (by omega)).mono ?_
  rintro e w1 ⟨g, rfl, hg1, hb1⟩
  have HG1 := Lib.hid hg1; have HB1 := Lib.hid hb1
  clear hg1 hb1
  go_wp2
  go_loopw [25] (fun i wr => ∃ k : Nat, k ≤ 6 ∧ i = .int .i64 k ∧ Hid (GAt wr w.heap.size g 20 (gInit k)) ∧ Hid (Below w.heap.size w wr)) (fun i _ => 6 - (intOf i).toNat)
  case atStart => exact ⟨0, by omega, rfl, HG1, HB1⟩
  case round =>
    obtain ⟨k, hk, rfl, HG, HB⟩ := hrel
    clear HG1 HB1
    by_cases hlt : k < 6
    · have hki : (k : Int) < 6 := by omega
      go_wp2_with fail
      refine (gInput w.heap.size g 20 (gInit k) _ HG (by omega) (by rw [gInit_len]; omega)).mono ?_
      rintro e w2 ⟨rfl, hg2, hf2⟩
      rw [← gInit_succ] at hg2
      have HG2 := Lib.hid hg2
      have HB2 : Hid (Below w.heap.size w w2) := HB.out.trans (hf2.below HB.out.size)
      clear hg2 hf2
      go_wp2
      go_roundw
      case rel => exact ⟨k + 1, by omega, by go_num, HG2, HB2⟩
      case measure => simp [intOf]; omega
    · obtain rfl : k = 6 := by omega
      clear hlt hk
      go_wp2_with fail
      refine (gAnd w.heap.size g 20 (gInit 6) 7 9 _ HG (by omega) (by rw [gInit_len]; omega) (by omega) (by rw [gInit_len]; omega) (by omega) (by rw [gInit_len]; omega)).mono ?_
      rintro e w2 ⟨rfl, hg2, hf2⟩
      rw [and0] at hg2 ⊢
      have HG2 := Lib.hid hg2
      have HB2 : Hid (Below w.heap.size w w2) := HB.out.trans (hf2.below HB.out.size)
      clear hg2 hf2 HG HB
      dsimp only
      go_wp2_with fail
      have h0 := res0 w2 w.heap.size g HG2.out
      have HRES := Lib.hid h0.1; have H6 := Lib.hid h0.2.1; have HW := Lib.hid (bthen HB2.out h0.2.2)
      have HSZ : Hid ((((((((w2.alloc (.cells #[.int .i64 2, .int .i64 4] 35)).alloc (.cells #[.slice (some ⟨w2.heap.size, 0, none⟩) 2 2] 43)).alloc (.cells #[.int .u8 3, .int .i64 1, .int .i64 6, .int .i64 0, .int .u8 3, .int .i64 1, .int .i64 8, .int .i64 1] 37)).alloc (.cells #[.int .i64 10, .int .i64 12] 35)).alloc (.cells #[.int .i64 7, .int .i64 14] 35)).alloc (.cells #[.pointer (some ⟨g, 0, none⟩), .slice (some ⟨w2.heap.size + 1, 0, none⟩) 1 1, .int .i64 1, .slice (some ⟨w2.heap.size + 1 + 1, 0, none⟩) 2 2, .slice (some ⟨w2.heap.size + 1 + 1 + 1, 0, none⟩) 2 2, .slice (some ⟨w2.heap.size + 1 + 1 + 1 + 1, 0, none⟩) 2 2, .slice none 0 0, .int .i64 0, .int .i64 0] 49))).heap.size = w2.heap.size + 1 + 1 + 1 + 1 + 1 + 1) := by show _ = _; simp only [World.size_alloc]
      clear h0 HG2 HB2
      generalize (((((((w2.alloc (.cells #[.int .i64 2, .int .i64 4] 35)).alloc (.cells #[.slice (some ⟨w2.heap.size, 0, none⟩) 2 2] 43)).alloc (.cells #[.int .u8 3, .int .i64 1, .int .i64 6, .int .i64 0, .int .u8 3, .int .i64 1, .int .i64 8, .int .i64 1] 37)).alloc (.cells #[.int .i64 10, .int .i64 12] 35)).alloc (.cells #[.int .i64 7, .int .i64 14] 35)).alloc (.cells #[.pointer (some ⟨g, 0, none⟩), .slice (some ⟨w2.heap.size + 1, 0, none⟩) 1 1, .int .i64 1, .slice (some ⟨w2.heap.size + 1 + 1, 0, none⟩) 2 2, .slice (some ⟨w2.heap.size + 1 + 1 + 1, 0, none⟩) 2 2, .slice (some ⟨w2.heap.size + 1 + 1 + 1 + 1, 0, none⟩) 2 2, .slice none 0 0, .int .i64 0, .int .i64 0] 49))) = V1 at *
      generalize w2.heap.size = q0 at *
      clear w2
      have HIN := Lib.hid (rd_at (w := V1) (n := q0 + 1 + 1 + 1 + 1 + 1 + 1) #[.bool true, .bool false, .bool false, .bool true, .bool false, .bool false] 4 HSZ.out)
      have HBx : Hid (Below V1.heap.size V1 (V1.alloc (.cells #[.bool true, .bool false, .bool false, .bool true, .bool false, .bool false] 4))) := balloc (Below.refl _ _) _
      have HRES' := Lib.hid (HRES.out.below HBx.out)
      clear HRES
      have HRES := HRES'
      clear HRES'
      have H6' := Lib.hid (bkbel H6.out HBx.out)
      clear H6
      have H6 := H6'
      clear H6'
      have HW' := Lib.hid (bthen HW.out HBx.out)
      clear HW
      have HW := HW'
      clear HW'
      clear HBx
      generalize (V1.alloc (.cells #[.bool true, .bool false, .bool false, .bool true, .bool false, .bool false] 4)) = Wa0 at *
      have hC := sched2 w.heap.size 20 ⟨g, ⟨some ⟨q0 + 1, 0, none⟩, 1, 1⟩, [⟨some ⟨q0, 0, none⟩, 2, 2⟩], ⟨some ⟨q0 + 1 + 1, 0, none⟩, 2, 2⟩, ⟨some ⟨q0 + 1 + 1 + 1, 0, none⟩, 2, 2⟩, ⟨some ⟨q0 + 1 + 1 + 1 + 1, 0, none⟩, 2, 2⟩, ⟨none, 0, 0⟩⟩ R0 (some ⟨q0 + 1 + 1 + 1 + 1 + 1 + 1, 0, none⟩) 6 6 [true, false, false, true, false, false] [1] 1 [false] 0 Wa0 HRES HIN rfl (by omega) sched0 err0
      rw [show R0.req = 1 from rfl, show R0.bey = 0 from rfl, show R0.hol = 0 from rfl] at hC
      dsimp only at hC
      refine hC.mono ?_
      clear hC HIN
      rintro e Wb0 ⟨⟨A01, n01, c01⟩, ⟨A02, n02, c02⟩, rfl, hi, hn, hk, hkn, hle1, hle2, hb⟩
      dsimp only at hi hn hk hkn hle1 hle2 ⊢
      obtain rfl : n01 = 1 := hn.symm
      obtain rfl : n02 = 1 := hkn.symm
      have HI0 := Lib.hid hi; have HK0 := Lib.hid hk
      have HRES' := Lib.hid (HRES.out.below hb)
      clear HRES
      have HRES := HRES'
      clear HRES'
      have H6' := Lib.hid (bkbel H6.out hb)
      clear H6
      have H6 := H6'
      clear H6'
      have HW' := Lib.hid (bthen HW.out hb)
      clear HW
      have HW := HW'
      clear HW'
      clear hi hn hk hkn hle1 hle2 hb
      obtain ⟨⟨x0, x1, x2, x3, x4, x5, x6, x7, x8⟩, _⟩ := cells9 H6.out
      have hl6 := H6.out.lt
      have HS0 := Lib.hid (Bk.new Wb0 51 #[.slice A01 1 c01, .int .i64 1, .slice A02 1 c02])
      have HBy : Hid (Below Wb0.heap.size Wb0 (Wb0.alloc (.cells #[.slice A01 1 c01, .int .i64 1, .slice A02 1 c02] 51))) := balloc (Below.refl _ _) _
      go_wp2_with fail
      clear x0 x1 x2 x3 x4 x5 x6 x7 x8 hl6
      have HRES' := Lib.hid (HRES.out.below HBy.out)
      clear HRES
      have HRES := HRES'
      clear HRES'
      have H6' := Lib.hid (bkbel H6.out HBy.out)
      clear H6
      have H6 := H6'
      clear H6'
      have HW' := Lib.hid (bthen HW.out HBy.out)
      clear HW
      have HW := HW'
      clear HW'
      have HI0' := Lib.hid (HI0.out.below HBy.out)
      clear HI0
      have HI0 := HI0'
      clear HI0'
      have HK0' := Lib.hid (HK0.out.below HBy.out)
      clear HK0
      have HK0 := HK0'
      clear HK0'
      clear HBy
      generalize hZ0 : Wb0.alloc (.cells #[.slice A01 1 c01, .int .i64 1, .slice A02 1 c02] 51) = Z0 at *
      obtain ⟨p0, hp0⟩ : ∃ p, Wb0.heap.size = p := ⟨_, rfl⟩
      have hsz : Z0.heap.size = p0 + 1 := by rw [← hZ0, World.size_alloc, hp0]
      rw [hp0] at HS0 ⊢
      rw [← hsz]
      clear hZ0 hp0 hsz
      have HIN := Lib.hid (rd_at (w := Z0) (n := Z0.heap.size) #[.bool false, .bool true, .bool false, .bool false, .bool true, .bool true] 4 rfl)
      have HBx : Hid (Below Z0.heap.size Z0 (Z0.alloc (.cells #[.bool false, .bool true, .bool false, .bool false, .bool true, .bool true] 4))) := balloc (Below.refl _ _) _
      have HRES' := Lib.hid (HRES.out.below HBx.out)
      clear HRES
      have HRES := HRES'
      clear HRES'
      have H6' := Lib.hid (bkbel H6.out HBx.out)
      clear H6
      have H6 := H6'
      clear H6'
      have HW' := Lib.hid (bthen HW.out HBx.out)
      clear HW
      have HW := HW'
      clear HW'
      have HI0' := Lib.hid (HI0.out.below HBx.out)
      clear HI0
      have HI0 := HI0'
      clear HI0'
      have HK0' := Lib.hid (HK0.out.below HBx.out)
      clear HK0
      have HK0 := HK0'
      clear HK0'
      have HS0' := Lib.hid (bkbel HS0.out HBx.out)
      clear HS0
      have HS0 := HS0'
      clear HS0'
      clear HBx
      generalize (Z0.alloc (.cells #[.bool false, .bool true, .bool false, .bool false, .bool true, .bool true] 4)) = Wa1 at *
      have hC := sched2 w.heap.size 20 ⟨g, ⟨some ⟨q0 + 1, 0, none⟩, 1, 1⟩, [⟨some ⟨q0, 0, none⟩, 2, 2⟩], ⟨some ⟨q0 + 1 + 1, 0, none⟩, 2, 2⟩, ⟨some ⟨q0 + 1 + 1 + 1, 0, none⟩, 2, 2⟩, ⟨some ⟨q0 + 1 + 1 + 1 + 1, 0, none⟩, 2, 2⟩, ⟨none, 0, 0⟩⟩ R0 (some ⟨Z0.heap.size, 0, none⟩) 6 6 [false, true, false, false, true, true] [2] 2 [true, true] 0 Wa1 HRES HIN rfl (by omega) sched1 err0
      rw [show R0.req = 1 from rfl, show R0.bey = 0 from rfl, show R0.hol = 0 from rfl] at hC
      dsimp only at hC
      refine hC.mono ?_
      clear hC HIN
      rintro e Wb1 ⟨⟨A11, n11, c11⟩, ⟨A12, n12, c12⟩, rfl, hi, hn, hk, hkn, hle1, hle2, hb⟩
      dsimp only at hi hn hk hkn hle1 hle2 ⊢
      obtain rfl : n11 = 1 := hn.symm
      obtain rfl : n12 = 2 := hkn.symm
      have HI1 := Lib.hid hi; have HK1 := Lib.hid hk
      have HRES' := Lib.hid (HRES.out.below hb)
      clear HRES
      have HRES := HRES'
      clear HRES'
      have H6' := Lib.hid (bkbel H6.out hb)
      clear H6
      have H6 := H6'
      clear H6'
      have HW' := Lib.hid (bthen HW.out hb)
      clear HW
      have HW := HW'
      clear HW'
      have HI0' := Lib.hid (HI0.out.below hb)
      clear HI0
      have HI0 := HI0'
      clear HI0'
      have HK0' := Lib.hid (HK0.out.below hb)
      clear HK0
      have HK0 := HK0'
      clear HK0'
      have HS0' := Lib.hid (bkbel HS0.out hb)
      clear HS0
      have HS0 := HS0'
      clear HS0'
      clear hi hn hk hkn hle1 hle2 hb
      obtain ⟨⟨x0, x1, x2, x3, x4, x5, x6, x7, x8⟩, _⟩ := cells9 H6.out
      have hl6 := H6.out.lt
      have HS1 := Lib.hid (Bk.new Wb1 51 #[.slice A11 1 c11, .int .i64 2, .slice A12 2 c12])
      have HBy : Hid (Below Wb1.heap.size Wb1 (Wb1.alloc (.cells #[.slice A11 1 c11, .int .i64 2, .slice A12 2 c12] 51))) := balloc (Below.refl _ _) _
      go_wp2_with fail
      clear x0 x1 x2 x3 x4 x5 x6 x7 x8 hl6
      have HRES' := Lib.hid (HRES.out.below HBy.out)
      clear HRES
      have HRES := HRES'
      clear HRES'
      have H6' := Lib.hid (bkbel H6.out HBy.out)
      clear H6
      have H6 := H6'
      clear H6'
      have HW' := Lib.hid (bthen HW.out HBy.out)
      clear HW
      have HW := HW'
      clear HW'
      have HI0' := Lib.hid (HI0.out.below HBy.out)
      clear HI0
      have HI0 := HI0'
      clear HI0'
      have HK0' := Lib.hid (HK0.out.below HBy.out)
      clear HK0
      have HK0 := HK0'
      clear HK0'
      have HS0' := Lib.hid (bkbel HS0.out HBy.out)
      clear HS0
      have HS0 := HS0'
      clear HS0'
      have HI1' := Lib.hid (HI1.out.below HBy.out)
      clear HI1
      have HI1 := HI1'
      clear HI1'
      have HK1' := Lib.hid (HK1.out.below HBy.out)
      clear HK1
      have HK1 := HK1'
      clear HK1'
      clear HBy
      generalize hZ1 : Wb1.alloc (.cells #[.slice A11 1 c11, .int .i64 2, .slice A12 2 c12] 51) = Z1 at *
      obtain ⟨p1, hp1⟩ : ∃ p, Wb1.heap.size = p := ⟨_, rfl⟩
      have HSZ1 : Hid (Z1.heap.size = p1 + 1) := by show _ = _; rw [← hZ1, World.size_alloc, hp1]
      rw [hp1] at HS1 ⊢
      clear hZ1 hp1
      have HA1 := Lib.hid ((rd_at (w := Z1) (n := p1 + 1) #[.int .u32 3] 39 HSZ1.out).alloc (.cells #[.bool true] 4))
      have HA2 := Lib.hid (rd_at (w := Z1.alloc (.cells #[.int .u32 3] 39)) (n := p1 + 1 + 1) #[.bool true] 4 (by rw [World.size_alloc, HSZ1.out]))
      have HBy : Hid (Below Z1.heap.size Z1 ((Z1.alloc (.cells #[.int .u32 3] 39)).alloc (.cells #[.bool true] 4))) := balloc (balloc (Below.refl _ _) _) _
      have HRES' := Lib.hid (HRES.out.below HBy.out)
      clear HRES
      have HRES := HRES'
      clear HRES'
      have H6' := Lib.hid (bkbel H6.out HBy.out)
      clear H6
      have H6 := H6'
      clear H6'
      have HW' := Lib.hid (bthen HW.out HBy.out)
      clear HW
      have HW := HW'
      clear HW'
      have HI0' := Lib.hid (HI0.out.below HBy.out)
      clear HI0
      have HI0 := HI0'
      clear HI0'
      have HK0' := Lib.hid (HK0.out.below HBy.out)
      clear HK0
      have HK0 := HK0'
      clear HK0'
      have HS0' := Lib.hid (bkbel HS0.out HBy.out)
      clear HS0
      have HS0 := HS0'
      clear HS0'
      have HI1' := Lib.hid (HI1.out.below HBy.out)
      clear HI1
      have HI1 := HI1'
      clear HI1'
      have HK1' := Lib.hid (HK1.out.below HBy.out)
      clear HK1
      have HK1 := HK1'
      clear HK1'
      have HS1' := Lib.hid (bkbel HS1.out HBy.out)
      clear HS1
      have HS1 := HS1'
      clear HS1'
      clear HBy HSZ1
      generalize ((Z1.alloc (.cells #[.int .u32 3] 39)).alloc (.cells #[.bool true] 4)) = Z2 at *
      have hC := decAssign w.heap.size 20 ⟨g, ⟨some ⟨q0 + 1, 0, none⟩, 1, 1⟩, [⟨some ⟨q0, 0, none⟩, 2, 2⟩], ⟨some ⟨q0 + 1 + 1, 0, none⟩, 2, 2⟩, ⟨some ⟨q0 + 1 + 1 + 1, 0, none⟩, 2, 2⟩, ⟨some ⟨q0 + 1 + 1 + 1 + 1, 0, none⟩, 2, 2⟩, ⟨none, 0, 0⟩⟩ R0 (some ⟨p1 + 1, 0, none⟩) 1 1 [3] 1 (some ⟨p1 + 1 + 1, 0, none⟩) 1 1 [true] Z2 HRES HA1 rfl (fun v hv => by simp at hv; subst hv; simp [U32]) HA2 rfl (by omega) (by omega) (by simp [I64])
      rw [asgA] at hC
      rw [show R0.req = 1 from rfl, show R0.bey = 0 from rfl, show R0.hol = 0 from rfl] at hC
      dsimp only at hC
      refine hC.mono ?_
      clear hC HA1 HA2
      rintro e Z3 ⟨A3, n3, c3, rfl, hr3, hl3, _, hb⟩
      dsimp only at hr3 hl3 ⊢
      obtain rfl : n3 = 6 := hl3.symm
      have HR3 := Lib.hid hr3
      have HRES' := Lib.hid (HRES.out.below hb)
      clear HRES
      have HRES := HRES'
      clear HRES'
      have H6' := Lib.hid (bkbel H6.out hb)
      clear H6
      have H6 := H6'
      clear H6'
      have HW' := Lib.hid (bthen HW.out hb)
      clear HW
      have HW := HW'
      clear HW'
      have HI0' := Lib.hid (HI0.out.below hb)
      clear HI0
      have HI0 := HI0'
      clear HI0'
      have HK0' := Lib.hid (HK0.out.below hb)
      clear HK0
      have HK0 := HK0'
      clear HK0'
      have HS0' := Lib.hid (bkbel HS0.out hb)
      clear HS0
      have HS0 := HS0'
      clear HS0'
      have HI1' := Lib.hid (HI1.out.below hb)
      clear HI1
      have HI1 := HI1'
      clear HI1'
      have HK1' := Lib.hid (HK1.out.below hb)
      clear HK1
      have HK1 := HK1'
      clear HK1'
      have HS1' := Lib.hid (bkbel HS1.out hb)
      clear HS1
      have HS1 := HS1'
      clear HS1'
      clear hr3 hl3 hb
      obtain ⟨⟨x0, x1, x2, x3, x4, x5, x6, x7, x8⟩, _⟩ := cells9 H6.out
      have hl6 := H6.out.lt
      go_wp2_with fail
      clear x0 x1 x2 x3 x4 x5 x6 x7 x8 hl6
      have HA1 := Lib.hid (rd_at (w := Z3) (n := Z3.heap.size) #[.int .u32 3] 39 rfl)
      have HBy : Hid (Below Z3.heap.size Z3 (Z3.alloc (.cells #[.int .u32 3] 39))) := balloc (Below.refl _ _) _
      have HRES' := Lib.hid (HRES.out.below HBy.out)
      clear HRES
      have HRES := HRES'
      clear HRES'
      have H6' := Lib.hid (bkbel H6.out HBy.out)
      clear H6
      have H6 := H6'
      clear H6'
      have HW' := Lib.hid (bthen HW.out HBy.out)
      clear HW
      have HW := HW'
      clear HW'
      have HI0' := Lib.hid (HI0.out.below HBy.out)
      clear HI0
      have HI0 := HI0'
      clear HI0'
      have HK0' := Lib.hid (HK0.out.below HBy.out)
      clear HK0
      have HK0 := HK0'
      clear HK0'
      have HS0' := Lib.hid (bkbel HS0.out HBy.out)
      clear HS0
      have HS0 := HS0'
      clear HS0'
      have HI1' := Lib.hid (HI1.out.below HBy.out)
      clear HI1
      have HI1 := HI1'
      clear HI1'
      have HK1' := Lib.hid (HK1.out.below HBy.out)
      clear HK1
      have HK1 := HK1'
      clear HK1'
      have HS1' := Lib.hid (bkbel HS1.out HBy.out)
      clear HS1
      have HS1 := HS1'
      clear HS1'
      have HR3' := Lib.hid (HR3.out.below HBy.out)
      clear HR3
      have HR3 := HR3'
      clear HR3'
      clear HBy
      generalize (Z3.alloc (.cells #[.int .u32 3] 39)) = Z4 at *
      have hC := decAssign w.heap.size 20 ⟨g, ⟨some ⟨q0 + 1, 0, none⟩, 1, 1⟩, [⟨some ⟨q0, 0, none⟩, 2, 2⟩], ⟨some ⟨q0 + 1 + 1, 0, none⟩, 2, 2⟩, ⟨some ⟨q0 + 1 + 1 + 1, 0, none⟩, 2, 2⟩, ⟨some ⟨q0 + 1 + 1 + 1 + 1, 0, none⟩, 2, 2⟩, ⟨none, 0, 0⟩⟩ R0 (some ⟨Z3.heap.size, 0, none⟩) 1 1 [3] 3 none 0 0 [] Z4 HRES HA1 rfl (fun v hv => by simp at hv; subst hv; simp [U32]) Rd.nil rfl (by omega) (by omega) (by simp [I64])
      rw [asgB] at hC
      rw [show R0.req = 1 from rfl, show R0.bey = 0 from rfl, show R0.hol = 0 from rfl] at hC
      dsimp only at hC
      refine hC.mono ?_
      clear hC HA1
      rintro e Z5 ⟨A4, n4, c4, rfl, hr4, hl4, _, hb⟩
      dsimp only at hr4 hl4 ⊢
      obtain rfl : n4 = 0 := hl4.symm
      have HRES' := Lib.hid (HRES.out.below hb)
      clear HRES
      have HRES := HRES'
      clear HRES'
      have H6' := Lib.hid (bkbel H6.out hb)
      clear H6
      have H6 := H6'
      clear H6'
      have HW' := Lib.hid (bthen HW.out hb)
      clear HW
      have HW := HW'
      clear HW'
      have HI0' := Lib.hid (HI0.out.below hb)
      clear HI0
      have HI0 := HI0'
      clear HI0'
      have HK0' := Lib.hid (HK0.out.below hb)
      clear HK0
      have HK0 := HK0'
      clear HK0'
      have HS0' := Lib.hid (bkbel HS0.out hb)
      clear HS0
      have HS0 := HS0'
      clear HS0'
      have HI1' := Lib.hid (HI1.out.below hb)
      clear HI1
      have HI1 := HI1'
      clear HI1'
      have HK1' := Lib.hid (HK1.out.below hb)
      clear HK1
      have HK1 := HK1'
      clear HK1'
      have HS1' := Lib.hid (bkbel HS1.out hb)
      clear HS1
      have HS1 := HS1'
      clear HS1'
      have HR3' := Lib.hid (HR3.out.below hb)
      clear HR3
      have HR3 := HR3'
      clear HR3'
      clear hr4 hl4 hb
      obtain ⟨⟨x0, x1, x2, x3, x4, x5, x6, x7, x8⟩, _⟩ := cells9 H6.out
      have hl6 := H6.out.lt
      go_wp2_with fail
      clear x0 x1 x2 x3 x4 x5 x6 x7 x8 hl6
      have hC := decRight2 w.heap.size 20 ⟨g, ⟨some ⟨q0 + 1, 0, none⟩, 1, 1⟩, [⟨some ⟨q0, 0, none⟩, 2, 2⟩], ⟨some ⟨q0 + 1 + 1, 0, none⟩, 2, 2⟩, ⟨some ⟨q0 + 1 + 1 + 1, 0, none⟩, 2, 2⟩, ⟨some ⟨q0 + 1 + 1 + 1 + 1, 0, none⟩, 2, 2⟩, ⟨none, 0, 0⟩⟩ R0 true Z5 HRES right0
      rw [show R0.req = 1 from rfl, show R0.bey = 0 from rfl, show R0.hol = 0 from rfl] at hC
      dsimp only at hC
      refine hC.mono ?_
      clear hC
      rintro e Z6 ⟨rfl, hb⟩
      have HRES' := Lib.hid (HRES.out.below hb)
      clear HRES
      have HRES := HRES'
      clear HRES'
      have H6' := Lib.hid (bkbel H6.out hb)
      clear H6
      have H6 := H6'
      clear H6'
      have HW' := Lib.hid (bthen HW.out hb)
      clear HW
      have HW := HW'
      clear HW'
      have HI0' := Lib.hid (HI0.out.below hb)
      clear HI0
      have HI0 := HI0'
      clear HI0'
      have HK0' := Lib.hid (HK0.out.below hb)
      clear HK0
      have HK0 := HK0'
      clear HK0'
      have HS0' := Lib.hid (bkbel HS0.out hb)
      clear HS0
      have HS0 := HS0'
      clear HS0'
      have HI1' := Lib.hid (HI1.out.below hb)
      clear HI1
      have HI1 := HI1'
      clear HI1'
      have HK1' := Lib.hid (HK1.out.below hb)
      clear HK1
      have HK1 := HK1'
      clear HK1'
      have HS1' := Lib.hid (bkbel HS1.out hb)
      clear HS1
      have HS1 := HS1'
      clear HS1'
      have HR3' := Lib.hid (HR3.out.below hb)
      clear HR3
      have HR3 := HR3'
      clear HR3'
      clear hb
      obtain ⟨s0, s1, s2⟩ := cells3 HS0.out
      have hps := HS0.out.lt
      go_wp2_with fail
      clear s0 s1 s2 hps
      have HA1 := Lib.hid ((rd_at (w := Z6) (n := Z6.heap.size) #[.int .i64 1] 3 rfl).alloc (.cells #[.int .i64 0] 3))
      have HA2 := Lib.hid (rd_at (w := Z6.alloc (.cells #[.int .i64 1] 3)) (n := Z6.heap.size + 1) #[.int .i64 0] 3 (World.size_alloc _ _))
      have HBy : Hid (Below Z6.heap.size Z6 ((Z6.alloc (.cells #[.int .i64 1] 3)).alloc (.cells #[.int .i64 0] 3))) := balloc (balloc (Below.refl _ _) _) _
      have HRES' := Lib.hid (HRES.out.below HBy.out)
      clear HRES
      have HRES := HRES'
      clear HRES'
      have H6' := Lib.hid (bkbel H6.out HBy.out)
      clear H6
      have H6 := H6'
      clear H6'
      have HW' := Lib.hid (bthen HW.out HBy.out)
      clear HW
      have HW := HW'
      clear HW'
      have HI0' := Lib.hid (HI0.out.below HBy.out)
      clear HI0
      have HI0 := HI0'
      clear HI0'
      have HK0' := Lib.hid (HK0.out.below HBy.out)
      clear HK0
      have HK0 := HK0'
      clear HK0'
      have HS0' := Lib.hid (bkbel HS0.out HBy.out)
      clear HS0
      have HS0 := HS0'
      clear HS0'
      have HI1' := Lib.hid (HI1.out.below HBy.out)
      clear HI1
      have HI1 := HI1'
      clear HI1'
      have HK1' := Lib.hid (HK1.out.below HBy.out)
      clear HK1
      have HK1 := HK1'
      clear HK1'
      have HS1' := Lib.hid (bkbel HS1.out HBy.out)
      clear HS1
      have HS1 := HS1'
      clear HS1'
      have HR3' := Lib.hid (HR3.out.below HBy.out)
      clear HR3
      have HR3 := HR3'
      clear HR3'
      clear HBy
      generalize ((Z6.alloc (.cells #[.int .i64 1] 3)).alloc (.cells #[.int .i64 0] 3)) = Y0 at *
      refine (sameC A01 A02 (some ⟨Z6.heap.size, 0, none⟩) (some ⟨Z6.heap.size + 1, 0, none⟩) 1 1 c01 c02 1 1 [1] 1 [false] Y0 HI0 HK0 HA1 HA2 rfl rfl (by omega) (by omega) (fun x hx => by simp at hx; subst hx; omega)).mono ?_
      clear HA1 HA2
      rintro e Z7 ⟨rfl, hbs⟩
      have HRES' := Lib.hid (HRES.out.below hbs)
      clear HRES
      have HRES := HRES'
      clear HRES'
      have H6' := Lib.hid (bkbel H6.out hbs)
      clear H6
      have H6 := H6'
      clear H6'
      have HW' := Lib.hid (bthen HW.out hbs)
      clear HW
      have HW := HW'
      clear HW'
      have HI0' := Lib.hid (HI0.out.below hbs)
      clear HI0
      have HI0 := HI0'
      clear HI0'
      have HK0' := Lib.hid (HK0.out.below hbs)
      clear HK0
      have HK0 := HK0'
      clear HK0'
      have HS0' := Lib.hid (bkbel HS0.out hbs)
      clear HS0
      have HS0 := HS0'
      clear HS0'
      have HI1' := Lib.hid (HI1.out.below hbs)
      clear HI1
      have HI1 := HI1'
      clear HI1'
      have HK1' := Lib.hid (HK1.out.below hbs)
      clear HK1
      have HK1 := HK1'
      clear HK1'
      have HS1' := Lib.hid (bkbel HS1.out hbs)
      clear HS1
      have HS1 := HS1'
      clear HS1'
      have HR3' := Lib.hid (HR3.out.below hbs)
      clear HR3
      have HR3 := HR3'
      clear HR3'
      clear hbs
      obtain ⟨s0, s1, s2⟩ := cells3 HS1.out
      have hps := HS1.out.lt
      go_wp2_with fail
      clear s0 s1 s2 hps
      have HA1 := Lib.hid ((rd_at (w := Z7) (n := Z7.heap.size) #[.int .i64 2] 3 rfl).alloc (.cells #[.int .i64 1, .int .i64 1] 3))
      have HA2 := Lib.hid (rd_at (w := Z7.alloc (.cells #[.int .i64 2] 3)) (n := Z7.heap.size + 1) #[.int .i64 1, .int .i64 1] 3 (World.size_alloc _ _))
      have HBy : Hid (Below Z7.heap.size Z7 ((Z7.alloc (.cells #[.int .i64 2] 3)).alloc (.cells #[.int .i64 1, .int .i64 1] 3))) := balloc (balloc (Below.refl _ _) _) _
      have HRES' := Lib.hid (HRES.out.below HBy.out)
      clear HRES
      have HRES := HRES'
      clear HRES'
      have H6' := Lib.hid (bkbel H6.out HBy.out)
      clear H6
      have H6 := H6'
      clear H6'
      have HW' := Lib.hid (bthen HW.out HBy.out)
      clear HW
      have HW := HW'
      clear HW'
      have HI0' := Lib.hid (HI0.out.below HBy.out)
      clear HI0
      have HI0 := HI0'
      clear HI0'
      have HK0' := Lib.hid (HK0.out.below HBy.out)
      clear HK0
      have HK0 := HK0'
      clear HK0'
      have HS0' := Lib.hid (bkbel HS0.out HBy.out)
      clear HS0
      have HS0 := HS0'
      clear HS0'
      have HI1' := Lib.hid (HI1.out.below HBy.out)
      clear HI1
      have HI1 := HI1'
      clear HI1'
      have HK1' := Lib.hid (HK1.out.below HBy.out)
      clear HK1
      have HK1 := HK1'
      clear HK1'
      have HS1' := Lib.hid (bkbel HS1.out HBy.out)
      clear HS1
      have HS1 := HS1'
      clear HS1'
      have HR3' := Lib.hid (HR3.out.below HBy.out)
      clear HR3
      have HR3 := HR3'
      clear HR3'
      clear HBy
      generalize ((Z7.alloc (.cells #[.int .i64 2] 3)).alloc (.cells #[.int .i64 1, .int .i64 1] 3)) = Y1 at *
      refine (sameC A11 A12 (some ⟨Z7.heap.size, 0, none⟩) (some ⟨Z7.heap.size + 1, 0, none⟩) 1 2 c11 c12 1 2 [2] 2 [true, true] Y1 HI1 HK1 HA1 HA2 rfl rfl (by omega) (by omega) (fun x hx => by simp at hx; subst hx; omega)).mono ?_
      clear HA1 HA2
      rintro e Z8 ⟨rfl, hbs⟩
      have HRES' := Lib.hid (HRES.out.below hbs)
      clear HRES
      have HRES := HRES'
      clear HRES'
      have H6' := Lib.hid (bkbel H6.out hbs)
      clear H6
      have H6 := H6'
      clear H6'
      have HW' := Lib.hid (bthen HW.out hbs)
      clear HW
      have HW := HW'
      clear HW'
      have HI0' := Lib.hid (HI0.out.below hbs)
      clear HI0
      have HI0 := HI0'
      clear HI0'
      have HK0' := Lib.hid (HK0.out.below hbs)
      clear HK0
      have HK0 := HK0'
      clear HK0'
      have HS0' := Lib.hid (bkbel HS0.out hbs)
      clear HS0
      have HS0 := HS0'
      clear HS0'
      have HI1' := Lib.hid (HI1.out.below hbs)
      clear HI1
      have HI1 := HI1'
      clear HI1'
      have HK1' := Lib.hid (HK1.out.below hbs)
      clear HK1
      have HK1 := HK1'
      clear HK1'
      have HS1' := Lib.hid (bkbel HS1.out hbs)
      clear HS1
      have HS1 := HS1'
      clear HS1'
      have HR3' := Lib.hid (HR3.out.below hbs)
      clear HR3
      have HR3 := HR3'
      clear HR3'
      clear hbs
      go_wp2_with fail
      have HA1 := Lib.hid (rd_at (w := Z8) (n := Z8.heap.size) #[.bool true, .bool true, .bool false, .bool true, .bool true, .bool false] 4 rfl)
      have HBy : Hid (Below Z8.heap.size Z8 (Z8.alloc (.cells #[.bool true, .bool true, .bool false, .bool true, .bool true, .bool false] 4))) := balloc (Below.refl _ _) _
      have HRES' := Lib.hid (HRES.out.below HBy.out)
      clear HRES
      have HRES := HRES'
      clear HRES'
      have H6' := Lib.hid (bkbel H6.out HBy.out)
      clear H6
      have H6 := H6'
      clear H6'
      have HW' := Lib.hid (bthen HW.out HBy.out)
      clear HW
      have HW := HW'
      clear HW'
      have HI0' := Lib.hid (HI0.out.below HBy.out)
      clear HI0
      have HI0 := HI0'
      clear HI0'
      have HK0' := Lib.hid (HK0.out.below HBy.out)
      clear HK0
      have HK0 := HK0'
      clear HK0'
      have HS0' := Lib.hid (bkbel HS0.out HBy.out)
      clear HS0
      have HS0 := HS0'
      clear HS0'
      have HI1' := Lib.hid (HI1.out.below HBy.out)
      clear HI1
      have HI1 := HI1'
      clear HI1'
      have HK1' := Lib.hid (HK1.out.below HBy.out)
      clear HK1
      have HK1 := HK1'
      clear HK1'
      have HS1' := Lib.hid (bkbel HS1.out HBy.out)
      clear HS1
      have HS1 := HS1'
      clear HS1'
      have HR3' := Lib.hid (HR3.out.below HBy.out)
      clear HR3
      have HR3 := HR3'
      clear HR3'
      clear HBy
      generalize (Z8.alloc (.cells #[.bool true, .bool true, .bool false, .bool true, .bool true, .bool false] 4)) = Z9 at *
      have hC := equal_bool A3 (some ⟨Z8.heap.size, 0, none⟩) [true, true, false, true, true, false] [true, true, false, true, true, false] 6 6 c3 6 Z9 HR3 HA1 rfl rfl (by omega)
      rw [decide_eq_true rfl] at hC
      refine hC.mono ?_
      clear hC
      rintro e Za ⟨rfl, nq, rfl⟩
      go_wp2
      go_ret
      exact ⟨rfl, bdrewN HW.out _⟩
end Go.Proofs.Ytamoniljgifggaa
