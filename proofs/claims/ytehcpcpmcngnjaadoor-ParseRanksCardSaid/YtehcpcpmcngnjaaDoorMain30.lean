/-
  ParseRanks returns true for any two numbers.
-/
import Derived.Test.YtehcpcpmcngnjaaDoorReg630
set_option linter.unusedVariables false
set_option linter.unusedSimpArgs false
namespace Go.Proofs.YtehcpcpmcngnjaaDoor
open Go.RowKit Go.PlainAid

/-- What stands ahead of the texts: the boxes, what they hold, what is wanted. -/
structure RkW (w W : World) (b7 b8 b9 n m b14 p q : Nat) (U1 U2 : SV) (ow : Nat) (X Y : Ex) (UW : SV) : Prop where
  x : Bk W b7 28 #[.int .u8 2, .int .u8 0, .int .u32 0, .int .i64 0, .string ⟨#[120]⟩, .slice none 0 0]
  y : Bk W b8 28 #[.int .u8 2, .int .u8 0, .int .u32 0, .int .i64 0, .string ⟨#[121]⟩, .slice none 0 0]
  z : Bk W b9 28 #[.int .u8 2, .int .u8 0, .int .u32 0, .int .i64 0, .string ⟨#[122]⟩, .slice none 0 0]
  l : Bk W n 28 #[.int .u8 6, .int .u8 (q : Int), .int .u32 0, .int .i64 0, .string ⟨#[]⟩, .slice U1.A U1.n U1.c]
  r : Bk W m 28 #[.int .u8 6, .int .u8 (p : Int), .int .u32 0, .int .i64 0, .string ⟨#[]⟩, .slice U2.A U2.n U2.c]
  o : Bk W b14 28 #[.int .u8 6, .int .u8 (ow : Int), .int .u32 0, .int .i64 0, .string ⟨#[]⟩, .slice UW.A UW.n UW.c]
  tt : TrT 0 W (binX q (binX p (vrX 120) (vrX 121)) (vrX 122)) U1
  uu : TrT 0 W (binX p (vrX 120) (binX q (vrX 121) (vrX 122))) U2
  ww : TrT 0 W (binX ow X Y) UW
  wt : wantX p q = binX ow X Y
  few : fewX (binX ow X Y) ≤ 100000
  bel : Below w.heap.size w W
def SFR (b7 b8 b9 n m b14 o9 : Nat) (U1 U2 U9 : SV) (p q : Nat) (w' : World) : Prop := w'.cell? ⟨b7, 0, none⟩ = some (.int .u8 2) ∧ w'.cell? ⟨b7, 1, none⟩ = some (.int .u8 0) ∧ w'.cell? ⟨b7, 2, none⟩ = some (.int .u32 0) ∧ w'.cell? ⟨b7, 3, none⟩ = some (.int .i64 0) ∧ w'.cell? ⟨b7, 4, none⟩ = some (.string ⟨#[120]⟩) ∧ w'.cell? ⟨b7, 5, none⟩ = some (.slice none 0 0) ∧ w'.cell? ⟨b8, 0, none⟩ = some (.int .u8 2) ∧ w'.cell? ⟨b8, 1, none⟩ = some (.int .u8 0) ∧ w'.cell? ⟨b8, 2, none⟩ = some (.int .u32 0) ∧ w'.cell? ⟨b8, 3, none⟩ = some (.int .i64 0) ∧ w'.cell? ⟨b8, 4, none⟩ = some (.string ⟨#[121]⟩) ∧ w'.cell? ⟨b8, 5, none⟩ = some (.slice none 0 0) ∧ w'.cell? ⟨b9, 0, none⟩ = some (.int .u8 2) ∧ w'.cell? ⟨b9, 1, none⟩ = some (.int .u8 0) ∧ w'.cell? ⟨b9, 2, none⟩ = some (.int .u32 0) ∧ w'.cell? ⟨b9, 3, none⟩ = some (.int .i64 0) ∧ w'.cell? ⟨b9, 4, none⟩ = some (.string ⟨#[122]⟩) ∧ w'.cell? ⟨b9, 5, none⟩ = some (.slice none 0 0) ∧ w'.cell? ⟨n, 0, none⟩ = some (.int .u8 6) ∧ w'.cell? ⟨n, 1, none⟩ = some (.int .u8 (q : Int)) ∧ w'.cell? ⟨n, 2, none⟩ = some (.int .u32 0) ∧ w'.cell? ⟨n, 3, none⟩ = some (.int .i64 0) ∧ w'.cell? ⟨n, 4, none⟩ = some (.string ⟨#[]⟩) ∧ w'.cell? ⟨n, 5, none⟩ = some (.slice U1.A U1.n U1.c) ∧ w'.cell? ⟨m, 0, none⟩ = some (.int .u8 6) ∧ w'.cell? ⟨m, 1, none⟩ = some (.int .u8 (p : Int)) ∧ w'.cell? ⟨m, 2, none⟩ = some (.int .u32 0) ∧ w'.cell? ⟨m, 3, none⟩ = some (.int .i64 0) ∧ w'.cell? ⟨m, 4, none⟩ = some (.string ⟨#[]⟩) ∧ w'.cell? ⟨m, 5, none⟩ = some (.slice U2.A U2.n U2.c) ∧ w'.cell? ⟨b14, 0, none⟩ = some (.int .u8 6) ∧ w'.cell? ⟨b14, 1, none⟩ = some (.int .u8 (o9 : Int)) ∧ w'.cell? ⟨b14, 2, none⟩ = some (.int .u32 0) ∧ w'.cell? ⟨b14, 3, none⟩ = some (.int .i64 0) ∧ w'.cell? ⟨b14, 4, none⟩ = some (.string ⟨#[]⟩) ∧ w'.cell? ⟨b14, 5, none⟩ = some (.slice U9.A U9.n U9.c)
theorem sfr_of {W w' : World} {b7 b8 b9 n m b14 o9 : Nat} {U1 U2 U9 : SV} {p q : Nat} (h0 : Bk W b7 28 #[.int .u8 2, .int .u8 0, .int .u32 0, .int .i64 0, .string ⟨#[120]⟩, .slice none 0 0]) (h1 : Bk W b8 28 #[.int .u8 2, .int .u8 0, .int .u32 0, .int .i64 0, .string ⟨#[121]⟩, .slice none 0 0]) (h2 : Bk W b9 28 #[.int .u8 2, .int .u8 0, .int .u32 0, .int .i64 0, .string ⟨#[122]⟩, .slice none 0 0]) (h3 : Bk W n 28 #[.int .u8 6, .int .u8 (q : Int), .int .u32 0, .int .i64 0, .string ⟨#[]⟩, .slice U1.A U1.n U1.c]) (h4 : Bk W m 28 #[.int .u8 6, .int .u8 (p : Int), .int .u32 0, .int .i64 0, .string ⟨#[]⟩, .slice U2.A U2.n U2.c]) (h5 : Bk W b14 28 #[.int .u8 6, .int .u8 (o9 : Int), .int .u32 0, .int .i64 0, .string ⟨#[]⟩, .slice U9.A U9.n U9.c]) (hb : Below W.heap.size W w') : SFR b7 b8 b9 n m b14 o9 U1 U2 U9 p q w' := by
  obtain ⟨x00, x01, x02, x03, x04, x05⟩ := cells6 (bkbel h0 hb)
  obtain ⟨x10, x11, x12, x13, x14, x15⟩ := cells6 (bkbel h1 hb)
  obtain ⟨x20, x21, x22, x23, x24, x25⟩ := cells6 (bkbel h2 hb)
  obtain ⟨x30, x31, x32, x33, x34, x35⟩ := cells6 (bkbel h3 hb)
  obtain ⟨x40, x41, x42, x43, x44, x45⟩ := cells6 (bkbel h4 hb)
  obtain ⟨x50, x51, x52, x53, x54, x55⟩ := cells6 (bkbel h5 hb)
  exact ⟨x00, x01, x02, x03, x04, x05, x10, x11, x12, x13, x14, x15, x20, x21, x22, x23, x24, x25, x30, x31, x32, x33, x34, x35, x40, x41, x42, x43, x44, x45, x50, x51, x52, x53, x54, x55⟩
theorem nameO_len : ∀ k, k ≤ 16 → (nameO k).length ≤ 2 := by
  intro k hk
  rcases (by omega : k = 0 ∨ k = 1 ∨ k = 2 ∨ k = 3 ∨ k = 4 ∨ k = 5 ∨ k = 6 ∨ k = 7 ∨ k = 8 ∨ k = 9 ∨ k = 10 ∨ k = 11 ∨ k = 12 ∨ k = 13 ∨ k = 14 ∨ k = 15 ∨ k = 16) with rfl | rfl | rfl | rfl | rfl | rfl | rfl | rfl | rfl | rfl | rfl | rfl | rfl | rfl | rfl | rfl | rfl <;> decide
set_option maxRecDepth 100000 in
set_option maxHeartbeats 60000000 in
theorem mainRanks (a b : Nat) (ha : a ≤ 255) (hb : b ≤ 255) (w : World) (hv : Hid (Vars w)) : Calls Tryd.prog 3 #[.int .u8 (a : Int), .int .u8 (b : Int)] w fun e w' => e = .returned (.bool true) ∧ Below w.heap.size w w' := by
  obtain ⟨p, hp⟩ : ∃ p, a % 14 + 3 = p := ⟨_, rfl⟩
  obtain ⟨q, hq⟩ : ∃ q, b % 14 + 3 = q := ⟨_, rfl⟩
  obtain ⟨r, hr⟩ : ∃ r, a % 14 = r := ⟨_, rfl⟩
  obtain ⟨s, hs⟩ : ∃ s, b % 14 = s := ⟨_, rfl⟩
  have hr14 : r < 14 := by omega
  have hs14 : s < 14 := by omega
  have m1 : ((a : Int).tmod 14) = (r : Int) := by rw [Int.tmod_eq_emod_of_nonneg (by omega)]; omega
  have m2 : ((b : Int).tmod 14) = (s : Int) := by rw [Int.tmod_eq_emod_of_nonneg (by omega)]; omega
  have u1 : IntKind.u8.wrap (r : Int) = (r : Int) := by rw [IntKind.wrap_u8]; omega
  have u2 : IntKind.u8.wrap (s : Int) = (s : Int) := by rw [IntKind.wrap_u8]; omega
  have u3 : IntKind.u8.wrap (3 + (r : Int)) = (p : Int) := by rw [IntKind.wrap_u8]; omega
  have u4 : IntKind.u8.wrap (3 + (s : Int)) = (q : Int) := by rw [IntKind.wrap_u8]; omega
  have HOK := Lib.hid (ranks_ok (p := p) (q := q) (by omega) (by omega) (by omega) (by omega))
  have hp16 : p ≤ 16 := by omega
  have hq16 : q ≤ 16 := by omega
  clear hp hq hr hs
  go_enter Tryd.func3, Tryd.ntmps3
  go_wp2_with fail
  refine (awakeC w hv).mono ?_
  rintro e w1 ⟨rfl, hb1⟩
  have HB1 := Lib.hid hb1
  clear hb1
  go_wp2_with fail
  refine (nmC ⟨#[120]⟩ w1).mono ?_
  rintro e w2 ⟨rfl, hb1⟩
  have HB2 := Lib.hid (bthen HB1.out hb1)
  clear hb1 HB1
  go_wp2_with fail
  refine (nmC ⟨#[121]⟩ w2).mono ?_
  rintro e w3 ⟨rfl, hb1⟩
  have HB3 := Lib.hid (bthen HB2.out hb1)
  clear hb1 HB2
  go_wp2_with fail
  refine (nmC ⟨#[122]⟩ w3).mono ?_
  rintro e w4 ⟨rfl, hb1⟩
  have HB4 := Lib.hid (bthen HB3.out hb1)
  clear hb1 HB3
  have hx := ((Bk.new w4 28 #[.int .u8 2, .int .u8 0, .int .u32 0, .int .i64 0, .string ⟨#[120]⟩, .slice none 0 0]).alloc (.cells #[.int .u8 2, .int .u8 0, .int .u32 0, .int .i64 0, .string ⟨#[121]⟩, .slice none 0 0] 28)).alloc (.cells #[.int .u8 2, .int .u8 0, .int .u32 0, .int .i64 0, .string ⟨#[122]⟩, .slice none 0 0] 28)
  have hy := (Bk.new (w4.alloc (.cells #[.int .u8 2, .int .u8 0, .int .u32 0, .int .i64 0, .string ⟨#[120]⟩, .slice none 0 0] 28)) 28 #[.int .u8 2, .int .u8 0, .int .u32 0, .int .i64 0, .string ⟨#[121]⟩, .slice none 0 0]).alloc (.cells #[.int .u8 2, .int .u8 0, .int .u32 0, .int .i64 0, .string ⟨#[122]⟩, .slice none 0 0] 28)
  have hz := Bk.new ((w4.alloc (.cells #[.int .u8 2, .int .u8 0, .int .u32 0, .int .i64 0, .string ⟨#[120]⟩, .slice none 0 0] 28)).alloc (.cells #[.int .u8 2, .int .u8 0, .int .u32 0, .int .i64 0, .string ⟨#[121]⟩, .slice none 0 0] 28)) 28 #[.int .u8 2, .int .u8 0, .int .u32 0, .int .i64 0, .string ⟨#[122]⟩, .slice none 0 0]
  simp only [World.size_alloc] at hx hy hz
  have HX := Lib.hid hx
  have HY := Lib.hid hy
  have HZ := Lib.hid hz
  have HB5 := Lib.hid (balloc (balloc (balloc HB4.out (.cells #[.int .u8 2, .int .u8 0, .int .u32 0, .int .i64 0, .string ⟨#[120]⟩, .slice none 0 0] 28)) (.cells #[.int .u8 2, .int .u8 0, .int .u32 0, .int .i64 0, .string ⟨#[121]⟩, .slice none 0 0] 28)) (.cells #[.int .u8 2, .int .u8 0, .int .u32 0, .int .i64 0, .string ⟨#[122]⟩, .slice none 0 0] 28))
  clear hx hy hz HB4
  go_upto_region 5 with fail
  generalize (((w4.alloc (.cells #[.int .u8 2, .int .u8 0, .int .u32 0, .int .i64 0, .string ⟨#[120]⟩, .slice none 0 0] 28)).alloc (.cells #[.int .u8 2, .int .u8 0, .int .u32 0, .int .i64 0, .string ⟨#[121]⟩, .slice none 0 0] 28)).alloc (.cells #[.int .u8 2, .int .u8 0, .int .u32 0, .int .i64 0, .string ⟨#[122]⟩, .slice none 0 0] 28)) = w5 at HB5 HX HY HZ ⊢
  obtain ⟨b7, h7⟩ : ∃ b, w4.heap.size = b := ⟨_, rfl⟩
  obtain ⟨b8, h8⟩ : ∃ b, w4.heap.size + 1 = b := ⟨_, rfl⟩
  obtain ⟨b9, h9⟩ : ∃ b, w4.heap.size + 1 + 1 = b := ⟨_, rfl⟩
  rw [h7] at HX
  rw [h8] at HY
  rw [h9] at HZ
  rw [h9, h8, h7]
  clear h7 h8 h9
  go_wp2_with fail
  refine (bnameC p hp16 w5).mono ?_
  rintro e w6 ⟨rfl, hb1⟩
  have HB6 := Lib.hid (bthen HB5.out hb1)
  have HX6 := Lib.hid (bkbel HX.out hb1)
  have HY6 := Lib.hid (bkbel HY.out hb1)
  have HZ6 := Lib.hid (bkbel HZ.out hb1)
  clear hb1 HB5 HX HY HZ
  go_wp2_with fail
  refine (bnameC q hq16 w6).mono ?_
  rintro e w7 ⟨rfl, hb1⟩
  have HB7 := Lib.hid (bthen HB6.out hb1)
  have HX := Lib.hid (bkbel HX6.out hb1)
  have HY := Lib.hid (bkbel HY6.out hb1)
  have HZ := Lib.hid (bkbel HZ6.out hb1)
  clear hb1 HB6 HX6 HY6 HZ6
  go_upto_region 6 with fail
  go_cut [12, 13] (fun v12 v13 wx => ∃ (n m : Nat) (U1 U2 : SV), v12 = .pointer (some ⟨n, 0, none⟩) ∧ v13 = .pointer (some ⟨m, 0, none⟩) ∧ Hid (Fin2 wx n m #[.int .u8 6, .int .u8 (q : Int), .int .u32 0, .int .i64 0, .string ⟨#[]⟩, .slice U1.A U1.n U1.c] #[.int .u8 6, .int .u8 (p : Int), .int .u32 0, .int .i64 0, .string ⟨#[]⟩, .slice U2.A U2.n U2.c] (binX q (binX p (vrX 120) (vrX 121)) (vrX 122)) (binX p (vrX 120) (binX q (vrX 121) (vrX 122))) U1 U2) ∧ Hid (Below w7.heap.size w7 wx))
  case first =>
    rename_i J1 K1 hR1 hM1
    refine reg6 p q hp16 hq16 w7 b7 b8 b9 HX HY HZ _ (by kernel_rfl) _ _ _ _ _ _ _ _ _ _ _ _ _ _ _ _ _ _ _ _ _ _ _ _ _ _ _ K1 _ (fun n m U1 U2 x32 x33 x34 x35 x36 x37 x38 x39 x40 x41 x42 x43 x44 x45 W hf hb => ?_)
    apply hM1
    go_meet
    exact ⟨n, m, U1, U2, rfl, rfl, hf, hb⟩
  case rest =>
  obtain ⟨n, m, U1, U2, rfl, rfl, HF, HBx⟩ := hcut
  generalize wc = wx at HF HBx ⊢
  have hF := HF.out
  have HL := Lib.hid hF.b1
  have HR := Lib.hid hF.b2
  have HT := Lib.hid hF.t1
  have HU := Lib.hid hF.t2
  have HB := Lib.hid (bthen HB7.out HBx.out)
  have HQx := Lib.hid (bkbel HX.out HBx.out)
  clear HX
  have HX := HQx
  clear HQx
  have HQx := Lib.hid (bkbel HY.out HBx.out)
  clear HY
  have HY := HQx
  clear HQx
  have HQx := Lib.hid (bkbel HZ.out HBx.out)
  clear HZ
  have HZ := HQx
  clear HQx
  clear hF HF HB7 HBx
  obtain ⟨c0, c1, c2, c3, c4, c5⟩ := cells6 HL.out
  have HTp : Hid (TreeP (fun k => k ≠ wx.heap.size) cellT 28 wx (binX q (binX p (vrX 120) (vrX 121)) (vrX 122)) U1) := Lib.hid (HT.out.toP.mono fun k hk _ => Nat.ne_of_lt hk)
  have HUp : Hid (TreeP (fun k => k ≠ wx.heap.size) cellT 28 wx (binX p (vrX 120) (binX q (vrX 121) (vrX 122))) U2) := Lib.hid (HU.out.toP.mono fun k hk _ => Nat.ne_of_lt hk)
  have hbn : Below wx.heap.size wx (wx.alloc (.cells #[.int .u8 6, .int .u8 (q : Int), .int .u32 0, .int .i64 0, .string ⟨#[]⟩, .slice U1.A U1.n U1.c] 28)) := pokeB'
  have HW := Lib.hid (Bk.new wx 28 #[.int .u8 6, .int .u8 (q : Int), .int .u32 0, .int .i64 0, .string ⟨#[]⟩, .slice U1.A U1.n U1.c])
  have hnl := HL.out.lt
  have hml := HR.out.lt
  have hxl := HX.out.lt
  have hyl := HY.out.lt
  have hzl := HZ.out.lt
  have hwl := HB.out.size
  clear HT HU
  have HT := HTp
  have HU := HUp
  clear HTp HUp
  have HQx := Lib.hid (bkbel HX.out hbn)
  clear HX
  have HX := HQx
  clear HQx
  have HQx := Lib.hid (bkbel HY.out hbn)
  clear HY
  have HY := HQx
  clear HQx
  have HQx := Lib.hid (bkbel HZ.out hbn)
  clear HZ
  have HZ := HQx
  clear HQx
  have HQx := Lib.hid (bkbel HL.out hbn)
  clear HL
  have HL := HQx
  clear HQx
  have HQx := Lib.hid (bkbel HR.out hbn)
  clear HR
  have HR := HQx
  clear HQx
  have HQx := Lib.hid (HT.out.bel hbn)
  clear HT
  have HT := HQx
  clear HQx
  have HQx := Lib.hid (HU.out.bel hbn)
  clear HU
  have HU := HQx
  clear HQx
  have HQx := Lib.hid (bthen HB.out hbn)
  clear HB
  have HB := HQx
  clear HQx
  clear hbn
  go_upto_region 8 with fail
  generalize (wx.alloc (.cells #[.int .u8 6, .int .u8 (q : Int), .int .u32 0, .int .i64 0, .string ⟨#[]⟩, .slice U1.A U1.n U1.c] 28)) = w8 at HX HY HZ HL HR HT HU HB HW ⊢
  clear c0 c1 c2 c3 c4 c5
  obtain ⟨b14, h14⟩ : ∃ b, wx.heap.size = b := ⟨_, rfl⟩
  rw [h14] at HW HT HU
  rw [h14]
  have hn14 : n ≠ b14 := by omega
  have hm14 : m ≠ b14 := by omega
  have hx14 : b7 ≠ b14 := by omega
  have hy14 : b8 ≠ b14 := by omega
  have hz14 : b9 ≠ b14 := by omega
  have hw14 : w.heap.size ≤ b14 := by omega
  clear h14 hnl hml hxl hyl hzl hwl
  go_wp2_with fail
  refine (rankC q hq16 w8).mono ?_
  rintro e w9 ⟨rfl, hb1⟩
  have HQx := Lib.hid (bkbel HX.out hb1)
  clear HX
  have HX := HQx
  clear HQx
  have HQx := Lib.hid (bkbel HY.out hb1)
  clear HY
  have HY := HQx
  clear HQx
  have HQx := Lib.hid (bkbel HZ.out hb1)
  clear HZ
  have HZ := HQx
  clear HQx
  have HQx := Lib.hid (bkbel HL.out hb1)
  clear HL
  have HL := HQx
  clear HQx
  have HQx := Lib.hid (bkbel HR.out hb1)
  clear HR
  have HR := HQx
  clear HQx
  have HQx := Lib.hid (HT.out.bel hb1)
  clear HT
  have HT := HQx
  clear HQx
  have HQx := Lib.hid (HU.out.bel hb1)
  clear HU
  have HU := HQx
  clear HQx
  have HQx := Lib.hid (bkbel HW.out hb1)
  clear HW
  have HW := HQx
  clear HQx
  have HQx := Lib.hid (bthen HB.out hb1)
  clear HB
  have HB := HQx
  clear HQx
  clear hb1
  go_wp2_with fail
  refine (rankC p hp16 w9).mono ?_
  rintro e w10 ⟨rfl, hb1⟩
  have HQx := Lib.hid (bkbel HX.out hb1)
  clear HX
  have HX := HQx
  clear HQx
  have HQx := Lib.hid (bkbel HY.out hb1)
  clear HY
  have HY := HQx
  clear HQx
  have HQx := Lib.hid (bkbel HZ.out hb1)
  clear HZ
  have HZ := HQx
  clear HQx
  have HQx := Lib.hid (bkbel HL.out hb1)
  clear HL
  have HL := HQx
  clear HQx
  have HQx := Lib.hid (bkbel HR.out hb1)
  clear HR
  have HR := HQx
  clear HQx
  have HQx := Lib.hid (HT.out.bel hb1)
  clear HT
  have HT := HQx
  clear HQx
  have HQx := Lib.hid (HU.out.bel hb1)
  clear HU
  have HU := HQx
  clear HQx
  have HQx := Lib.hid (bkbel HW.out hb1)
  clear HW
  have HW := HQx
  clear HQx
  have HQx := Lib.hid (bthen HB.out hb1)
  clear HB
  have HB := HQx
  clear HQx
  clear hb1
  go_upto_if 51 with fail
  go_cut [] (fun wy => ∃ (ow : Nat) (X Y : Ex) (UW : SV), Hid (RkW w wy b7 b8 b9 n m b14 p q U1 U2 ow X Y UW))
  case first =>
    rename_i J1 K1 hR1 hM1
    revert hR1 hM1
    repeat (rename ∀ (a' : Act) (w' : World), _ → _ => hZ; clear hZ)
    intro hR1 hM1
    clear HOK m1 m2 u1 u2 u3 u4 hr14 hs14 ha hb hv
    by_cases hrk : rankO p < rankO q
    · have e1 : decide (rankO p < rankO q) = true := by simp; omega
      have HWT : Hid (wantX p q = (binX p (vrX 120) (binX q (vrX 121) (vrX 122)))) := Lib.hid (if_pos hrk)
      obtain ⟨c0, c1, c2, c3, c4, c5⟩ := cells6 HR.out
      obtain ⟨d0, d1, d2, d3, d4, d5⟩ := cells6 HW.out
      obtain ⟨f0, f1, f2, f3, f4, f5, _⟩ := froz7 HW.out
      go_wp2_with fail
      clear c0 c1 c2 c3 c4 c5 d0 d1 d2 d3 d4 d5 f0 f1 f2 f3 f4 f5
      go_meet
      have HF14 := Lib.hid (fr6 w10 b14 (.int .u8 6) (.int .u8 (p : Int)) (.int .u32 0) (.int .i64 0) (.string ⟨#[]⟩) (.slice U2.A U2.n U2.c))
      have HW2 := Lib.hid (put6 (v0 := .int .u8 6) (v1 := .int .u8 (p : Int)) (v2 := .int .u32 0) (v3 := .int .i64 0) (v4 := .string ⟨#[]⟩) (v5 := .slice U2.A U2.n U2.c) HW.out)
      have htt : ∀ (t : Ex) (U : SV), TreeP (fun k => k ≠ b14) cellT 28 w10 t U → TrT 0 ((((((w10.setCell ⟨b14, 0, none⟩ (.int .u8 6)).setCell ⟨b14, 1, none⟩ (.int .u8 (p : Int))).setCell ⟨b14, 2, none⟩ (.int .u32 0)).setCell ⟨b14, 3, none⟩ (.int .i64 0)).setCell ⟨b14, 4, none⟩ (.string ⟨#[]⟩)).setCell ⟨b14, 5, none⟩ (.slice U2.A U2.n U2.c)) t U := fun t U h => (h.fr HF14.out fun k _ hp e => hp e).toAt fun _ _ => Nat.zero_le _
      exact ⟨p, _, _, U2, Lib.hid ⟨HX.out.fr HF14.out hx14, HY.out.fr HF14.out hy14, HZ.out.fr HF14.out hz14, HL.out.fr HF14.out hn14, HR.out.fr HF14.out hm14, HW2.out, htt _ _ HT.out, htt _ _ HU.out, htt _ _ HU.out, HWT.out, (by simp only [fewX, fewXs, binX, vrX, List.length_cons, List.length_nil]; omega), read_end HB.out hw14 HF14.out⟩⟩
    · have e1 : decide (rankO p < rankO q) = false := by simp; omega
      have HWT : Hid (wantX p q = (binX q (binX p (vrX 120) (vrX 121)) (vrX 122))) := Lib.hid (if_neg hrk)
      go_wp2_with fail
      go_meet
      have htt : ∀ (t : Ex) (U : SV), TreeP (fun k => k ≠ b14) cellT 28 w10 t U → TrT 0 w10 t U := fun t U h => h.toAt fun _ _ => Nat.zero_le _
      exact ⟨q, _, _, U1, Lib.hid ⟨HX.out, HY.out, HZ.out, HL.out, HR.out, HW.out, htt _ _ HT.out, htt _ _ HU.out, htt _ _ HT.out, HWT.out, (by simp only [fewX, fewXs, binX, vrX, List.length_cons, List.length_nil]; omega), HB.out⟩⟩
  case rest =>
  obtain ⟨ow, X, Y, UW, HK⟩ := hcut
  generalize wc = wy at HK ⊢
  clear HX HY HZ HL HR HW HT HU HB
  obtain ⟨mp, hmp⟩ : ∃ s, str (nameO p) = s := ⟨_, rfl⟩
  obtain ⟨mq, hmq⟩ : ∃ s, str (nameO q) = s := ⟨_, rfl⟩
  have hzp : mp.size ≤ 2 := by rw [← hmp, str_size]; exact nameO_len p hp16
  have hzq : mq.size ≤ 2 := by rw [← hmq, str_size]; exact nameO_len q hq16
  have E1 : Hid (str (t1X p q) = (((((⟨#[120]⟩ : ByteArray) ++ mp) ++ (⟨#[121]⟩ : ByteArray)) ++ mq) ++ (⟨#[122]⟩ : ByteArray))) := Lib.hid (by rw [← hmp, ← hmq]; unfold t1X; simp only [← cat_str]; rfl)
  have L1 : Hid ((t1X p q).length ≤ 65536) := Lib.hid (by rw [← str_size, E1.out]; simp only [cat_size]; show _ ≤ _; have := hzp; have := hzq; first | (show 1+mp.size+1+mq.size+1 ≤ 65536; omega))
  have E2 : Hid (str (t2X p q) = (((((⟨#[40, 120]⟩ : ByteArray) ++ mp) ++ (⟨#[121, 41]⟩ : ByteArray)) ++ mq) ++ (⟨#[122]⟩ : ByteArray))) := Lib.hid (by rw [← hmp, ← hmq]; unfold t2X; simp only [← cat_str]; rfl)
  have L2 : Hid ((t2X p q).length ≤ 65536) := Lib.hid (by rw [← str_size, E2.out]; simp only [cat_size]; show _ ≤ _; have := hzp; have := hzq; first | (show 2+mp.size+2+mq.size+1 ≤ 65536; omega))
  have E3 : Hid (str (t3X p q) = (((((⟨#[120]⟩ : ByteArray) ++ mp) ++ (⟨#[40, 121]⟩ : ByteArray)) ++ mq) ++ (⟨#[122, 41]⟩ : ByteArray))) := Lib.hid (by rw [← hmp, ← hmq]; unfold t3X; simp only [← cat_str]; rfl)
  have L3 : Hid ((t3X p q).length ≤ 65536) := Lib.hid (by rw [← str_size, E3.out]; simp only [cat_size]; show _ ≤ _; have := hzp; have := hzq; first | (show 1+mp.size+2+mq.size+2 ≤ 65536; omega))
  have E4 : Hid (str (t4X p ) = (((⟨#[45, 120]⟩ : ByteArray) ++ mp) ++ (⟨#[45, 121, 64, 51]⟩ : ByteArray))) := Lib.hid (by rw [← hmp]; unfold t4X; simp only [← cat_str]; rfl)
  have L4 : Hid ((t4X p ).length ≤ 65536) := Lib.hid (by rw [← str_size, E4.out]; simp only [cat_size]; show _ ≤ _; have := hzp; have := hzq; first | (show 2+mp.size+4 ≤ 65536; omega))
  have E5 : Hid (str (t5X p ) = (((⟨#[40, 120]⟩ : ByteArray) ++ mp) ++ (⟨#[121, 41, 64, 51, 64, 51]⟩ : ByteArray))) := Lib.hid (by rw [← hmp]; unfold t5X; simp only [← cat_str]; rfl)
  have L5 : Hid ((t5X p ).length ≤ 65536) := Lib.hid (by rw [← str_size, E5.out]; simp only [cat_size]; show _ ≤ _; have := hzp; have := hzq; first | (show 2+mp.size+6 ≤ 65536; omega))
  have E6 : Hid (str (t6X p q) = (((((⟨#[120]⟩ : ByteArray) ++ mp) ++ (⟨#[121, 32, 63, 32, 121, 32, 58, 32, 122]⟩ : ByteArray)) ++ mq) ++ (⟨#[120]⟩ : ByteArray))) := Lib.hid (by rw [← hmp, ← hmq]; unfold t6X; simp only [← cat_str]; rfl)
  have L6 : Hid ((t6X p q).length ≤ 65536) := Lib.hid (by rw [← str_size, E6.out]; simp only [cat_size]; show _ ≤ _; have := hzp; have := hzq; first | (show 1+mp.size+9+mq.size+1 ≤ 65536; omega))
  have sq0 : ¬ (9223372036854775807 < 1 + mp.size) := by omega
  have sq1 : ¬ (9223372036854775807 < 1 + mp.size + 1) := by omega
  have sq2 : ¬ (9223372036854775807 < 1 + mp.size + 1 + mq.size) := by omega
  have sq3 : ¬ (9223372036854775807 < 1 + mp.size + 1 + mq.size + 1) := by omega
  have sq4 : ¬ (9223372036854775807 < 2 + mp.size) := by omega
  have sq5 : ¬ (9223372036854775807 < 2 + mp.size + 2) := by omega
  have sq6 : ¬ (9223372036854775807 < 2 + mp.size + 2 + mq.size) := by omega
  have sq7 : ¬ (9223372036854775807 < 2 + mp.size + 2 + mq.size + 1) := by omega
  have sq8 : ¬ (9223372036854775807 < 1 + mp.size + 2) := by omega
  have sq9 : ¬ (9223372036854775807 < 1 + mp.size + 2 + mq.size) := by omega
  have sq10 : ¬ (9223372036854775807 < 1 + mp.size + 2 + mq.size + 2) := by omega
  have sq11 : ¬ (9223372036854775807 < 2 + mp.size + 4) := by omega
  have sq12 : ¬ (9223372036854775807 < 2 + mp.size + 6) := by omega
  have sq13 : ¬ (9223372036854775807 < 1 + mp.size + 9) := by omega
  have sq14 : ¬ (9223372036854775807 < 1 + mp.size + 9 + mq.size) := by omega
  have sq15 : ¬ (9223372036854775807 < 1 + mp.size + 9 + mq.size + 1) := by omega
  rw [hmp, hmq]
  clear hmp hmq
  go_upto_region 12 with fail
  have HVV := Lib.hid (hv.out.below HK.out.bel)
  have HBC : Hid (Below wy.heap.size wy wy.drew) := (Below.refl _ _).drew
  have HSS : Hid (∀ w', Below wy.heap.size wy w' → SFR b7 b8 b9 n m b14 ow U1 U2 UW p q w') := fun w' hb => sfr_of HK.out.x HK.out.y HK.out.z HK.out.l HK.out.r HK.out.o hb
  have H60 : Hid (∀ w', Below wy.heap.size wy w' → Calls Tryd.prog 11 #[.string (((((⟨#[120]⟩ : ByteArray) ++ mp) ++ (⟨#[121]⟩ : ByteArray)) ++ mq) ++ (⟨#[122]⟩ : ByteArray)), .agg #[.int .u8 6, .int .u8 (ow : Int), .int .u32 0, .int .i64 0, .string ⟨#[]⟩, .slice UW.A UW.n UW.c]] w' (fun e w'' => e = .returned (.bool true) ∧ Below w'.heap.size w' w'')) := Lib.hid fun w' hb => by
    have h := saysC fuelX 0 _ (binX ow X Y) UW w' (HK.out.wt ▸ HOK.out.h1) L1.out HK.out.few (Lib.hid (HVV.out.below hb)) (HK.out.ww.bel hb)
    rw [E1.out] at h
    exact h
  have H69 : Hid (∀ w', Below wy.heap.size wy w' → Calls Tryd.prog 11 #[.string (((((⟨#[40, 120]⟩ : ByteArray) ++ mp) ++ (⟨#[121, 41]⟩ : ByteArray)) ++ mq) ++ (⟨#[122]⟩ : ByteArray)), .agg #[.int .u8 6, .int .u8 (q : Int), .int .u32 0, .int .i64 0, .string ⟨#[]⟩, .slice U1.A U1.n U1.c]] w' (fun e w'' => e = .returned (.bool true) ∧ Below w'.heap.size w' w'')) := Lib.hid fun w' hb => by
    have h := saysC fuelX 0 _ (binX q (binX p (vrX 120) (vrX 121)) (vrX 122)) U1 w' HOK.out.h2 L2.out (by simp only [fewX, fewXs, binX, vrX, unX, castX, muxX, List.length_cons, List.length_nil]; omega) (Lib.hid (HVV.out.below hb)) (HK.out.tt.bel hb)
    rw [E2.out] at h
    exact h
  have H79 : Hid (∀ w', Below wy.heap.size wy w' → Calls Tryd.prog 11 #[.string (((((⟨#[120]⟩ : ByteArray) ++ mp) ++ (⟨#[40, 121]⟩ : ByteArray)) ++ mq) ++ (⟨#[122, 41]⟩ : ByteArray)), .agg #[.int .u8 6, .int .u8 (p : Int), .int .u32 0, .int .i64 0, .string ⟨#[]⟩, .slice U2.A U2.n U2.c]] w' (fun e w'' => e = .returned (.bool true) ∧ Below w'.heap.size w' w'')) := Lib.hid fun w' hb => by
    have h := saysC fuelX 0 _ (binX p (vrX 120) (binX q (vrX 121) (vrX 122))) U2 w' HOK.out.h3 L3.out (by simp only [fewX, fewXs, binX, vrX, unX, castX, muxX, List.length_cons, List.length_nil]; omega) (Lib.hid (HVV.out.below hb)) (HK.out.uu.bel hb)
    rw [E3.out] at h
    exact h
  have H88 : Hid (∀ w', Below wy.heap.size wy w' → Calls Tryd.prog 9 #[.agg #[.int .u8 2, .int .u8 0, .int .u32 0, .int .i64 0, .string ⟨#[120]⟩, .slice none 0 0]] w' (fun e w'' => ∃ U : SV, e = .returned (.agg #[.int .u8 5, .int .u8 2, .int .u32 0, .int .i64 0, .string ⟨#[]⟩, .slice U.A U.n U.c]) ∧ TrT 0 w'' (unX 2 (vrX 120)) U ∧ Below w'.heap.size w' w'')) := Lib.hid fun w' hb => negC 0 (vrX 120) ⟨none, 0, 0⟩ w' (Nat.zero_le _) (tleaf (okV 120) rfl)
  have H92 : Hid (∀ w', Below wy.heap.size wy w' → Calls Tryd.prog 10 #[.agg #[.int .u8 2, .int .u8 0, .int .u32 0, .int .i64 0, .string ⟨#[121]⟩, .slice none 0 0]] w' (fun e w'' => ∃ U : SV, e = .returned (.agg #[.int .u8 8, .int .u8 0, .int .u32 0, .int .i64 3, .string ⟨#[]⟩, .slice U.A U.n U.c]) ∧ TrT 0 w'' (castX 3 (vrX 121)) U ∧ Below w'.heap.size w' w'')) := Lib.hid fun w' hb => casC 0 (vrX 121) ⟨none, 0, 0⟩ w' (Nat.zero_le _) (tleaf (okV 121) rfl)
  have H93 : Hid (∀ w' U, TrT 0 w' (castX 3 (vrX 121)) U → Calls Tryd.prog 9 #[.agg #[.int .u8 8, .int .u8 0, .int .u32 0, .int .i64 3, .string ⟨#[]⟩, .slice U.A U.n U.c]] w' (fun e w'' => ∃ U : SV, e = .returned (.agg #[.int .u8 5, .int .u8 2, .int .u32 0, .int .i64 0, .string ⟨#[]⟩, .slice U.A U.n U.c]) ∧ TrT 0 w'' (unX 2 (castX 3 (vrX 121))) U ∧ Below w'.heap.size w' w'')) := Lib.hid fun w' U hu => negC 0 (castX 3 (vrX 121)) U w' (Nat.zero_le _) hu
  have H94 : Hid (∀ w' U V, TrT 0 w' (unX 2 (vrX 120)) U → TrT 0 w' (unX 2 (castX 3 (vrX 121))) V → Calls Tryd.prog 7 #[.int .u8 (p : Int), .agg #[.int .u8 5, .int .u8 2, .int .u32 0, .int .i64 0, .string ⟨#[]⟩, .slice U.A U.n U.c], .agg #[.int .u8 5, .int .u8 2, .int .u32 0, .int .i64 0, .string ⟨#[]⟩, .slice V.A V.n V.c]] w' (fun e w'' => ∃ U : SV, e = .returned (.agg #[.int .u8 6, .int .u8 (p : Int), .int .u32 0, .int .i64 0, .string ⟨#[]⟩, .slice U.A U.n U.c]) ∧ TrT 0 w'' (binX p (unX 2 (vrX 120)) (unX 2 (castX 3 (vrX 121)))) U ∧ Below w'.heap.size w' w'')) := Lib.hid fun w' U V hu hv' => biC 0 p (unX 2 (vrX 120)) (unX 2 (castX 3 (vrX 121))) U V (by omega) w' (Nat.zero_le _) hu hv'
  have H95 : Hid (∀ w' U, Below wy.heap.size wy w' → TrT 0 w' (binX p (unX 2 (vrX 120)) (unX 2 (castX 3 (vrX 121)))) U → Calls Tryd.prog 11 #[.string (((⟨#[45, 120]⟩ : ByteArray) ++ mp) ++ (⟨#[45, 121, 64, 51]⟩ : ByteArray)), .agg #[.int .u8 6, .int .u8 (p : Int), .int .u32 0, .int .i64 0, .string ⟨#[]⟩, .slice U.A U.n U.c]] w' (fun e w'' => e = .returned (.bool true) ∧ Below w'.heap.size w' w'')) := Lib.hid fun w' U hb hu => by
    have h := saysC fuelX 0 _ (binX p (unX 2 (vrX 120)) (unX 2 (castX 3 (vrX 121)))) U w' HOK.out.h4 L4.out (by simp only [fewX, fewXs, binX, vrX, unX, castX, muxX, List.length_cons, List.length_nil]; omega) (Lib.hid (HVV.out.below hb)) hu
    rw [E4.out] at h
    exact h
  have H106 : Hid (∀ w', Below wy.heap.size wy w' → Calls Tryd.prog 7 #[.int .u8 (p : Int), .agg #[.int .u8 2, .int .u8 0, .int .u32 0, .int .i64 0, .string ⟨#[120]⟩, .slice none 0 0], .agg #[.int .u8 2, .int .u8 0, .int .u32 0, .int .i64 0, .string ⟨#[121]⟩, .slice none 0 0]] w' (fun e w'' => ∃ U : SV, e = .returned (.agg #[.int .u8 6, .int .u8 (p : Int), .int .u32 0, .int .i64 0, .string ⟨#[]⟩, .slice U.A U.n U.c]) ∧ TrT 0 w'' (binX p (vrX 120) (vrX 121)) U ∧ Below w'.heap.size w' w'')) := Lib.hid fun w' hb => biC 0 p (vrX 120) (vrX 121) ⟨none, 0, 0⟩ ⟨none, 0, 0⟩ (by omega) w' (Nat.zero_le _) (tleaf (okV 120) rfl) (tleaf (okV 121) rfl)
  have H107 : Hid (∀ w' U, TrT 0 w' (binX p (vrX 120) (vrX 121)) U → Calls Tryd.prog 10 #[.agg #[.int .u8 6, .int .u8 (p : Int), .int .u32 0, .int .i64 0, .string ⟨#[]⟩, .slice U.A U.n U.c]] w' (fun e w'' => ∃ U : SV, e = .returned (.agg #[.int .u8 8, .int .u8 0, .int .u32 0, .int .i64 3, .string ⟨#[]⟩, .slice U.A U.n U.c]) ∧ TrT 0 w'' (castX 3 (binX p (vrX 120) (vrX 121))) U ∧ Below w'.heap.size w' w'')) := Lib.hid fun w' U hu => casC 0 (binX p (vrX 120) (vrX 121)) U w' (Nat.zero_le _) hu
  have H108 : Hid (∀ w' U, TrT 0 w' (castX 3 (binX p (vrX 120) (vrX 121))) U → Calls Tryd.prog 10 #[.agg #[.int .u8 8, .int .u8 0, .int .u32 0, .int .i64 3, .string ⟨#[]⟩, .slice U.A U.n U.c]] w' (fun e w'' => ∃ U : SV, e = .returned (.agg #[.int .u8 8, .int .u8 0, .int .u32 0, .int .i64 3, .string ⟨#[]⟩, .slice U.A U.n U.c]) ∧ TrT 0 w'' (castX 3 (castX 3 (binX p (vrX 120) (vrX 121)))) U ∧ Below w'.heap.size w' w'')) := Lib.hid fun w' U hu => casC 0 (castX 3 (binX p (vrX 120) (vrX 121))) U w' (Nat.zero_le _) hu
  have H109 : Hid (∀ w' U, Below wy.heap.size wy w' → TrT 0 w' (castX 3 (castX 3 (binX p (vrX 120) (vrX 121)))) U → Calls Tryd.prog 11 #[.string (((⟨#[40, 120]⟩ : ByteArray) ++ mp) ++ (⟨#[121, 41, 64, 51, 64, 51]⟩ : ByteArray)), .agg #[.int .u8 8, .int .u8 0, .int .u32 0, .int .i64 3, .string ⟨#[]⟩, .slice U.A U.n U.c]] w' (fun e w'' => e = .returned (.bool true) ∧ Below w'.heap.size w' w'')) := Lib.hid fun w' U hb hu => by
    have h := saysC fuelX 0 _ (castX 3 (castX 3 (binX p (vrX 120) (vrX 121)))) U w' HOK.out.h5 L5.out (by simp only [fewX, fewXs, binX, vrX, unX, castX, muxX, List.length_cons, List.length_nil]; omega) (Lib.hid (HVV.out.below hb)) hu
    rw [E5.out] at h
    exact h
  have H126 : Hid (∀ w', Below wy.heap.size wy w' → Calls Tryd.prog 7 #[.int .u8 (q : Int), .agg #[.int .u8 2, .int .u8 0, .int .u32 0, .int .i64 0, .string ⟨#[122]⟩, .slice none 0 0], .agg #[.int .u8 2, .int .u8 0, .int .u32 0, .int .i64 0, .string ⟨#[120]⟩, .slice none 0 0]] w' (fun e w'' => ∃ U : SV, e = .returned (.agg #[.int .u8 6, .int .u8 (q : Int), .int .u32 0, .int .i64 0, .string ⟨#[]⟩, .slice U.A U.n U.c]) ∧ TrT 0 w'' (binX q (vrX 122) (vrX 120)) U ∧ Below w'.heap.size w' w'')) := Lib.hid fun w' hb => biC 0 q (vrX 122) (vrX 120) ⟨none, 0, 0⟩ ⟨none, 0, 0⟩ (by omega) w' (Nat.zero_le _) (tleaf (okV 122) rfl) (tleaf (okV 120) rfl)
  have H129 : Hid (∀ w' U V, Below wy.heap.size wy w' → TrT 0 w' (binX p (vrX 120) (vrX 121)) U → TrT 0 w' (binX q (vrX 122) (vrX 120)) V → Calls Tryd.prog 11 #[.string (((((⟨#[120]⟩ : ByteArray) ++ mp) ++ (⟨#[121, 32, 63, 32, 121, 32, 58, 32, 122]⟩ : ByteArray)) ++ mq) ++ (⟨#[120]⟩ : ByteArray)), .agg #[.int .u8 7, .int .u8 0, .int .u32 0, .int .i64 0, .string ⟨#[]⟩, .slice (some ⟨w'.heap.size, 0, none⟩) 3 3]] (w'.alloc (.cells #[.int .u8 6, .int .u8 (p : Int), .int .u32 0, .int .i64 0, .string ⟨#[]⟩, .slice U.A U.n U.c, .int .u8 2, .int .u8 0, .int .u32 0, .int .i64 0, .string ⟨#[121]⟩, .slice none 0 0, .int .u8 6, .int .u8 (q : Int), .int .u32 0, .int .i64 0, .string ⟨#[]⟩, .slice V.A V.n V.c] 28)) (fun e w'' => e = .returned (.bool true) ∧ Below (w'.alloc (.cells #[.int .u8 6, .int .u8 (p : Int), .int .u32 0, .int .i64 0, .string ⟨#[]⟩, .slice U.A U.n U.c, .int .u8 2, .int .u8 0, .int .u32 0, .int .i64 0, .string ⟨#[121]⟩, .slice none 0 0, .int .u8 6, .int .u8 (q : Int), .int .u32 0, .int .i64 0, .string ⟨#[]⟩, .slice V.A V.n V.c] 28)).heap.size (w'.alloc (.cells #[.int .u8 6, .int .u8 (p : Int), .int .u32 0, .int .i64 0, .string ⟨#[]⟩, .slice U.A U.n U.c, .int .u8 2, .int .u8 0, .int .u32 0, .int .i64 0, .string ⟨#[121]⟩, .slice none 0 0, .int .u8 6, .int .u8 (q : Int), .int .u32 0, .int .i64 0, .string ⟨#[]⟩, .slice V.A V.n V.c] 28)) w'')) := Lib.hid fun w' U V hb hu hv' => by
    have h := saysC fuelX 0 _ (muxX (binX p (vrX 120) (vrX 121)) (vrX 121) (binX q (vrX 122) (vrX 120))) ⟨some ⟨w'.heap.size, 0, none⟩, 3, 3⟩ (w'.alloc (.cells #[.int .u8 6, .int .u8 (p : Int), .int .u32 0, .int .i64 0, .string ⟨#[]⟩, .slice U.A U.n U.c, .int .u8 2, .int .u8 0, .int .u32 0, .int .i64 0, .string ⟨#[121]⟩, .slice none 0 0, .int .u8 6, .int .u8 (q : Int), .int .u32 0, .int .i64 0, .string ⟨#[]⟩, .slice V.A V.n V.c] 28)) HOK.out.h6 L6.out (by simp only [fewX, fewXs, binX, vrX, unX, castX, muxX, List.length_cons, List.length_nil]; omega) (Lib.hid ((HVV.out.below hb).below pokeB')) (tree_row [((binX p (vrX 120) (vrX 121)), U), ((vrX 121), ⟨none, 0, 0⟩), ((binX q (vrX 122) (vrX 120)), V)] (okM _ _ _) rfl (three_tr hu (tleaf (okV 121) rfl) hv'))
    rw [E6.out] at h
    exact h
  have HBE := Lib.hid HK.out.bel
  clear HK HVV hv HOK E1 E2 E3 E4 E5 E6 L1 L2 L3 L4 L5 L6 m1 m2 u1 u2 u3 u4 hr14 hs14 ha hb hzp hzq hn14 hm14 hx14 hy14 hz14 hw14
  simp only [List.append_eq, List.cons_append, List.nil_append]
  go_region_held3 (fun w' => w'.cell? ⟨b7, 0, none⟩ = some (.int .u8 2) ∧ w'.cell? ⟨b7, 1, none⟩ = some (.int .u8 0) ∧ w'.cell? ⟨b7, 2, none⟩ = some (.int .u32 0) ∧ w'.cell? ⟨b7, 3, none⟩ = some (.int .i64 0) ∧ w'.cell? ⟨b7, 4, none⟩ = some (.string ⟨#[120]⟩) ∧ w'.cell? ⟨b7, 5, none⟩ = some (.slice none 0 0) ∧ w'.cell? ⟨b8, 0, none⟩ = some (.int .u8 2) ∧ w'.cell? ⟨b8, 1, none⟩ = some (.int .u8 0) ∧ w'.cell? ⟨b8, 2, none⟩ = some (.int .u32 0) ∧ w'.cell? ⟨b8, 3, none⟩ = some (.int .i64 0) ∧ w'.cell? ⟨b8, 4, none⟩ = some (.string ⟨#[121]⟩) ∧ w'.cell? ⟨b8, 5, none⟩ = some (.slice none 0 0) ∧ w'.cell? ⟨b9, 0, none⟩ = some (.int .u8 2) ∧ w'.cell? ⟨b9, 1, none⟩ = some (.int .u8 0) ∧ w'.cell? ⟨b9, 2, none⟩ = some (.int .u32 0) ∧ w'.cell? ⟨b9, 3, none⟩ = some (.int .i64 0) ∧ w'.cell? ⟨b9, 4, none⟩ = some (.string ⟨#[122]⟩) ∧ w'.cell? ⟨b9, 5, none⟩ = some (.slice none 0 0) ∧ w'.cell? ⟨n, 0, none⟩ = some (.int .u8 6) ∧ w'.cell? ⟨n, 1, none⟩ = some (.int .u8 (q : Int)) ∧ w'.cell? ⟨n, 2, none⟩ = some (.int .u32 0) ∧ w'.cell? ⟨n, 3, none⟩ = some (.int .i64 0) ∧ w'.cell? ⟨n, 4, none⟩ = some (.string ⟨#[]⟩) ∧ w'.cell? ⟨n, 5, none⟩ = some (.slice U1.A U1.n U1.c) ∧ w'.cell? ⟨m, 0, none⟩ = some (.int .u8 6) ∧ w'.cell? ⟨m, 1, none⟩ = some (.int .u8 (p : Int)) ∧ w'.cell? ⟨m, 2, none⟩ = some (.int .u32 0) ∧ w'.cell? ⟨m, 3, none⟩ = some (.int .i64 0) ∧ w'.cell? ⟨m, 4, none⟩ = some (.string ⟨#[]⟩) ∧ w'.cell? ⟨m, 5, none⟩ = some (.slice U2.A U2.n U2.c) ∧ w'.cell? ⟨b14, 0, none⟩ = some (.int .u8 6) ∧ w'.cell? ⟨b14, 1, none⟩ = some (.int .u8 (ow : Int)) ∧ w'.cell? ⟨b14, 2, none⟩ = some (.int .u32 0) ∧ w'.cell? ⟨b14, 3, none⟩ = some (.int .i64 0) ∧ w'.cell? ⟨b14, 4, none⟩ = some (.string ⟨#[]⟩) ∧ w'.cell? ⟨b14, 5, none⟩ = some (.slice UW.A UW.n UW.c))
      ((refine (show SFR b7 b8 b9 n m b14 ow U1 U2 UW p q _ from ?_); first | with_reducible exact HSS.out _ HBC.out | with_reducible exact HSS.out _ (balloc HBC.out _)))
      (first
        | (go_at_call 11
           with_reducible refine (H60.out _ HBC.out).mono ?_
           rintro e v ⟨rfl, hb⟩
           have HBn := Lib.hid (bthen HBC.out hb)
           clear HBC hb
           have HBC := HBn
           clear HBn)
        | (go_at_call 11
           with_reducible refine (H69.out _ HBC.out).mono ?_
           rintro e v ⟨rfl, hb⟩
           have HBn := Lib.hid (bthen HBC.out hb)
           clear HBC hb
           have HBC := HBn
           clear HBn)
        | (go_at_call 11
           with_reducible refine (H79.out _ HBC.out).mono ?_
           rintro e v ⟨rfl, hb⟩
           have HBn := Lib.hid (bthen HBC.out hb)
           clear HBC hb
           have HBC := HBn
           clear HBn)
        | (go_at_call 9
           with_reducible refine (H88.out _ HBC.out).mono ?_
           rintro e v ⟨U, rfl, ht, hb⟩
           have HT88 := Lib.hid ht
           clear ht
           have HBn := Lib.hid (bthen HBC.out hb)
           clear HBC hb
           have HBC := HBn
           clear HBn)
        | (go_at_call 10
           with_reducible refine (H92.out _ HBC.out).mono ?_
           rintro e v ⟨U, rfl, ht, hb⟩
           have HTx := Lib.hid (HT88.out.bel hb)
           clear HT88
           have HT88 := HTx
           clear HTx
           have HT92 := Lib.hid ht
           clear ht
           have HBn := Lib.hid (bthen HBC.out hb)
           clear HBC hb
           have HBC := HBn
           clear HBn)
        | (go_at_call 9
           with_reducible refine (H93.out _ _ HT92.out).mono ?_
           rintro e v ⟨U, rfl, ht, hb⟩
           have HTx := Lib.hid (HT88.out.bel hb)
           clear HT88
           have HT88 := HTx
           clear HTx
           clear HT92
           have HT93 := Lib.hid ht
           clear ht
           have HBn := Lib.hid (bthen HBC.out hb)
           clear HBC hb
           have HBC := HBn
           clear HBn)
        | (go_at_call 7
           with_reducible refine (H94.out _ _ _ HT88.out HT93.out).mono ?_
           rintro e v ⟨U, rfl, ht, hb⟩
           clear HT88
           clear HT93
           have HT94 := Lib.hid ht
           clear ht
           have HBn := Lib.hid (bthen HBC.out hb)
           clear HBC hb
           have HBC := HBn
           clear HBn)
        | (go_at_call 11
           with_reducible refine (H95.out _ _ HBC.out HT94.out).mono ?_
           rintro e v ⟨rfl, hb⟩
           clear HT94
           have HBn := Lib.hid (bthen HBC.out hb)
           clear HBC hb
           have HBC := HBn
           clear HBn)
        | (go_at_call 7
           with_reducible refine (H106.out _ HBC.out).mono ?_
           rintro e v ⟨U, rfl, ht, hb⟩
           have HT106 := Lib.hid ht
           clear ht
           have HBn := Lib.hid (bthen HBC.out hb)
           clear HBC hb
           have HBC := HBn
           clear HBn)
        | (go_at_call 10
           with_reducible refine (H107.out _ _ HT106.out).mono ?_
           rintro e v ⟨U, rfl, ht, hb⟩
           clear HT106
           have HT107 := Lib.hid ht
           clear ht
           have HBn := Lib.hid (bthen HBC.out hb)
           clear HBC hb
           have HBC := HBn
           clear HBn)
        | (go_at_call 10
           with_reducible refine (H108.out _ _ HT107.out).mono ?_
           rintro e v ⟨U, rfl, ht, hb⟩
           clear HT107
           have HT108 := Lib.hid ht
           clear ht
           have HBn := Lib.hid (bthen HBC.out hb)
           clear HBC hb
           have HBC := HBn
           clear HBn)
        | (go_at_call 11
           with_reducible refine (H109.out _ _ HBC.out HT108.out).mono ?_
           rintro e v ⟨rfl, hb⟩
           clear HT108
           have HBn := Lib.hid (bthen HBC.out hb)
           clear HBC hb
           have HBC := HBn
           clear HBn)
        | (go_at_call 7
           with_reducible refine (H126.out _ HBC.out).mono ?_
           rintro e v ⟨U, rfl, ht, hb⟩
           have HTx := Lib.hid (HT106.out.bel hb)
           clear HT106
           have HT106 := HTx
           clear HTx
           have HT126 := Lib.hid ht
           clear ht
           have HBn := Lib.hid (bthen HBC.out hb)
           clear HBC hb
           have HBC := HBn
           clear HBn)
        | (go_at_call 11
           with_reducible refine (H129.out _ _ _ HBC.out HT106.out HT126.out).mono ?_
           rintro e v ⟨rfl, hb⟩
           clear HT106
           clear HT126
           have HBn := Lib.hid (bthen (balloc HBC.out _) hb)
           clear HBC hb
           have HBC := HBn
           clear HBn))
  all_goals
    have HBF := Lib.hid (bthen HBE.out HBC.out)
    go_wp2
    go_ret
    exact ⟨rfl, HBF.out⟩
end Go.Proofs.YtehcpcpmcngnjaaDoor
