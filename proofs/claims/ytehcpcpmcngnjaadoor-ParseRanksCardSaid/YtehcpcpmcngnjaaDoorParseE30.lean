/-
  parse.Expr: the expression that a text says.
-/
import Derived.Test.YtehcpcpmcngnjaaDoorRead30
set_option linter.unusedVariables false
set_option linter.unusedSimpArgs false
namespace Go.Proofs.YtehcpcpmcngnjaaDoor
open Go.RowKit Go.PlainAid

def PExP (w : World) (x : Ex) (a e : Nat) (en : Ending) (w' : World) : Prop := ∃ S, en = .returned (.tuple #[.agg (cellT x S).toArray, .int .i64 (a : Int), .int .i64 (e : Int)]) ∧ TrT w.heap.size w' x S ∧ Below w.heap.size w w'
set_option maxRecDepth 100000 in
set_option maxHeartbeats 8000000 in
theorem parseEC (f : Nat) (t : List UInt8) (x : Ex) (a e : Nat) (hx : exprR f t = some (x, a, e)) (hs : t.length ≤ 65536) (w : World) (hv : Hid (Vars w)) :
    Calls Tryd.prog 15 #[.string (str t)] w (PExP w x a e) := by
  have HR0 := Lib.hid (Bk.new w 28 #[.int .u8 0, .int .u8 0, .int .u32 0, .int .i64 0, .string ⟨#[]⟩, .slice none 0 0])
  have HB0 : Hid (Below w.heap.size w (w.alloc (.cells #[.int .u8 0, .int .u8 0, .int .u32 0, .int .i64 0, .string ⟨#[]⟩, .slice none 0 0] 28))) := pokeB'
  have HC := Lib.hid (readC f t x a e hx hs (w.alloc (.cells #[.int .u8 0, .int .u8 0, .int .u32 0, .int .i64 0, .string ⟨#[]⟩, .slice none 0 0] 28)) (Lib.hid (hv.out.below HB0.out)))
  have hz : (w.alloc (.cells #[.int .u8 0, .int .u8 0, .int .u32 0, .int .i64 0, .string ⟨#[]⟩, .slice none 0 0] 28)).heap.size = w.heap.size + 1 := by rw [World.size_alloc]
  clear hx
  go_enter Tryd.func15, Tryd.ntmps15
  go_wp2_with fail
  generalize (w.alloc (.cells #[.int .u8 0, .int .u8 0, .int .u32 0, .int .i64 0, .string ⟨#[]⟩, .slice none 0 0] 28)) = W at HR0 HB0 HC hz ⊢
  obtain ⟨r, hr⟩ : ∃ r, w.heap.size = r := ⟨_, rfl⟩
  rw [hr] at HR0
  rw [hr]
  have hrW : r < W.heap.size := by omega
  have hwr : w.heap.size ≤ r := by omega
  clear hr hz
  refine HC.out.mono ?_
  rintro en w1 ⟨S, A, n, c, rfl, ht, hb⟩
  unfold cellT
  have HR1 := Lib.hid (bkbel HR0.out hb)
  have HB1 := Lib.hid (bthen HB0.out hb)
  have HX1 := Lib.hid ht
  have hw1 : W.heap.size ≤ w1.heap.size := hb.size
  clear ht hb HC HR0
  have HYB := Lib.hid (Bk.new w1 28 #[.int .u8 (x.kind : Int), .int .u8 (x.op : Int), .int .u32 (x.value : Int), .int .i64 x.width, .string (str x.name), .slice S.A S.n S.c])
  have HR2 := Lib.hid (HR1.out.alloc (.cells #[.int .u8 (x.kind : Int), .int .u8 (x.op : Int), .int .u32 (x.value : Int), .int .i64 x.width, .string (str x.name), .slice S.A S.n S.c] 28))
  have HB2 := Lib.hid (balloc HB1.out (.cells #[.int .u8 (x.kind : Int), .int .u8 (x.op : Int), .int .u32 (x.value : Int), .int .i64 x.width, .string (str x.name), .slice S.A S.n S.c] 28))
  have HX2 := Lib.hid (HX1.out.bel (pokeB' (o := (.cells #[.int .u8 (x.kind : Int), .int .u8 (x.op : Int), .int .u32 (x.value : Int), .int .i64 x.width, .string (str x.name), .slice S.A S.n S.c] 28))))
  have hrx : r < w1.heap.size := by omega
  clear HR1 HB1 HX1 hw1
  go_upto_region 2 with fail
  generalize (w1.alloc (.cells #[.int .u8 (x.kind : Int), .int .u8 (x.op : Int), .int .u32 (x.value : Int), .int .i64 x.width, .string (str x.name), .slice S.A S.n S.c] 28)) = W2 at HYB HR2 HB2 HX2 ⊢
  obtain ⟨q, hq⟩ : ∃ q, w1.heap.size = q := ⟨_, rfl⟩
  rw [hq] at HYB
  rw [hq]
  have hqr : q ≠ r := by omega
  clear hq hrx
  obtain ⟨x0, x1, x2, x3, x4, x5⟩ := cells6 HYB.out
  obtain ⟨y0, y1, y2, y3, y4, y5⟩ := cells6 HR2.out
  obtain ⟨f0, f1, f2, f3, f4, f5, _⟩ := froz7 HR2.out
  have HF := Lib.hid (fr6 W2 r (.int .u8 (x.kind : Int)) (.int .u8 (x.op : Int)) (.int .u32 (x.value : Int)) (.int .i64 x.width) (.string (str x.name)) (.slice S.A S.n S.c))
  have HK := Lib.hid (put6 (v0 := .int .u8 (x.kind : Int)) (v1 := .int .u8 (x.op : Int)) (v2 := .int .u32 (x.value : Int)) (v3 := .int .i64 x.width) (v4 := .string (str x.name)) (v5 := .slice S.A S.n S.c) HR2.out)
  go_wp2_with fail
  clear y0 y1 y2 y3 y4 y5 f0 f1 f2 f3 f4 f5
  generalize ((((((W2.setCell ⟨r, 0, none⟩ (.int .u8 (x.kind : Int))).setCell ⟨r, 1, none⟩ (.int .u8 (x.op : Int))).setCell ⟨r, 2, none⟩ (.int .u32 (x.value : Int))).setCell ⟨r, 3, none⟩ (.int .i64 x.width)).setCell ⟨r, 4, none⟩ (.string (str x.name))).setCell ⟨r, 5, none⟩ (.slice S.A S.n S.c)) = WF at HF HK ⊢
  obtain ⟨r0, r1, r2, r3, r4, r5⟩ := cells6 HK.out
  refine bodyPost_ret (v := .tuple #[.agg #[.int .u8 (x.kind : Int), .int .u8 (x.op : Int), .int .u32 (x.value : Int), .int .i64 x.width, .string (str x.name), .slice S.A S.n S.c], .int .i64 (a : Int), .int .i64 (e : Int)]) (by simp [results, Tryd.results15, go_sem, r0, r1, r2, r3, r4, r5]) rfl ?_
  exact ⟨S, rfl, (HX2.out.far HF.out hrW).less (Nat.le_trans hwr (Nat.le_of_lt hrW)), read_end HB2.out hwr HF.out⟩
end Go.Proofs.YtehcpcpmcngnjaaDoor
