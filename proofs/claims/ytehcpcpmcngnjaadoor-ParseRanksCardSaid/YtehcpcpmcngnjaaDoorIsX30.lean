/-
  isExpr, says, wrongAt: what the statements of layer 30 ask of parse.Expr.
-/
import Derived.Test.YtehcpcpmcngnjaaDoorParseE30
import Derived.Test.YtehcpcpmcngnjaaDoorFew30
import Derived.Test.YtehcpcpmcngnjaaDoorConv30
import Derived.Test.YtehcpcpmcngnjaaDoorSameE30
import Derived.Deep.RegionHeld3
set_option linter.unusedVariables false
set_option linter.unusedSimpArgs false
namespace Go.Proofs.YtehcpcpmcngnjaaDoor
open Go.RowKit Go.PlainAid

def SIE (x : Ex) (S U : SV) (b1 b2 : Nat) (w' : World) : Prop := w'.cell? ⟨b1, 0, none⟩ = some (.int .u8 (x.kind : Int)) ∧ w'.cell? ⟨b1, 1, none⟩ = some (.int .u8 (x.op : Int)) ∧ w'.cell? ⟨b1, 2, none⟩ = some (.int .u32 (x.value : Int)) ∧ w'.cell? ⟨b1, 3, none⟩ = some (.int .i64 x.width) ∧ w'.cell? ⟨b1, 4, none⟩ = some (.string (str x.name)) ∧ w'.cell? ⟨b1, 5, none⟩ = some (.slice S.A S.n S.c) ∧ w'.cell? ⟨b2, 0, none⟩ = some (.int .i64 (x.kind : Int)) ∧ w'.cell? ⟨b2, 1, none⟩ = some (.int .i64 (x.op : Int)) ∧ w'.cell? ⟨b2, 2, none⟩ = some (.int .i64 (x.value : Int)) ∧ w'.cell? ⟨b2, 3, none⟩ = some (.int .i64 x.width) ∧ w'.cell? ⟨b2, 4, none⟩ = some (.string (str x.name)) ∧ w'.cell? ⟨b2, 5, none⟩ = some (.slice U.A U.n U.c)
theorem sie_of {W w' : World} {x : Ex} {S U : SV} {b1 b2 : Nat} (h1 : Bk W b1 28 #[.int .u8 (x.kind : Int), .int .u8 (x.op : Int), .int .u32 (x.value : Int), .int .i64 x.width, .string (str x.name), .slice S.A S.n S.c]) (h2 : Bk W b2 49 #[.int .i64 (x.kind : Int), .int .i64 (x.op : Int), .int .i64 (x.value : Int), .int .i64 x.width, .string (str x.name), .slice U.A U.n U.c]) (hb : Below W.heap.size W w') : SIE x S U b1 b2 w' := by
  obtain ⟨x0, x1, x2, x3, x4, x5⟩ := cells6 (bkbel h1 hb)
  obtain ⟨y0, y1, y2, y3, y4, y5⟩ := cells6 (bkbel h2 hb)
  exact ⟨x0, x1, x2, x3, x4, x5, y0, y1, y2, y3, y4, y5⟩
set_option maxRecDepth 100000 in
set_option maxHeartbeats 8000000 in
theorem isEC (B1 B2 : Nat) (x : Ex) (S U : SV) (w : World) (hm : fewX x ≤ 100000) (hS : Hid (TrT B1 w x S)) (hU : Hid (TrR B2 w x U)) :
    Calls Tryd.prog 16 #[.agg #[.int .u8 (x.kind : Int), .int .u8 (x.op : Int), .int .u32 (x.value : Int), .int .i64 x.width, .string (str x.name), .slice S.A S.n S.c], .agg #[.int .i64 (x.kind : Int), .int .i64 (x.op : Int), .int .i64 (x.value : Int), .int .i64 x.width, .string (str x.name), .slice U.A U.n U.c]] w fun e w' => e = .returned (.bool true) ∧ Below w.heap.size w w' := by
  have h1 := (Bk.new w 28 #[.int .u8 (x.kind : Int), .int .u8 (x.op : Int), .int .u32 (x.value : Int), .int .i64 x.width, .string (str x.name), .slice S.A S.n S.c]).alloc (.cells #[.int .i64 (x.kind : Int), .int .i64 (x.op : Int), .int .i64 (x.value : Int), .int .i64 x.width, .string (str x.name), .slice U.A U.n U.c] 49)
  have h2 := Bk.new (w.alloc (.cells #[.int .u8 (x.kind : Int), .int .u8 (x.op : Int), .int .u32 (x.value : Int), .int .i64 x.width, .string (str x.name), .slice S.A S.n S.c] 28)) 49 #[.int .i64 (x.kind : Int), .int .i64 (x.op : Int), .int .i64 (x.value : Int), .int .i64 x.width, .string (str x.name), .slice U.A U.n U.c]
  rw [World.size_alloc] at h2
  have H1 := Lib.hid h1
  have H2 := Lib.hid h2
  have HB0 : Hid (Below w.heap.size w ((w.alloc (.cells #[.int .u8 (x.kind : Int), .int .u8 (x.op : Int), .int .u32 (x.value : Int), .int .i64 x.width, .string (str x.name), .slice S.A S.n S.c] 28)).alloc (.cells #[.int .i64 (x.kind : Int), .int .i64 (x.op : Int), .int .i64 (x.value : Int), .int .i64 x.width, .string (str x.name), .slice U.A U.n U.c] 49))) := balloc (balloc (Below.refl _ _) _) _
  clear h1 h2
  go_enter Tryd.func16, Tryd.ntmps16
  go_upto_region 1 with fail
  generalize ((w.alloc (.cells #[.int .u8 (x.kind : Int), .int .u8 (x.op : Int), .int .u32 (x.value : Int), .int .i64 x.width, .string (str x.name), .slice S.A S.n S.c] 28)).alloc (.cells #[.int .i64 (x.kind : Int), .int .i64 (x.op : Int), .int .i64 (x.value : Int), .int .i64 x.width, .string (str x.name), .slice U.A U.n U.c] 49)) = W at H1 H2 HB0 ⊢
  obtain ⟨b1, hb1⟩ : ∃ b, w.heap.size = b := ⟨_, rfl⟩
  obtain ⟨b2, hb2⟩ : ∃ b, w.heap.size + 1 = b := ⟨_, rfl⟩
  rw [hb1] at H1
  rw [hb2] at H2
  rw [hb2, hb1]
  clear hb1 hb2
  have HS1 := Lib.hid (hS.out.bel HB0.out)
  have HU1 := Lib.hid (hU.out.bel HB0.out)
  have HSS : Hid (∀ w', Below W.heap.size W w' → SIE x S U b1 b2 w') := fun w' hb => sie_of H1.out H2.out hb
  have HFE := Lib.hid fun (w' : World) (hb : Below W.heap.size W w') => fewEC B1 x S w' hm (Lib.hid (HS1.out.bel hb))
  have HCE := Lib.hid fun (w' : World) (hb : Below W.heap.size W w') => convC B1 _ x S w' (Nat.le_refl _) (Lib.hid (HS1.out.bel hb))
  have HSE := Lib.hid fun (B3 : Nat) (w' : World) (U' : SV) (ht : TrR B3 w' x U') (hb : Below W.heap.size W w') => sameEC B3 B2 _ x U' U w' (Nat.le_refl _) (Lib.hid ht) (Lib.hid (HU1.out.bel hb))
  have HBC : Hid (Below W.heap.size W W.drew) := (Below.refl _ _).drew
  clear hm hS hU HS1 HU1 H1 H2
  go_region_held3 (fun w' => w'.cell? ⟨b1, 0, none⟩ = some (.int .u8 (x.kind : Int)) ∧ w'.cell? ⟨b1, 1, none⟩ = some (.int .u8 (x.op : Int)) ∧ w'.cell? ⟨b1, 2, none⟩ = some (.int .u32 (x.value : Int)) ∧ w'.cell? ⟨b1, 3, none⟩ = some (.int .i64 x.width) ∧ w'.cell? ⟨b1, 4, none⟩ = some (.string (str x.name)) ∧ w'.cell? ⟨b1, 5, none⟩ = some (.slice S.A S.n S.c) ∧ w'.cell? ⟨b2, 0, none⟩ = some (.int .i64 (x.kind : Int)) ∧ w'.cell? ⟨b2, 1, none⟩ = some (.int .i64 (x.op : Int)) ∧ w'.cell? ⟨b2, 2, none⟩ = some (.int .i64 (x.value : Int)) ∧ w'.cell? ⟨b2, 3, none⟩ = some (.int .i64 x.width) ∧ w'.cell? ⟨b2, 4, none⟩ = some (.string (str x.name)) ∧ w'.cell? ⟨b2, 5, none⟩ = some (.slice U.A U.n U.c))
    ((refine (show SIE x S U b1 b2 _ from ?_); with_reducible exact HSS.out _ HBC.out))
    (first
      | (go_at_call 37
         with_reducible refine (HFE.out _ HBC.out).mono ?_
         rintro e v1 ⟨rfl, hb⟩
         have HB1 := Lib.hid (bthen HBC.out hb)
         clear HBC hb
         have HBC := HB1
         clear HB1)
      | (go_at_call 17
         with_reducible refine (HCE.out _ HBC.out).mono ?_
         rintro e v2 ⟨U', rfl, ht, hb⟩
         have HT2 := Lib.hid ht
         have HB2 := Lib.hid (bthen HBC.out hb)
         clear HBC hb ht
         have HBC := HB2
         clear HB2)
      | (go_at_call 38
         with_reducible refine (HSE.out _ _ _ HT2.out HBC.out).mono ?_
         rintro e v3 ⟨rfl, hb⟩
         have HB3 := Lib.hid (bthen HBC.out hb)
         clear HBC hb
         have HBC := HB3
         clear HB3))
  all_goals
    have HBF := Lib.hid (bthen HB0.out HBC.out)
    go_wp2
    go_ret
    exact ⟨rfl, HBF.out⟩
end Go.Proofs.YtehcpcpmcngnjaaDoor
