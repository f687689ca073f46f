/-
  says, wrongAt: what the statements of layer 30 ask of parse.Expr.
-/
import Derived.Test.YtehcpcpmcngnjaaDoorIsX30
set_option linter.unusedVariables false
set_option linter.unusedSimpArgs false
namespace Go.Proofs.YtehcpcpmcngnjaaDoor
open Go.RowKit Go.PlainAid

def SSY (x : Ex) (S V : SV) (b1 b5 : Nat) (w' : World) : Prop := w'.cell? ⟨b1, 0, none⟩ = some (.int .u8 (x.kind : Int)) ∧ w'.cell? ⟨b1, 1, none⟩ = some (.int .u8 (x.op : Int)) ∧ w'.cell? ⟨b1, 2, none⟩ = some (.int .u32 (x.value : Int)) ∧ w'.cell? ⟨b1, 3, none⟩ = some (.int .i64 x.width) ∧ w'.cell? ⟨b1, 4, none⟩ = some (.string (str x.name)) ∧ w'.cell? ⟨b1, 5, none⟩ = some (.slice S.A S.n S.c) ∧ w'.cell? ⟨b5, 0, none⟩ = some (.int .u8 (x.kind : Int)) ∧ w'.cell? ⟨b5, 1, none⟩ = some (.int .u8 (x.op : Int)) ∧ w'.cell? ⟨b5, 2, none⟩ = some (.int .u32 (x.value : Int)) ∧ w'.cell? ⟨b5, 3, none⟩ = some (.int .i64 x.width) ∧ w'.cell? ⟨b5, 4, none⟩ = some (.string (str x.name)) ∧ w'.cell? ⟨b5, 5, none⟩ = some (.slice V.A V.n V.c)
theorem ssy_of {W w' : World} {x : Ex} {S V : SV} {b1 b5 : Nat} (h1 : Bk W b1 28 #[.int .u8 (x.kind : Int), .int .u8 (x.op : Int), .int .u32 (x.value : Int), .int .i64 x.width, .string (str x.name), .slice S.A S.n S.c]) (h2 : Bk W b5 28 #[.int .u8 (x.kind : Int), .int .u8 (x.op : Int), .int .u32 (x.value : Int), .int .i64 x.width, .string (str x.name), .slice V.A V.n V.c]) (hb : Below W.heap.size W w') : SSY x S V b1 b5 w' := by
  obtain ⟨x0, x1, x2, x3, x4, x5⟩ := cells6 (bkbel h1 hb)
  obtain ⟨y0, y1, y2, y3, y4, y5⟩ := cells6 (bkbel h2 hb)
  exact ⟨x0, x1, x2, x3, x4, x5, y0, y1, y2, y3, y4, y5⟩
set_option maxRecDepth 100000 in
set_option maxHeartbeats 8000000 in
theorem saysC (f B : Nat) (t : List UInt8) (x : Ex) (S : SV) (w : World) (hx : exprR f t = some (x, t.length, 0)) (hs : t.length ≤ 65536) (hm : fewX x ≤ 100000) (hv : Hid (Vars w)) (hS : Hid (TrT B w x S)) :
    Calls Tryd.prog 11 #[.string (str t), .agg #[.int .u8 (x.kind : Int), .int .u8 (x.op : Int), .int .u32 (x.value : Int), .int .i64 x.width, .string (str x.name), .slice S.A S.n S.c]] w fun e w' => e = .returned (.bool true) ∧ Below w.heap.size w w' := by
  have H1 := Lib.hid (Bk.new w 28 #[.int .u8 (x.kind : Int), .int .u8 (x.op : Int), .int .u32 (x.value : Int), .int .i64 x.width, .string (str x.name), .slice S.A S.n S.c])
  have HB0 : Hid (Below w.heap.size w (w.alloc (.cells #[.int .u8 (x.kind : Int), .int .u8 (x.op : Int), .int .u32 (x.value : Int), .int .i64 x.width, .string (str x.name), .slice S.A S.n S.c] 28))) := pokeB'
  have HC := Lib.hid (parseEC f t x t.length 0 hx hs (w.alloc (.cells #[.int .u8 (x.kind : Int), .int .u8 (x.op : Int), .int .u32 (x.value : Int), .int .i64 x.width, .string (str x.name), .slice S.A S.n S.c] 28)) (Lib.hid (hv.out.below HB0.out)))
  have HS1 := Lib.hid (hS.out.bel HB0.out)
  have hls : (str t).size = t.length := str_size t
  clear hx hS
  go_enter Tryd.func11, Tryd.ntmps11
  go_wp2_with fail
  generalize (w.alloc (.cells #[.int .u8 (x.kind : Int), .int .u8 (x.op : Int), .int .u32 (x.value : Int), .int .i64 x.width, .string (str x.name), .slice S.A S.n S.c] 28)) = W at H1 HB0 HC HS1 ⊢
  obtain ⟨b1, hb1⟩ : ∃ b, w.heap.size = b := ⟨_, rfl⟩
  rw [hb1] at H1
  rw [hb1]
  clear hb1
  refine HC.out.mono ?_
  rintro en w1 ⟨V, rfl, ht, hb⟩
  unfold cellT
  have HV2 := Lib.hid (ht.bel (pokeB' (o := (.cells #[.int .u8 (x.kind : Int), .int .u8 (x.op : Int), .int .u32 (x.value : Int), .int .i64 x.width, .string (str x.name), .slice V.A V.n V.c] 28))))
  have H2 := Lib.hid ((bkbel H1.out hb).alloc (.cells #[.int .u8 (x.kind : Int), .int .u8 (x.op : Int), .int .u32 (x.value : Int), .int .i64 x.width, .string (str x.name), .slice V.A V.n V.c] 28))
  have H5 := Lib.hid (Bk.new w1 28 #[.int .u8 (x.kind : Int), .int .u8 (x.op : Int), .int .u32 (x.value : Int), .int .i64 x.width, .string (str x.name), .slice V.A V.n V.c])
  have HS2 := Lib.hid ((HS1.out.bel hb).bel (pokeB' (o := (.cells #[.int .u8 (x.kind : Int), .int .u8 (x.op : Int), .int .u32 (x.value : Int), .int .i64 x.width, .string (str x.name), .slice V.A V.n V.c] 28))))
  have HB2 := Lib.hid (balloc (bthen HB0.out hb) (.cells #[.int .u8 (x.kind : Int), .int .u8 (x.op : Int), .int .u32 (x.value : Int), .int .i64 x.width, .string (str x.name), .slice V.A V.n V.c] 28))
  clear ht hb HC HS1 H1 HB0
  go_upto_region 2 with fail
  generalize (w1.alloc (.cells #[.int .u8 (x.kind : Int), .int .u8 (x.op : Int), .int .u32 (x.value : Int), .int .i64 x.width, .string (str x.name), .slice V.A V.n V.c] 28)) = W2 at HV2 H2 H5 HS2 HB2 ⊢
  obtain ⟨b5, hb5⟩ : ∃ b, w1.heap.size = b := ⟨_, rfl⟩
  rw [hb5] at H5
  rw [hb5]
  clear hb5
  have HSS : Hid (∀ w', Below W2.heap.size W2 w' → SSY x S V b1 b5 w') := fun w' hb => ssy_of H2.out H5.out hb
  have HCE := Lib.hid fun (w' : World) (hb : Below W2.heap.size W2 w') => convC B _ x S w' (Nat.le_refl _) (Lib.hid (HS2.out.bel hb))
  have HIE := Lib.hid fun (B3 : Nat) (w' : World) (U' : SV) (ht : TrR B3 w' x U') (hb : Below W2.heap.size W2 w') => isEC _ B3 x V U' w' hm (Lib.hid (HV2.out.bel hb)) (Lib.hid ht)
  have HBC : Hid (Below W2.heap.size W2 W2.drew) := (Below.refl _ _).drew
  clear hm HS2 HV2 H2 H5
  go_region_held3 (fun w' => w'.cell? ⟨b1, 0, none⟩ = some (.int .u8 (x.kind : Int)) ∧ w'.cell? ⟨b1, 1, none⟩ = some (.int .u8 (x.op : Int)) ∧ w'.cell? ⟨b1, 2, none⟩ = some (.int .u32 (x.value : Int)) ∧ w'.cell? ⟨b1, 3, none⟩ = some (.int .i64 x.width) ∧ w'.cell? ⟨b1, 4, none⟩ = some (.string (str x.name)) ∧ w'.cell? ⟨b1, 5, none⟩ = some (.slice S.A S.n S.c) ∧ w'.cell? ⟨b5, 0, none⟩ = some (.int .u8 (x.kind : Int)) ∧ w'.cell? ⟨b5, 1, none⟩ = some (.int .u8 (x.op : Int)) ∧ w'.cell? ⟨b5, 2, none⟩ = some (.int .u32 (x.value : Int)) ∧ w'.cell? ⟨b5, 3, none⟩ = some (.int .i64 x.width) ∧ w'.cell? ⟨b5, 4, none⟩ = some (.string (str x.name)) ∧ w'.cell? ⟨b5, 5, none⟩ = some (.slice V.A V.n V.c))
    ((refine (show SSY x S V b1 b5 _ from ?_); with_reducible exact HSS.out _ HBC.out))
    (first
      | (go_at_call 17
         with_reducible refine (HCE.out _ HBC.out).mono ?_
         rintro e v2 ⟨U', rfl, ht, hb⟩
         have HT2 := Lib.hid ht
         have HB3 := Lib.hid (bthen HBC.out hb)
         clear HBC hb ht
         have HBC := HB3
         clear HB3)
      | (go_at_call 16
         with_reducible refine (HIE.out _ _ _ HT2.out HBC.out).mono ?_
         rintro e v3 ⟨rfl, hb⟩
         have HB3 := Lib.hid (bthen HBC.out hb)
         clear HBC hb
         have HBC := HB3
         clear HB3))
  all_goals
    have HBF := Lib.hid (bthen HB2.out HBC.out)
    go_wp2
    go_ret
    exact ⟨rfl, HBF.out⟩
set_option maxRecDepth 100000 in
set_option maxHeartbeats 8000000 in
theorem wrongAtC (f : Nat) (t : List UInt8) (a e : Nat) (w : World) (hx : exprR f t = some (ex0, a, e)) (hs : t.length ≤ 65536) (hv : Hid (Vars w)) :
    Calls Tryd.prog 13 #[.string (str t), .int .i64 (a : Int), .int .i64 (e : Int)] w fun en w' => en = .returned (.bool true) ∧ Below w.heap.size w w' := by
  have HC := Lib.hid (parseEC f t ex0 a e hx hs w hv)
  clear hx
  go_enter Tryd.func13, Tryd.ntmps13
  go_wp2_with fail
  refine HC.out.mono ?_
  rintro en w1 ⟨V, rfl, ht, hb⟩
  have HB1 : Hid (Below w.heap.size w (w1.alloc (.cells #[.int .u8 0, .int .u8 0, .int .u32 0, .int .i64 0, .string ⟨#[]⟩, .slice V.A V.n V.c] 28))) := Lib.hid (balloc hb _)
  have h0 : (cellT ex0 V).toArray = #[.int .u8 0, .int .u8 0, .int .u32 0, .int .i64 0, .string ⟨#[]⟩, .slice V.A V.n V.c] := rfl
  rw [h0]
  clear ht hb HC h0
  go_wp2_with fail
  go_ret
  exact ⟨rfl, HB1.out⟩
end Go.Proofs.YtehcpcpmcngnjaaDoor
