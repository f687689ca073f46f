/-
  The parser's recursion: what its five functions come to; within, choice.
-/
import Derived.Test.YtehcpcpmcngnjaaDoorPrO
import Derived.Test.YtehcpcpmcngnjaaDoorWhole31
import Derived.Test.YtehcpcpmcngnjaaDoorFind30
import Derived.Deep.DeepCutAuto
set_option linter.unusedVariables false
set_option linter.unusedSimpArgs false
namespace Go.Proofs.YtehcpcpmcngnjaaDoor
open Go.RowKit Go.PlainAid

/-- What a call that reads a node comes to. -/
def NdPost (w : World) (p : Nat) (E : Env) (T : TV) (Q : SV) (x : Nd) (s : PSt) (e : Ending) (w' : World) : Prop := ∃ S R, e = .returned (nodeV x S R) ∧ NdAt T.base w' x S R ∧ PP w p E T Q s w'
/-- The five functions at a fuel. -/
structure Sp (p : Nat) (E : Env) (T : TV) (Q : SV) (f : Nat) : Prop where
  choice : ∀ s x s' w, choiceP E f s = some (x, s') → Hid (Ps w p E T Q s) → Calls Tryd.prog 41 #[.pointer (some ⟨p, 0, none⟩)] w (NdPost w p E T Q x s')
  chain : ∀ (r : Nat) s x s' w, r ≤ 7 → chainP E f r s = some (x, s') → Hid (Ps w p E T Q s) → Calls Tryd.prog 45 #[.pointer (some ⟨p, 0, none⟩), .int .i64 (r : Int)] w (NdPost w p E T Q x s')
  operand : ∀ s x s' w, operandP E f s = some (x, s') → Hid (Ps w p E T Q s) → Calls Tryd.prog 53 #[.pointer (some ⟨p, 0, none⟩)] w (NdPost w p E T Q x s')
  basis : ∀ s x s' w, basisP E f s = some (x, s') → Hid (Ps w p E T Q s) → Calls Tryd.prog 59 #[.pointer (some ⟨p, 0, none⟩)] w (NdPost w p E T Q x s')
  within : ∀ s a b x s' w, withinP E f s a b = some (x, s') → Hid (Ps w p E T Q s) → Calls Tryd.prog 69 #[.pointer (some ⟨p, 0, none⟩), .string (str a), .string (str b)] w (NdPost w p E T Q x s')
def ndC (x : Nd) (S R : SV) : Array Value := #[.int .u8 (x.1.kind : Int), .int .u8 (x.1.op : Int), .int .u32 (x.1.value : Int), .int .i64 x.1.width, .string (str x.1.name), .slice S.A S.n S.c, .slice R.A R.n R.c]
theorem nodeV_lit (x : Nd) (S R : SV) : nodeV x S R = .agg #[.int .u8 (x.1.kind : Int), .int .u8 (x.1.op : Int), .int .u32 (x.1.value : Int), .int .i64 x.1.width, .string (str x.1.name), .slice S.A S.n S.c, .slice R.A R.n R.c] := rfl
/-- A box of a node that is not the parser's stays. -/
theorem PP.bk {w w' : World} {p : Nat} {E : Env} {T : TV} {Q : SV} {s : PSt} {g : Nat} {t : TypeId} {cs : Array Value} (h : PP w p E T Q s w') (hb : Bk w g t cs) (hg : g ≠ p) : Bk w' g t cs := hb.fr h.fr hg
theorem PP.nd {w w' : World} {p : Nat} {E : Env} {T : TV} {Q : SV} {s s0 : PSt} (h : PP w p E T Q s w') (h0 : Ps w p E T Q s0) {B : Nat} {x : Nd} {S R : SV} (hx : NdAt B w x S R) : NdAt B w' x S R := h0.nd h.fr hx
/-- A box of the call's own is written: the parser, and nodes, stay. -/
theorem PP.fin {w w4 WF : World} {p r : Nat} {E : Env} {T : TV} {Q : SV} {s s0 : PSt} {cs : Array Value} (h : PP w p E T Q s w4) (h0 : Ps w p E T Q s0) (hr : Bk w4 r 67 cs) (hrp : r ≠ p) (hwr : w.heap.size ≤ r) (hf : Fr (fun k => k = r) w4 WF) : PP w p E T Q s WF := by
  obtain ⟨l0, l1⟩ := h0.vr.lt
  exact ⟨⟨h.ps.bk.fr hf (Ne.symm hrp), h.ps.rd.keeps (Keeps.box hf hr (by decide)), h.ps.ok, h.ps.n, h.ps.vr.fr hf (by omega) (by omega), h.ps.g0, h.ps.g1, Nat.le_trans h.ps.base hf.size⟩, h.fr.then hf (fun i hi e => by omega)⟩
theorem NdAt.box {B : Nat} {w w' : World} {r : Nat} {cs : Array Value} {x : Nd} {S R : SV} (h : NdAt B w x S R) (hr : Bk w r 67 cs) (hf : Fr (fun k => k = r) w w') : NdAt B w' x S R := h.keeps hf.size (Keeps.box hf hr (by decide)) (Keeps.box hf hr (by decide))
/-- The result's box holds the node: what is returned. -/
theorem nd_out {w w4 WF : World} {p r : Nat} {E : Env} {T : TV} {Q : SV} {s s0 : PSt} {cs : Array Value} {x : Nd} {S R : SV} (h : PP w p E T Q s w4) (h0 : Ps w p E T Q s0) (hr : Bk w4 r 67 cs) (hrp : r ≠ p) (hwr : w.heap.size ≤ r) (hf : Fr (fun k => k = r) w4 WF) (hn : NdAt T.base w4 x S R) : NdPost w p E T Q x s (.returned (nodeV x S R)) WF := ⟨S, R, rfl, hn.box hr hf, h.fin h0 hr hrp hwr hf⟩
section
variable {p : Nat} {E : Env} {T : TV} {Q : SV}
theorem within_some {f : Nat} {s s' : PSt} {a b : List UInt8} {x : Nd} (h : withinP E (f + 1) s a b = some (x, s')) : okP s = true ∧ ∃ s2, choiceP E f (openP E s a) = some (x, s2) ∧ okP s2 = true ∧ s' = shutP E s2 b := by
  unfold withinP at h
  cases h1 : okP s with
  | false => rw [h1] at h; cases h
  | true =>
    rw [h1] at h
    dsimp only at h
    cases h2 : choiceP E f (openP E s a) with
    | none => rw [h2] at h; cases h
    | some q =>
      obtain ⟨y, s2⟩ := q
      rw [h2] at h
      dsimp only at h
      cases h3 : okP s2 with
      | false => rw [h3] at h; cases h
      | true =>
        rw [h3] at h
        dsimp only at h
        injection h with h
        injection h with h4 h5
        subst h4 h5
        exact ⟨rfl, s2, rfl, h3, rfl⟩
set_option maxRecDepth 100000 in
set_option maxHeartbeats 2000000 in
theorem within_step {f : Nat} (IH : Sp p E T Q f) (s : PSt) (a b : List UInt8) (x : Nd) (s' : PSt) (w : World) (hx : withinP E (f + 1) s a b = some (x, s')) (h : Hid (Ps w p E T Q s)) :
    Calls Tryd.prog 69 #[.pointer (some ⟨p, 0, none⟩), .string (str a), .string (str b)] w (NdPost w p E T Q x s') := by
  obtain ⟨ok1, s2, hc, ok2, rfl⟩ := within_some hx
  have HC := Lib.hid hc
  have HIH := Lib.hid IH
  have hpl : p < w.heap.size := h.out.lt
  have HB0 : Hid (Below w.heap.size w (w.alloc (.cells #[.int .u8 0, .int .u8 0, .int .u32 0, .int .i64 0, .string ⟨#[]⟩, .slice none 0 0, .slice none 0 0] 67))) := pokeB'
  have HX0 := Lib.hid (Bk.new w 67 #[.int .u8 0, .int .u8 0, .int .u32 0, .int .i64 0, .string ⟨#[]⟩, .slice none 0 0, .slice none 0 0])
  clear hx hc IH
  go_enter Tryd.func69, Tryd.ntmps69
  go_upto_region 1 with fail
  generalize (w.alloc (.cells #[.int .u8 0, .int .u8 0, .int .u32 0, .int .i64 0, .string ⟨#[]⟩, .slice none 0 0, .slice none 0 0] 67)) = W at HB0 HX0 ⊢
  obtain ⟨r, hr⟩ : ∃ r, w.heap.size = r := ⟨_, rfl⟩
  rw [hr] at HX0 ⊢
  have hrp : r ≠ p := by omega
  have hwr : w.heap.size ≤ r := by omega
  clear hr hpl
  have HP0 := Lib.hid (h.out.below HB0.out)
  go_wp2_with fail
  refine (openC p E T Q s a W HP0 ok1).mono ?_
  rintro e w1 ⟨⟨v, rfl⟩, hp⟩
  have HX1 := Lib.hid (hp.bk HX0.out hrp)
  have HP1 := Lib.hid (PP.after HB0.out hp)
  clear hp HX0 HP0
  go_wp2_with fail
  refine (HIH.out.choice _ _ _ w1 HC.out (Lib.hid HP1.out.ps)).mono ?_
  rintro e w2 ⟨S, R, rfl, hn, hp⟩
  rw [nodeV_lit]
  have HX2 := Lib.hid (hp.bk HX1.out hrp)
  have HP2 := Lib.hid (HP1.out.trans hp)
  have HN2 := Lib.hid hn
  clear hp hn HX1 HP1
  have hw2 : r < w2.heap.size := HX2.out.lt
  have hpw2 : p < w2.heap.size := HP2.out.ps.lt
  have HBX : Hid (Below w2.heap.size w2 (w2.alloc (.cells #[.int .u8 (x.1.kind : Int), .int .u8 (x.1.op : Int), .int .u32 (x.1.value : Int), .int .i64 x.1.width, .string (str x.1.name), .slice S.A S.n S.c, .slice R.A R.n R.c] 67))) := pokeB'
  have HY := Lib.hid (Bk.new w2 67 #[.int .u8 (x.1.kind : Int), .int .u8 (x.1.op : Int), .int .u32 (x.1.value : Int), .int .i64 x.1.width, .string (str x.1.name), .slice S.A S.n S.c, .slice R.A R.n R.c])
  go_upto_region 3 with fail
  generalize (w2.alloc (.cells #[.int .u8 (x.1.kind : Int), .int .u8 (x.1.op : Int), .int .u32 (x.1.value : Int), .int .i64 x.1.width, .string (str x.1.name), .slice S.A S.n S.c, .slice R.A R.n R.c] 67)) = W2 at HBX HY ⊢
  obtain ⟨b3, hb3⟩ : ∃ b3, w2.heap.size = b3 := ⟨_, rfl⟩
  rw [hb3] at HY ⊢
  have hb3p : b3 ≠ p := by omega
  have hrb3 : b3 ≠ r := by omega
  clear hb3 hw2 hpw2
  have HP3 := Lib.hid (HP2.out.then HBX.out)
  have HX3 := Lib.hid (bkbel HX2.out HBX.out)
  have HN3 := Lib.hid (HN2.out.below HBX.out)
  clear HP2 HX2 HN2 HBX
  go_wp2_with fail
  refine (shutC p E T Q s2 b W2 (Lib.hid HP3.out.ps) ok2).mono ?_
  rintro e w4 ⟨⟨v, rfl⟩, hp⟩
  have HP4 := Lib.hid (HP3.out.trans hp)
  have HX4 := Lib.hid (hp.bk HX3.out hrp)
  have HY4 := Lib.hid (hp.bk HY.out hb3p)
  have HN4 := Lib.hid (hp.nd HP3.out.ps HN3.out)
  clear hp HP3 HX3 HY HN3
  obtain ⟨x0, x1, x2, x3, x4, x5, x6⟩ := cells7 HY4.out
  obtain ⟨y0, y1, y2, y3, y4, y5, y6⟩ := cells7 HX4.out
  obtain ⟨f0, f1, f2, f3, f4, f5, f6⟩ := froz7 HX4.out
  have HF := Lib.hid (fr7 w4 r (.int .u8 (x.1.kind : Int)) (.int .u8 (x.1.op : Int)) (.int .u32 (x.1.value : Int)) (.int .i64 x.1.width) (.string (str x.1.name)) (.slice S.A S.n S.c) (.slice R.A R.n R.c))
  have HK := Lib.hid (put7 (v0 := .int .u8 (x.1.kind : Int)) (v1 := .int .u8 (x.1.op : Int)) (v2 := .int .u32 (x.1.value : Int)) (v3 := .int .i64 x.1.width) (v4 := .string (str x.1.name)) (v5 := .slice S.A S.n S.c) (v6 := .slice R.A R.n R.c) HX4.out)
  go_wp2_with fail
  generalize (((((((w4.setCell ⟨r, 0, none⟩ (.int .u8 (x.1.kind : Int))).setCell ⟨r, 1, none⟩ (.int .u8 (x.1.op : Int))).setCell ⟨r, 2, none⟩ (.int .u32 (x.1.value : Int))).setCell ⟨r, 3, none⟩ (.int .i64 x.1.width)).setCell ⟨r, 4, none⟩ (.string (str x.1.name))).setCell ⟨r, 5, none⟩ (.slice S.A S.n S.c)).setCell ⟨r, 6, none⟩ (.slice R.A R.n R.c)) = WF at HF HK ⊢
  obtain ⟨r0, r1, r2, r3, r4, r5, r6⟩ := cells7 HK.out
  refine bodyPost_ret (v := nodeV x S R) (by rw [nodeV_lit]; simp [results, Tryd.results69, go_sem, r0, r1, r2, r3, r4, r5, r6]) rfl ?_
  exact nd_out HP4.out h.out HX4.out hrp hwr HF.out HN4.out
end
end Go.Proofs.YtehcpcpmcngnjaaDoor
