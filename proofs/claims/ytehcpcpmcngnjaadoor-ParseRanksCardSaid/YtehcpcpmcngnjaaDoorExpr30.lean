/-
  expr: an expression, its places appended (to none).
-/
import Derived.Test.YtehcpcpmcngnjaaDoorRecA
import Derived.Deep.RegionLaw
import Derived.Deep.DeepMust
set_option linter.unusedVariables false
set_option linter.unusedSimpArgs false
namespace Go.Proofs.YtehcpcpmcngnjaaDoor
open Go.RowKit Go.PlainAid

section
variable {p : Nat} {E : Env} {T : TV} {Q : SV}
theorem Ps.setAt {w : World} {s : PSt} (h : Ps w p E T Q s) (Q' : SV) : Ps (w.setCell ⟨p, 4, none⟩ (.slice Q'.A Q'.n Q'.c)) p E T Q' s ∧ Fr (fun k => k = p) w (w.setCell ⟨p, 4, none⟩ (.slice Q'.A Q'.n Q'.c)) := by
  have hf : Fr (fun k => k = p) w (w.setCell ⟨p, 4, none⟩ (.slice Q'.A Q'.n Q'.c)) := (Fr.refl (fun k => k = p) w).setCell (p := ⟨p, 4, none⟩) (.inl rfl) _
  exact ⟨⟨h.bk.put 4 _, h.rd.keeps (h.keeps hf (by decide)), h.ok, h.n, h.vr.fr hf h.g0 h.g1, h.g0, h.g1, Nat.le_trans h.base hf.size⟩, hf⟩
/-- Another base. -/
theorem Ps.rebase {w : World} {s : PSt} {A : Option Addr} {n c b0 B : Nat} (h : Ps w p E ⟨A, n, c, b0⟩ Q s) (hB : B ≤ w.heap.size) : Ps w p E ⟨A, n, c, B⟩ Q s := ⟨h.bk, h.rd, h.ok, h.n, h.vr, h.g0, h.g1, hB⟩
/-- A block that is neither the parser's nor a row of tokens changes. -/
theorem Ps.box {w w' : World} {s : PSt} {r : Nat} {t : TypeId} {cs : Array Value} (h : Ps w p E T Q s) (hr : Bk w r t cs) (ht : t ≠ 74) (hrp : p ≠ r) (l0 : 0 ≠ r) (l1 : 1 ≠ r) (hf : Fr (fun k => k = r) w w') : Ps w' p E T Q s := ⟨h.bk.fr hf hrp, h.rd.keeps (Keeps.box hf hr ht), h.ok, h.n, h.vr.fr hf l0 l1, h.g0, h.g1, Nat.le_trans h.base hf.size⟩
theorem cells6 {w : World} {g : Nat} {t : TypeId} {u0 u1 u2 u3 u4 u5 : Value} (h : Bk w g t #[u0, u1, u2, u3, u4, u5]) : w.cell? ⟨g, 0, none⟩ = some u0 ∧ w.cell? ⟨g, 1, none⟩ = some u1 ∧ w.cell? ⟨g, 2, none⟩ = some u2 ∧ w.cell? ⟨g, 3, none⟩ = some u3 ∧ w.cell? ⟨g, 4, none⟩ = some u4 ∧ w.cell? ⟨g, 5, none⟩ = some u5 := ⟨h.cell 0, h.cell 1, h.cell 2, h.cell 3, h.cell 4, h.cell 5⟩
theorem fr6 (w : World) (g : Nat) (v0 v1 v2 v3 v4 v5 : Value) : Fr (fun k => k = g) w ((((((w.setCell ⟨g, 0, none⟩ v0).setCell ⟨g, 1, none⟩ v1).setCell ⟨g, 2, none⟩ v2).setCell ⟨g, 3, none⟩ v3).setCell ⟨g, 4, none⟩ v4).setCell ⟨g, 5, none⟩ v5) := (((((((Fr.refl (fun k => k = g) w).setCell (p := ⟨g, 0, none⟩) (.inl rfl) v0).setCell (p := ⟨g, 1, none⟩) (.inl rfl) v1).setCell (p := ⟨g, 2, none⟩) (.inl rfl) v2).setCell (p := ⟨g, 3, none⟩) (.inl rfl) v3).setCell (p := ⟨g, 4, none⟩) (.inl rfl) v4).setCell (p := ⟨g, 5, none⟩) (.inl rfl) v5)
theorem put6 {w : World} {g : Nat} {t : TypeId} {u0 u1 u2 u3 u4 u5 v0 v1 v2 v3 v4 v5 : Value} (h : Bk w g t #[u0, u1, u2, u3, u4, u5]) : Bk ((((((w.setCell ⟨g, 0, none⟩ v0).setCell ⟨g, 1, none⟩ v1).setCell ⟨g, 2, none⟩ v2).setCell ⟨g, 3, none⟩ v3).setCell ⟨g, 4, none⟩ v4).setCell ⟨g, 5, none⟩ v5) g t #[v0, v1, v2, v3, v4, v5] := by
  have h7 := (((((h.put 0 v0).put 1 v1).put 2 v2).put 3 v3).put 4 v4).put 5 v5
  simp only [List.setIfInBounds_toArray, List.set_cons_succ, List.set_cons_zero] at h7
  exact h7
set_option maxRecDepth 100000 in
set_option maxHeartbeats 8000000 in
theorem exprC (f : Nat) (s : PSt) (X : Nd) (s' : PSt) (w : World) (hx : choiceP E f s = some (X, s')) (h : Hid (Ps w p E T ⟨none, 0, 0⟩ s)) :
    Calls Tryd.prog 36 #[.pointer (some ⟨p, 0, none⟩)] w fun e w' => ∃ S Q', e = .returned (.agg (cellT X.1 S).toArray) ∧ TrT w.heap.size w' X.1 S ∧ Ps w' p E T Q' s' ∧ Fr (fun k => k = p) w w' := by
  obtain ⟨TA, Tn, Tc, T0⟩ := T
  obtain ⟨hl0, hl1⟩ := h.out.vr.lt
  have HC := Lib.hid hx
  have hpl : p < w.heap.size := h.out.lt
  have HB0 : Hid (Below w.heap.size w (w.alloc (.cells #[.int .u8 0, .int .u8 0, .int .u32 0, .int .i64 0, .string ⟨#[]⟩, .slice none 0 0] 28))) := pokeB'
  have HX0 := Lib.hid (Bk.new w 28 #[.int .u8 0, .int .u8 0, .int .u32 0, .int .i64 0, .string ⟨#[]⟩, .slice none 0 0])
  clear hx
  go_enter Tryd.func36, Tryd.ntmps36
  go_upto_region 1 with fail
  have hW : (w.alloc (.cells #[.int .u8 0, .int .u8 0, .int .u32 0, .int .i64 0, .string ⟨#[]⟩, .slice none 0 0] 28)).heap.size = w.heap.size + 1 := by simp
  generalize (w.alloc (.cells #[.int .u8 0, .int .u8 0, .int .u32 0, .int .i64 0, .string ⟨#[]⟩, .slice none 0 0] 28)) = W at HB0 HX0 hW ⊢
  obtain ⟨r, hr⟩ : ∃ r, w.heap.size = r := ⟨_, rfl⟩
  rw [hr] at HX0 hW ⊢
  have hrp : r ≠ p := by omega
  have hwr : w.heap.size ≤ r := by omega
  have hr0 : 0 ≠ r := by omega
  have hr1 : 1 ≠ r := by omega
  have HPW := Lib.hid (PP.below (h.out.below HB0.out |>.rebase (B := r + 1) (by omega)) (Below.refl _ _))
  have HT0 : Hid (T0 ≤ w.heap.size) := Lib.hid h.out.base
  clear hr hpl hW hl0 hl1
  go_wp2_with fail
  refine ((sp f).choice _ _ _ W HC.out (Lib.hid HPW.out.ps)).mono ?_
  rintro e w5 ⟨S, R, rfl, hn, hp⟩
  rw [nodeV_lit]
  have HP5 := Lib.hid (HPW.out.trans hp)
  have HX5 := Lib.hid (hp.bk HX0.out hrp)
  have HN5 := Lib.hid hn
  clear hp hn HPW HX0
  have hw5r : r < w5.heap.size := HX5.out.lt
  have hw5p : p < w5.heap.size := HP5.out.ps.lt
  have HBn : Hid (Below w5.heap.size w5 (w5.alloc (.cells #[.int .u8 (X.1.kind : Int), .int .u8 (X.1.op : Int), .int .u32 (X.1.value : Int), .int .i64 X.1.width, .string (str X.1.name), .slice S.A S.n S.c, .slice R.A R.n R.c] 67))) := pokeB'
  have HY6 := Lib.hid (Bk.new w5 67 #[.int .u8 (X.1.kind : Int), .int .u8 (X.1.op : Int), .int .u32 (X.1.value : Int), .int .i64 X.1.width, .string (str X.1.name), .slice S.A S.n S.c, .slice R.A R.n R.c])
  go_upto_region 2 with fail
  generalize (w5.alloc (.cells #[.int .u8 (X.1.kind : Int), .int .u8 (X.1.op : Int), .int .u32 (X.1.value : Int), .int .i64 X.1.width, .string (str X.1.name), .slice S.A S.n S.c, .slice R.A R.n R.c] 67)) = v at HBn HY6 ⊢
  obtain ⟨b3, hb⟩ : ∃ b, w5.heap.size = b := ⟨_, rfl⟩
  rw [hb] at HY6 ⊢
  have hb3p : b3 ≠ p := by omega
  have hb3r : b3 ≠ r := by omega
  clear hb hw5r hw5p
  have HL := Lib.hid ((HP5.out.then HBn.out).then (Below.refl _ _).drew)
  have HX := Lib.hid (bkbel (bkbel HX5.out HBn.out) (Below.refl _ _).drew)
  have HN := Lib.hid ((HN5.out.below HBn.out).below (Below.refl _ _).drew)
  have HY := Lib.hid (bkbel HY6.out (Below.refl _ _).drew)
  clear HP5 HX5 HN5 HBn HY6
  obtain ⟨g0, g1, g2, g3, g4, g5, g6⟩ := HL.out.ps.cells
  obtain ⟨x0, x1, x2, x3, x4, x5, x6⟩ := cells7 HY.out
  have HRd : Hid (Rd v.drew R.A (natsV X.2)) := Lib.hid HN.out.a.rd.rd
  have HRl : Hid ((natsV X.2).length = R.n * 1) := Lib.hid (by have := HN.out.a.len; unfold natsV; rw [List.length_map]; omega)
  have HRs : Hid (0 + R.n ≤ 1000000000) := Lib.hid (by have := HN.out.a.small; omega)
  have HBs : Hid (v.heap.size ≤ v.drew.heap.size) := Lib.hid (Nat.le_refl _)
  go_region_law (first
    | (refine step_app el_in rfl (.tmp 10) (.tmp 12) rfl v.heap.size (.slice none 0 0) 0 [] rfl (World.ownsRow_nil _ _ _ _) R.A R.n R.c (natsV X.2) rfl HRd.out HRl.out (natsV_one _) HRs.out HBs.out ?_
       intro A3 c3 w4 ho4 hg4 hat4
       have HB4 : Hid (Below v.drew.heap.size v.drew w4) := Lib.hid ((Below.refl _ v.drew).grown hg4 (Nat.le_refl _) (fun q hq => by simp [Value.ownBlock] at hq))
       have HL4 := Lib.hid (HL.out.then HB4.out)
       have HX4 := Lib.hid (bkbel HX.out HB4.out)
       have HY4 := Lib.hid (bkbel HY.out HB4.out)
       have HN4 := Lib.hid (HN.out.below HB4.out)
       clear ho4 hg4 hat4 g0 g1 g2 g3 g4 g5 g6 x0 x1 x2 x3 x4 x5 x6
       obtain ⟨g0, g1, g2, g3, g4, g5, g6⟩ := HL4.out.ps.cells
       have gz := HL4.out.ps.frozens 4))
  all_goals
    obtain ⟨hs1, hs2⟩ := HL4.out.ps.setAt ⟨A3, R.n, c3⟩
    have HS1 := Lib.hid hs1
    have HS2 := Lib.hid hs2
    clear hs1 hs2
    dsimp only at HS1 HS2
    generalize (w4.setCell ⟨p, 4, none⟩ (.slice A3 R.n c3)) = W7 at HS1 HS2 ⊢
    have HFW := Lib.hid (HL4.out.fr.trans HS2.out)
    have HX7 := Lib.hid (HX4.out.fr HS2.out hrp)
    have HY7 := Lib.hid (HY4.out.fr HS2.out hb3p)
    have HN7 := Lib.hid (HL4.out.ps.nd HS2.out HN4.out)
    clear g0 g1 g2 g3 g4 g5 g6 gz HS2
    obtain ⟨x0, x1, x2, x3, x4, x5, x6⟩ := cells7 HY7.out
    obtain ⟨y0, y1, y2, y3, y4, y5⟩ := cells6 HX7.out
    obtain ⟨f0, f1, f2, f3, f4, f5, _⟩ := froz7 HX7.out
    have HF := Lib.hid (fr6 W7 r (.int .u8 (X.1.kind : Int)) (.int .u8 (X.1.op : Int)) (.int .u32 (X.1.value : Int)) (.int .i64 X.1.width) (.string (str X.1.name)) (.slice S.A S.n S.c))
    have HK := Lib.hid (put6 (v0 := .int .u8 (X.1.kind : Int)) (v1 := .int .u8 (X.1.op : Int)) (v2 := .int .u32 (X.1.value : Int)) (v3 := .int .i64 X.1.width) (v4 := .string (str X.1.name)) (v5 := .slice S.A S.n S.c) HX7.out)
    go_wp2_with fail
    generalize ((((((W7.setCell ⟨r, 0, none⟩ (.int .u8 (X.1.kind : Int))).setCell ⟨r, 1, none⟩ (.int .u8 (X.1.op : Int))).setCell ⟨r, 2, none⟩ (.int .u32 (X.1.value : Int))).setCell ⟨r, 3, none⟩ (.int .i64 X.1.width)).setCell ⟨r, 4, none⟩ (.string (str X.1.name))).setCell ⟨r, 5, none⟩ (.slice S.A S.n S.c)) = WF at HF HK ⊢
    obtain ⟨r0, r1, r2, r3, r4, r5⟩ := cells6 HK.out
    refine bodyPost_ret (v := .agg (cellT X.1 S).toArray) (by simp [results, Tryd.results36, go_sem, r0, r1, r2, r3, r4, r5, cellT]) rfl ?_
    have hS := HS1.out.box HX7.out (by decide) (Ne.symm hrp) hr0 hr1 HF.out
    have hF : Fr (fun k => k = p) w WF := ((Fr.of_below HB0.out).trans HFW.out).then HF.out (fun i hi e => by omega)
    refine ⟨S, ⟨A3, R.n, c3⟩, rfl, (HN7.out.t.far HF.out (Nat.lt_succ_self r)).less (by show w.heap.size ≤ r + 1; omega), hS.rebase (Nat.le_trans HT0.out hF.size), hF⟩
end
end Go.Proofs.YtehcpcpmcngnjaaDoor

