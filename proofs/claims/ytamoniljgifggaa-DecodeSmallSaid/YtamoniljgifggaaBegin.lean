/-
  Contract of salvorlaw23.Begin for a graph without inputs.
-/
import Derived.Test.YtamoniljgifggaaAig2
import Derived.Test.YtamoniljgifggaaRefG
import Derived.Deep.RegionLaw
set_option linter.unusedVariables false
set_option linter.unusedSimpArgs false
namespace Go.Proofs.Ytamoniljgifggaa
open Go.RowKit

theorem GAt.fr {w w' : World} {B g : Nat} {M : Int} {G : List Nd} {F : Nat → Prop} (h : GAt w B g M G) (hb : Fr F w w') (hF : ∀ k, B ≤ k → ¬ F k) : GAt w' B g M G := by
  obtain ⟨nb, mb, c, iv, D, hD, h1, h2, hs, h3, h4, h5, h6⟩ := h
  exact ⟨nb, mb, c, iv, D, hD, h1, h2, Nat.le_trans hs hb.size, h3.fr hb (hF g h1), own_fr h4 hb (fun k hk => hF k (own_lt h4 hk).1), h5.fr hb (hF mb h2), own_fr h6 hb (fun k hk => hF k (own_lt h6 hk).1)⟩
theorem GAt.far {w : World} {B g : Nat} {M : Int} {G : List Nd} (h : GAt w B g M G) {p : Addr} (hp : p.block < B) (u : Value) : GAt (w.setCell p u) B g M G :=
  h.fr (F := fun k => k = p.block) (Fr.setCell (Fr.refl (fun k => k = p.block) w) (p := p) (.inl rfl) u) (fun k hk e => by omega)
def BeginPost (M : Int) (w : World) (e : Ending) (w' : World) : Prop :=
  ∃ B g A c, e = .returned (.tuple #[.pointer (some ⟨g, 0, none⟩), .agg #[.int .i64 M, .slice A 1 c]]) ∧ w.heap.size ≤ B ∧ GAt w' B g M [⟨1, 0, 0⟩] ∧ RdT w' A 127 (rcells [⟨1, 0, 0⟩]) ∧ Below w.heap.size w w'

set_option maxHeartbeats 1000000 in
set_option maxRecDepth 100000 in
theorem begin_0 (M : Int) (w : World) (h1 : 1 ≤ M) (h2 : M ≤ 65536) :
    Calls Try.prog 56 #[.agg #[.int .i64 M, .int .u8 0]] w (BeginPost M w) := by
  have hb0 : Below w.heap.size w ((w.alloc (.cells #[.int .i64 M, .int .u8 0] 123)).alloc (.cells #[.int .i64 0, .slice none 0 0] 67)) := ((Below.refl _ w).alloc (Nat.le_refl _) _).alloc (by simp) _
  have hx := (Bk.new w 123 #[.int .i64 M, .int .u8 0]).alloc (.cells #[.int .i64 0, .slice none 0 0] 67)
  have hz := Bk.new (w.alloc (.cells #[.int .i64 M, .int .u8 0] 123)) 67 #[.int .i64 0, .slice none 0 0]
  rw [World.size_alloc] at hz
  have HB0 := Lib.hid hb0; have HX := Lib.hid hx; have HZ := Lib.hid hz
  clear hb0 hx hz
  go_enter Try.func56, Try.ntmps56
  go_wp2_with fail
  generalize ((w.alloc (.cells #[.int .i64 M, .int .u8 0] 123)).alloc (.cells #[.int .i64 0, .slice none 0 0] 67)) = W at *
  refine (gNew M W h1 h2).mono ?_
  rintro e w1 ⟨g, rfl, hg1, hb1⟩
  have HG1 := Lib.hid hg1; have HB1 := Lib.hid hb1
  have HX1 := Lib.hid (HX.out.below hb1 HX.out.lt)
  have HZ1 := Lib.hid (HZ.out.below hb1 HZ.out.lt)
  clear hg1 hb1
  have x10 : w1.cell? ⟨w.heap.size, 0, none⟩ = some (.int .i64 M) := HX1.out.cell 0
  go_wp2_with fail
  refine (rnew M w1 h1 h2).mono ?_
  rintro e w2 ⟨A, c, rfl, ho2, hb2⟩
  have HG2 := Lib.hid (HG1.out.below hb2); have HB2 := Lib.hid hb2
  have HX2 := Lib.hid (HX1.out.below hb2 HX1.out.lt)
  have HZ2 := Lib.hid (HZ1.out.below hb2 HZ1.out.lt)
  have HO2 := Lib.hid ho2
  clear ho2 hb2 x10
  have x21 : w2.cell? ⟨w.heap.size, 1, none⟩ = some (.int .u8 0) := HX2.out.cell 1
  have z0 : w2.cell? ⟨w.heap.size + 1, 0, none⟩ = some (.int .i64 0) := HZ2.out.cell 0
  have z1 : w2.cell? ⟨w.heap.size + 1, 1, none⟩ = some (.slice none 0 0) := HZ2.out.cell 1
  have f0 := HZ2.out.frozen 0
  have f1 := HZ2.out.frozen 1
  have hs2 : w.heap.size + 1 < w2.heap.size := HZ2.out.lt
  have hs3 : w.heap.size < w2.heap.size := HX2.out.lt
  go_wp2
  have HY3 := Lib.hid (Bk.new w2 67 #[.int .i64 M, .slice A 1 c])
  have HZ3 := Lib.hid (HZ2.out.alloc (.cells #[.int .i64 M, .slice A 1 c] 67))
  have HO3 := Lib.hid (HO2.out.alloc (.cells #[.int .i64 M, .slice A 1 c] 67))
  have HV : Hid (Below w2.heap.size w2 (w2.alloc (.cells #[.int .i64 M, .slice A 1 c] 67))) := (Below.refl _ _).alloc (Nat.le_refl _) _
  clear x21 z0 z1 f0 f1 hs2 hs3
  generalize (w2.alloc (.cells #[.int .i64 M, .slice A 1 c] 67)) = V at *
  refine wp_loop_rounds 1 ?_
  rw [rounds_succ]
  go_wp2
  refine wp_loop_rounds 1 ?_
  rw [rounds_succ]
  have y0 : V.cell? ⟨w2.heap.size, 0, none⟩ = some (.int .i64 M) := HY3.out.cell 0
  have y1 : V.cell? ⟨w2.heap.size, 1, none⟩ = some (.slice A 1 c) := HY3.out.cell 1
  have z0 : V.cell? ⟨w.heap.size + 1, 0, none⟩ = some (.int .i64 0) := HZ3.out.cell 0
  have z1 : V.cell? ⟨w.heap.size + 1, 1, none⟩ = some (.slice none 0 0) := HZ3.out.cell 1
  have f0 := HZ3.out.frozen 0
  have f1 := HZ3.out.frozen 1
  go_wp2
  go_region
  all_goals
    go_wp2
    have HF := Lib.hid ((HZ3.out.put 0 (.int .i64 M)).put 1 (.slice A 1 c))
    have HFB := Lib.hid (((Below.refl (w.heap.size + 1) V).setCell (p := ⟨w.heap.size + 1, 0, none⟩) (Nat.le_refl _) (.int .i64 M)).setCell (p := ⟨w.heap.size + 1, 1, none⟩) (Nat.le_refl _) (.slice A 1 c))
    have HFO := Lib.hid (ownsRow_setCell_other (ownsRow_setCell_other HO3.out (a := ⟨w.heap.size + 1, 0, none⟩) (fun e => own_ne HO3.out HZ3.out (by decide) e.symm) (.int .i64 M)) (a := ⟨w.heap.size + 1, 1, none⟩) (fun e => own_ne HO3.out HZ3.out (by decide) e.symm) (.slice A 1 c))
    have HFG : Hid (GAt ((V.setCell ⟨w.heap.size + 1, 0, none⟩ (.int .i64 M)).setCell ⟨w.heap.size + 1, 1, none⟩ (.slice A 1 c)) W.heap.size g M [⟨1, 0, 0⟩]) := GAt.far (GAt.far (HG2.out.below HV.out) (p := ⟨w.heap.size + 1, 0, none⟩) HZ.out.lt _) (p := ⟨w.heap.size + 1, 1, none⟩) HZ.out.lt _
    clear z0 z1 f0 f1 y0 y1
    generalize ((V.setCell ⟨w.heap.size + 1, 0, none⟩ (.int .i64 M)).setCell ⟨w.heap.size + 1, 1, none⟩ (.slice A 1 c)) = WF at *
    have r0 : WF.cell? ⟨w.heap.size + 1, 0, none⟩ = some (.int .i64 M) := HF.out.cell 0
    have r1 : WF.cell? ⟨w.heap.size + 1, 1, none⟩ = some (.slice A 1 c) := HF.out.cell 1
    refine bodyPost_ret (v := .tuple #[.pointer (some ⟨g, 0, none⟩), .agg #[.int .i64 M, .slice A 1 c]]) (by simp [results, Try.results56, go_sem, r0, r1]) rfl ?_
    refine ⟨W.heap.size, g, A, c, rfl, HB0.out.size, HFG.out.below ((Below.refl _ WF).drew), (RdT.of_own HFO.out).drew, ?_⟩
    have h1 := bthen (bthen (bthen HB0.out HB1.out) HB2.out) HV.out
    exact (h1.trans (HFB.out.mono (Nat.le_succ _))).drew
end Go.Proofs.Ytamoniljgifggaa
