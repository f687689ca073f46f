/-
  Contract of (*aig.Graph).put.
-/
import Derived.Test.YtamoniljgifggaaRows
import Derived.Test.YtamoniljgifggaaWords
import Derived.Deep.RegionLaw
import Derived.Deep.QuietTactic
import Derived.BigQuiet
set_option linter.unusedVariables false
set_option linter.unusedSimpArgs false
namespace Go.Proofs.Ytamoniljgifggaa
open Go.RowKit

theorem node_info : (Try.prog.info? 141).map (fun i => (i.zero, i.size, i.bytes)) = some (some (.agg #[.int .u8 0, .int .i64 0, .int .i64 0, .int .i64 0]), 4, 32) := by kernel_rfl

def PutOk (B g mb n : Nat) (M : Int) (iv : Value) (xs : List Value) (k l r d : Int) (nb : Nat) (w : World) (e : Ending) (w' : World) : Prop :=
  ∃ nb' c', e = .returned (.tuple #[.int .i64 (2 * n), .int .i64 0]) ∧ Bk w' g 45 #[.int .i64 M, .slice (some ⟨nb', 0, none⟩) (n + 1) c', .map (some mb), iv] ∧
    w'.ownsRow B 141 4 (.slice (some ⟨nb', 0, none⟩) (n + 1) c') (n + 1) (xs ++ [.int .u8 k, .int .i64 l, .int .i64 r, .int .i64 d]) ∧
    (nb' = nb ∨ w.heap.size ≤ nb') ∧ Fr (fun b => b = g ∨ b = nb) w w'

set_option maxHeartbeats 400000 in
set_option maxRecDepth 100000 in
theorem put_ok (B g nb mb c n : Nat) (M : Int) (iv : Value) (xs : List Value) (k l r d : Int) (w : World)
    (hg : Bk w g 45 #[.int .i64 M, .slice (some ⟨nb, 0, none⟩) n c, .map (some mb), iv])
    (hown : w.ownsRow B 141 4 (.slice (some ⟨nb, 0, none⟩) n c) n xs) (hB : B ≤ w.heap.size) (hlt : (n : Int) < M) (hM : M ≤ 65536) :
    Calls Try.prog 68 #[.pointer (some ⟨g, 0, none⟩), .agg #[.int .u8 k, .int .i64 l, .int .i64 r, .int .i64 d]] w (PutOk B g mb n M iv xs k l r d nb w) := by
  obtain ⟨i0, hi0, hz0, hz1, hz2⟩ := info_parts node_info
  have c0 : w.cell? ⟨g, 0, none⟩ = some (.int .i64 M) := hg.cell 0
  have c1 : w.cell? ⟨g, 1, none⟩ = some (.slice (some ⟨nb, 0, none⟩) n c) := hg.cell 1
  have hgl : g < w.heap.size := hg.lt
  go_enter Try.func68, Try.ntmps68
  go_wp2
  go_quiet (fail)
  go_wp2
  have hg1 := (hg.alloc (.cells #[.int .u8 k, .int .i64 l, .int .i64 r, .int .i64 d] 141)).drewN nq
  have hb1 := (Bk.new w 141 #[.int .u8 k, .int .i64 l, .int .i64 r, .int .i64 d]).drewN nq
  have ho1 : ((w.alloc (.cells #[.int .u8 k, .int .i64 l, .int .i64 r, .int .i64 d] 141)).drewN nq).ownsRow B 141 4 (.slice (some ⟨nb, 0, none⟩) n c) n xs := hown.alloc _
  have hf1 : Fr (fun b => b = g ∨ b = nb) w ((w.alloc (.cells #[.int .u8 k, .int .i64 l, .int .i64 r, .int .i64 d] 141)).drewN nq) := ((Fr.refl _ w).alloc _).drewN _
  have hs1 : B ≤ ((w.alloc (.cells #[.int .u8 k, .int .i64 l, .int .i64 r, .int .i64 d] 141)).drewN nq).heap.size := by simp; omega
  generalize ((w.alloc (.cells #[.int .u8 k, .int .i64 l, .int .i64 r, .int .i64 d] 141)).drewN nq) = W at *
  clear c0 c1
  have c1 : W.cell? ⟨g, 1, none⟩ = some (.slice (some ⟨nb, 0, none⟩) n c) := hg1.cell 1
  have d0 : W.cell? ⟨w.heap.size, 0, none⟩ = some (.int .u8 k) := hb1.cell 0
  have d1 : W.cell? ⟨w.heap.size, 1, none⟩ = some (.int .i64 l) := hb1.cell 1
  have d2 : W.cell? ⟨w.heap.size, 2, none⟩ = some (.int .i64 r) := hb1.cell 2
  have d3 : W.cell? ⟨w.heap.size, 3, none⟩ = some (.int .i64 d) := hb1.cell 3
  have hgl1 : g < W.heap.size := hg1.lt
  have hbl1 : w.heap.size < W.heap.size := hb1.lt
  have hne : g ≠ nb := by obtain ⟨cur, hcur⟩ := own_bk ho1; exact hg1.ne hcur (by decide)
  have Hg1 := Lib.hid hg1; have Hb1 := Lib.hid hb1; have Ho1 := Lib.hid ho1; have Hf1 := Lib.hid hf1; have Hg := Lib.hid hg; have Ho := Lib.hid hown
  clear hg1 hb1 ho1 hf1 hg hown
  go_region_law (refine step_append_lies _ rfl (.tmp 20) (.tmp 22) 41 rfl B 141 i0 _ 4 32 Try.underlying41 hi0 hz0 hz1 hz2 rfl (by omega) (.slice (some ⟨nb, 0, none⟩) n c) n xs rfl (Ho1.out.alloc _) ⟨_, 0, none⟩ 1 1 [.int .u8 k, .int .i64 l, .int .i64 r, .int .i64 d] rfl rfl (World.news_of_block (heap_alloc_new _ _)) (by simp [Value.oneCell']) (by omega) (by unfold maxLen; omega) (by omega) (by simp; omega) _ rfl ?_; intro nb' c' w1 hown1 hgrow1 hat1 hlt1; have hg2 := (Hg1.out.drew.alloc _).grown hgrow1 (by simp [Value.ownBlock]; exact hne); have c2 := hg2.cell 1; have f2 := hg2.frozen 1; have Hg2 := Lib.hid hg2; have Ho2 := Lib.hid hown1; have Hgr := Lib.hid hgrow1; have Hat := Lib.hid hat1; clear hg2 hown1 hgrow1 hat1)
  all_goals
    go_wp2
    go_ret2
    have hd : nb' = nb ∨ nb' = W.heap.size + 1 := by
      rcases Hat.out with h | h
      · left; simpa [Value.ownBlock, eq_comm] using h
      · right; simpa using h
    refine ⟨nb', c', by simp, Hg2.out.put 1 _, ?_, by omega, ?_⟩
    · exact own_fr (F := fun b => b = g) Ho2.out ((Fr.refl (fun b => b = g) _).setCell (p := ⟨g, 1, none⟩) (.inl rfl) _) (fun k hk => by simp [Value.ownBlock] at hk; omega)
    · exact ((Hf1.out.drew.alloc _).grown Hgr.out (fun k hk => .inl (.inr (by simpa [Value.ownBlock, eq_comm] using hk)))).setCell (p := ⟨g, 1, none⟩) (.inl (.inl rfl)) _

set_option maxHeartbeats 400000 in
set_option maxRecDepth 100000 in
theorem put_full (g c n : Nat) (A : Option Addr) (M : Int) (k l r d : Int) (w : World) (hgl : g < w.heap.size)
    (c0 : w.cell? ⟨g, 0, none⟩ = some (.int .i64 M)) (c1 : w.cell? ⟨g, 1, none⟩ = some (.slice A n c)) (hlt : M ≤ (n : Int)) :
    Calls Try.prog 68 #[.pointer (some ⟨g, 0, none⟩), .agg #[.int .u8 k, .int .i64 l, .int .i64 r, .int .i64 d]] w fun e w' => e = .returned (.tuple #[.int .i64 0, .int .i64 201]) ∧ Below w.heap.size w w' := by
  go_enter Try.func68, Try.ntmps68
  go_wp2
  go_quiet (fail)
  go_wp2
  go_ret2
  exact ⟨rfl, by have := ((Below.refl _ w).alloc (Nat.le_refl _) (.cells #[.int .u8 k, .int .i64 l, .int .i64 r, .int .i64 d] 141)); exact ⟨this.os, this.tape, this.output, this.size, this.block⟩⟩
end Go.Proofs.Ytamoniljgifggaa
