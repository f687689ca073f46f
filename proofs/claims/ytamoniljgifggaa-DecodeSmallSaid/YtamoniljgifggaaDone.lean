/-
  Contract of decode.done.
-/
import Derived.Test.YtamoniljgifggaaAsg0
import Derived.Laws.EntriesVeiled
set_option linter.unusedVariables false
set_option linter.unusedSimpArgs false
namespace Go.Proofs.Ytamoniljgifggaa
open Go.RowKit

set_option maxRecDepth 100000 in
theorem doneC (g pb : Nat) (AI AO AK AC AR : Option Addr) (nI cI nO cO nK cK nC cC nR cR : Nat) (q1 q2 q3 : Int) (w : World) :
    Calls Try.prog 44 #[.agg #[.pointer (some ⟨g, 0, none⟩), .slice AI nI cI, .int .i64 q1, .slice AO nO cO, .slice AK nK cK, .slice AC nC cC, .slice AR nR cR, .int .i64 q2, .int .i64 q3], .func (.func 76) #[] #[.pointer (some ⟨pb, 0, none⟩)]] w fun e w' => e = .returned (.func (.func 79) #[] #[.pointer (some ⟨w.heap.size, 0, none⟩), .pointer (some ⟨w.heap.size + 1, 0, none⟩)]) ∧
      (w.alloc (.cells #[.pointer (some ⟨g, 0, none⟩), .slice AI nI cI, .int .i64 q1, .slice AO nO cO, .slice AK nK cK, .slice AC nC cC, .slice AR nR cR, .int .i64 q2, .int .i64 q3] 49)).alloc (.cells #[.func (.func 76) #[] #[.pointer (some ⟨pb, 0, none⟩)]] 100) = w' := by
  go_enter Try.func44, Try.ntmps44
  go_wp2
  go_ret
  exact ⟨rfl, rfl⟩
theorem done_seq (n n0 a b rb ib pb : Nat) (AO : Option Addr) (nO cO : Nat) (R : Res) (inp : List Bool) (w : World) (hn0 : n0 = w.heap.size) (hn : 1 ≤ n)
    (hIt : ∀ W, KpA n0 a b w W → ItAt W rb ib pb #[] AO nO cO R inp) (hl : R.ops.length = nO) (hnO : nO ≤ 100000) (hR : Rts R) :
    SeqStopsK Fence.wide n Try.prog 79 #[.pointer (some ⟨rb, 0, none⟩), .pointer (some ⟨ib, 0, none⟩)] (yEnc (v := valR (evalG R.G inp)) (ops := R.ops)) (KpA n0 a b) YAll (fun _ => True) nO w := by
  intro l J Jx W hW hJ _ hY h0
  subst hn0
  exact done1 n l w.heap.size a b rb ib pb AO nO cO R inp W hW.size hn (Lib.hid fun W' hk => hIt W' ((KpA.of_below hW).trans hk)) (Lib.hid hl) hnO (Lib.hid hR) J Jx
    (Lib.hid fun pre W' o hj => hJ pre W' _ none hj (World.grownBy_alloc W' o none) (fun r e => by cases e)) (Lib.hid hY) (Lib.hid h0)
end Go.Proofs.Ytamoniljgifggaa
