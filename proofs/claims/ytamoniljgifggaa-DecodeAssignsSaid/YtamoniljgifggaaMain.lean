/-
  The walk of salvorlaw42.DecodeReads.
-/
import Derived.Test.YtamoniljgifggaaAwake
import Derived.Test.YtamoniljgifggaaFew
set_option linter.unusedVariables false
set_option linter.unusedSimpArgs false
namespace Go.Proofs.Ytamoniljgifggaa
open Go.RowKit

set_option maxHeartbeats 2000000 in
set_option maxRecDepth 100000 in
theorem mainReads (v : RawV) (x : RawP) (A : Option Addr) (m c : Nat) (inp : List Bool) (w : World) (hS : Hid (Rd w v.W.A (v.S.map SV.val))) (hSl : Hid (v.S.length = v.W.n))
    (hraw : Hid (fewB v.A.n v.W.n v.O.n v.K.n v.C.n v.R.n v.S = true → RawAt w v x)) (hr : Hid (Rd w A (inp.map Value.bool))) (hl : Hid (inp.length = m)) (hm : m ≤ 9223372036854775807) :
    Calls Try.prog 3 #[.agg #[.int .u8 x.inp, .slice v.A.A v.A.n v.A.c, .slice v.W.A v.W.n v.W.c, .slice v.O.A v.O.n v.O.c, .slice v.K.A v.K.n v.K.c, .slice v.C.A v.C.n v.C.c, .slice v.R.A v.R.n v.R.c, .int .i64 x.req, .int .i64 x.bey, .int .i64 x.hol], .slice A m c] w fun e w' => e = .returned (.bool true) ∧ Below w.heap.size w w' := by
  obtain ⟨⟨AA, nA, cA⟩, ⟨AW, nW, cW⟩, S, ⟨AO, nO, cO⟩, ⟨AK, nK, cK⟩, ⟨AC, nC, cC⟩, ⟨AR, nR, cR⟩⟩ := v
  obtain ⟨inp0, ands, words, ops, keep, cached, rules, req, bey, hol⟩ := x
  dsimp only at hS hSl hraw ⊢
  have HB0 : Hid (Below w.heap.size w (w.alloc (.cells #[.int .u8 inp0, .slice AA nA cA, .slice AW nW cW, .slice AO nO cO, .slice AK nK cK, .slice AC nC cC, .slice AR nR cR, .int .i64 req, .int .i64 bey, .int .i64 hol] 27))) := (Below.refl _ w).alloc (Nat.le_refl _) _
  have HX0 := Lib.hid (Bk.new w 27 #[.int .u8 inp0, .slice AA nA cA, .slice AW nW cW, .slice AO nO cO, .slice AK nK cK, .slice AC nC cC, .slice AR nR cR, .int .i64 req, .int .i64 bey, .int .i64 hol])
  go_enter Try.func3, Try.ntmps3
  go_wp2_with fail
  generalize (w.alloc (.cells #[.int .u8 inp0, .slice AA nA cA, .slice AW nW cW, .slice AO nO cO, .slice AK nK cK, .slice AC nC cC, .slice AR nR cR, .int .i64 req, .int .i64 bey, .int .i64 hol] 27)) = W0 at *
  have hF := few inp0 AA AW AO AK AC AR nA nW nO nK nC nR cA cW cO cK cC cR req bey hol S W0 (Lib.hid (hS.out.below HB0.out)) hSl
  cases hb : fewB nA nW nO nK nC nR S with
  | false =>
    rw [hb] at hF
    have HF := Lib.hid hF
    clear hF hb
    refine HF.out.mono ?_
    clear HF
    rintro e W1 ⟨rfl, hb1⟩
    have HB1 := Lib.hid (bthen HB0.out hb1)
    clear hb1
    go_wp2_with fail
    refine (awakeC W1).mono ?_
    rintro e W2 ⟨rfl, hb2⟩
    have HB2 := Lib.hid (bthen HB1.out hb2)
    clear hb2
    go_wp2
    go_ret
    exact ⟨rfl, HB2.out⟩
  | true =>
    rw [hb] at hF
    have HF := Lib.hid hF
    have HRAW := Lib.hid (hraw.out hb)
    clear hF hb
    refine HF.out.mono ?_
    clear HF
    rintro e W1 ⟨rfl, hb1⟩
    have HB1 := Lib.hid (bthen HB0.out hb1)
    have HX1 := Lib.hid (bkbel HX0.out hb1)
    clear hb1
    by_cases h30 : 30 < m
    · have hd : decide ((30 : Int) < (m : Int)) = true := by simp; omega
      go_wp2_with fail
      refine (awakeC W1).mono ?_
      rintro e W2 ⟨rfl, hb2⟩
      have HB2 := Lib.hid (bthen HB1.out hb2)
      clear hb2
      go_wp2
      go_ret
      exact ⟨rfl, HB2.out⟩
    · have hd : decide ((30 : Int) < (m : Int)) = false := by simp; omega
      obtain ⟨x0, x1, x2, x3, x4, x5, x6, x7, x8, x9⟩ := (cells10 HX1.out).1
      have hR := reads ⟨⟨AA, nA, cA⟩, ⟨AW, nW, cW⟩, S, ⟨AO, nO, cO⟩, ⟨AK, nK, cK⟩, ⟨AC, nC, cC⟩, ⟨AR, nR, cR⟩⟩ ⟨inp0, ands, words, ops, keep, cached, rules, req, bey, hol⟩ A m c inp W1 (Lib.hid (HRAW.out.below HB1.out)) (Lib.hid (hr.out.below HB1.out)) hl (by omega)
      dsimp only at hR
      have HR := Lib.hid hR
      clear hR
      go_wp2_with fail
      refine HR.out.mono ?_
      clear HR x0 x1 x2 x3 x4 x5 x6 x7 x8 x9
      rintro e W2 ⟨rfl, hb2⟩
      have HB2 := Lib.hid (bthen HB1.out hb2)
      clear hb2
      go_wp2_with fail
      refine (awakeC W2).mono ?_
      rintro e W3 ⟨rfl, hb3⟩
      have HB3 := Lib.hid (bthen HB2.out hb3)
      clear hb3
      go_wp2
      go_ret
      exact ⟨rfl, HB3.out⟩
end Go.Proofs.Ytamoniljgifggaa
