/-
  The parser's recursion: operand.
-/
import Derived.Test.YtehcpcpmcngnjaaDoorRecB
import Derived.Deep.LoopGhost
import Derived.Deep.DeepMust
import Derived.Deep.RegionLaw
set_option linter.unusedVariables false
set_option linter.unusedSimpArgs false
namespace Go.Proofs.YtehcpcpmcngnjaaDoor
open Go.RowKit Go.PlainAid

section
variable {p : Nat} {E : Env} {T : TV} {Q : SV}
theorem operand_some {f : Nat} {s s' : PSt} {X : Nd} (h : operandP E (f + 1) s = some (X, s')) :
    (∃ op, (nextP E s).kind = 4 ∧ findO (nextP E s).text false = some op ∧ okP s = true ∧ ∃ x s2, operandP E f (openP E s (nextP E s).text) = some (x, s2) ∧ okP s2 = true ∧ okW [x] = true ∧ X = wholeP 5 op 0 0 [] (nextP E s).at' [x] ∧ s' = deepP s2 (-1)) ∨
    (((nextP E s).kind ≠ 4 ∨ findO (nextP E s).text false = none) ∧ ∃ x s1, basisP E f s = some (x, s1) ∧ castsP E f x s1 = some (X, s')) := by
  unfold operandP at h
  by_cases h1 : (nextP E s).kind = 4
  · rw [if_pos h1] at h
    cases h2 : findO (nextP E s).text false with
    | none =>
      rw [h2] at h
      dsimp only at h
      refine .inr ⟨.inr rfl, ?_⟩
      cases h3 : basisP E f s with
      | none => rw [h3] at h; cases h
      | some q =>
        obtain ⟨x, s1⟩ := q
        rw [h3] at h
        exact ⟨x, s1, rfl, h⟩
    | some op =>
      rw [h2] at h
      dsimp only at h
      refine .inl ⟨op, h1, rfl, ?_⟩
      cases h3 : okP s with
      | false => rw [h3] at h; cases h
      | true =>
        rw [h3] at h
        dsimp only at h
        refine ⟨rfl, ?_⟩
        cases h4 : operandP E f (openP E s (nextP E s).text) with
        | none => rw [h4] at h; cases h
        | some q =>
          obtain ⟨x, s2⟩ := q
          rw [h4] at h
          dsimp only at h
          cases h5 : (okP s2 && okW [x]) with
          | false => rw [h5] at h; cases h
          | true =>
            rw [h5] at h
            injection h with h; injection h with h7 h8
            rw [Bool.and_eq_true] at h5
            exact ⟨x, s2, rfl, h5.1, h5.2, h7.symm, h8.symm⟩
  · rw [if_neg h1] at h
    dsimp only at h
    refine .inr ⟨.inl h1, ?_⟩
    cases h3 : basisP E f s with
    | none => rw [h3] at h; cases h
    | some q =>
      obtain ⟨x, s1⟩ := q
      rw [h3] at h
      exact ⟨x, s1, rfl, h⟩
theorem findF_le (t : List UInt8) (two : Bool) : ∀ f o k, findF t two f o = some k → o ≤ k ∧ k < o + f
  | 0, _, _, h => by cases h
  | f + 1, o, k, h => by
    rw [findF_succ] at h
    split at h
    · injection h with h; omega
    · have := findF_le t two f (o + 1) k h; omega
theorem findO_le {t : List UInt8} {two : Bool} {k : Nat} (h : findO t two = some k) : 1 ≤ k ∧ k ≤ 16 := by
  have := findF_le t two 16 1 k h
  omega
theorem casts_some {f : Nat} {x X : Nd} {s s' : PSt} (h : castsP E (f + 1) x s = some (X, s')) : (isP E s [64] = false ∧ X = x ∧ s' = s) ∨ (isP E s [64] = true ∧ okW [x] = true ∧ castsP E f (wholeP 8 0 0 (numP E (stepP s)).1 [] (hereP x) [x]) (numP E (stepP s)).2 = some (X, s')) := by
  unfold castsP at h
  cases h1 : isP E s [64] with
  | false =>
    rw [h1] at h
    injection h with h; injection h with h7 h8
    exact .inl ⟨rfl, h7.symm, h8.symm⟩
  | true =>
    rw [h1] at h
    dsimp only at h
    cases h2 : okW [x] with
    | false => rw [h2] at h; cases h
    | true =>
      rw [h2] at h
      exact .inr ⟨rfl, rfl, h⟩
/-- What stands at a cast's rounds: the parser, the value's box, the result's box, the value. -/
structure Lp (p : Nat) (E : Env) (T : TV) (Q : SV) (w : World) (b r : Nat) (y : Nd) (S R : SV) (s : PSt) (W : World) : Prop where
  pp : PP w p E T Q s W
  bx : Bk W b 67 #[.int .u8 (y.1.kind : Int), .int .u8 (y.1.op : Int), .int .u32 (y.1.value : Int), .int .i64 y.1.width, .string (str y.1.name), .slice S.A S.n S.c, .slice R.A R.n R.c]
  rs : Bk W r 67 #[.int .u8 0, .int .u8 0, .int .u32 0, .int .i64 0, .string ⟨#[]⟩, .slice none 0 0, .slice none 0 0]
  nd : NdAt T.base W y S R
theorem Lp.bel {w W W' : World} {b r : Nat} {y : Nd} {S R : SV} {s : PSt} (h : Lp p E T Q w b r y S R s W) (hb : Below W.heap.size W W') : Lp p E T Q w b r y S R s W' := ⟨h.pp.then hb, bkbel h.bx hb, bkbel h.rs hb, h.nd.below hb⟩
theorem Lp.tr {w W W' : World} {b r : Nat} {y : Nd} {S R : SV} {s s' : PSt} (h : Lp p E T Q w b r y S R s W) (hb : b ≠ p) (hr : r ≠ p) (k : PP W p E T Q s' W') : Lp p E T Q w b r y S R s' W' := ⟨h.pp.trans k, k.bk h.bx hb, k.bk h.rs hr, k.nd h.pp.ps h.nd⟩
theorem Lp.cel {w W : World} {b r : Nat} {y : Nd} {S R : SV} {s : PSt} (h : Lp p E T Q w b r y S R s W) : W.cell? ⟨b, 0, none⟩ = some (.int .u8 (y.1.kind : Int)) ∧ W.cell? ⟨b, 1, none⟩ = some (.int .u8 (y.1.op : Int)) ∧ W.cell? ⟨b, 2, none⟩ = some (.int .u32 (y.1.value : Int)) ∧ W.cell? ⟨b, 3, none⟩ = some (.int .i64 y.1.width) ∧ W.cell? ⟨b, 4, none⟩ = some (.string (str y.1.name)) ∧ W.cell? ⟨b, 5, none⟩ = some (.slice S.A S.n S.c) ∧ W.cell? ⟨b, 6, none⟩ = some (.slice R.A R.n R.c) := cells7 h.bx
theorem Lp.cal {w W : World} {b r : Nat} {y : Nd} {S R : SV} {s : PSt} (h : Lp p E T Q w b r y S R s W) (o : Obj) : (W.alloc o).cell? ⟨b, 0, none⟩ = some (.int .u8 (y.1.kind : Int)) ∧ (W.alloc o).cell? ⟨b, 1, none⟩ = some (.int .u8 (y.1.op : Int)) ∧ (W.alloc o).cell? ⟨b, 2, none⟩ = some (.int .u32 (y.1.value : Int)) ∧ (W.alloc o).cell? ⟨b, 3, none⟩ = some (.int .i64 y.1.width) ∧ (W.alloc o).cell? ⟨b, 4, none⟩ = some (.string (str y.1.name)) ∧ (W.alloc o).cell? ⟨b, 5, none⟩ = some (.slice S.A S.n S.c) ∧ (W.alloc o).cell? ⟨b, 6, none⟩ = some (.slice R.A R.n R.c) := cells7 (bkbel h.bx pokeB')
theorem NdsAt.tr {B : Nat} {W W' : World} {g n : Nat} {L : List NdV} {s s0 : PSt} (h : NdsAt B W (some ⟨g, 0, none⟩) n L) (hg : g ≠ p) (h0 : Ps W p E T Q s0) (k : PP W p E T Q s W') : NdsAt B W' (some ⟨g, 0, none⟩) n L :=
  ⟨h.rd.fr k.fr (fun b _ he hb => by
    obtain ⟨off, he⟩ := he
    injection he with he; injection he with he
    exact hg (he.trans hb)), h.len, Nat.le_trans h.base k.fr.size, fun q hq => k.nd h0 (h.all q hq)⟩
set_option maxRecDepth 100000 in
set_option maxHeartbeats 8000000 in
theorem operand_step {f : Nat} (IH : ∀ g, g ≤ f → Sp p E T Q g) (s : PSt) (X : Nd) (s' : PSt) (w : World) (hx : operandP E (f + 1) s = some (X, s')) (h : Hid (Ps w p E T Q s)) :
    Calls Tryd.prog 53 #[.pointer (some ⟨p, 0, none⟩)] w (NdPost w p E T Q X s') := by
  have hR := operand_some hx
  have HIH := Lib.hid IH
  have hpl : p < w.heap.size := h.out.lt
  have hle := h.out.nextLe
  have HB0 : Hid (Below w.heap.size w (w.alloc (.cells #[.int .u8 0, .int .u8 0, .int .u32 0, .int .i64 0, .string ⟨#[]⟩, .slice none 0 0, .slice none 0 0] 67))) := pokeB'
  have HX0 := Lib.hid (Bk.new w 67 #[.int .u8 0, .int .u8 0, .int .u32 0, .int .i64 0, .string ⟨#[]⟩, .slice none 0 0, .slice none 0 0])
  obtain ⟨⟨tk, tt, ta, tf⟩, ht⟩ : ∃ t, nextP E s = t := ⟨_, rfl⟩
  have HT := Lib.hid ht
  rw [ht] at hle hR
  dsimp only at hle hR
  clear hx IH ht
  rcases hR with ⟨op, hk, hf, ok1, x, s2, hc, ok2, okw, hX, rfl⟩ | ⟨hno, x, s1, hc, hcs⟩
  · have hop := findO_le hf
    have HFO := Lib.hid hf
    have HC := Lib.hid hc
    have OW := Lib.hid (okW_len okw)
    have HXE := Lib.hid hX
    have e1 : ((tk : Int) == 4) = true := by simp; omega
    have hok := ok2
    unfold okP at hok
    simp only [Bool.and_eq_true, decide_eq_true_eq] at hok
    have wd : IntKind.i64.wrap (s2.deep - 1) = s2.deep - 1 := by rw [IntKind.wrap_i64]; omega
    clear hf hc okw hX hok hk
    go_enter Tryd.func53, Tryd.ntmps53
    go_upto_region 1 with fail
    generalize (w.alloc (.cells #[.int .u8 0, .int .u8 0, .int .u32 0, .int .i64 0, .string ⟨#[]⟩, .slice none 0 0, .slice none 0 0] 67)) = W at HB0 HX0 ⊢
    obtain ⟨r, hr⟩ : ∃ r, w.heap.size = r := ⟨_, rfl⟩
    rw [hr] at HX0 ⊢
    have hrp : r ≠ p := by omega
    have hwr : w.heap.size ≤ r := by omega
    clear hr hpl
    have HP0 := Lib.hid (h.out.below HB0.out)
    have HNX := Lib.hid (nextC p E T Q s W HP0)
    rw [HT.out] at HNX
    dsimp only [nxV, tokV] at HNX
    go_wp2_with fail
    refine HNX.out.mono ?_
    rintro e w1 ⟨rfl, hb1⟩
    have HB1 := Lib.hid (bthen HB0.out hb1)
    have HX1 := Lib.hid (bkbel HX0.out hb1)
    clear hb1 HNX HP0 HX0
    have hwr' : r < w1.heap.size := HX1.out.lt
    have hwp' : p < w1.heap.size := (h.out.below HB1.out).lt
    have HBn : Hid (Below w1.heap.size w1 (w1.alloc (.cells #[.int .u8 (tk : Int), .int .i64 (ta : Int), .int .i64 (tf : Int)] 74))) := pokeB'
    have HTB := Lib.hid (Bk.new w1 74 #[.int .u8 (tk : Int), .int .i64 (ta : Int), .int .i64 (tf : Int)])
    go_upto_region 2 with fail
    generalize (w1.alloc (.cells #[.int .u8 (tk : Int), .int .i64 (ta : Int), .int .i64 (tf : Int)] 74)) = W2 at HBn HTB ⊢
    obtain ⟨b3, hb⟩ : ∃ b, w1.heap.size = b := ⟨_, rfl⟩
    rw [hb] at HTB ⊢
    have hb3p : b3 ≠ p := by omega
    have hb3r : b3 ≠ r := by omega
    have hrb3 : r ≠ b3 := by omega
    clear hb hwr' hwp'
    have HB2 := Lib.hid (bthen HB1.out HBn.out)
    have HX2 := Lib.hid (bkbel HX1.out HBn.out)
    clear HX1 HBn HB1
    go_wp2_with fail
    refine (findC tt false W2).mono ?_
    rintro e w3 ⟨rfl, hb⟩
    rw [HFO.out]
    dsimp only [findV]
    have HP3 := Lib.hid (PP.below h.out (bthen HB2.out hb))
    have HX3 := Lib.hid (bkbel HX2.out hb)
    have HT3 := Lib.hid (bkbel HTB.out hb)
    clear hb HX2 HTB HB2
    obtain ⟨t0, t1, t2⟩ := bcells3 HT3.out
    go_wp2_with fail
    refine (openC p E T Q s tt w3 (Lib.hid HP3.out.ps) ok1).mono ?_
    rintro e w4 ⟨⟨v, rfl⟩, hp⟩
    have HP4 := Lib.hid (HP3.out.trans hp)
    have HX4 := Lib.hid (hp.bk HX3.out hrp)
    have HT4 := Lib.hid (hp.bk HT3.out hb3p)
    clear hp HP3 HX3 HT3 t0 t1 t2
    go_wp2_with fail
    refine ((HIH.out f (Nat.le_refl _)).operand _ _ _ w4 HC.out (Lib.hid HP4.out.ps)).mono ?_
    rintro e w5 ⟨S, R, rfl, hn, hp⟩
    rw [nodeV_lit]
    have HP5 := Lib.hid (HP4.out.trans hp)
    have HX5 := Lib.hid (hp.bk HX4.out hrp)
    have HT5 := Lib.hid (hp.bk HT4.out hb3p)
    have HN5 := Lib.hid hn
    clear hp hn HP4 HX4 HT4
    have hw5r : r < w5.heap.size := HX5.out.lt
    have hw5p : p < w5.heap.size := HP5.out.ps.lt
    have hw5t : b3 < w5.heap.size := HT5.out.lt
    have HBn : Hid (Below w5.heap.size w5 (w5.alloc (.cells #[.int .u8 (x.1.kind : Int), .int .u8 (x.1.op : Int), .int .u32 (x.1.value : Int), .int .i64 x.1.width, .string (str x.1.name), .slice S.A S.n S.c, .slice R.A R.n R.c] 67))) := pokeB'
    have HY6 := Lib.hid (Bk.new w5 67 #[.int .u8 (x.1.kind : Int), .int .u8 (x.1.op : Int), .int .u32 (x.1.value : Int), .int .i64 x.1.width, .string (str x.1.name), .slice S.A S.n S.c, .slice R.A R.n R.c])
    go_upto_region 6 with fail
    generalize (w5.alloc (.cells #[.int .u8 (x.1.kind : Int), .int .u8 (x.1.op : Int), .int .u32 (x.1.value : Int), .int .i64 x.1.width, .string (str x.1.name), .slice S.A S.n S.c, .slice R.A R.n R.c] 67)) = W6 at HBn HY6 ⊢
    obtain ⟨b7, hb⟩ : ∃ b, w5.heap.size = b := ⟨_, rfl⟩
    rw [hb] at HY6 ⊢
    have hb7p : b7 ≠ p := by omega
    have hb7r : b7 ≠ r := by omega
    have hb7b3 : b7 ≠ b3 := by omega
    clear hb hw5r hw5p hw5t
    have HP6 := Lib.hid (HP5.out.then HBn.out)
    have HX6 := Lib.hid (bkbel HX5.out HBn.out)
    have HT6 := Lib.hid (bkbel HT5.out HBn.out)
    have HN6 := Lib.hid (HN5.out.below HBn.out)
    clear HP5 HX5 HT5 HN5 HBn
    obtain ⟨g0, g1, g2, g3, g4, g5, g6⟩ := HP6.out.ps.cells
    have gz := HP6.out.ps.frozens 3
    have hd := HP6.out.ps.setDeep (s2.deep - 1)
    have HP7 := Lib.hid (HP6.out.trans hd)
    have HX7 := Lib.hid (hd.bk HX6.out hrp)
    have HT7 := Lib.hid (hd.bk HT6.out hb3p)
    have HY7 := Lib.hid (hd.bk HY6.out hb7p)
    have HN7 := Lib.hid (hd.nd HP6.out.ps HN6.out)
    clear hd
    go_upto_region 7 with fail
    generalize (W6.setCell ⟨p, 3, none⟩ (.int .i64 (s2.deep - 1))) = W7 at HP7 HX7 HT7 HY7 HN7 ⊢
    clear HP6 HX6 HT6 HY6 HN6 g0 g1 g2 g3 g4 g5 g6 gz
    obtain ⟨t0, t1, t2⟩ := bcells3 HT7.out
    obtain ⟨x0, x1, x2, x3, x4, x5, x6⟩ := cells7 HY7.out
    have HRN : Hid (NdsAt T.base (W7.alloc (.cells #[.int .u8 (x.1.kind : Int), .int .u8 (x.1.op : Int), .int .u32 (x.1.value : Int), .int .i64 x.1.width, .string (str x.1.name), .slice S.A S.n S.c, .slice R.A R.n R.c] 67)) (some ⟨W7.heap.size, 0, none⟩) 1 [(x, S, R)]) := nds_new (W := W7) [(x, S, R)] (fun q hq => by rw [List.mem_singleton.1 hq]; exact HN7.out)
    have HW : Hid (∀ (W' : World) (g : Nat), NdsAt T.base W' (some ⟨g, 0, none⟩) 1 [(x, S, R)] → Calls Tryd.prog 48 #[.agg #[.int .u8 5, .int .u8 (op : Int), .int .u32 0, .int .i64 0, .string ⟨#[]⟩, .slice none 0 0], .int .i64 (ta : Int), .slice (some ⟨g, 0, none⟩) 1 1] W' fun e w' => ∃ S0 R0, e = .returned (nodeV X S0 R0) ∧ NdAt T.base w' X S0 R0 ∧ Below W'.heap.size W' w') := fun W' g hg => by
      have hlen : (atsN 0 [(x, S, R)]).length ≤ 100000000 := by
        have h1 := OW.out
        have h2 : (atsN 0 ([(x, S, R)] : List NdV)).length = 1 + (([x] : List Nd).flatMap (·.2)).length := by unfold atsN; simp; omega
        omega
      rw [HXE.out]
      exact wholeC 5 op 0 0 [] ta (some ⟨g, 0, none⟩) 1 1 [(x, S, R)] W' (Lib.hid hg) (by omega) hlen (by omega) (by omega) (by omega) (by omega) (by omega) (by omega) (by simp)
    go_wp2_with fail
    refine (HW.out _ _ HRN.out).mono ?_
    rintro e v7 ⟨S0, R0, rfl, hn7, hb7⟩
    rw [nodeV_lit]
    have HB7 := Lib.hid (bthen pokeB' hb7)
    have HN8 := Lib.hid hn7
    have HP8 := Lib.hid (HP7.out.then HB7.out)
    have HX8 := Lib.hid (bkbel HX7.out HB7.out)
    clear hn7 hb7 t0 t1 t2 x0 x1 x2 x3 x4 x5 x6 HRN HW
    obtain ⟨y0, y1, y2, y3, y4, y5, y6⟩ := cells7 HX8.out
    obtain ⟨f0, f1, f2, f3, f4, f5, f6⟩ := froz7 HX8.out
    have HF := Lib.hid (fr7 v7 r (.int .u8 (X.1.kind : Int)) (.int .u8 (X.1.op : Int)) (.int .u32 (X.1.value : Int)) (.int .i64 X.1.width) (.string (str X.1.name)) (.slice S0.A S0.n S0.c) (.slice R0.A R0.n R0.c))
    have HK := Lib.hid (put7 (v0 := .int .u8 (X.1.kind : Int)) (v1 := .int .u8 (X.1.op : Int)) (v2 := .int .u32 (X.1.value : Int)) (v3 := .int .i64 X.1.width) (v4 := .string (str X.1.name)) (v5 := .slice S0.A S0.n S0.c) (v6 := .slice R0.A R0.n R0.c) HX8.out)
    go_wp2_with fail
    generalize (((((((v7.setCell ⟨r, 0, none⟩ (.int .u8 (X.1.kind : Int))).setCell ⟨r, 1, none⟩ (.int .u8 (X.1.op : Int))).setCell ⟨r, 2, none⟩ (.int .u32 (X.1.value : Int))).setCell ⟨r, 3, none⟩ (.int .i64 X.1.width)).setCell ⟨r, 4, none⟩ (.string (str X.1.name))).setCell ⟨r, 5, none⟩ (.slice S0.A S0.n S0.c)).setCell ⟨r, 6, none⟩ (.slice R0.A R0.n R0.c)) = WF at HF HK ⊢
    obtain ⟨r0, r1, r2, r3, r4, r5, r6⟩ := cells7 HK.out
    refine bodyPost_ret (v := nodeV X S0 R0) (by rw [nodeV_lit]; simp [results, Tryd.results53, go_sem, r0, r1, r2, r3, r4, r5, r6]) rfl ?_
    exact nd_out HP8.out h.out HX8.out hrp hwr HF.out HN8.out
  · have HC := Lib.hid hc
    have HCS := Lib.hid hcs
    have hF : ∃ o b, findV (findO tt false) = .tuple #[.int .u8 o, .bool b] ∧ (b = false ∨ ((tk : Int) == 4) = false) := by
      cases hf : findO tt false with
      | none => exact ⟨0, false, rfl, .inl rfl⟩
      | some op =>
        refine ⟨(op : Int), true, rfl, .inr ?_⟩
        rcases hno with h1 | h1
        · simp; omega
        · rw [hf] at h1; cases h1
    obtain ⟨o, b, hfv, hb⟩ := hF
    have HFO := Lib.hid hfv
    clear hc hcs hfv hno
    go_enter Tryd.func53, Tryd.ntmps53
    go_upto_region 1 with fail
    generalize (w.alloc (.cells #[.int .u8 0, .int .u8 0, .int .u32 0, .int .i64 0, .string ⟨#[]⟩, .slice none 0 0, .slice none 0 0] 67)) = W at HB0 HX0 ⊢
    obtain ⟨r, hr⟩ : ∃ r, w.heap.size = r := ⟨_, rfl⟩
    rw [hr] at HX0 ⊢
    have hrp : r ≠ p := by omega
    have hwr : w.heap.size ≤ r := by omega
    clear hr hpl
    have HP0 := Lib.hid (h.out.below HB0.out)
    have HNX := Lib.hid (nextC p E T Q s W HP0)
    rw [HT.out] at HNX
    dsimp only [nxV, tokV] at HNX
    go_wp2_with fail
    refine HNX.out.mono ?_
    rintro e w1 ⟨rfl, hb1⟩
    have HB1 := Lib.hid (bthen HB0.out hb1)
    have HX1 := Lib.hid (bkbel HX0.out hb1)
    clear hb1 HNX HP0 HX0
    have hwr' : r < w1.heap.size := HX1.out.lt
    have hwp' : p < w1.heap.size := (h.out.below HB1.out).lt
    have HBn : Hid (Below w1.heap.size w1 (w1.alloc (.cells #[.int .u8 (tk : Int), .int .i64 (ta : Int), .int .i64 (tf : Int)] 74))) := pokeB'
    have HTB := Lib.hid (Bk.new w1 74 #[.int .u8 (tk : Int), .int .i64 (ta : Int), .int .i64 (tf : Int)])
    go_upto_region 2 with fail
    generalize (w1.alloc (.cells #[.int .u8 (tk : Int), .int .i64 (ta : Int), .int .i64 (tf : Int)] 74)) = W2 at HBn HTB ⊢
    obtain ⟨b3, hb⟩ : ∃ b, w1.heap.size = b := ⟨_, rfl⟩
    rw [hb] at HTB ⊢
    have hb3p : b3 ≠ p := by omega
    have hb3r : b3 ≠ r := by omega
    have hrb3 : r ≠ b3 := by omega
    clear hb hwr' hwp'
    have HB2 := Lib.hid (bthen HB1.out HBn.out)
    have HX2 := Lib.hid (bkbel HX1.out HBn.out)
    clear HX1 HBn HB1
    go_wp2_with fail
    refine (findC tt false W2).mono ?_
    rintro e w3 ⟨rfl, hb⟩
    rw [HFO.out]
    dsimp only
    have HP3 := Lib.hid (PP.below h.out (bthen HB2.out hb))
    have HX3 := Lib.hid (bkbel HX2.out hb)
    have HT3 := Lib.hid (bkbel HTB.out hb)
    clear hb HX2 HTB HB2
    obtain ⟨t0, t1, t2⟩ := bcells3 HT3.out
    go_upto_region 3 with fail
    go_cut [24] (fun v24 wx => v24 = .bool false ∧ w3 = wx)
    case first =>
      rcases hb with rfl | hb
      · go_wp2
        go_meet
        exact ⟨rfl, rfl⟩
      · cases b with
        | false =>
          go_wp2
          go_meet
          exact ⟨rfl, rfl⟩
        | true =>
          go_wp2
          go_meet
          exact ⟨rfl, rfl⟩
    case rest =>
    obtain ⟨rfl, rfl⟩ := hcut
    clear t0 t1 t2 hb
    go_wp2_with fail
    refine ((HIH.out f (Nat.le_refl _)).basis _ _ _ w3 HC.out (Lib.hid HP3.out.ps)).mono ?_
    rintro e w5 ⟨S, R, rfl, hn, hp⟩
    rw [nodeV_lit]
    have HP5 := Lib.hid (HP3.out.trans hp)
    have HX5 := Lib.hid (hp.bk HX3.out hrp)
    have HN5 := Lib.hid hn
    clear hp hn HP3 HX3 HT3
    have hw5r : r < w5.heap.size := HX5.out.lt
    have hw5p : p < w5.heap.size := HP5.out.ps.lt
    have HBn : Hid (Below w5.heap.size w5 (w5.alloc (.cells #[.int .u8 (x.1.kind : Int), .int .u8 (x.1.op : Int), .int .u32 (x.1.value : Int), .int .i64 x.1.width, .string (str x.1.name), .slice S.A S.n S.c, .slice R.A R.n R.c] 67))) := pokeB'
    have HY6 := Lib.hid (Bk.new w5 67 #[.int .u8 (x.1.kind : Int), .int .u8 (x.1.op : Int), .int .u32 (x.1.value : Int), .int .i64 x.1.width, .string (str x.1.name), .slice S.A S.n S.c, .slice R.A R.n R.c])
    go_wp2_with fail
    generalize (w5.alloc (.cells #[.int .u8 (x.1.kind : Int), .int .u8 (x.1.op : Int), .int .u32 (x.1.value : Int), .int .i64 x.1.width, .string (str x.1.name), .slice S.A S.n S.c, .slice R.A R.n R.c] 67)) = W6 at HBn HY6 ⊢
    obtain ⟨b8, hb⟩ : ∃ b, w5.heap.size = b := ⟨_, rfl⟩
    rw [hb] at HY6 ⊢
    have hb8p : b8 ≠ p := by omega
    have hb8r : b8 ≠ r := by omega
    have hrb8 : r ≠ b8 := by omega
    have hwb8 : w.heap.size ≤ b8 := by omega
    clear hb hw5r hw5p
    have HP6 := Lib.hid (HP5.out.then HBn.out)
    have HX6 := Lib.hid (bkbel HX5.out HBn.out)
    have HN6 := Lib.hid (HN5.out.below HBn.out)
    clear HP5 HX5 HN5 HBn
    go_loopg [47] f (fun g v47 wr => ∃ y S R sc, Hid (castsP E g y sc = some (X, s')) ∧ Hid (Bk wr b8 67 #[.int .u8 (y.1.kind : Int), .int .u8 (y.1.op : Int), .int .u32 (y.1.value : Int), .int .i64 y.1.width, .string (str y.1.name), .slice S.A S.n S.c, .slice R.A R.n R.c]) ∧ Hid (NdAt T.base wr y S R) ∧ Hid (PP w p E T Q sc wr) ∧ Hid (Bk wr r 67 #[.int .u8 0, .int .u8 0, .int .u32 0, .int .i64 0, .string ⟨#[]⟩, .slice none 0 0, .slice none 0 0]))
    case atStart => exact ⟨x, S, R, s1, HCS, HY6, HN6, HP6, HX6⟩
    case round =>
      obtain ⟨y, S, R, sc, HCY, HYc, HNc, HPc, HXc⟩ := hrel
      clear HCS HY6 HN6 HP6 HX6
      cases gk with
      | zero => exact absurd HCY.out (by unfold castsP; intro h; cases h)
      | succ gk =>
      have hcy := casts_some HCY.out
      have HIS := Lib.hid (isC p E T Q sc [64] wr (Lib.hid HPc.out.ps))
      clear HCY
      rcases hcy with ⟨h1, rfl, rfl⟩ | ⟨h1, okw, hcs⟩
      · have hS : isS E s' [64] = s' := by unfold isS; rw [h1]; rfl
        rw [h1, hS] at HIS
        clear h1 hS
        go_wp2_with fail
        refine HIS.out.mono ?_
        rintro e w9 ⟨rfl, hp⟩
        have HP9 := Lib.hid (HPc.out.trans hp)
        have HX9 := Lib.hid (hp.bk HXc.out hrp)
        have HY9 := Lib.hid (hp.bk HYc.out hb8p)
        have HN9 := Lib.hid (hp.nd HPc.out.ps HNc.out)
        clear hp HPc HXc HYc HNc HIS
        obtain ⟨x0, x1, x2, x3, x4, x5, x6⟩ := cells7 HY9.out
        obtain ⟨y0, y1, y2, y3, y4, y5, y6⟩ := cells7 HX9.out
        obtain ⟨f0, f1, f2, f3, f4, f5, f6⟩ := froz7 HX9.out
        have HF := Lib.hid (fr7 w9 r (.int .u8 (X.1.kind : Int)) (.int .u8 (X.1.op : Int)) (.int .u32 (X.1.value : Int)) (.int .i64 X.1.width) (.string (str X.1.name)) (.slice S.A S.n S.c) (.slice R.A R.n R.c))
        have HK := Lib.hid (put7 (v0 := .int .u8 (X.1.kind : Int)) (v1 := .int .u8 (X.1.op : Int)) (v2 := .int .u32 (X.1.value : Int)) (v3 := .int .i64 X.1.width) (v4 := .string (str X.1.name)) (v5 := .slice S.A S.n S.c) (v6 := .slice R.A R.n R.c) HX9.out)
        go_wp2_with fail
        generalize (((((((w9.setCell ⟨r, 0, none⟩ (.int .u8 (X.1.kind : Int))).setCell ⟨r, 1, none⟩ (.int .u8 (X.1.op : Int))).setCell ⟨r, 2, none⟩ (.int .u32 (X.1.value : Int))).setCell ⟨r, 3, none⟩ (.int .i64 X.1.width)).setCell ⟨r, 4, none⟩ (.string (str X.1.name))).setCell ⟨r, 5, none⟩ (.slice S.A S.n S.c)).setCell ⟨r, 6, none⟩ (.slice R.A R.n R.c)) = WF at HF HK ⊢
        obtain ⟨r0, r1, r2, r3, r4, r5, r6⟩ := cells7 HK.out
        refine bodyPost_ret (v := nodeV X S R) (by rw [nodeV_lit]; simp [results, Tryd.results53, go_sem, r0, r1, r2, r3, r4, r5, r6]) rfl ?_
        exact nd_out HP9.out h.out HX9.out hrp hwr HF.out HN9.out
      · have HOW := Lib.hid (okW_len okw)
        have HCN := Lib.hid hcs
        have hS : isS E sc [64] = stepP sc := by unfold isS; rw [h1]; rfl
        rw [h1, hS] at HIS
        clear h1 hS okw hcs
        obtain ⟨⟨nu, sn⟩, hnu⟩ : ∃ q, numP E (stepP sc) = q := ⟨_, rfl⟩
        have hnl := numP_le E (stepP sc)
        obtain ⟨Y, hY⟩ : ∃ Y, wholeP 8 0 0 (nu : Int) [] (hereP y) [y] = Y := ⟨_, rfl⟩
        have HNU := Lib.hid hnu
        have HYE := Lib.hid hY
        rw [hnu] at hnl HCN
        rw [hY] at HCN
        dsimp only at hnl HCN
        clear hnu hY
        go_wp2_with fail
        refine HIS.out.mono ?_
        rintro e v ⟨rfl, hp⟩
        have HLV := Lib.hid (Lp.tr ⟨HPc.out, HYc.out, HXc.out, HNc.out⟩ hb8p hrp hp : Lp p E T Q w b8 r y S R _ v)
        have HL0 := Lib.hid (HLV.out.bel (Below.refl _ _).drew)
        have HLA : Hid (∀ o : Obj, Lp p E T Q w b8 r y S R (stepP sc) (v.alloc o).drew) := fun o => (HLV.out.bel pokeB').bel (Below.refl _ _).drew
        have hvp : p < v.heap.size := hp.ps.lt
        have hgp : v.heap.size ≠ p := by omega
        clear hp HPc HXc HYc HNc HIS hvp
        have HRN : Hid (∀ V : World, Lp p E T Q w b8 r y S R (stepP sc) V ∨ Lp p E T Q w b8 r y S R sn V → NdsAt T.base (V.alloc (.cells #[.int .u8 (y.1.kind : Int), .int .u8 (y.1.op : Int), .int .u32 (y.1.value : Int), .int .i64 y.1.width, .string (str y.1.name), .slice S.A S.n S.c, .slice R.A R.n R.c] 67)) (some ⟨V.heap.size, 0, none⟩) 1 [(y, S, R)]) := fun V hV => nds_new (W := V) [(y, S, R)] (fun q hq => by rw [List.mem_singleton.1 hq]; exact hV.elim (·.nd) (·.nd))
        have HNM : Hid (∀ V : World, Lp p E T Q w b8 r y S R (stepP sc) V → Calls Tryd.prog 60 #[.pointer (some ⟨p, 0, none⟩)] V fun x w' => x = .returned (.int .i64 (nu : Int)) ∧ PP V p E T Q sn w') := fun V hV => by
          have := numC p E T Q (stepP sc) V (Lib.hid hV.pp.ps)
          rw [HNU.out] at this
          exact this
        have HHE : Hid (∀ V : World, Lp p E T Q w b8 r y S R sn V → Calls Tryd.prog 49 #[.agg #[.int .u8 (y.1.kind : Int), .int .u8 (y.1.op : Int), .int .u32 (y.1.value : Int), .int .i64 y.1.width, .string (str y.1.name), .slice S.A S.n S.c, .slice R.A R.n R.c]] V fun e w' => e = .returned (.int .i64 (hereP y : Int)) ∧ Below V.heap.size V w') := fun V hV => here_at V V hV.nd (Below.refl _ _)
        have HWH : Hid (∀ (V : World) (g : Nat), Lp p E T Q w b8 r y S R sn V → NdsAt T.base V (some ⟨g, 0, none⟩) 1 [(y, S, R)] → Calls Tryd.prog 48 #[.agg #[.int .u8 8, .int .u8 0, .int .u32 0, .int .i64 (nu : Int), .string ⟨#[]⟩, .slice none 0 0], .int .i64 (hereP y : Int), .slice (some ⟨g, 0, none⟩) 1 1] V fun e w' => ∃ S0 R0, e = .returned (nodeV Y S0 R0) ∧ NdAt T.base w' Y S0 R0 ∧ Below V.heap.size V w') := fun V g hV hg => by
          have hlen : (atsN 0 [(y, S, R)]).length ≤ 100000000 := by
            have h1 := HOW.out
            have h2 : (atsN 0 ([(y, S, R)] : List NdV)).length = 1 + (([y] : List Nd).flatMap (·.2)).length := by unfold atsN; simp; omega
            omega
          have hh := hereP_le hV.nd
          rw [← HYE.out]
          exact wholeC 8 0 0 (nu : Int) [] (hereP y) (some ⟨g, 0, none⟩) 1 1 [(y, S, R)] V (Lib.hid hg) (by omega) hlen (by omega) (by omega) (by omega) (by omega) (by omega) (by omega) (by simp)
        obtain ⟨x0, x1, x2, x3, x4, x5, x6⟩ := HL0.out.cel
        have xa := fun o => (HLA.out o).cel
        have xb := HLV.out.cal
        go_upto_region 10 with fail
        go_region_law (go_simp; (first
            | (go_at_call 60
               with_reducible refine (HNM.out _ HL0.out).mono ?_
               rintro e v1 ⟨rfl, hp⟩
               have HL1 := Lib.hid (HL0.out.tr hb8p hrp hp)
               have hg1 : v1.heap.size ≠ p := Nat.ne_of_gt hp.ps.lt
               clear hp x0 x1 x2 x3 x4 x5 x6 xa xb
               obtain ⟨x0, x1, x2, x3, x4, x5, x6⟩ := HL1.out.cel
               have xa := HL1.out.cal)
            | (go_at_call 60
               with_reducible refine (HNM.out _ (HLA.out _)).mono ?_
               rintro e v1 ⟨rfl, hp⟩
               have HL1 := Lib.hid ((HLA.out _).tr hb8p hrp hp)
               have HR : Hid (NdsAt T.base v1 (some ⟨v.heap.size, 0, none⟩) 1 [(y, S, R)]) := Lib.hid (NdsAt.tr ((HRN.out v (.inl HLV.out)).below (Below.refl _ _).drew) hgp (HLA.out _).pp.ps hp)
               clear hp x0 x1 x2 x3 x4 x5 x6 xa xb
               obtain ⟨x0, x1, x2, x3, x4, x5, x6⟩ := HL1.out.cel
               have xa := HL1.out.cal)
            | (go_at_call 49
               with_reducible refine (HHE.out _ HL1.out).mono ?_
               rintro e v2 ⟨rfl, hb⟩
               have HL2 := Lib.hid (HL1.out.bel hb)
               try (have HR2 := Lib.hid (HR.out.below hb)
                    clear HR
                    have HR := HR2
                    clear HR2)
               clear hb x0 x1 x2 x3 x4 x5 x6 xa
               obtain ⟨x0, x1, x2, x3, x4, x5, x6⟩ := HL2.out.cel
               have xa := HL2.out.cal)
            | (go_at_call 49
               with_reducible refine (HHE.out _ (HL1.out.bel pokeB')).mono ?_
               rintro e v2 ⟨rfl, hb⟩
               have HL2 := Lib.hid ((HL1.out.bel pokeB').bel hb)
               have HR : Hid (NdsAt T.base v2 (some ⟨v1.heap.size, 0, none⟩) 1 [(y, S, R)]) := Lib.hid ((HRN.out v1 (.inr HL1.out)).below hb)
               clear hb x0 x1 x2 x3 x4 x5 x6 xa
               obtain ⟨x0, x1, x2, x3, x4, x5, x6⟩ := HL2.out.cel
               have xa := HL2.out.cal)
            | (go_at_call 48
               with_reducible refine (HWH.out _ _ HL2.out HR.out).mono ?_
               rintro e v7 ⟨S0, R0, rfl, hn7, hb7⟩
               rw [nodeV_lit]
               have HL7 := Lib.hid (HL2.out.bel hb7)
               have HN7 := Lib.hid hn7
               clear hn7 hb7 x0 x1 x2 x3 x4 x5 x6 xa
               obtain ⟨x0, x1, x2, x3, x4, x5, x6⟩ := HL7.out.cel
               obtain ⟨f0, f1, f2, f3, f4, f5, f6⟩ := froz7 HL7.out.bx)
            | (go_at_call 48
               with_reducible refine (HWH.out _ _ (HL2.out.bel pokeB') (HRN.out _ (.inr HL2.out))).mono ?_
               rintro e v7 ⟨S0, R0, rfl, hn7, hb7⟩
               rw [nodeV_lit]
               have HL7 := Lib.hid ((HL2.out.bel pokeB').bel hb7)
               have HN7 := Lib.hid hn7
               clear hn7 hb7 x0 x1 x2 x3 x4 x5 x6 xa
               obtain ⟨x0, x1, x2, x3, x4, x5, x6⟩ := HL7.out.cel
               obtain ⟨f0, f1, f2, f3, f4, f5, f6⟩ := froz7 HL7.out.bx)))
        all_goals
          have HF := Lib.hid (fr7 v7 b8 (.int .u8 (Y.1.kind : Int)) (.int .u8 (Y.1.op : Int)) (.int .u32 (Y.1.value : Int)) (.int .i64 Y.1.width) (.string (str Y.1.name)) (.slice S0.A S0.n S0.c) (.slice R0.A R0.n R0.c))
          have HK := Lib.hid (put7 (v0 := .int .u8 (Y.1.kind : Int)) (v1 := .int .u8 (Y.1.op : Int)) (v2 := .int .u32 (Y.1.value : Int)) (v3 := .int .i64 Y.1.width) (v4 := .string (str Y.1.name)) (v5 := .slice S0.A S0.n S0.c) (v6 := .slice R0.A R0.n R0.c) HL7.out.bx)
          clear x0 x1 x2 x3 x4 x5 x6 f0 f1 f2 f3 f4 f5 f6
          generalize (((((((v7.setCell ⟨b8, 0, none⟩ (.int .u8 (Y.1.kind : Int))).setCell ⟨b8, 1, none⟩ (.int .u8 (Y.1.op : Int))).setCell ⟨b8, 2, none⟩ (.int .u32 (Y.1.value : Int))).setCell ⟨b8, 3, none⟩ (.int .i64 Y.1.width)).setCell ⟨b8, 4, none⟩ (.string (str Y.1.name))).setCell ⟨b8, 5, none⟩ (.slice S0.A S0.n S0.c)).setCell ⟨b8, 6, none⟩ (.slice R0.A R0.n R0.c)) = WF at HF HK ⊢
          go_wp2_with fail
          go_roundg gk
          case measure => exact Nat.lt_succ_self _
          case rel => exact ⟨Y, S0, R0, sn, HCN, HK, Lib.hid (HN7.out.box HL7.out.bx HF.out), Lib.hid (HL7.out.pp.fin h.out HL7.out.bx hb8p hwb8 HF.out), Lib.hid (HL7.out.rs.fr HF.out hrb8)⟩
end
end Go.Proofs.YtehcpcpmcngnjaaDoor

