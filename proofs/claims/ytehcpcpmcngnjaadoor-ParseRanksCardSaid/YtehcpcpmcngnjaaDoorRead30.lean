/-
  read, at an expression; parse.Expr.
-/
import Derived.Test.YtehcpcpmcngnjaaDoorExpr30
import Derived.Test.YtehcpcpmcngnjaaDoorEnv30
set_option linter.unusedVariables false
set_option linter.unusedSimpArgs false
namespace Go.Proofs.YtehcpcpmcngnjaaDoor
open Go.RowKit Go.PlainAid

/-- What parse.Expr comes to, by cases. -/
inductive ExR (f : Nat) (t : List UInt8) : Ex → Nat → Nat → Prop where
  | bad (a : Nat) (h : badY (allT t) = some a) : ExR f t ex0 a 280
  | ok (X : Nd) (s : PSt) (h : badY (allT t) = none) (hc : choiceP ⟨t, toksY t (allT t)⟩ f ⟨0, 0, 0, 0⟩ = some (X, s)) (he : s.e = 0) (hn : (toksY t (allT t)).length ≤ s.n) : ExR f t X.1 t.length 0
  | rest (X : Nd) (s : PSt) (h : badY (allT t) = none) (hc : choiceP ⟨t, toksY t (allT t)⟩ f ⟨0, 0, 0, 0⟩ = some (X, s)) (he : s.e = 0) (hn : s.n < (toksY t (allT t)).length) : ExR f t ex0 (wrongP ⟨t, toksY t (allT t)⟩ s 300).fail 300
  | no (X : Nd) (s : PSt) (h : badY (allT t) = none) (hc : choiceP ⟨t, toksY t (allT t)⟩ f ⟨0, 0, 0, 0⟩ = some (X, s)) (he : s.e ≠ 0) : ExR f t ex0 s.fail s.e
theorem exprR_cases {f : Nat} {t : List UInt8} {x : Ex} {a e : Nat} (h : exprR f t = some (x, a, e)) (hs : t.length ≤ 65536) : ExR f t x a e := by
  unfold exprR at h
  rw [if_neg (by omega)] at h
  cases hb : badY (allT t) with
  | some b =>
    rw [hb] at h
    injection h with h; injection h with h1 h; injection h with h2 h3
    subst h1 h2 h3
    exact .bad _ hb
  | none =>
    rw [hb] at h
    dsimp only at h
    cases hc : choiceP ⟨t, toksY t (allT t)⟩ f ⟨0, 0, 0, 0⟩ with
    | none => rw [hc] at h; cases h
    | some q =>
      obtain ⟨X, s⟩ := q
      rw [hc] at h
      dsimp only at h
      by_cases he : s.e = 0
      · by_cases hn : s.n < (toksY t (allT t)).length
        · have hr : restP ⟨t, toksY t (allT t)⟩ s = wrongP ⟨t, toksY t (allT t)⟩ s 300 := by unfold restP; rw [if_pos ⟨he, hn⟩]
          have he3 : (wrongP ⟨t, toksY t (allT t)⟩ s 300).e = 300 := by unfold wrongP; rw [if_pos he]
          rw [hr, if_neg (by rw [he3]; omega), he3] at h
          injection h with h; injection h with h1 h; injection h with h2 h3
          subst h1 h2 h3
          exact .rest X s hb hc he hn
        · have hr : restP ⟨t, toksY t (allT t)⟩ s = s := by unfold restP; rw [if_neg (fun h => hn h.2)]
          rw [hr, if_pos he] at h
          injection h with h; injection h with h1 h; injection h with h2 h3
          subst h1 h2 h3
          exact .ok X s hb hc he (by omega)
      · have hr : restP ⟨t, toksY t (allT t)⟩ s = s := by unfold restP; rw [if_neg (fun h => he h.1)]
        rw [hr, if_neg he] at h
        injection h with h; injection h with h1 h; injection h with h2 h3
        subst h1 h2 h3
        exact .no X s hb hc he
def ReadEP (w : World) (x : Ex) (a e : Nat) (en : Ending) (w' : World) : Prop := ∃ S A n c, en = .returned (.tuple #[.agg (cellT x S).toArray, .slice A n c, .int .i64 (a : Int), .int .i64 (e : Int)]) ∧ TrT w.heap.size w' x S ∧ Below w.heap.size w w'
theorem exOk0 : ExOk ex0 := ⟨by decide, by decide, by decide, by decide, by decide, by decide, by decide⟩
def zTx : Array Value := #[.int .u8 0, .int .u8 0, .int .u32 0, .int .i64 0, .string ⟨#[]⟩, .slice none 0 0]
/-- The two boxes of the call's own, at its start. -/
theorem read_start (w : World) : Bk ((w.alloc (.cells zTx 28)).alloc (.cells zTx 28)) w.heap.size 28 zTx ∧ Bk ((w.alloc (.cells zTx 28)).alloc (.cells zTx 28)) (w.heap.size + 1) 28 zTx ∧ Below w.heap.size w ((w.alloc (.cells zTx 28)).alloc (.cells zTx 28)) ∧ ((w.alloc (.cells zTx 28)).alloc (.cells zTx 28)).heap.size = w.heap.size + 2 := by
  have h2 := Bk.new (w.alloc (.cells zTx 28)) 28 zTx
  simp only [World.size_alloc] at h2
  exact ⟨(Bk.new w _ zTx).alloc _, h2, balloc (balloc (Below.refl _ _) _) _, by simp⟩
/-- A world behind stores into the result's box r. -/
theorem read_end {w W WF : World} {r : Nat} (hb : Below w.heap.size w W) (hr : w.heap.size ≤ r) (hf : Fr (fun k => k = r) W WF) : Below w.heap.size w WF := hb.trans (hf.below w.heap.size hb.size (fun i hi e => by omega))
set_option maxRecDepth 100000 in
set_option maxHeartbeats 8000000 in
theorem readC (f : Nat) (t : List UInt8) (x : Ex) (a e : Nat) (hx : exprR f t = some (x, a, e)) (hs : t.length ≤ 65536) (w : World) (hv : Hid (Vars w)) :
    Calls Tryd.prog 35 #[.string (str t), .func (.func 36) #[] #[]] w (ReadEP w x a e) := by
  have HS : Hid (∀ W, Calls Tryd.prog 39 #[.string (str t)] W (ScanP W t)) := Lib.hid fun W => scanC (str t) W (by rw [str_size]; exact hs)
  obtain ⟨h1, h2, h3, h4⟩ := read_start w
  have HR0 := Lib.hid h1
  have HN0 := Lib.hid h2
  have HB0 := Lib.hid h3
  have HZ0 := Lib.hid h4
  unfold zTx at HR0 HN0 HB0 HZ0
  clear h1 h2 h3 h4
  have hcs := exprR_cases hx hs
  clear hx
  cases hcs with
  | bad a h =>
    have HH := Lib.hid h
    clear h
    go_enter Tryd.func35, Tryd.ntmps35
    go_wp2_with fail
    generalize ((w.alloc (.cells #[.int .u8 0, .int .u8 0, .int .u32 0, .int .i64 0, .string ⟨#[]⟩, .slice none 0 0] 28)).alloc (.cells #[.int .u8 0, .int .u8 0, .int .u32 0, .int .i64 0, .string ⟨#[]⟩, .slice none 0 0] 28)) = W at HR0 HN0 HB0 HZ0 ⊢
    refine (HS.out W).mono ?_
    rintro en w1 ⟨hb, ⟨a1, h1, rfl⟩ | ⟨h1, _⟩⟩
    · obtain rfl : a = a1 := by
        have := HH.out
        rw [h1] at this
        injection this with this
        exact this.symm
      have HR1 := Lib.hid (bkbel HR0.out hb)
      have HN1 := Lib.hid (bkbel HN0.out hb)
      have HB1 := Lib.hid (bthen HB0.out hb)
      clear hb h1
      obtain ⟨r, hr⟩ : ∃ r, w.heap.size = r := ⟨_, rfl⟩
      obtain ⟨m, hm⟩ : ∃ m, w.heap.size + 1 = m := ⟨_, rfl⟩
      rw [hm] at HN1
      rw [hr] at HR1
      rw [hm, hr]
      have hrm : m ≠ r := by omega
      have hwr : w.heap.size ≤ r := by omega
      clear hr hm
      obtain ⟨x0, x1, x2, x3, x4, x5⟩ := cells6 HN1.out
      obtain ⟨y0, y1, y2, y3, y4, y5⟩ := cells6 HR1.out
      obtain ⟨f0, f1, f2, f3, f4, f5, _⟩ := froz7 HR1.out
      have HF := Lib.hid (fr6 w1 r (.int .u8 0) (.int .u8 0) (.int .u32 0) (.int .i64 0) (.string ⟨#[]⟩) (.slice none 0 0))
      have HK := Lib.hid (put6 (v0 := .int .u8 0) (v1 := .int .u8 0) (v2 := .int .u32 0) (v3 := .int .i64 0) (v4 := .string ⟨#[]⟩) (v5 := .slice none 0 0) HR1.out)
      go_wp2_with fail
      generalize ((((((w1.setCell ⟨r, 0, none⟩ (.int .u8 0)).setCell ⟨r, 1, none⟩ (.int .u8 0)).setCell ⟨r, 2, none⟩ (.int .u32 0)).setCell ⟨r, 3, none⟩ (.int .i64 0)).setCell ⟨r, 4, none⟩ (.string ⟨#[]⟩)).setCell ⟨r, 5, none⟩ (.slice none 0 0)) = WF at HF HK ⊢
      obtain ⟨r0, r1, r2, r3, r4, r5⟩ := cells6 HK.out
      refine bodyPost_ret (v := .tuple #[.agg #[.int .u8 0, .int .u8 0, .int .u32 0, .int .i64 0, .string ⟨#[]⟩, .slice none 0 0], .slice none 0 0, .int .i64 (a : Int), .int .i64 280]) (by simp [results, Tryd.results35, go_sem, r0, r1, r2, r3, r4, r5]) rfl ?_
      exact ⟨⟨none, 0, 0⟩, none, 0, 0, rfl, .leaf exOk0 rfl 0, read_end HB1.out hwr HF.out⟩
    · have := HH.out
      rw [h1] at this
      cases this
  | ok X s h hc he hn =>
    have HC := Lib.hid hc
    have HBD := Lib.hid h
    have HEN := Lib.hid (env_ok t hs)
    obtain ⟨T, hT⟩ : ∃ T, toksY t (allT t) = T := ⟨_, rfl⟩
    rw [hT] at HC HEN hn
    have HT := Lib.hid hT
    clear hc h
    clear hT
    go_enter Tryd.func35, Tryd.ntmps35
    go_wp2_with fail
    generalize ((w.alloc (.cells #[.int .u8 0, .int .u8 0, .int .u32 0, .int .i64 0, .string ⟨#[]⟩, .slice none 0 0] 28)).alloc (.cells #[.int .u8 0, .int .u8 0, .int .u32 0, .int .i64 0, .string ⟨#[]⟩, .slice none 0 0] 28)) = W at HR0 HN0 HB0 HZ0 ⊢
    refine (HS.out W).mono ?_
    rintro en w1 ⟨hb, ⟨a1, h1, _⟩ | ⟨h1, A, c, rfl, hrd⟩⟩
    · have := HBD.out
      rw [h1] at this
      cases this
    rw [HT.out] at hrd ⊢
    have HR1 := Lib.hid (bkbel HR0.out hb)
    have HN1 := Lib.hid (bkbel HN0.out hb)
    have HB1 := Lib.hid (bthen HB0.out hb)
    have HRD := Lib.hid hrd
    have hz1 : w.heap.size + 2 ≤ w1.heap.size := by have := HZ0.out; have := hb.size; omega
    clear hb h1 hrd HR0 HN0 HB0 HZ0
    obtain ⟨r, hr⟩ : ∃ r, w.heap.size = r := ⟨_, rfl⟩
    obtain ⟨m, hm⟩ : ∃ m, w.heap.size + 1 = m := ⟨_, rfl⟩
    rw [hm] at HN1
    rw [hr] at HR1
    rw [hm, hr]
    have hrm : m ≠ r := by omega
    have hwr : w.heap.size ≤ r := by omega
    have hr1 : r < w1.heap.size := by omega
    have hm1 : m < w1.heap.size := by omega
    clear hr hm hz1
    obtain ⟨l0, l1⟩ := (hv.out.below HB1.out).lt
    have hBp := Bk.new w1 64 #[.string (str t), .slice A T.length c, .int .i64 0, .int .i64 0, .slice none 0 0, .int .i64 0, .int .i64 0]
    have HP2 : Hid (Ps (w1.alloc (.cells #[.string (str t), .slice A T.length c, .int .i64 0, .int .i64 0, .slice none 0 0, .int .i64 0, .int .i64 0] 64)) w1.heap.size ⟨t, T⟩ ⟨A, T.length, c, w1.heap.size⟩ ⟨none, 0, 0⟩ ⟨0, 0, 0, 0⟩) := Lib.hid ⟨hBp, HRD.out.below pokeB', HEN.out, Nat.zero_le _, (hv.out.below HB1.out).below pokeB', by omega, by omega, by rw [World.size_alloc]; exact Nat.le_succ _⟩
    have HB2 : Hid (Below w.heap.size w (w1.alloc (.cells #[.string (str t), .slice A T.length c, .int .i64 0, .int .i64 0, .slice none 0 0, .int .i64 0, .int .i64 0] 64))) := Lib.hid (balloc HB1.out _)
    have HR2 := Lib.hid (HR1.out.alloc (.cells #[.string (str t), .slice A T.length c, .int .i64 0, .int .i64 0, .slice none 0 0, .int .i64 0, .int .i64 0] 64))
    have HN2 := Lib.hid (HN1.out.alloc (.cells #[.string (str t), .slice A T.length c, .int .i64 0, .int .i64 0, .slice none 0 0, .int .i64 0, .int .i64 0] 64))
    clear hBp HR1 HN1 HB1 HRD l0 l1
    go_upto_region 6 with fail
    have hz2 : (w1.alloc (.cells #[.string (str t), .slice A T.length c, .int .i64 0, .int .i64 0, .slice none 0 0, .int .i64 0, .int .i64 0] 64)).heap.size = w1.heap.size + 1 := by rw [World.size_alloc]
    generalize (w1.alloc (.cells #[.string (str t), .slice A T.length c, .int .i64 0, .int .i64 0, .slice none 0 0, .int .i64 0, .int .i64 0] 64)) = W2 at HP2 HB2 HR2 HN2 hz2 ⊢
    obtain ⟨p, hp⟩ : ∃ p, w1.heap.size = p := ⟨_, rfl⟩
    rw [hp] at HP2
    rw [hp]
    have hrp : r ≠ p := by omega
    have hmp : m ≠ p := by omega
    have hr2 : r < W2.heap.size := by omega
    have hwp : w.heap.size ≤ p := by omega
    clear hp hz2 hr1 hm1
    have HEC := Lib.hid (exprC f _ X s W2 HC.out HP2)
    go_wp2_with fail
    refine HEC.out.mono ?_
    rintro en w3 ⟨S, Q', rfl, ht, hps, hfr⟩
    unfold cellT
    have HX3 := Lib.hid ht
    have HP3 := Lib.hid hps
    have HR3 := Lib.hid (HR2.out.fr hfr hrp)
    have HN3 := Lib.hid (HN2.out.fr hfr hmp)
    have HB3 := Lib.hid (HB2.out.trans (hfr.below w.heap.size HB2.out.size (fun i hi e => by omega)))
    have hw23 : W2.heap.size ≤ w3.heap.size := hfr.size
    clear ht hps hfr HEC HR2 HN2
    have HYB := Lib.hid (Bk.new w3 28 #[.int .u8 (X.1.kind : Int), .int .u8 (X.1.op : Int), .int .u32 (X.1.value : Int), .int .i64 X.1.width, .string (str X.1.name), .slice S.A S.n S.c])
    have HP4 := Lib.hid (HP3.out.below (pokeB' (o := (.cells #[.int .u8 (X.1.kind : Int), .int .u8 (X.1.op : Int), .int .u32 (X.1.value : Int), .int .i64 X.1.width, .string (str X.1.name), .slice S.A S.n S.c] 28))))
    have HR4 := Lib.hid (HR3.out.alloc (.cells #[.int .u8 (X.1.kind : Int), .int .u8 (X.1.op : Int), .int .u32 (X.1.value : Int), .int .i64 X.1.width, .string (str X.1.name), .slice S.A S.n S.c] 28))
    have HN4 := Lib.hid (HN3.out.alloc (.cells #[.int .u8 (X.1.kind : Int), .int .u8 (X.1.op : Int), .int .u32 (X.1.value : Int), .int .i64 X.1.width, .string (str X.1.name), .slice S.A S.n S.c] 28))
    have HB4 := Lib.hid (balloc HB3.out (.cells #[.int .u8 (X.1.kind : Int), .int .u8 (X.1.op : Int), .int .u32 (X.1.value : Int), .int .i64 X.1.width, .string (str X.1.name), .slice S.A S.n S.c] 28))
    have HX4 := Lib.hid (HX3.out.bel (pokeB' (o := (.cells #[.int .u8 (X.1.kind : Int), .int .u8 (X.1.op : Int), .int .u32 (X.1.value : Int), .int .i64 X.1.width, .string (str X.1.name), .slice S.A S.n S.c] 28))))
    have hwx : r < w3.heap.size := by omega
    have hpx : p < w3.heap.size := HP3.out.lt
    clear HP3 HR3 HN3 HB3 HX3 hw23
    go_upto_region 7 with fail
    generalize (w3.alloc (.cells #[.int .u8 (X.1.kind : Int), .int .u8 (X.1.op : Int), .int .u32 (X.1.value : Int), .int .i64 X.1.width, .string (str X.1.name), .slice S.A S.n S.c] 28)) = W4 at HYB HP4 HR4 HN4 HB4 HX4 ⊢
    obtain ⟨q, hq⟩ : ∃ q, w3.heap.size = q := ⟨_, rfl⟩
    rw [hq] at HYB
    rw [hq]
    have hqr : q ≠ r := by omega
    have hqp : q ≠ p := by omega
    have hpr : p ≠ r := Ne.symm hrp
    clear hq hwx hpx
    obtain ⟨g0, g1, g2, g3, g4, g5, g6⟩ := HP4.out.cells
    dsimp only at g0 g1 g2 g3 g4 g5 g6
    have e1 : ((s.e : Int) == 0) = true := by simp; omega
    have e2 : ((s.e : Int) != 0) = false := by simp; omega
    have e3 : decide (s.n < T.length) = false := by simp; omega
    obtain ⟨x0, x1, x2, x3, x4, x5⟩ := cells6 HYB.out
    have hls : (str t).size = t.length := str_size t
    clear he
    obtain ⟨y0, y1, y2, y3, y4, y5⟩ := cells6 HR4.out
    obtain ⟨f0, f1, f2, f3, f4, f5, _⟩ := froz7 HR4.out
    have HF := Lib.hid (fr6 W4 r (.int .u8 (X.1.kind : Int)) (.int .u8 (X.1.op : Int)) (.int .u32 (X.1.value : Int)) (.int .i64 X.1.width) (.string (str X.1.name)) (.slice S.A S.n S.c)).drew
    have HK := Lib.hid (put6 (v0 := .int .u8 (X.1.kind : Int)) (v1 := .int .u8 (X.1.op : Int)) (v2 := .int .u32 (X.1.value : Int)) (v3 := .int .i64 X.1.width) (v4 := .string (str X.1.name)) (v5 := .slice S.A S.n S.c) HR4.out).drew
    go_upto_region 11 with fail
    go_region
    clear y0 y1 y2 y3 y4 y5 f0 f1 f2 f3 f4 f5
    generalize ((((((W4.setCell ⟨r, 0, none⟩ (.int .u8 (X.1.kind : Int))).setCell ⟨r, 1, none⟩ (.int .u8 (X.1.op : Int))).setCell ⟨r, 2, none⟩ (.int .u32 (X.1.value : Int))).setCell ⟨r, 3, none⟩ (.int .i64 X.1.width)).setCell ⟨r, 4, none⟩ (.string (str X.1.name))).setCell ⟨r, 5, none⟩ (.slice S.A S.n S.c)).drew = WF at HF HK ⊢
    go_wp2_with fail
    obtain ⟨r0, r1, r2, r3, r4, r5⟩ := cells6 HK.out
    refine bodyPost_ret (v := .tuple #[.agg #[.int .u8 (X.1.kind : Int), .int .u8 (X.1.op : Int), .int .u32 (X.1.value : Int), .int .i64 X.1.width, .string (str X.1.name), .slice S.A S.n S.c], .slice Q'.A Q'.n Q'.c, .int .i64 (t.length : Int), .int .i64 0]) (by simp [results, Tryd.results35, go_sem, r0, r1, r2, r3, r4, r5]) rfl ?_
    exact ⟨S, Q'.A, Q'.n, Q'.c, rfl, (HX4.out.far HF.out hr2).less (Nat.le_trans hwr (Nat.le_of_lt hr2)), read_end HB4.out hwr HF.out⟩
  | rest X s h hc he hn =>
    have HC := Lib.hid hc
    have HBD := Lib.hid h
    have HEN := Lib.hid (env_ok t hs)
    obtain ⟨T, hT⟩ : ∃ T, toksY t (allT t) = T := ⟨_, rfl⟩
    rw [hT] at HC HEN hn
    have HT := Lib.hid hT
    clear hc h
    obtain ⟨s2, hs2⟩ : ∃ s2, wrongP ⟨t, T⟩ s 300 = s2 := ⟨_, rfl⟩
    rw [hT, hs2]
    have he3 : Hid (s2.e = 300) := Lib.hid (by rw [← hs2]; unfold wrongP; rw [if_pos he])
    have HS2 := Lib.hid hs2
    clear hs2
    clear hT
    go_enter Tryd.func35, Tryd.ntmps35
    go_wp2_with fail
    generalize ((w.alloc (.cells #[.int .u8 0, .int .u8 0, .int .u32 0, .int .i64 0, .string ⟨#[]⟩, .slice none 0 0] 28)).alloc (.cells #[.int .u8 0, .int .u8 0, .int .u32 0, .int .i64 0, .string ⟨#[]⟩, .slice none 0 0] 28)) = W at HR0 HN0 HB0 HZ0 ⊢
    refine (HS.out W).mono ?_
    rintro en w1 ⟨hb, ⟨a1, h1, _⟩ | ⟨h1, A, c, rfl, hrd⟩⟩
    · have := HBD.out
      rw [h1] at this
      cases this
    rw [HT.out] at hrd ⊢
    have HR1 := Lib.hid (bkbel HR0.out hb)
    have HN1 := Lib.hid (bkbel HN0.out hb)
    have HB1 := Lib.hid (bthen HB0.out hb)
    have HRD := Lib.hid hrd
    have hz1 : w.heap.size + 2 ≤ w1.heap.size := by have := HZ0.out; have := hb.size; omega
    clear hb h1 hrd HR0 HN0 HB0 HZ0
    obtain ⟨r, hr⟩ : ∃ r, w.heap.size = r := ⟨_, rfl⟩
    obtain ⟨m, hm⟩ : ∃ m, w.heap.size + 1 = m := ⟨_, rfl⟩
    rw [hm] at HN1
    rw [hr] at HR1
    rw [hm, hr]
    have hrm : m ≠ r := by omega
    have hwr : w.heap.size ≤ r := by omega
    have hr1 : r < w1.heap.size := by omega
    have hm1 : m < w1.heap.size := by omega
    clear hr hm hz1
    obtain ⟨l0, l1⟩ := (hv.out.below HB1.out).lt
    have hBp := Bk.new w1 64 #[.string (str t), .slice A T.length c, .int .i64 0, .int .i64 0, .slice none 0 0, .int .i64 0, .int .i64 0]
    have HP2 : Hid (Ps (w1.alloc (.cells #[.string (str t), .slice A T.length c, .int .i64 0, .int .i64 0, .slice none 0 0, .int .i64 0, .int .i64 0] 64)) w1.heap.size ⟨t, T⟩ ⟨A, T.length, c, w1.heap.size⟩ ⟨none, 0, 0⟩ ⟨0, 0, 0, 0⟩) := Lib.hid ⟨hBp, HRD.out.below pokeB', HEN.out, Nat.zero_le _, (hv.out.below HB1.out).below pokeB', by omega, by omega, by rw [World.size_alloc]; exact Nat.le_succ _⟩
    have HB2 : Hid (Below w.heap.size w (w1.alloc (.cells #[.string (str t), .slice A T.length c, .int .i64 0, .int .i64 0, .slice none 0 0, .int .i64 0, .int .i64 0] 64))) := Lib.hid (balloc HB1.out _)
    have HR2 := Lib.hid (HR1.out.alloc (.cells #[.string (str t), .slice A T.length c, .int .i64 0, .int .i64 0, .slice none 0 0, .int .i64 0, .int .i64 0] 64))
    have HN2 := Lib.hid (HN1.out.alloc (.cells #[.string (str t), .slice A T.length c, .int .i64 0, .int .i64 0, .slice none 0 0, .int .i64 0, .int .i64 0] 64))
    clear hBp HR1 HN1 HB1 HRD l0 l1
    go_upto_region 6 with fail
    have hz2 : (w1.alloc (.cells #[.string (str t), .slice A T.length c, .int .i64 0, .int .i64 0, .slice none 0 0, .int .i64 0, .int .i64 0] 64)).heap.size = w1.heap.size + 1 := by rw [World.size_alloc]
    generalize (w1.alloc (.cells #[.string (str t), .slice A T.length c, .int .i64 0, .int .i64 0, .slice none 0 0, .int .i64 0, .int .i64 0] 64)) = W2 at HP2 HB2 HR2 HN2 hz2 ⊢
    obtain ⟨p, hp⟩ : ∃ p, w1.heap.size = p := ⟨_, rfl⟩
    rw [hp] at HP2
    rw [hp]
    have hrp : r ≠ p := by omega
    have hmp : m ≠ p := by omega
    have hr2 : r < W2.heap.size := by omega
    have hwp : w.heap.size ≤ p := by omega
    clear hp hz2 hr1 hm1
    have HEC := Lib.hid (exprC f _ X s W2 HC.out HP2)
    go_wp2_with fail
    refine HEC.out.mono ?_
    rintro en w3 ⟨S, Q', rfl, ht, hps, hfr⟩
    unfold cellT
    have HX3 := Lib.hid ht
    have HP3 := Lib.hid hps
    have HR3 := Lib.hid (HR2.out.fr hfr hrp)
    have HN3 := Lib.hid (HN2.out.fr hfr hmp)
    have HB3 := Lib.hid (HB2.out.trans (hfr.below w.heap.size HB2.out.size (fun i hi e => by omega)))
    have hw23 : W2.heap.size ≤ w3.heap.size := hfr.size
    clear ht hps hfr HEC HR2 HN2
    have HYB := Lib.hid (Bk.new w3 28 #[.int .u8 (X.1.kind : Int), .int .u8 (X.1.op : Int), .int .u32 (X.1.value : Int), .int .i64 X.1.width, .string (str X.1.name), .slice S.A S.n S.c])
    have HP4 := Lib.hid (HP3.out.below (pokeB' (o := (.cells #[.int .u8 (X.1.kind : Int), .int .u8 (X.1.op : Int), .int .u32 (X.1.value : Int), .int .i64 X.1.width, .string (str X.1.name), .slice S.A S.n S.c] 28))))
    have HR4 := Lib.hid (HR3.out.alloc (.cells #[.int .u8 (X.1.kind : Int), .int .u8 (X.1.op : Int), .int .u32 (X.1.value : Int), .int .i64 X.1.width, .string (str X.1.name), .slice S.A S.n S.c] 28))
    have HN4 := Lib.hid (HN3.out.alloc (.cells #[.int .u8 (X.1.kind : Int), .int .u8 (X.1.op : Int), .int .u32 (X.1.value : Int), .int .i64 X.1.width, .string (str X.1.name), .slice S.A S.n S.c] 28))
    have HB4 := Lib.hid (balloc HB3.out (.cells #[.int .u8 (X.1.kind : Int), .int .u8 (X.1.op : Int), .int .u32 (X.1.value : Int), .int .i64 X.1.width, .string (str X.1.name), .slice S.A S.n S.c] 28))
    have HX4 := Lib.hid (HX3.out.bel (pokeB' (o := (.cells #[.int .u8 (X.1.kind : Int), .int .u8 (X.1.op : Int), .int .u32 (X.1.value : Int), .int .i64 X.1.width, .string (str X.1.name), .slice S.A S.n S.c] 28))))
    have hwx : r < w3.heap.size := by omega
    have hpx : p < w3.heap.size := HP3.out.lt
    clear HP3 HR3 HN3 HB3 HX3 hw23
    go_upto_region 7 with fail
    generalize (w3.alloc (.cells #[.int .u8 (X.1.kind : Int), .int .u8 (X.1.op : Int), .int .u32 (X.1.value : Int), .int .i64 X.1.width, .string (str X.1.name), .slice S.A S.n S.c] 28)) = W4 at HYB HP4 HR4 HN4 HB4 HX4 ⊢
    obtain ⟨q, hq⟩ : ∃ q, w3.heap.size = q := ⟨_, rfl⟩
    rw [hq] at HYB
    rw [hq]
    have hqr : q ≠ r := by omega
    have hqp : q ≠ p := by omega
    have hpr : p ≠ r := Ne.symm hrp
    clear hq hwx hpx
    obtain ⟨g0, g1, g2, g3, g4, g5, g6⟩ := HP4.out.cells
    dsimp only at g0 g1 g2 g3 g4 g5 g6
    have e1 : ((s.e : Int) == 0) = true := by simp; omega
    have e3 : decide (s.n < T.length) = true := by simp; omega
    have HWC := Lib.hid (wrongC p ⟨t, T⟩ ⟨A, T.length, c, p⟩ Q' s 300 W4 HP4)
    rw [HS2.out] at HWC
    clear he
    go_wp2_with fail
    refine HWC.out.mono ?_
    rintro en w5 ⟨⟨v, rfl⟩, hp⟩
    have HP5 := Lib.hid hp.ps
    have HR5 := Lib.hid (hp.bk HR4.out hrp)
    have HN5 := Lib.hid (hp.bk HN4.out hmp)
    have HB5 := Lib.hid (read_end HB4.out hwp hp.fr)
    clear hp HP4 HR4 HN4 HB4 HWC g0 g1 g2 g3 g4 g5 g6
    obtain ⟨g0, g1, g2, g3, g4, g5, g6⟩ := HP5.out.cells
    dsimp only at g0 g1 g2 g3 g4 g5 g6
    rw [he3.out] at g6
    obtain ⟨x0, x1, x2, x3, x4, x5⟩ := cells6 HN5.out
    obtain ⟨y0, y1, y2, y3, y4, y5⟩ := cells6 HR5.out
    obtain ⟨f0, f1, f2, f3, f4, f5, _⟩ := froz7 HR5.out
    have HF := Lib.hid (fr6 w5 r (.int .u8 0) (.int .u8 0) (.int .u32 0) (.int .i64 0) (.string ⟨#[]⟩) (.slice none 0 0)).drew
    have HK := Lib.hid (put6 (v0 := .int .u8 0) (v1 := .int .u8 0) (v2 := .int .u32 0) (v3 := .int .i64 0) (v4 := .string ⟨#[]⟩) (v5 := .slice none 0 0) HR5.out).drew
    go_upto_region 10 with fail
    go_region
    clear y0 y1 y2 y3 y4 y5 f0 f1 f2 f3 f4 f5
    generalize ((((((w5.setCell ⟨r, 0, none⟩ (.int .u8 0)).setCell ⟨r, 1, none⟩ (.int .u8 0)).setCell ⟨r, 2, none⟩ (.int .u32 0)).setCell ⟨r, 3, none⟩ (.int .i64 0)).setCell ⟨r, 4, none⟩ (.string ⟨#[]⟩)).setCell ⟨r, 5, none⟩ (.slice none 0 0)).drew = WF at HF HK ⊢
    go_wp2_with fail
    obtain ⟨r0, r1, r2, r3, r4, r5⟩ := cells6 HK.out
    refine bodyPost_ret (v := .tuple #[.agg #[.int .u8 0, .int .u8 0, .int .u32 0, .int .i64 0, .string ⟨#[]⟩, .slice none 0 0], .slice none 0 0, .int .i64 (s2.fail : Int), .int .i64 300]) (by simp [results, Tryd.results35, go_sem, r0, r1, r2, r3, r4, r5]) rfl ?_
    exact ⟨⟨none, 0, 0⟩, none, 0, 0, rfl, .leaf exOk0 rfl 0, read_end HB5.out hwr HF.out⟩
  | no X s h hc he =>
    have HC := Lib.hid hc
    have HBD := Lib.hid h
    have HEN := Lib.hid (env_ok t hs)
    obtain ⟨T, hT⟩ : ∃ T, toksY t (allT t) = T := ⟨_, rfl⟩
    rw [hT] at HC HEN
    have HT := Lib.hid hT
    clear hc h
    clear hT
    go_enter Tryd.func35, Tryd.ntmps35
    go_wp2_with fail
    generalize ((w.alloc (.cells #[.int .u8 0, .int .u8 0, .int .u32 0, .int .i64 0, .string ⟨#[]⟩, .slice none 0 0] 28)).alloc (.cells #[.int .u8 0, .int .u8 0, .int .u32 0, .int .i64 0, .string ⟨#[]⟩, .slice none 0 0] 28)) = W at HR0 HN0 HB0 HZ0 ⊢
    refine (HS.out W).mono ?_
    rintro en w1 ⟨hb, ⟨a1, h1, _⟩ | ⟨h1, A, c, rfl, hrd⟩⟩
    · have := HBD.out
      rw [h1] at this
      cases this
    rw [HT.out] at hrd ⊢
    have HR1 := Lib.hid (bkbel HR0.out hb)
    have HN1 := Lib.hid (bkbel HN0.out hb)
    have HB1 := Lib.hid (bthen HB0.out hb)
    have HRD := Lib.hid hrd
    have hz1 : w.heap.size + 2 ≤ w1.heap.size := by have := HZ0.out; have := hb.size; omega
    clear hb h1 hrd HR0 HN0 HB0 HZ0
    obtain ⟨r, hr⟩ : ∃ r, w.heap.size = r := ⟨_, rfl⟩
    obtain ⟨m, hm⟩ : ∃ m, w.heap.size + 1 = m := ⟨_, rfl⟩
    rw [hm] at HN1
    rw [hr] at HR1
    rw [hm, hr]
    have hrm : m ≠ r := by omega
    have hwr : w.heap.size ≤ r := by omega
    have hr1 : r < w1.heap.size := by omega
    have hm1 : m < w1.heap.size := by omega
    clear hr hm hz1
    obtain ⟨l0, l1⟩ := (hv.out.below HB1.out).lt
    have hBp := Bk.new w1 64 #[.string (str t), .slice A T.length c, .int .i64 0, .int .i64 0, .slice none 0 0, .int .i64 0, .int .i64 0]
    have HP2 : Hid (Ps (w1.alloc (.cells #[.string (str t), .slice A T.length c, .int .i64 0, .int .i64 0, .slice none 0 0, .int .i64 0, .int .i64 0] 64)) w1.heap.size ⟨t, T⟩ ⟨A, T.length, c, w1.heap.size⟩ ⟨none, 0, 0⟩ ⟨0, 0, 0, 0⟩) := Lib.hid ⟨hBp, HRD.out.below pokeB', HEN.out, Nat.zero_le _, (hv.out.below HB1.out).below pokeB', by omega, by omega, by rw [World.size_alloc]; exact Nat.le_succ _⟩
    have HB2 : Hid (Below w.heap.size w (w1.alloc (.cells #[.string (str t), .slice A T.length c, .int .i64 0, .int .i64 0, .slice none 0 0, .int .i64 0, .int .i64 0] 64))) := Lib.hid (balloc HB1.out _)
    have HR2 := Lib.hid (HR1.out.alloc (.cells #[.string (str t), .slice A T.length c, .int .i64 0, .int .i64 0, .slice none 0 0, .int .i64 0, .int .i64 0] 64))
    have HN2 := Lib.hid (HN1.out.alloc (.cells #[.string (str t), .slice A T.length c, .int .i64 0, .int .i64 0, .slice none 0 0, .int .i64 0, .int .i64 0] 64))
    clear hBp HR1 HN1 HB1 HRD l0 l1
    go_upto_region 6 with fail
    have hz2 : (w1.alloc (.cells #[.string (str t), .slice A T.length c, .int .i64 0, .int .i64 0, .slice none 0 0, .int .i64 0, .int .i64 0] 64)).heap.size = w1.heap.size + 1 := by rw [World.size_alloc]
    generalize (w1.alloc (.cells #[.string (str t), .slice A T.length c, .int .i64 0, .int .i64 0, .slice none 0 0, .int .i64 0, .int .i64 0] 64)) = W2 at HP2 HB2 HR2 HN2 hz2 ⊢
    obtain ⟨p, hp⟩ : ∃ p, w1.heap.size = p := ⟨_, rfl⟩
    rw [hp] at HP2
    rw [hp]
    have hrp : r ≠ p := by omega
    have hmp : m ≠ p := by omega
    have hr2 : r < W2.heap.size := by omega
    have hwp : w.heap.size ≤ p := by omega
    clear hp hz2 hr1 hm1
    have HEC := Lib.hid (exprC f _ X s W2 HC.out HP2)
    go_wp2_with fail
    refine HEC.out.mono ?_
    rintro en w3 ⟨S, Q', rfl, ht, hps, hfr⟩
    unfold cellT
    have HX3 := Lib.hid ht
    have HP3 := Lib.hid hps
    have HR3 := Lib.hid (HR2.out.fr hfr hrp)
    have HN3 := Lib.hid (HN2.out.fr hfr hmp)
    have HB3 := Lib.hid (HB2.out.trans (hfr.below w.heap.size HB2.out.size (fun i hi e => by omega)))
    have hw23 : W2.heap.size ≤ w3.heap.size := hfr.size
    clear ht hps hfr HEC HR2 HN2
    have HYB := Lib.hid (Bk.new w3 28 #[.int .u8 (X.1.kind : Int), .int .u8 (X.1.op : Int), .int .u32 (X.1.value : Int), .int .i64 X.1.width, .string (str X.1.name), .slice S.A S.n S.c])
    have HP4 := Lib.hid (HP3.out.below (pokeB' (o := (.cells #[.int .u8 (X.1.kind : Int), .int .u8 (X.1.op : Int), .int .u32 (X.1.value : Int), .int .i64 X.1.width, .string (str X.1.name), .slice S.A S.n S.c] 28))))
    have HR4 := Lib.hid (HR3.out.alloc (.cells #[.int .u8 (X.1.kind : Int), .int .u8 (X.1.op : Int), .int .u32 (X.1.value : Int), .int .i64 X.1.width, .string (str X.1.name), .slice S.A S.n S.c] 28))
    have HN4 := Lib.hid (HN3.out.alloc (.cells #[.int .u8 (X.1.kind : Int), .int .u8 (X.1.op : Int), .int .u32 (X.1.value : Int), .int .i64 X.1.width, .string (str X.1.name), .slice S.A S.n S.c] 28))
    have HB4 := Lib.hid (balloc HB3.out (.cells #[.int .u8 (X.1.kind : Int), .int .u8 (X.1.op : Int), .int .u32 (X.1.value : Int), .int .i64 X.1.width, .string (str X.1.name), .slice S.A S.n S.c] 28))
    have HX4 := Lib.hid (HX3.out.bel (pokeB' (o := (.cells #[.int .u8 (X.1.kind : Int), .int .u8 (X.1.op : Int), .int .u32 (X.1.value : Int), .int .i64 X.1.width, .string (str X.1.name), .slice S.A S.n S.c] 28))))
    have hwx : r < w3.heap.size := by omega
    have hpx : p < w3.heap.size := HP3.out.lt
    clear HP3 HR3 HN3 HB3 HX3 hw23
    go_upto_region 7 with fail
    generalize (w3.alloc (.cells #[.int .u8 (X.1.kind : Int), .int .u8 (X.1.op : Int), .int .u32 (X.1.value : Int), .int .i64 X.1.width, .string (str X.1.name), .slice S.A S.n S.c] 28)) = W4 at HYB HP4 HR4 HN4 HB4 HX4 ⊢
    obtain ⟨q, hq⟩ : ∃ q, w3.heap.size = q := ⟨_, rfl⟩
    rw [hq] at HYB
    rw [hq]
    have hqr : q ≠ r := by omega
    have hqp : q ≠ p := by omega
    have hpr : p ≠ r := Ne.symm hrp
    clear hq hwx hpx
    obtain ⟨g0, g1, g2, g3, g4, g5, g6⟩ := HP4.out.cells
    dsimp only at g0 g1 g2 g3 g4 g5 g6
    have e1 : ((s.e : Int) == 0) = false := by simp; omega
    have e2 : ((s.e : Int) != 0) = true := by simp; omega
    obtain ⟨x0, x1, x2, x3, x4, x5⟩ := cells6 HN4.out
    clear he
    obtain ⟨y0, y1, y2, y3, y4, y5⟩ := cells6 HR4.out
    obtain ⟨f0, f1, f2, f3, f4, f5, _⟩ := froz7 HR4.out
    have HF := Lib.hid (fr6 W4 r (.int .u8 0) (.int .u8 0) (.int .u32 0) (.int .i64 0) (.string ⟨#[]⟩) (.slice none 0 0)).drew
    have HK := Lib.hid (put6 (v0 := .int .u8 0) (v1 := .int .u8 0) (v2 := .int .u32 0) (v3 := .int .i64 0) (v4 := .string ⟨#[]⟩) (v5 := .slice none 0 0) HR4.out).drew
    go_upto_region 10 with fail
    go_region
    clear y0 y1 y2 y3 y4 y5 f0 f1 f2 f3 f4 f5
    generalize ((((((W4.setCell ⟨r, 0, none⟩ (.int .u8 0)).setCell ⟨r, 1, none⟩ (.int .u8 0)).setCell ⟨r, 2, none⟩ (.int .u32 0)).setCell ⟨r, 3, none⟩ (.int .i64 0)).setCell ⟨r, 4, none⟩ (.string ⟨#[]⟩)).setCell ⟨r, 5, none⟩ (.slice none 0 0)).drew = WF at HF HK ⊢
    go_wp2_with fail
    obtain ⟨r0, r1, r2, r3, r4, r5⟩ := cells6 HK.out
    refine bodyPost_ret (v := .tuple #[.agg #[.int .u8 0, .int .u8 0, .int .u32 0, .int .i64 0, .string ⟨#[]⟩, .slice none 0 0], .slice none 0 0, .int .i64 (s.fail : Int), .int .i64 (s.e : Int)]) (by simp [results, Tryd.results35, go_sem, r0, r1, r2, r3, r4, r5]) rfl ?_
    exact ⟨⟨none, 0, 0⟩, none, 0, 0, rfl, .leaf exOk0 rfl 0, read_end HB4.out hwr HF.out⟩
end Go.Proofs.YtehcpcpmcngnjaaDoor
