/-
  The parser's recursion: chain.
-/
import Derived.Test.YtehcpcpmcngnjaaDoorRecO
import Derived.Deep.LoopGhost
import Derived.Deep.DeepMust
import Derived.Deep.RegionLaw
set_option linter.unusedVariables false
set_option linter.unusedSimpArgs false
namespace Go.Proofs.YtehcpcpmcngnjaaDoor
open Go.RowKit Go.PlainAid

section
variable {p : Nat} {E : Env} {T : TV} {Q : SV}
theorem chain_some {f r : Nat} {s s' : PSt} {X : Nd} (h : chainP E (f + 1) r s = some (X, s')) : ∃ x s1, operandP E f s = some (x, s1) ∧ linksP E f r x s1 = some (X, s') := by
  unfold chainP at h
  cases h3 : operandP E f s with
  | none => rw [h3] at h; cases h
  | some q =>
    obtain ⟨x, s1⟩ := q
    rw [h3] at h
    exact ⟨x, s1, rfl, h⟩
/-- How a round of a chain ends. -/
inductive Lk (E : Env) (f r : Nat) (x : Nd) (s : PSt) (X : Nd) (s' : PSt) : Prop where
  | err : s.e ≠ 0 → X = x → s' = s → Lk E f r x s X s'
  | sign : s.e = 0 → (nextP E s).kind ≠ 4 → X = x → s' = s → Lk E f r x s X s'
  | find : s.e = 0 → findO (nextP E s).text true = none → X = x → s' = s → Lk E f r x s X s'
  | low (op : Nat) : s.e = 0 → (nextP E s).kind = 4 → findO (nextP E s).text true = some op → rankO op < r → X = x → s' = s → Lk E f r x s X s'
  | go (op : Nat) (y : Nd) (s2 : PSt) : s.e = 0 → (nextP E s).kind = 4 → findO (nextP E s).text true = some op → ¬ rankO op < r → chainP E f (rankO op + 1) (stepP s) = some (y, s2) → okW [x, y] = true →
      linksP E f r (wholeP 6 op 0 0 [] (hereP x) [x, y]) s2 = some (X, s') → Lk E f r x s X s'
theorem links_some {f r : Nat} {x : Nd} {s s' : PSt} {X : Nd} (h : linksP E (f + 1) r x s = some (X, s')) : Lk E f r x s X s' := by
  unfold linksP at h
  by_cases h1 : s.e = 0
  · rw [decide_eq_true h1] at h
    dsimp only at h
    by_cases h2 : (nextP E s).kind = 4
    · rw [if_pos h2] at h
      cases h3 : findO (nextP E s).text true with
      | none =>
        rw [h3] at h
        injection h with h; injection h with h7 h8
        exact .find h1 h3 h7.symm h8.symm
      | some op =>
        rw [h3] at h
        dsimp only at h
        by_cases h4 : rankO op < r
        · rw [decide_eq_true h4] at h
          injection h with h; injection h with h7 h8
          exact .low op h1 h2 h3 h4 h7.symm h8.symm
        · rw [decide_eq_false h4] at h
          dsimp only at h
          cases h5 : chainP E f (rankO op + 1) (stepP s) with
          | none => rw [h5] at h; cases h
          | some q =>
            obtain ⟨y, s2⟩ := q
            rw [h5] at h
            dsimp only at h
            cases h6 : okW [x, y] with
            | false => rw [h6] at h; cases h
            | true =>
              rw [h6] at h
              exact .go op y s2 h1 h2 h3 h4 h5 h6 h
    · rw [if_neg h2] at h
      injection h with h; injection h with h7 h8
      exact .sign h1 h2 h7.symm h8.symm
  · rw [decide_eq_false h1] at h
    injection h with h; injection h with h7 h8
    exact .err h1 h7.symm h8.symm
/-- A chain's round behind its right side. -/
structure Lq (p : Nat) (E : Env) (T : TV) (Q : SV) (w : World) (b r c : Nat) (y : Nd) (S R : SV) (z : Nd) (S4 R4 : SV) (s : PSt) (W : World) : Prop where
  lp : Lp p E T Q w b r y S R s W
  bz : Bk W c 67 #[.int .u8 (z.1.kind : Int), .int .u8 (z.1.op : Int), .int .u32 (z.1.value : Int), .int .i64 z.1.width, .string (str z.1.name), .slice S4.A S4.n S4.c, .slice R4.A R4.n R4.c]
  nz : NdAt T.base W z S4 R4
theorem Lq.bel {w W W' : World} {b r c : Nat} {y z : Nd} {S R S4 R4 : SV} {s : PSt} (h : Lq p E T Q w b r c y S R z S4 R4 s W) (hb : Below W.heap.size W W') : Lq p E T Q w b r c y S R z S4 R4 s W' := ⟨h.lp.bel hb, bkbel h.bz hb, h.nz.below hb⟩
theorem Lq.cez {w W : World} {b r c : Nat} {y z : Nd} {S R S4 R4 : SV} {s : PSt} (h : Lq p E T Q w b r c y S R z S4 R4 s W) : W.cell? ⟨c, 0, none⟩ = some (.int .u8 (z.1.kind : Int)) ∧ W.cell? ⟨c, 1, none⟩ = some (.int .u8 (z.1.op : Int)) ∧ W.cell? ⟨c, 2, none⟩ = some (.int .u32 (z.1.value : Int)) ∧ W.cell? ⟨c, 3, none⟩ = some (.int .i64 z.1.width) ∧ W.cell? ⟨c, 4, none⟩ = some (.string (str z.1.name)) ∧ W.cell? ⟨c, 5, none⟩ = some (.slice S4.A S4.n S4.c) ∧ W.cell? ⟨c, 6, none⟩ = some (.slice R4.A R4.n R4.c) := cells7 h.bz
theorem Lq.caz {w W : World} {b r c : Nat} {y z : Nd} {S R S4 R4 : SV} {s : PSt} (h : Lq p E T Q w b r c y S R z S4 R4 s W) (o : Obj) : (W.alloc o).cell? ⟨c, 0, none⟩ = some (.int .u8 (z.1.kind : Int)) ∧ (W.alloc o).cell? ⟨c, 1, none⟩ = some (.int .u8 (z.1.op : Int)) ∧ (W.alloc o).cell? ⟨c, 2, none⟩ = some (.int .u32 (z.1.value : Int)) ∧ (W.alloc o).cell? ⟨c, 3, none⟩ = some (.int .i64 z.1.width) ∧ (W.alloc o).cell? ⟨c, 4, none⟩ = some (.string (str z.1.name)) ∧ (W.alloc o).cell? ⟨c, 5, none⟩ = some (.slice S4.A S4.n S4.c) ∧ (W.alloc o).cell? ⟨c, 6, none⟩ = some (.slice R4.A R4.n R4.c) := cells7 (bkbel h.bz pokeB')
set_option maxRecDepth 100000 in
set_option maxHeartbeats 8000000 in
theorem chain_step {f : Nat} (IH : ∀ g, g ≤ f → Sp p E T Q g) (rk : Nat) (s : PSt) (X : Nd) (s' : PSt) (w : World) (hrk : rk ≤ 7) (hx : chainP E (f + 1) rk s = some (X, s')) (h : Hid (Ps w p E T Q s)) :
    Calls Tryd.prog 45 #[.pointer (some ⟨p, 0, none⟩), .int .i64 (rk : Int)] w (NdPost w p E T Q X s') := by
  obtain ⟨x, s1, hc, hl⟩ := chain_some hx
  have HIH := Lib.hid IH
  have HC := Lib.hid hc
  have HCL := Lib.hid hl
  have hpl : p < w.heap.size := h.out.lt
  have HB0 : Hid (Below w.heap.size w (w.alloc (.cells #[.int .u8 0, .int .u8 0, .int .u32 0, .int .i64 0, .string ⟨#[]⟩, .slice none 0 0, .slice none 0 0] 67))) := pokeB'
  have HX0 := Lib.hid (Bk.new w 67 #[.int .u8 0, .int .u8 0, .int .u32 0, .int .i64 0, .string ⟨#[]⟩, .slice none 0 0, .slice none 0 0])
  clear hx IH hc hl
  go_enter Tryd.func45, Tryd.ntmps45
  go_upto_region 1 with fail
  generalize (w.alloc (.cells #[.int .u8 0, .int .u8 0, .int .u32 0, .int .i64 0, .string ⟨#[]⟩, .slice none 0 0, .slice none 0 0] 67)) = W at HB0 HX0 ⊢
  obtain ⟨r, hr⟩ : ∃ r, w.heap.size = r := ⟨_, rfl⟩
  rw [hr] at HX0 ⊢
  have hrp : r ≠ p := by omega
  have hwr : w.heap.size ≤ r := by omega
  clear hr hpl
  have HPW := Lib.hid (PP.below h.out HB0.out)
  go_wp2_with fail
  refine ((HIH.out f (Nat.le_refl _)).operand _ _ _ W HC.out (Lib.hid HPW.out.ps)).mono ?_
  rintro e w5 ⟨S, R, rfl, hn, hp⟩
  rw [nodeV_lit]
  have HP5 := Lib.hid (HPW.out.trans hp)
  have HX5 := Lib.hid (hp.bk HX0.out hrp)
  have HN5 := Lib.hid hn
  clear hp hn HPW HX0
  have hw5r : r < w5.heap.size := HX5.out.lt
  have hw5p : p < w5.heap.size := HP5.out.ps.lt
  have HBn : Hid (Below w5.heap.size w5 (w5.alloc (.cells #[.int .u8 (x.1.kind : Int), .int .u8 (x.1.op : Int), .int .u32 (x.1.value : Int), .int .i64 x.1.width, .string (str x.1.name), .slice S.A S.n S.c, .slice R.A R.n R.c] 67))) := pokeB'
  have HY6 := Lib.hid (Bk.new w5 67 #[.int .u8 (x.1.kind : Int), .int .u8 (x.1.op : Int), .int .u32 (x.1.value : Int), .int .i64 x.1.width, .string (str x.1.name), .slice S.A S.n S.c, .slice R.A R.n R.c])
  go_wp2_with fail
  generalize (w5.alloc (.cells #[.int .u8 (x.1.kind : Int), .int .u8 (x.1.op : Int), .int .u32 (x.1.value : Int), .int .i64 x.1.width, .string (str x.1.name), .slice S.A S.n S.c, .slice R.A R.n R.c] 67)) = W6 at HBn HY6 ⊢
  obtain ⟨b5, hb⟩ : ∃ b, w5.heap.size = b := ⟨_, rfl⟩
  rw [hb] at HY6 ⊢
  have hb5p : b5 ≠ p := by omega
  have hb5r : b5 ≠ r := by omega
  have hrb5 : r ≠ b5 := by omega
  have hwb5 : w.heap.size ≤ b5 := by omega
  clear hb hw5r hw5p
  have HL6 : Hid (Lp p E T Q w b5 r x S R s1 W6) := Lib.hid ⟨HP5.out.then HBn.out, HY6.out, bkbel HX5.out HBn.out, HN5.out.below HBn.out⟩
  clear HP5 HX5 HN5 HBn HY6
  go_loopg [18] f (fun g v18 wr => ∃ y S R sc, Hid (g ≤ f) ∧ Hid (linksP E g rk y sc = some (X, s')) ∧ Hid (Lp p E T Q w b5 r y S R sc wr))
  case atStart => exact ⟨x, S, R, s1, Lib.hid (Nat.le_refl _), HCL, HL6⟩
  case round =>
    obtain ⟨y, S, R, sc, HG, HCY, HLc⟩ := hrel
    clear HCL HL6
    cases gk with
    | zero => exact absurd HCY.out (by unfold linksP; intro h; cases h)
    | succ gk =>
    have hcy := links_some HCY.out
    have htok := HLc.out.pp.ps.tok
    have hsn := HLc.out.pp.ps.n
    have hfw := HLc.out.pp.ps.ok.few
    have hle := HLc.out.pp.ps.nextLe
    obtain ⟨⟨tk, tt, ta, tf⟩, ht⟩ : ∃ t, nextP E sc = t := ⟨_, rfl⟩
    have HT := Lib.hid ht
    have HNX := Lib.hid (nextC p E T Q sc wr (Lib.hid HLc.out.pp.ps))
    rw [ht] at HNX htok hle
    dsimp only [nxV, tokV] at HNX
    dsimp only at htok hle
    have hcs : (sc.e ≠ 0 ∧ X = y ∧ s' = sc) ∨ (sc.e = 0 ∧ ∃ (o : Nat) (b : Bool), findV (findO tt true) = .tuple #[.int .u8 (o : Int), .bool b] ∧ o ≤ 16 ∧ (((tk ≠ 4 ∨ (tk = 4 ∧ b = false) ∨ (tk = 4 ∧ b = true ∧ rankO o < rk)) ∧ X = y ∧ s' = sc) ∨
        (tk = 4 ∧ b = true ∧ ¬ rankO o < rk ∧ ∃ z s2, chainP E gk (rankO o + 1) (stepP sc) = some (z, s2) ∧ okW [y, z] = true ∧ linksP E gk rk (wholeP 6 o 0 0 [] (hereP y) [y, z]) s2 = some (X, s')))) := by
      have hfv : ∃ (o : Nat) (b : Bool), findV (findO tt true) = .tuple #[.int .u8 (o : Int), .bool b] ∧ o ≤ 16 := by
        cases hf : findO tt true with
        | none => exact ⟨0, false, rfl, by omega⟩
        | some o => exact ⟨o, true, rfl, (findO_le hf).2⟩
      cases hcy with
      | err h1 h2 h3 => exact .inl ⟨h1, h2, h3⟩
      | sign h1 h2 h3 h4 =>
        rw [ht] at h2
        obtain ⟨o, b, h5, h6⟩ := hfv
        exact .inr ⟨h1, o, b, h5, h6, .inl ⟨.inl h2, h3, h4⟩⟩
      | find h1 h2 h3 h4 =>
        rw [ht] at h2
        dsimp only at h2
        refine .inr ⟨h1, 0, false, by rw [h2]; rfl, by omega, .inl ⟨?_, h3, h4⟩⟩
        by_cases hk : tk = 4
        · exact .inr (.inl ⟨hk, rfl⟩)
        · exact .inl hk
      | low o h1 h2 h3 h4 h5 h6 =>
        rw [ht] at h2 h3
        dsimp only at h2 h3
        exact .inr ⟨h1, o, true, by rw [h3]; rfl, (findO_le h3).2, .inl ⟨.inr (.inr ⟨h2, rfl, h4⟩), h5, h6⟩⟩
      | go o z s2 h1 h2 h3 h4 h5 h6 h7 =>
        rw [ht] at h2 h3
        dsimp only at h2 h3
        exact .inr ⟨h1, o, true, by rw [h3]; rfl, (findO_le h3).2, .inr ⟨h2, rfl, h4, z, s2, h5, h6, h7⟩⟩
    clear hcy HCY ht
    rcases hcs with ⟨h1, rfl, rfl⟩ | ⟨h1, o, b, hfv, ho, hcs⟩
    · have e1 : ((s'.e : Int) == 0) = false := by simp; omega
      clear h1 htok hle hsn hfw HNX HT
      obtain ⟨g0, g1, g2, g3, g4, g5, g6⟩ := HLc.out.pp.ps.cells
      obtain ⟨x0, x1, x2, x3, x4, x5, x6⟩ := HLc.out.cel
      have HXR := Lib.hid HLc.out.rs
      obtain ⟨y0, y1, y2, y3, y4, y5, y6⟩ := cells7 HXR.out
      obtain ⟨f0, f1, f2, f3, f4, f5, f6⟩ := froz7 HXR.out
      have HF := Lib.hid (fr7 wr r (.int .u8 (X.1.kind : Int)) (.int .u8 (X.1.op : Int)) (.int .u32 (X.1.value : Int)) (.int .i64 X.1.width) (.string (str X.1.name)) (.slice S.A S.n S.c) (.slice R.A R.n R.c))
      have HK := Lib.hid (put7 (v0 := .int .u8 (X.1.kind : Int)) (v1 := .int .u8 (X.1.op : Int)) (v2 := .int .u32 (X.1.value : Int)) (v3 := .int .i64 X.1.width) (v4 := .string (str X.1.name)) (v5 := .slice S.A S.n S.c) (v6 := .slice R.A R.n R.c) HXR.out)
      go_wp2_with fail
      generalize (((((((wr.setCell ⟨r, 0, none⟩ (.int .u8 (X.1.kind : Int))).setCell ⟨r, 1, none⟩ (.int .u8 (X.1.op : Int))).setCell ⟨r, 2, none⟩ (.int .u32 (X.1.value : Int))).setCell ⟨r, 3, none⟩ (.int .i64 X.1.width)).setCell ⟨r, 4, none⟩ (.string (str X.1.name))).setCell ⟨r, 5, none⟩ (.slice S.A S.n S.c)).setCell ⟨r, 6, none⟩ (.slice R.A R.n R.c)) = WF at HF HK ⊢
      obtain ⟨r0, r1, r2, r3, r4, r5, r6⟩ := cells7 HK.out
      refine bodyPost_ret (v := nodeV X S R) (by rw [nodeV_lit]; simp [results, Tryd.results45, go_sem, r0, r1, r2, r3, r4, r5, r6]) rfl ?_
      exact nd_out HLc.out.pp h.out HXR.out hrp hwr HF.out HLc.out.nd
    · have e1 : ((sc.e : Int) == 0) = true := by simp; omega
      have HFO := Lib.hid hfv
      obtain ⟨k, hk⟩ : ∃ k, rankO o = k := ⟨_, rfl⟩
      have HRK : Hid (∀ W, Calls Tryd.prog 8 #[.int .u8 (o : Int)] W fun e w' => e = .returned (.int .i64 (k : Int)) ∧ Below W.heap.size W w') := fun W => by
        have := rankC o ho W
        rw [hk] at this
        exact this
      have hk6 : k ≤ 6 := by rw [← hk]; exact rankO_le o
      rw [hk] at hcs
      obtain ⟨g0, g1, g2, g3, g4, g5, g6⟩ := HLc.out.pp.ps.cells
      have ho16 : o ≤ 16 := ho
      clear h1 hfv hk ho
      rcases hcs with ⟨hq, rfl, rfl⟩ | ⟨h4, hb, hlt, z, s2, hch, okw, hlk⟩
      · rcases hq with h4 | ⟨h4, hb⟩ | ⟨h4, hb, hlt⟩
        · have e2 : ((tk : Int) != 4) = true := by simp; omega
          clear h4 htok hle hsn hfw
          go_wp2_with fail
          refine HNX.out.mono ?_
          rintro e w1 ⟨rfl, hb1⟩
          have HL1 := Lib.hid (HLc.out.bel hb1)
          clear hb1 HNX HLc g0 g1 g2 g3 g4 g5 g6
          have hwr' : r < w1.heap.size := HL1.out.rs.lt
          have hwp' : p < w1.heap.size := HL1.out.pp.ps.lt
          have hwb' : b5 < w1.heap.size := HL1.out.bx.lt
          have HBn : Hid (Below w1.heap.size w1 (w1.alloc (.cells #[.int .u8 (tk : Int), .int .i64 (ta : Int), .int .i64 (tf : Int)] 74))) := pokeB'
          have HTB := Lib.hid (Bk.new w1 74 #[.int .u8 (tk : Int), .int .i64 (ta : Int), .int .i64 (tf : Int)])
          go_upto_region 4 with fail
          generalize (w1.alloc (.cells #[.int .u8 (tk : Int), .int .i64 (ta : Int), .int .i64 (tf : Int)] 74)) = W2 at HBn HTB ⊢
          obtain ⟨b6, hb6⟩ : ∃ b, w1.heap.size = b := ⟨_, rfl⟩
          rw [hb6] at HTB ⊢
          have hb6p : b6 ≠ p := by omega
          have hb6r : b6 ≠ r := by omega
          have hb6b : b6 ≠ b5 := by omega
          clear hb6 hwr' hwp' hwb'
          have HL2 := Lib.hid (HL1.out.bel HBn.out)
          clear HL1 HBn
          go_wp2_with fail
          refine (findC tt true W2).mono ?_
          rintro e w3 ⟨rfl, hb⟩
          rw [HFO.out]
          dsimp only
          have HL3 := Lib.hid (HL2.out.bel hb)
          have HT3 := Lib.hid (bkbel HTB.out hb)
          clear hb HL2 HTB
          go_wp2_with fail
          refine (HRK.out w3).mono ?_
          rintro e w4 ⟨rfl, hb⟩
          have HL4 := Lib.hid (HL3.out.bel hb)
          have HT4 := Lib.hid (bkbel HT3.out hb)
          clear hb HL3 HT3
          obtain ⟨t0, t1, t2⟩ := bcells3 HT4.out
          obtain ⟨x0, x1, x2, x3, x4, x5, x6⟩ := HL4.out.cel
          have HXR := Lib.hid HL4.out.rs
          obtain ⟨y0, y1, y2, y3, y4, y5, y6⟩ := cells7 HXR.out
          obtain ⟨f0, f1, f2, f3, f4, f5, f6⟩ := froz7 HXR.out
          have HF := Lib.hid (fr7 w4 r (.int .u8 (X.1.kind : Int)) (.int .u8 (X.1.op : Int)) (.int .u32 (X.1.value : Int)) (.int .i64 X.1.width) (.string (str X.1.name)) (.slice S.A S.n S.c) (.slice R.A R.n R.c))
          have HK := Lib.hid (put7 (v0 := .int .u8 (X.1.kind : Int)) (v1 := .int .u8 (X.1.op : Int)) (v2 := .int .u32 (X.1.value : Int)) (v3 := .int .i64 X.1.width) (v4 := .string (str X.1.name)) (v5 := .slice S.A S.n S.c) (v6 := .slice R.A R.n R.c) HXR.out)
          go_wp2_with fail
          generalize (((((((w4.setCell ⟨r, 0, none⟩ (.int .u8 (X.1.kind : Int))).setCell ⟨r, 1, none⟩ (.int .u8 (X.1.op : Int))).setCell ⟨r, 2, none⟩ (.int .u32 (X.1.value : Int))).setCell ⟨r, 3, none⟩ (.int .i64 X.1.width)).setCell ⟨r, 4, none⟩ (.string (str X.1.name))).setCell ⟨r, 5, none⟩ (.slice S.A S.n S.c)).setCell ⟨r, 6, none⟩ (.slice R.A R.n R.c)) = WF at HF HK ⊢
          obtain ⟨r0, r1, r2, r3, r4, r5, r6⟩ := cells7 HK.out
          refine bodyPost_ret (v := nodeV X S R) (by rw [nodeV_lit]; simp [results, Tryd.results45, go_sem, r0, r1, r2, r3, r4, r5, r6]) rfl ?_
          exact nd_out HL4.out.pp h.out HXR.out hrp hwr HF.out HL4.out.nd
        · have e2 : ((tk : Int) != 4) = false := by simp; omega
          subst hb
          clear h4 htok hle hsn hfw
          go_wp2_with fail
          refine HNX.out.mono ?_
          rintro e w1 ⟨rfl, hb1⟩
          have HL1 := Lib.hid (HLc.out.bel hb1)
          clear hb1 HNX HLc g0 g1 g2 g3 g4 g5 g6
          have hwr' : r < w1.heap.size := HL1.out.rs.lt
          have hwp' : p < w1.heap.size := HL1.out.pp.ps.lt
          have hwb' : b5 < w1.heap.size := HL1.out.bx.lt
          have HBn : Hid (Below w1.heap.size w1 (w1.alloc (.cells #[.int .u8 (tk : Int), .int .i64 (ta : Int), .int .i64 (tf : Int)] 74))) := pokeB'
          have HTB := Lib.hid (Bk.new w1 74 #[.int .u8 (tk : Int), .int .i64 (ta : Int), .int .i64 (tf : Int)])
          go_upto_region 4 with fail
          generalize (w1.alloc (.cells #[.int .u8 (tk : Int), .int .i64 (ta : Int), .int .i64 (tf : Int)] 74)) = W2 at HBn HTB ⊢
          obtain ⟨b6, hb6⟩ : ∃ b, w1.heap.size = b := ⟨_, rfl⟩
          rw [hb6] at HTB ⊢
          have hb6p : b6 ≠ p := by omega
          have hb6r : b6 ≠ r := by omega
          have hb6b : b6 ≠ b5 := by omega
          clear hb6 hwr' hwp' hwb'
          have HL2 := Lib.hid (HL1.out.bel HBn.out)
          clear HL1 HBn
          go_wp2_with fail
          refine (findC tt true W2).mono ?_
          rintro e w3 ⟨rfl, hb⟩
          rw [HFO.out]
          dsimp only
          have HL3 := Lib.hid (HL2.out.bel hb)
          have HT3 := Lib.hid (bkbel HTB.out hb)
          clear hb HL2 HTB
          go_wp2_with fail
          refine (HRK.out w3).mono ?_
          rintro e w4 ⟨rfl, hb⟩
          have HL4 := Lib.hid (HL3.out.bel hb)
          have HT4 := Lib.hid (bkbel HT3.out hb)
          clear hb HL3 HT3
          obtain ⟨t0, t1, t2⟩ := bcells3 HT4.out
          obtain ⟨x0, x1, x2, x3, x4, x5, x6⟩ := HL4.out.cel
          have HXR := Lib.hid HL4.out.rs
          obtain ⟨y0, y1, y2, y3, y4, y5, y6⟩ := cells7 HXR.out
          obtain ⟨f0, f1, f2, f3, f4, f5, f6⟩ := froz7 HXR.out
          have HF := Lib.hid (fr7 w4 r (.int .u8 (X.1.kind : Int)) (.int .u8 (X.1.op : Int)) (.int .u32 (X.1.value : Int)) (.int .i64 X.1.width) (.string (str X.1.name)) (.slice S.A S.n S.c) (.slice R.A R.n R.c))
          have HK := Lib.hid (put7 (v0 := .int .u8 (X.1.kind : Int)) (v1 := .int .u8 (X.1.op : Int)) (v2 := .int .u32 (X.1.value : Int)) (v3 := .int .i64 X.1.width) (v4 := .string (str X.1.name)) (v5 := .slice S.A S.n S.c) (v6 := .slice R.A R.n R.c) HXR.out)
          go_wp2_with fail
          generalize (((((((w4.setCell ⟨r, 0, none⟩ (.int .u8 (X.1.kind : Int))).setCell ⟨r, 1, none⟩ (.int .u8 (X.1.op : Int))).setCell ⟨r, 2, none⟩ (.int .u32 (X.1.value : Int))).setCell ⟨r, 3, none⟩ (.int .i64 X.1.width)).setCell ⟨r, 4, none⟩ (.string (str X.1.name))).setCell ⟨r, 5, none⟩ (.slice S.A S.n S.c)).setCell ⟨r, 6, none⟩ (.slice R.A R.n R.c)) = WF at HF HK ⊢
          obtain ⟨r0, r1, r2, r3, r4, r5, r6⟩ := cells7 HK.out
          refine bodyPost_ret (v := nodeV X S R) (by rw [nodeV_lit]; simp [results, Tryd.results45, go_sem, r0, r1, r2, r3, r4, r5, r6]) rfl ?_
          exact nd_out HL4.out.pp h.out HXR.out hrp hwr HF.out HL4.out.nd
        · have e2 : ((tk : Int) != 4) = false := by simp; omega
          subst hb
          have e3 : decide ((k : Int) < (rk : Int)) = true := by simp; omega
          have e4 : (k : Int) < (rk : Int) := by omega
          clear h4 hlt htok hle hsn hfw
          go_wp2_with fail
          refine HNX.out.mono ?_
          rintro e w1 ⟨rfl, hb1⟩
          have HL1 := Lib.hid (HLc.out.bel hb1)
          clear hb1 HNX HLc g0 g1 g2 g3 g4 g5 g6
          have hwr' : r < w1.heap.size := HL1.out.rs.lt
          have hwp' : p < w1.heap.size := HL1.out.pp.ps.lt
          have hwb' : b5 < w1.heap.size := HL1.out.bx.lt
          have HBn : Hid (Below w1.heap.size w1 (w1.alloc (.cells #[.int .u8 (tk : Int), .int .i64 (ta : Int), .int .i64 (tf : Int)] 74))) := pokeB'
          have HTB := Lib.hid (Bk.new w1 74 #[.int .u8 (tk : Int), .int .i64 (ta : Int), .int .i64 (tf : Int)])
          go_upto_region 4 with fail
          generalize (w1.alloc (.cells #[.int .u8 (tk : Int), .int .i64 (ta : Int), .int .i64 (tf : Int)] 74)) = W2 at HBn HTB ⊢
          obtain ⟨b6, hb6⟩ : ∃ b, w1.heap.size = b := ⟨_, rfl⟩
          rw [hb6] at HTB ⊢
          have hb6p : b6 ≠ p := by omega
          have hb6r : b6 ≠ r := by omega
          have hb6b : b6 ≠ b5 := by omega
          clear hb6 hwr' hwp' hwb'
          have HL2 := Lib.hid (HL1.out.bel HBn.out)
          clear HL1 HBn
          go_wp2_with fail
          refine (findC tt true W2).mono ?_
          rintro e w3 ⟨rfl, hb⟩
          rw [HFO.out]
          dsimp only
          have HL3 := Lib.hid (HL2.out.bel hb)
          have HT3 := Lib.hid (bkbel HTB.out hb)
          clear hb HL2 HTB
          go_wp2_with fail
          refine (HRK.out w3).mono ?_
          rintro e w4 ⟨rfl, hb⟩
          have HL4 := Lib.hid (HL3.out.bel hb)
          have HT4 := Lib.hid (bkbel HT3.out hb)
          clear hb HL3 HT3
          obtain ⟨t0, t1, t2⟩ := bcells3 HT4.out
          obtain ⟨x0, x1, x2, x3, x4, x5, x6⟩ := HL4.out.cel
          have HXR := Lib.hid HL4.out.rs
          obtain ⟨y0, y1, y2, y3, y4, y5, y6⟩ := cells7 HXR.out
          obtain ⟨f0, f1, f2, f3, f4, f5, f6⟩ := froz7 HXR.out
          have HF := Lib.hid (fr7 w4 r (.int .u8 (X.1.kind : Int)) (.int .u8 (X.1.op : Int)) (.int .u32 (X.1.value : Int)) (.int .i64 X.1.width) (.string (str X.1.name)) (.slice S.A S.n S.c) (.slice R.A R.n R.c))
          have HK := Lib.hid (put7 (v0 := .int .u8 (X.1.kind : Int)) (v1 := .int .u8 (X.1.op : Int)) (v2 := .int .u32 (X.1.value : Int)) (v3 := .int .i64 X.1.width) (v4 := .string (str X.1.name)) (v5 := .slice S.A S.n S.c) (v6 := .slice R.A R.n R.c) HXR.out)
          go_wp2_with fail
          generalize (((((((w4.setCell ⟨r, 0, none⟩ (.int .u8 (X.1.kind : Int))).setCell ⟨r, 1, none⟩ (.int .u8 (X.1.op : Int))).setCell ⟨r, 2, none⟩ (.int .u32 (X.1.value : Int))).setCell ⟨r, 3, none⟩ (.int .i64 X.1.width)).setCell ⟨r, 4, none⟩ (.string (str X.1.name))).setCell ⟨r, 5, none⟩ (.slice S.A S.n S.c)).setCell ⟨r, 6, none⟩ (.slice R.A R.n R.c)) = WF at HF HK ⊢
          obtain ⟨r0, r1, r2, r3, r4, r5, r6⟩ := cells7 HK.out
          refine bodyPost_ret (v := nodeV X S R) (by rw [nodeV_lit]; simp [results, Tryd.results45, go_sem, r0, r1, r2, r3, r4, r5, r6]) rfl ?_
          exact nd_out HL4.out.pp h.out HXR.out hrp hwr HF.out HL4.out.nd
      · have e2 : ((tk : Int) != 4) = false := by simp; omega
        subst hb
        have e3 : decide ((k : Int) < (rk : Int)) = false := by simp; omega
        have e4 : ¬ (k : Int) < (rk : Int) := by omega
        obtain ⟨_, hn1, _⟩ := htok (.inl (by omega))
        have wn : IntKind.i64.wrap ((sc.n : Int) + 1) = (sc.n : Int) + 1 := by rw [IntKind.wrap_i64]; omega
        have wk : IntKind.i64.wrap ((k : Int) + 1) = (k : Int) + 1 := by rw [IntKind.wrap_i64]; omega
        have HOW := Lib.hid (okW_len okw)
        have HCH := Lib.hid hch
        have HLK := Lib.hid hlk
        have HN1 := Lib.hid hn1
        have HO := Lib.hid ho16
        clear h4 hlt htok hle hsn hfw okw hch hlk hn1 ho16
        go_wp2_with fail
        refine HNX.out.mono ?_
        rintro e w1 ⟨rfl, hb1⟩
        have HL1 := Lib.hid (HLc.out.bel hb1)
        clear hb1 HNX HLc g0 g1 g2 g3 g4 g5 g6
        have hwr' : r < w1.heap.size := HL1.out.rs.lt
        have hwp' : p < w1.heap.size := HL1.out.pp.ps.lt
        have hwb' : b5 < w1.heap.size := HL1.out.bx.lt
        have HBn : Hid (Below w1.heap.size w1 (w1.alloc (.cells #[.int .u8 (tk : Int), .int .i64 (ta : Int), .int .i64 (tf : Int)] 74))) := pokeB'
        have HTB := Lib.hid (Bk.new w1 74 #[.int .u8 (tk : Int), .int .i64 (ta : Int), .int .i64 (tf : Int)])
        go_upto_region 4 with fail
        generalize (w1.alloc (.cells #[.int .u8 (tk : Int), .int .i64 (ta : Int), .int .i64 (tf : Int)] 74)) = W2 at HBn HTB ⊢
        obtain ⟨b6, hb6⟩ : ∃ b, w1.heap.size = b := ⟨_, rfl⟩
        rw [hb6] at HTB ⊢
        have hb6p : b6 ≠ p := by omega
        have hb6r : b6 ≠ r := by omega
        have hb6b : b6 ≠ b5 := by omega
        clear hb6 hwr' hwp' hwb'
        have HL2 := Lib.hid (HL1.out.bel HBn.out)
        clear HL1 HBn
        go_wp2_with fail
        refine (findC tt true W2).mono ?_
        rintro e w3 ⟨rfl, hb⟩
        rw [HFO.out]
        dsimp only
        have HL3 := Lib.hid (HL2.out.bel hb)
        have HT3 := Lib.hid (bkbel HTB.out hb)
        clear hb HL2 HTB
        go_wp2_with fail
        refine (HRK.out w3).mono ?_
        rintro e w4 ⟨rfl, hb⟩
        have HL4 := Lib.hid (HL3.out.bel hb)
        have HT4 := Lib.hid (bkbel HT3.out hb)
        clear hb HL3 HT3
        obtain ⟨t0, t1, t2⟩ := bcells3 HT4.out
        obtain ⟨g0, g1, g2, g3, g4, g5, g6⟩ := HL4.out.pp.ps.cells
        have gz := HL4.out.pp.ps.frozens 2
        have hd := HL4.out.pp.ps.setN (sc.n + 1) HN1.out
        rw [show ((sc.n + 1 : Nat) : Int) = (sc.n : Int) + 1 by omega] at hd
        have HL7 : Hid (Lp p E T Q w b5 r y S R (stepP sc) _) := Lib.hid (HL4.out.tr hb5p hrp hd)
        clear hd
        go_upto_region 8 with fail
        generalize (w4.setCell ⟨p, 2, none⟩ (.int .i64 ((sc.n : Int) + 1))) = W7 at HL7 ⊢
        clear g0 g1 g2 g3 g4 g5 g6 gz t0 t1 t2 HL4 HT4
        go_wp2_with fail
        refine (HRK.out W7).mono ?_
        rintro e w8 ⟨rfl, hb⟩
        have HL8 := Lib.hid (HL7.out.bel hb)
        clear hb HL7
        have HCC : Hid (Calls Tryd.prog 45 #[.pointer (some ⟨p, 0, none⟩), .int .i64 ((k : Int) + 1)] w8 (NdPost w8 p E T Q z s2)) := by
          have := (HIH.out gk (Nat.le_of_succ_le HG.out)).chain (k + 1) _ _ _ w8 (by omega) HCH.out (Lib.hid HL8.out.pp.ps)
          exact Lib.hid this
        go_wp2_with fail
        refine HCC.out.mono ?_
        rintro e w9 ⟨S4, R4, rfl, hn, hp⟩
        rw [nodeV_lit]
        have HL9 := Lib.hid (HL8.out.tr hb5p hrp hp)
        have HZ9 := Lib.hid hn
        have hw9b : b5 < w9.heap.size := HL9.out.bx.lt
        have hw9r : r < w9.heap.size := HL9.out.rs.lt
        clear hn hp HL8 HCC HRK
        have HBn : Hid (Below w9.heap.size w9 (w9.alloc (.cells #[.int .u8 (z.1.kind : Int), .int .u8 (z.1.op : Int), .int .u32 (z.1.value : Int), .int .i64 z.1.width, .string (str z.1.name), .slice S4.A S4.n S4.c, .slice R4.A R4.n R4.c] 67))) := pokeB'
        have HBZ := Lib.hid (Bk.new w9 67 #[.int .u8 (z.1.kind : Int), .int .u8 (z.1.op : Int), .int .u32 (z.1.value : Int), .int .i64 z.1.width, .string (str z.1.name), .slice S4.A S4.n S4.c, .slice R4.A R4.n R4.c])
        go_upto_region 9 with fail
        generalize (w9.alloc (.cells #[.int .u8 (z.1.kind : Int), .int .u8 (z.1.op : Int), .int .u32 (z.1.value : Int), .int .i64 z.1.width, .string (str z.1.name), .slice S4.A S4.n S4.c, .slice R4.A R4.n R4.c] 67)) = v at HBn HBZ ⊢
        obtain ⟨b11, hb⟩ : ∃ b, w9.heap.size = b := ⟨_, rfl⟩
        rw [hb] at HBZ ⊢
        have hb11b : b11 ≠ b5 := by omega
        clear hb hw9b hw9r
        have HLV : Hid (Lq p E T Q w b5 r b11 y S R z S4 R4 s2 v) := Lib.hid ⟨HL9.out.bel HBn.out, HBZ.out, HZ9.out.below HBn.out⟩
        clear HL9 HZ9 HBn HBZ
        have HL0 := Lib.hid (HLV.out.bel (Below.refl _ _).drew)
        have HLA : Hid (∀ o : Obj, Lq p E T Q w b5 r b11 y S R z S4 R4 s2 (v.alloc o).drew) := fun o => (HLV.out.bel pokeB').bel (Below.refl _ _).drew
        obtain ⟨Y, hY⟩ : ∃ Y, wholeP 6 o 0 0 [] (hereP y) [y, z] = Y := ⟨_, rfl⟩
        have HYE := Lib.hid hY
        rw [hY] at HLK
        clear hY
        have HRN : Hid (∀ V : World, Lq p E T Q w b5 r b11 y S R z S4 R4 s2 V → NdsAt T.base (V.alloc (.cells #[.int .u8 (y.1.kind : Int), .int .u8 (y.1.op : Int), .int .u32 (y.1.value : Int), .int .i64 y.1.width, .string (str y.1.name), .slice S.A S.n S.c, .slice R.A R.n R.c, .int .u8 (z.1.kind : Int), .int .u8 (z.1.op : Int), .int .u32 (z.1.value : Int), .int .i64 z.1.width, .string (str z.1.name), .slice S4.A S4.n S4.c, .slice R4.A R4.n R4.c] 67)) (some ⟨V.heap.size, 0, none⟩) 2 [(y, S, R), (z, S4, R4)]) := fun V hV => nds_new (W := V) [(y, S, R), (z, S4, R4)] (fun q hq => by
          rcases List.mem_cons.1 hq with rfl | hq
          · exact hV.lp.nd
          · rw [List.mem_singleton.1 hq]; exact hV.nz)
        have HHE : Hid (∀ V : World, Lq p E T Q w b5 r b11 y S R z S4 R4 s2 V → Calls Tryd.prog 49 #[.agg #[.int .u8 (y.1.kind : Int), .int .u8 (y.1.op : Int), .int .u32 (y.1.value : Int), .int .i64 y.1.width, .string (str y.1.name), .slice S.A S.n S.c, .slice R.A R.n R.c]] V fun e w' => e = .returned (.int .i64 (hereP y : Int)) ∧ Below V.heap.size V w') := fun V hV => here_at V V hV.lp.nd (Below.refl _ _)
        have HWH : Hid (∀ (V : World) (g : Nat), Lq p E T Q w b5 r b11 y S R z S4 R4 s2 V → NdsAt T.base V (some ⟨g, 0, none⟩) 2 [(y, S, R), (z, S4, R4)] → Calls Tryd.prog 48 #[.agg #[.int .u8 6, .int .u8 (o : Int), .int .u32 0, .int .i64 0, .string ⟨#[]⟩, .slice none 0 0], .int .i64 (hereP y : Int), .slice (some ⟨g, 0, none⟩) 2 2] V fun e w' => ∃ S0 R0, e = .returned (nodeV Y S0 R0) ∧ NdAt T.base w' Y S0 R0 ∧ Below V.heap.size V w') := fun V g hV hg => by
          have hlen : (atsN 0 [(y, S, R), (z, S4, R4)]).length ≤ 100000000 := by
            have h1 := HOW.out
            have h2 : (atsN 0 ([(y, S, R), (z, S4, R4)] : List NdV)).length = 1 + (([y, z] : List Nd).flatMap (·.2)).length := by unfold atsN; simp; omega
            omega
          have hh := hereP_le hV.lp.nd
          have ho := HO.out
          rw [← HYE.out]
          exact wholeC 6 o 0 0 [] (hereP y) (some ⟨g, 0, none⟩) 2 2 [(y, S, R), (z, S4, R4)] V (Lib.hid hg) (by omega) hlen (by omega) (by omega) (by omega) (by omega) (by omega) (by omega) (by simp)
        obtain ⟨x0, x1, x2, x3, x4, x5, x6⟩ := HL0.out.lp.cel
        obtain ⟨z0, z1, z2, z3, z4, z5, z6⟩ := HL0.out.cez
        have xa := fun o => (HLA.out o).lp.cel
        have za := fun o => (HLA.out o).cez
        have xb := HLV.out.lp.cal
        have zb := HLV.out.caz
        go_region_law (go_simp; (first
            | (go_at_call 49
               with_reducible refine (HHE.out _ HL0.out).mono ?_
               rintro e v2 ⟨rfl, hb⟩
               have HL2 := Lib.hid (HL0.out.bel hb)
               clear hb x0 x1 x2 x3 x4 x5 x6 z0 z1 z2 z3 z4 z5 z6 xa za xb zb
               obtain ⟨x0, x1, x2, x3, x4, x5, x6⟩ := HL2.out.lp.cel
               obtain ⟨z0, z1, z2, z3, z4, z5, z6⟩ := HL2.out.cez
               have xa := HL2.out.lp.cal
               have za := HL2.out.caz)
            | (go_at_call 49
               with_reducible refine (HHE.out _ (HLA.out _)).mono ?_
               rintro e v2 ⟨rfl, hb⟩
               have HL2 := Lib.hid ((HLA.out _).bel hb)
               have HR : Hid (NdsAt T.base v2 (some ⟨v.heap.size, 0, none⟩) 2 [(y, S, R), (z, S4, R4)]) := Lib.hid (((HRN.out v HLV.out).below (Below.refl _ _).drew).below hb)
               clear hb x0 x1 x2 x3 x4 x5 x6 z0 z1 z2 z3 z4 z5 z6 xa za xb zb
               obtain ⟨x0, x1, x2, x3, x4, x5, x6⟩ := HL2.out.lp.cel
               obtain ⟨z0, z1, z2, z3, z4, z5, z6⟩ := HL2.out.cez
               have xa := HL2.out.lp.cal
               have za := HL2.out.caz)
            | (go_at_call 48
               with_reducible refine (HWH.out _ _ HL2.out HR.out).mono ?_
               rintro e v7 ⟨S0, R0, rfl, hn7, hb7⟩
               rw [nodeV_lit]
               have HL7 := Lib.hid (HL2.out.bel hb7)
               have HN7 := Lib.hid hn7
               clear hn7 hb7 x0 x1 x2 x3 x4 x5 x6 z0 z1 z2 z3 z4 z5 z6 xa za
               obtain ⟨x0, x1, x2, x3, x4, x5, x6⟩ := HL7.out.lp.cel
               obtain ⟨f0, f1, f2, f3, f4, f5, f6⟩ := froz7 HL7.out.lp.bx)
            | (go_at_call 48
               with_reducible refine (HWH.out _ _ (HL2.out.bel pokeB') (HRN.out _ HL2.out)).mono ?_
               rintro e v7 ⟨S0, R0, rfl, hn7, hb7⟩
               rw [nodeV_lit]
               have HL7 := Lib.hid ((HL2.out.bel pokeB').bel hb7)
               have HN7 := Lib.hid hn7
               clear hn7 hb7 x0 x1 x2 x3 x4 x5 x6 z0 z1 z2 z3 z4 z5 z6 xa za
               obtain ⟨x0, x1, x2, x3, x4, x5, x6⟩ := HL7.out.lp.cel
               obtain ⟨f0, f1, f2, f3, f4, f5, f6⟩ := froz7 HL7.out.lp.bx)))
        all_goals
          have HF := Lib.hid (fr7 v7 b5 (.int .u8 (Y.1.kind : Int)) (.int .u8 (Y.1.op : Int)) (.int .u32 (Y.1.value : Int)) (.int .i64 Y.1.width) (.string (str Y.1.name)) (.slice S0.A S0.n S0.c) (.slice R0.A R0.n R0.c))
          have HK := Lib.hid (put7 (v0 := .int .u8 (Y.1.kind : Int)) (v1 := .int .u8 (Y.1.op : Int)) (v2 := .int .u32 (Y.1.value : Int)) (v3 := .int .i64 Y.1.width) (v4 := .string (str Y.1.name)) (v5 := .slice S0.A S0.n S0.c) (v6 := .slice R0.A R0.n R0.c) HL7.out.lp.bx)
          clear x0 x1 x2 x3 x4 x5 x6 f0 f1 f2 f3 f4 f5 f6
          generalize (((((((v7.setCell ⟨b5, 0, none⟩ (.int .u8 (Y.1.kind : Int))).setCell ⟨b5, 1, none⟩ (.int .u8 (Y.1.op : Int))).setCell ⟨b5, 2, none⟩ (.int .u32 (Y.1.value : Int))).setCell ⟨b5, 3, none⟩ (.int .i64 Y.1.width)).setCell ⟨b5, 4, none⟩ (.string (str Y.1.name))).setCell ⟨b5, 5, none⟩ (.slice S0.A S0.n S0.c)).setCell ⟨b5, 6, none⟩ (.slice R0.A R0.n R0.c)) = WF at HF HK ⊢
          go_wp2_with fail
          go_roundg gk
          case measure => exact Nat.lt_succ_self _
          case rel => exact ⟨Y, S0, R0, s2, Lib.hid (Nat.le_of_succ_le HG.out), HLK, Lib.hid ⟨HL7.out.lp.pp.fin h.out HL7.out.lp.bx hb5p hwb5 HF.out, HK.out, HL7.out.lp.rs.fr HF.out hrb5, HN7.out.box HL7.out.lp.bx HF.out⟩⟩
end
end Go.Proofs.YtehcpcpmcngnjaaDoor

