/-
  The parser's recursion: basis.
-/
import Derived.Test.YtehcpcpmcngnjaaDoorRecC
set_option linter.unusedVariables false
set_option linter.unusedSimpArgs false
namespace Go.Proofs.YtehcpcpmcngnjaaDoor
open Go.RowKit Go.PlainAid

section
variable {p : Nat} {E : Env} {T : TV} {Q : SV}
/-- What basis comes to. -/
inductive BasisR (E : Env) (f : Nat) (s : PSt) : Nd → PSt → Prop where
  | err : s.e ≠ 0 → BasisR E f s nd0 s
  | lit0 : s.e = 0 → (nextP E s).kind = 3 → (litT (nextP E s).text).2.2 ≠ 0 → BasisR E f s nd0 (wrongP E s 302)
  | lit : s.e = 0 → (nextP E s).kind = 3 → (litT (nextP E s).text).2.2 = 0 → BasisR E f s (wholeP 1 0 (litT (nextP E s).text).1 (litT (nextP E s).text).2.1 [] (nextP E s).at' []) (stepP s)
  | paren (X s') : s.e = 0 → (nextP E s).kind ≠ 3 → (nextP E s).text = [40] → withinP E f s [40] [41] = some (X, s') → BasisR E f s X s'
  | disk (x s2) : s.e = 0 → (nextP E s).kind ≠ 3 → (nextP E s).text ≠ [40] → (nextP E s).text = [100, 105, 115, 107] → withinP E f (stepP s) [91] [93] = some (x, s2) → okW [x] = true → BasisR E f s (wholeP 4 0 0 0 [] (nextP E s).at' [x]) s2
  | elem (x s2) : s.e = 0 → (nextP E s).kind ≠ 3 → (nextP E s).text ≠ [40] → (nextP E s).text ≠ [100, 105, 115, 107] → (nextP E (nameS E s)).text = [91] → withinP E f (nameS E s) [91] [93] = some (x, s2) → okW [x] = true → BasisR E f s (wholeP 3 0 0 0 (nameP E s) (nextP E s).at' [x]) s2
  | var : s.e = 0 → (nextP E s).kind ≠ 3 → (nextP E s).text ≠ [40] → (nextP E s).text ≠ [100, 105, 115, 107] → (nextP E (nameS E s)).text ≠ [91] → BasisR E f s (wholeP 2 0 0 0 (nameP E s) (nextP E s).at' []) (nameS E s)
theorem basis_some {f : Nat} {s s' : PSt} {X : Nd} (h : basisP E (f + 1) s = some (X, s')) : BasisR E f s X s' := by
  unfold basisP at h
  by_cases h1 : s.e = 0
  rotate_left
  · rw [decide_eq_false h1] at h
    injection h with h; injection h with h7 h8; subst h7 h8
    exact .err h1
  rw [decide_eq_true h1] at h
  dsimp only at h
  by_cases h2 : (nextP E s).kind = 3
  · rw [decide_eq_true h2] at h
    dsimp only at h
    by_cases h3 : (litT (nextP E s).text).2.2 = 0
    · rw [decide_eq_true h3] at h
      injection h with h; injection h with h7 h8; subst h7 h8
      exact .lit h1 h2 h3
    · rw [decide_eq_false h3] at h
      injection h with h; injection h with h7 h8; subst h7 h8
      exact .lit0 h1 h2 h3
  rw [decide_eq_false h2] at h
  dsimp only at h
  by_cases h3 : (nextP E s).text = [40]
  · rw [decide_eq_true h3] at h
    exact .paren _ _ h1 h2 h3 h
  rw [decide_eq_false h3] at h
  dsimp only at h
  by_cases h4 : (nextP E s).text = [100, 105, 115, 107]
  · rw [decide_eq_true h4] at h
    dsimp only at h
    cases h5 : withinP E f (stepP s) [91] [93] with
    | none => rw [h5] at h; cases h
    | some q =>
      obtain ⟨x, s2⟩ := q
      rw [h5] at h
      dsimp only at h
      cases h6 : okW [x] with
      | false => rw [h6] at h; cases h
      | true =>
        rw [h6] at h
        injection h with h; injection h with h7 h8; subst h7 h8
        exact .disk x s2 h1 h2 h3 h4 h5 h6
  rw [decide_eq_false h4] at h
  dsimp only at h
  by_cases h9 : (nextP E (nameS E s)).text = [91]
  · rw [decide_eq_true h9] at h
    dsimp only at h
    cases h5 : withinP E f (nameS E s) [91] [93] with
    | none => rw [h5] at h; cases h
    | some q =>
      obtain ⟨x, s2⟩ := q
      rw [h5] at h
      dsimp only at h
      cases h6 : okW [x] with
      | false => rw [h6] at h; cases h
      | true =>
        rw [h6] at h
        injection h with h; injection h with h7 h8; subst h7 h8
        exact .elem x s2 h1 h2 h3 h4 h9 h5 h6
  · rw [decide_eq_false h9] at h
    injection h with h; injection h with h7 h8; subst h7 h8
    exact .var h1 h2 h3 h4 h9
theorem nd0_at {B : Nat} {W : World} (hB : B ≤ W.heap.size) : NdAt B W nd0 ⟨none, 0, 0⟩ ⟨none, 0, 0⟩ :=
  ⟨.leaf ⟨by decide, by decide, by decide, by decide, by decide, by decide, by decide⟩ rfl 0, ⟨RdT.nil, rfl, (fun n h => by cases h), by decide⟩, hB⟩
theorem whole0 {B : Nat} (k o v : Nat) (wd : Int) (nm : List UInt8) (at' : Nat) (W : World) (hB : B ≤ W.heap.size) (hat : at' ≤ 1000000) (hk : k ≤ 255) (ho : o ≤ 255) (hv : v ≤ 4294967295) (hw0 : -9223372036854775808 ≤ wd) (hw1 : wd ≤ 9223372036854775807) (hnm : nm.length ≤ 1000000) (X : Nd) (hX : X = wholeP k o v wd nm at' []) :
    Calls Tryd.prog 48 #[.agg #[.int .u8 (k : Int), .int .u8 (o : Int), .int .u32 (v : Int), .int .i64 wd, .string (str nm), .slice none 0 0], .int .i64 (at' : Int), .slice none 0 0] W fun e w' => ∃ S R, e = .returned (nodeV X S R) ∧ NdAt B w' X S R ∧ Below W.heap.size W w' := by
  rw [hX]
  exact wholeC k o v wd nm at' none 0 0 [] W (Lib.hid ⟨Rd.nil, rfl, hB, fun q h => by cases h⟩) (by omega) (by decide) hat hk ho hv hw0 hw1 hnm
set_option maxRecDepth 100000 in
set_option maxHeartbeats 8000000 in
theorem basis_step {f : Nat} (IH : Sp p E T Q f) (s : PSt) (X : Nd) (s' : PSt) (w : World) (hx : basisP E (f + 1) s = some (X, s')) (h : Hid (Ps w p E T Q s)) :
    Calls Tryd.prog 59 #[.pointer (some ⟨p, 0, none⟩)] w (NdPost w p E T Q X s') := by
  have hR := basis_some hx
  have HIH := Lib.hid IH
  have hpl : p < w.heap.size := h.out.lt
  have hle := h.out.nextLe
  have htok := h.out.tok
  have HB0 : Hid (Below w.heap.size w (w.alloc (.cells #[.int .u8 0, .int .u8 0, .int .u32 0, .int .i64 0, .string ⟨#[]⟩, .slice none 0 0, .slice none 0 0] 67))) := pokeB'
  have HX0 := Lib.hid (Bk.new w 67 #[.int .u8 0, .int .u8 0, .int .u32 0, .int .i64 0, .string ⟨#[]⟩, .slice none 0 0, .slice none 0 0])
  have hbq := fun u => str_beq (nextP E s).text u
  obtain ⟨⟨tk, tt, ta, tf⟩, ht⟩ : ∃ t, nextP E s = t := ⟨_, rfl⟩
  have HT := Lib.hid ht
  rw [ht] at hle htok hbq
  dsimp only at hle htok hbq
  clear hx IH
  cases hR with
  | err h1 =>
    have e1 : ((s.e : Int) != 0) = true := by simp; omega
    clear ht hbq htok
    go_enter Tryd.func59, Tryd.ntmps59
    go_upto_region 1 with fail
    generalize (w.alloc (.cells #[.int .u8 0, .int .u8 0, .int .u32 0, .int .i64 0, .string ⟨#[]⟩, .slice none 0 0, .slice none 0 0] 67)) = W at HB0 HX0 ⊢
    obtain ⟨r, hr⟩ : ∃ r, w.heap.size = r := ⟨_, rfl⟩
    rw [hr] at HX0 ⊢
    have hrp : r ≠ p := by omega
    have hwr : w.heap.size ≤ r := by omega
    clear hr hpl
    have HP0 := Lib.hid (h.out.below HB0.out)
    have HNX := Lib.hid (nextC p E T Q s W HP0)
    rw [HT.out] at HNX
    dsimp only [nxV, tokV] at HNX
    go_wp2_with fail
    refine HNX.out.mono ?_
    rintro e w1 ⟨rfl, hb1⟩
    have HB1 := Lib.hid (bthen HB0.out hb1)
    have HX1 := Lib.hid (bkbel HX0.out hb1)
    clear hb1 HNX HP0 HX0
    have hwr' : r < w1.heap.size := HX1.out.lt
    have hwp' : p < w1.heap.size := (h.out.below HB1.out).lt
    have HBn : Hid (Below w1.heap.size w1 (w1.alloc (.cells #[.int .u8 (tk : Int), .int .i64 (ta : Int), .int .i64 (tf : Int)] 74))) := pokeB'
    have HTB := Lib.hid (Bk.new w1 74 #[.int .u8 (tk : Int), .int .i64 (ta : Int), .int .i64 (tf : Int)])
    go_upto_region 2 with fail
    generalize (w1.alloc (.cells #[.int .u8 (tk : Int), .int .i64 (ta : Int), .int .i64 (tf : Int)] 74)) = W2 at HBn HTB ⊢
    obtain ⟨b3, hb⟩ : ∃ b, w1.heap.size = b := ⟨_, rfl⟩
    rw [hb] at HTB ⊢
    have hb3p : b3 ≠ p := by omega
    have hb3r : b3 ≠ r := by omega
    have hrb3 : r ≠ b3 := by omega
    clear hb hwr' hwp'
    have HB2 := Lib.hid (bthen HB1.out HBn.out)
    have HX2 := Lib.hid (bkbel HX1.out HBn.out)
    have HP2 := Lib.hid (PP.below h.out HB2.out)
    clear HX1 HBn HB1
    obtain ⟨g0, g1, g2, g3, g4, g5, g6⟩ := HP2.out.ps.cells
    obtain ⟨t0, t1, t2⟩ := bcells3 HTB.out
    have gz := HP2.out.ps.frozens 2
    obtain ⟨y0, y1, y2, y3, y4, y5, y6⟩ := cells7 HX2.out
    obtain ⟨f0, f1, f2, f3, f4, f5, f6⟩ := froz7 HX2.out
    have HF := Lib.hid (fr7 W2 r (.int .u8 0) (.int .u8 0) (.int .u32 0) (.int .i64 0) (.string ⟨#[]⟩) (.slice none 0 0) (.slice none 0 0))
    have HK := Lib.hid (put7 (v0 := .int .u8 0) (v1 := .int .u8 0) (v2 := .int .u32 0) (v3 := .int .i64 0) (v4 := .string ⟨#[]⟩) (v5 := .slice none 0 0) (v6 := .slice none 0 0) HX2.out)
    go_wp2_with fail
    generalize (((((((W2.setCell ⟨r, 0, none⟩ (.int .u8 0)).setCell ⟨r, 1, none⟩ (.int .u8 0)).setCell ⟨r, 2, none⟩ (.int .u32 0)).setCell ⟨r, 3, none⟩ (.int .i64 0)).setCell ⟨r, 4, none⟩ (.string ⟨#[]⟩)).setCell ⟨r, 5, none⟩ (.slice none 0 0)).setCell ⟨r, 6, none⟩ (.slice none 0 0)) = WF at HF HK ⊢
    obtain ⟨r0, r1, r2, r3, r4, r5, r6⟩ := cells7 HK.out
    refine bodyPost_ret (v := nodeV nd0 ⟨none, 0, 0⟩ ⟨none, 0, 0⟩) (by rw [nodeV_lit]; simp [results, Tryd.results59, go_sem, r0, r1, r2, r3, r4, r5, r6]; exact ⟨rfl, rfl, rfl, rfl, rfl⟩) rfl ?_
    exact nd_out HP2.out h.out HX2.out hrp hwr HF.out (nd0_at HP2.out.ps.base)
  | lit0 h1 h2 h3 =>
    rw [ht] at h2 h3
    dsimp only at h2 h3
    have e1 : ((s.e : Int) != 0) = false := by simp; omega
    have e2 : ((tk : Int) == 3) = true := by simp; omega
    obtain ⟨⟨a1, a2, a3⟩, hl⟩ : ∃ q, litT tt = q := ⟨_, rfl⟩
    rw [hl] at h3
    dsimp only at h3
    have e3 : ((a3 : Int) != 0) = true := by simp; omega
    have HL : Hid (∀ w, Hid (Vars w) → Calls Tryd.prog 68 #[.string (str tt)] w fun e w' => e = .returned (.tuple #[.int .i64 (a1 : Int), .int .i64 (a2 : Int), .int .i64 (a3 : Int)]) ∧ Below w.heap.size w w') := fun w hv => by
      have h9 := partsC (str tt) w (by rw [str_size]; omega) hv
      rw [str_data, hl] at h9
      exact h9
    clear ht hbq htok hl h2
    go_enter Tryd.func59, Tryd.ntmps59
    go_upto_region 1 with fail
    generalize (w.alloc (.cells #[.int .u8 0, .int .u8 0, .int .u32 0, .int .i64 0, .string ⟨#[]⟩, .slice none 0 0, .slice none 0 0] 67)) = W at HB0 HX0 ⊢
    obtain ⟨r, hr⟩ : ∃ r, w.heap.size = r := ⟨_, rfl⟩
    rw [hr] at HX0 ⊢
    have hrp : r ≠ p := by omega
    have hwr : w.heap.size ≤ r := by omega
    clear hr hpl
    have HP0 := Lib.hid (h.out.below HB0.out)
    have HNX := Lib.hid (nextC p E T Q s W HP0)
    rw [HT.out] at HNX
    dsimp only [nxV, tokV] at HNX
    go_wp2_with fail
    refine HNX.out.mono ?_
    rintro e w1 ⟨rfl, hb1⟩
    have HB1 := Lib.hid (bthen HB0.out hb1)
    have HX1 := Lib.hid (bkbel HX0.out hb1)
    clear hb1 HNX HP0 HX0
    have hwr' : r < w1.heap.size := HX1.out.lt
    have hwp' : p < w1.heap.size := (h.out.below HB1.out).lt
    have HBn : Hid (Below w1.heap.size w1 (w1.alloc (.cells #[.int .u8 (tk : Int), .int .i64 (ta : Int), .int .i64 (tf : Int)] 74))) := pokeB'
    have HTB := Lib.hid (Bk.new w1 74 #[.int .u8 (tk : Int), .int .i64 (ta : Int), .int .i64 (tf : Int)])
    go_upto_region 2 with fail
    generalize (w1.alloc (.cells #[.int .u8 (tk : Int), .int .i64 (ta : Int), .int .i64 (tf : Int)] 74)) = W2 at HBn HTB ⊢
    obtain ⟨b3, hb⟩ : ∃ b, w1.heap.size = b := ⟨_, rfl⟩
    rw [hb] at HTB ⊢
    have hb3p : b3 ≠ p := by omega
    have hb3r : b3 ≠ r := by omega
    have hrb3 : r ≠ b3 := by omega
    clear hb hwr' hwp'
    have HB2 := Lib.hid (bthen HB1.out HBn.out)
    have HX2 := Lib.hid (bkbel HX1.out HBn.out)
    have HP2 := Lib.hid (PP.below h.out HB2.out)
    clear HX1 HBn HB1
    obtain ⟨g0, g1, g2, g3, g4, g5, g6⟩ := HP2.out.ps.cells
    obtain ⟨t0, t1, t2⟩ := bcells3 HTB.out
    have gz := HP2.out.ps.frozens 2
    go_wp2_with fail
    refine (HL.out _ (Lib.hid HP2.out.ps.vr)).mono ?_
    rintro e w3 ⟨rfl, hb⟩
    have HP3 := Lib.hid (HP2.out.then hb)
    have HX3 := Lib.hid (bkbel HX2.out hb)
    clear hb
    go_wp2_with fail
    refine (wrongC p E T Q s 302 w3 (Lib.hid HP3.out.ps)).mono ?_
    rintro e w4 ⟨⟨v, rfl⟩, hp⟩
    have HP4 := Lib.hid (HP3.out.trans hp)
    have HX4 := Lib.hid (hp.bk HX3.out hrp)
    clear hp
    obtain ⟨y0, y1, y2, y3, y4, y5, y6⟩ := cells7 HX4.out
    obtain ⟨f0, f1, f2, f3, f4, f5, f6⟩ := froz7 HX4.out
    have HF := Lib.hid (fr7 w4 r (.int .u8 0) (.int .u8 0) (.int .u32 0) (.int .i64 0) (.string ⟨#[]⟩) (.slice none 0 0) (.slice none 0 0))
    have HK := Lib.hid (put7 (v0 := .int .u8 0) (v1 := .int .u8 0) (v2 := .int .u32 0) (v3 := .int .i64 0) (v4 := .string ⟨#[]⟩) (v5 := .slice none 0 0) (v6 := .slice none 0 0) HX4.out)
    go_wp2_with fail
    generalize (((((((w4.setCell ⟨r, 0, none⟩ (.int .u8 0)).setCell ⟨r, 1, none⟩ (.int .u8 0)).setCell ⟨r, 2, none⟩ (.int .u32 0)).setCell ⟨r, 3, none⟩ (.int .i64 0)).setCell ⟨r, 4, none⟩ (.string ⟨#[]⟩)).setCell ⟨r, 5, none⟩ (.slice none 0 0)).setCell ⟨r, 6, none⟩ (.slice none 0 0)) = WF at HF HK ⊢
    obtain ⟨r0, r1, r2, r3, r4, r5, r6⟩ := cells7 HK.out
    refine bodyPost_ret (v := nodeV nd0 ⟨none, 0, 0⟩ ⟨none, 0, 0⟩) (by rw [nodeV_lit]; simp [results, Tryd.results59, go_sem, r0, r1, r2, r3, r4, r5, r6]; exact ⟨rfl, rfl, rfl, rfl, rfl⟩) rfl ?_
    exact nd_out HP4.out h.out HX4.out hrp hwr HF.out (nd0_at HP4.out.ps.base)
  | lit h1 h2 h3 =>
    rw [ht] at h2 h3
    dsimp only at h2 h3
    have e1 : ((s.e : Int) != 0) = false := by simp; omega
    have e2 : ((tk : Int) == 3) = true := by simp; omega
    have hXE : wholeP 1 0 (litT (nextP E s).text).1 (litT (nextP E s).text).2.1 [] (nextP E s).at' [] = wholeP 1 0 (litT tt).1 (litT tt).2.1 [] ta [] := by rw [ht]
    have hll := litT_le tt
    obtain ⟨⟨a1, a2, a3⟩, hl⟩ : ∃ q, litT tt = q := ⟨_, rfl⟩
    rw [hl] at h3 hXE hll
    dsimp only at h3 hXE hll
    have e3 : ((a3 : Int) != 0) = false := by simp; omega
    have HL : Hid (∀ w, Hid (Vars w) → Calls Tryd.prog 68 #[.string (str tt)] w fun e w' => e = .returned (.tuple #[.int .i64 (a1 : Int), .int .i64 (a2 : Int), .int .i64 (a3 : Int)]) ∧ Below w.heap.size w w') := fun w hv => by
      have h9 := partsC (str tt) w (by rw [str_size]; omega) hv
      rw [str_data, hl] at h9
      exact h9
    obtain ⟨t1, t2, _⟩ := htok (.inl (by omega))
    have hT := h.out.ok.few
    have wn : IntKind.i64.wrap ((s.n : Int) + 1) = ((s.n + 1 : Nat) : Int) := by rw [IntKind.wrap_i64]; omega
    have wv : IntKind.u32.wrap (a1 : Int) = (a1 : Int) := by rw [IntKind.wrap_u32]; omega
    rw [hXE]
    obtain ⟨X, hX⟩ : ∃ X, wholeP 1 0 a1 (a2 : Int) [] ta [] = X := ⟨_, rfl⟩
    have HWW : Hid (∀ W, T.base ≤ W.heap.size → Calls Tryd.prog 48 #[.agg #[.int .u8 1, .int .u8 0, .int .u32 (a1 : Int), .int .i64 (a2 : Int), .string ⟨#[]⟩, .slice none 0 0], .int .i64 (ta : Int), .slice none 0 0] W fun e w' => ∃ S R, e = .returned (nodeV X S R) ∧ NdAt T.base w' X S R ∧ Below W.heap.size W w') := fun W hB => whole0 1 0 a1 (a2 : Int) [] ta W hB (by omega) (by omega) (by omega) (by omega) (by omega) (by omega) (by simp) X hX.symm
    rw [hX]
    have T2 := Lib.hid t2
    clear ht hbq htok hl h2 hXE hX t1 t2
    go_enter Tryd.func59, Tryd.ntmps59
    go_upto_region 1 with fail
    generalize (w.alloc (.cells #[.int .u8 0, .int .u8 0, .int .u32 0, .int .i64 0, .string ⟨#[]⟩, .slice none 0 0, .slice none 0 0] 67)) = W at HB0 HX0 ⊢
    obtain ⟨r, hr⟩ : ∃ r, w.heap.size = r := ⟨_, rfl⟩
    rw [hr] at HX0 ⊢
    have hrp : r ≠ p := by omega
    have hwr : w.heap.size ≤ r := by omega
    clear hr hpl
    have HP0 := Lib.hid (h.out.below HB0.out)
    have HNX := Lib.hid (nextC p E T Q s W HP0)
    rw [HT.out] at HNX
    dsimp only [nxV, tokV] at HNX
    go_wp2_with fail
    refine HNX.out.mono ?_
    rintro e w1 ⟨rfl, hb1⟩
    have HB1 := Lib.hid (bthen HB0.out hb1)
    have HX1 := Lib.hid (bkbel HX0.out hb1)
    clear hb1 HNX HP0 HX0
    have hwr' : r < w1.heap.size := HX1.out.lt
    have hwp' : p < w1.heap.size := (h.out.below HB1.out).lt
    have HBn : Hid (Below w1.heap.size w1 (w1.alloc (.cells #[.int .u8 (tk : Int), .int .i64 (ta : Int), .int .i64 (tf : Int)] 74))) := pokeB'
    have HTB := Lib.hid (Bk.new w1 74 #[.int .u8 (tk : Int), .int .i64 (ta : Int), .int .i64 (tf : Int)])
    go_upto_region 2 with fail
    generalize (w1.alloc (.cells #[.int .u8 (tk : Int), .int .i64 (ta : Int), .int .i64 (tf : Int)] 74)) = W2 at HBn HTB ⊢
    obtain ⟨b3, hb⟩ : ∃ b, w1.heap.size = b := ⟨_, rfl⟩
    rw [hb] at HTB ⊢
    have hb3p : b3 ≠ p := by omega
    have hb3r : b3 ≠ r := by omega
    have hrb3 : r ≠ b3 := by omega
    clear hb hwr' hwp'
    have HB2 := Lib.hid (bthen HB1.out HBn.out)
    have HX2 := Lib.hid (bkbel HX1.out HBn.out)
    have HP2 := Lib.hid (PP.below h.out HB2.out)
    clear HX1 HBn HB1
    obtain ⟨g0, g1, g2, g3, g4, g5, g6⟩ := HP2.out.ps.cells
    obtain ⟨t0, t1, t2⟩ := bcells3 HTB.out
    have gz := HP2.out.ps.frozens 2
    go_wp2_with fail
    refine (HL.out _ (Lib.hid HP2.out.ps.vr)).mono ?_
    rintro e w3 ⟨rfl, hb⟩
    have HP3 := Lib.hid (HP2.out.then hb)
    have HX3 := Lib.hid (bkbel HX2.out hb)
    have HT3 := Lib.hid (bkbel HTB.out hb)
    clear hb g0 g1 g2 g3 g4 g5 g6 gz t0 t1 t2
    obtain ⟨g0, g1, g2, g3, g4, g5, g6⟩ := HP3.out.ps.cells
    obtain ⟨t0, t1, t2⟩ := bcells3 HT3.out
    have gz := HP3.out.ps.frozens 2
    have hd := HP3.out.ps.setN (s.n + 1) T2.out
    have hc : ((s.n + 1 : Nat) : Int) = (s.n : Int) + 1 := by omega
    rw [hc] at hd wn
    clear hc
    have HP4 := Lib.hid (HP3.out.trans hd)
    have HX4 := Lib.hid (hd.bk HX3.out hrp)
    have HT4 := Lib.hid (hd.bk HT3.out hb3p)
    clear hd
    go_upto_region 10 with fail
    generalize (w3.setCell ⟨p, 2, none⟩ (.int .i64 ((s.n : Int) + 1))) = W4 at HP4 HX4 HT4 ⊢
    clear g0 g1 g2 g3 g4 g5 g6 gz t0 t1 t2
    obtain ⟨t0, t1, t2⟩ := bcells3 HT4.out
    go_wp2_with fail
    refine (HWW.out _ HP4.out.ps.base).mono ?_
    rintro e w5 ⟨S0, R0, rfl, hn, hb⟩
    rw [nodeV_lit]
    have HN5 := Lib.hid hn
    have HP5 := Lib.hid (HP4.out.then hb)
    have HX5 := Lib.hid (bkbel HX4.out hb)
    clear hn hb t0 t1 t2
    obtain ⟨y0, y1, y2, y3, y4, y5, y6⟩ := cells7 HX5.out
    obtain ⟨f0, f1, f2, f3, f4, f5, f6⟩ := froz7 HX5.out
    have HF := Lib.hid (fr7 w5 r (.int .u8 (X.1.kind : Int)) (.int .u8 (X.1.op : Int)) (.int .u32 (X.1.value : Int)) (.int .i64 X.1.width) (.string (str X.1.name)) (.slice S0.A S0.n S0.c) (.slice R0.A R0.n R0.c))
    have HK := Lib.hid (put7 (v0 := .int .u8 (X.1.kind : Int)) (v1 := .int .u8 (X.1.op : Int)) (v2 := .int .u32 (X.1.value : Int)) (v3 := .int .i64 X.1.width) (v4 := .string (str X.1.name)) (v5 := .slice S0.A S0.n S0.c) (v6 := .slice R0.A R0.n R0.c) HX5.out)
    go_wp2_with fail
    generalize (((((((w5.setCell ⟨r, 0, none⟩ (.int .u8 (X.1.kind : Int))).setCell ⟨r, 1, none⟩ (.int .u8 (X.1.op : Int))).setCell ⟨r, 2, none⟩ (.int .u32 (X.1.value : Int))).setCell ⟨r, 3, none⟩ (.int .i64 X.1.width)).setCell ⟨r, 4, none⟩ (.string (str X.1.name))).setCell ⟨r, 5, none⟩ (.slice S0.A S0.n S0.c)).setCell ⟨r, 6, none⟩ (.slice R0.A R0.n R0.c)) = WF at HF HK ⊢
    obtain ⟨r0, r1, r2, r3, r4, r5, r6⟩ := cells7 HK.out
    refine bodyPost_ret (v := nodeV X S0 R0) (by rw [nodeV_lit]; simp [results, Tryd.results59, go_sem, r0, r1, r2, r3, r4, r5, r6]) rfl ?_
    exact nd_out HP5.out h.out HX5.out hrp hwr HF.out HN5.out
  | paren _ _ h1 h2 h3 h4 =>
    rw [ht] at h2 h3
    dsimp only at h2 h3
    have e1 : ((s.e : Int) != 0) = false := by simp; omega
    have e2 : ((tk : Int) == 3) = false := by simp; omega
    have e3 : ((str tt).toList == [40]) = true := by rw [toList_data, str_data, h3]; rfl
    have HC := Lib.hid h4
    clear ht hbq htok h2 h3 h4
    go_enter Tryd.func59, Tryd.ntmps59
    go_upto_region 1 with fail
    generalize (w.alloc (.cells #[.int .u8 0, .int .u8 0, .int .u32 0, .int .i64 0, .string ⟨#[]⟩, .slice none 0 0, .slice none 0 0] 67)) = W at HB0 HX0 ⊢
    obtain ⟨r, hr⟩ : ∃ r, w.heap.size = r := ⟨_, rfl⟩
    rw [hr] at HX0 ⊢
    have hrp : r ≠ p := by omega
    have hwr : w.heap.size ≤ r := by omega
    clear hr hpl
    have HP0 := Lib.hid (h.out.below HB0.out)
    have HNX := Lib.hid (nextC p E T Q s W HP0)
    rw [HT.out] at HNX
    dsimp only [nxV, tokV] at HNX
    go_wp2_with fail
    refine HNX.out.mono ?_
    rintro e w1 ⟨rfl, hb1⟩
    have HB1 := Lib.hid (bthen HB0.out hb1)
    have HX1 := Lib.hid (bkbel HX0.out hb1)
    clear hb1 HNX HP0 HX0
    have hwr' : r < w1.heap.size := HX1.out.lt
    have hwp' : p < w1.heap.size := (h.out.below HB1.out).lt
    have HBn : Hid (Below w1.heap.size w1 (w1.alloc (.cells #[.int .u8 (tk : Int), .int .i64 (ta : Int), .int .i64 (tf : Int)] 74))) := pokeB'
    have HTB := Lib.hid (Bk.new w1 74 #[.int .u8 (tk : Int), .int .i64 (ta : Int), .int .i64 (tf : Int)])
    go_upto_region 2 with fail
    generalize (w1.alloc (.cells #[.int .u8 (tk : Int), .int .i64 (ta : Int), .int .i64 (tf : Int)] 74)) = W2 at HBn HTB ⊢
    obtain ⟨b3, hb⟩ : ∃ b, w1.heap.size = b := ⟨_, rfl⟩
    rw [hb] at HTB ⊢
    have hb3p : b3 ≠ p := by omega
    have hb3r : b3 ≠ r := by omega
    have hrb3 : r ≠ b3 := by omega
    clear hb hwr' hwp'
    have HB2 := Lib.hid (bthen HB1.out HBn.out)
    have HX2 := Lib.hid (bkbel HX1.out HBn.out)
    have HP2 := Lib.hid (PP.below h.out HB2.out)
    clear HX1 HBn HB1
    obtain ⟨g0, g1, g2, g3, g4, g5, g6⟩ := HP2.out.ps.cells
    obtain ⟨t0, t1, t2⟩ := bcells3 HTB.out
    have gz := HP2.out.ps.frozens 2
    go_wp2_with fail
    refine (HIH.out.within _ [40] [41] _ _ W2 HC.out (Lib.hid HP2.out.ps)).mono ?_
    rintro e w5 ⟨S0, R0, rfl, hn, hp⟩
    rw [nodeV_lit]
    have HN5 := Lib.hid hn
    have HP5 := Lib.hid (HP2.out.trans hp)
    have HX5 := Lib.hid (hp.bk HX2.out hrp)
    clear hn hp g0 g1 g2 g3 g4 g5 g6 gz t0 t1 t2
    obtain ⟨y0, y1, y2, y3, y4, y5, y6⟩ := cells7 HX5.out
    obtain ⟨f0, f1, f2, f3, f4, f5, f6⟩ := froz7 HX5.out
    have HF := Lib.hid (fr7 w5 r (.int .u8 (X.1.kind : Int)) (.int .u8 (X.1.op : Int)) (.int .u32 (X.1.value : Int)) (.int .i64 X.1.width) (.string (str X.1.name)) (.slice S0.A S0.n S0.c) (.slice R0.A R0.n R0.c))
    have HK := Lib.hid (put7 (v0 := .int .u8 (X.1.kind : Int)) (v1 := .int .u8 (X.1.op : Int)) (v2 := .int .u32 (X.1.value : Int)) (v3 := .int .i64 X.1.width) (v4 := .string (str X.1.name)) (v5 := .slice S0.A S0.n S0.c) (v6 := .slice R0.A R0.n R0.c) HX5.out)
    go_wp2_with fail
    generalize (((((((w5.setCell ⟨r, 0, none⟩ (.int .u8 (X.1.kind : Int))).setCell ⟨r, 1, none⟩ (.int .u8 (X.1.op : Int))).setCell ⟨r, 2, none⟩ (.int .u32 (X.1.value : Int))).setCell ⟨r, 3, none⟩ (.int .i64 X.1.width)).setCell ⟨r, 4, none⟩ (.string (str X.1.name))).setCell ⟨r, 5, none⟩ (.slice S0.A S0.n S0.c)).setCell ⟨r, 6, none⟩ (.slice R0.A R0.n R0.c)) = WF at HF HK ⊢
    obtain ⟨r0, r1, r2, r3, r4, r5, r6⟩ := cells7 HK.out
    refine bodyPost_ret (v := nodeV X S0 R0) (by rw [nodeV_lit]; simp [results, Tryd.results59, go_sem, r0, r1, r2, r3, r4, r5, r6]) rfl ?_
    exact nd_out HP5.out h.out HX5.out hrp hwr HF.out HN5.out
  | var h1 h2 h3 h4 h5 =>
    rw [ht] at h2 h3 h4
    dsimp only at h2 h3 h4
    have e1 : ((s.e : Int) != 0) = false := by simp; omega
    have e2 : ((tk : Int) == 3) = false := by simp; omega
    have e3 : ((str tt).toList == [40]) = false := by rw [toList_data, str_data]; simpa using h3
    have e4 : ((str tt).toList == [100, 105, 115, 107]) = false := by rw [toList_data, str_data]; simpa using h4
    have hnl : (nameP E s).length ≤ 1000000 := by
      unfold nameP
      split
      · have := h.out.nextLe.2.2; omega
      · exact Nat.zero_le _
    obtain ⟨⟨uk, ut, ua, uf⟩, hu⟩ : ∃ t, nextP E (nameS E s) = t := ⟨_, rfl⟩
    rw [hu] at h5
    dsimp only at h5
    have e5 : ((str ut).toList == [91]) = false := by rw [toList_data, str_data]; simpa using h5
    have HU := Lib.hid hu
    rw [ht]
    dsimp only
    obtain ⟨nm, hnm⟩ : ∃ nm, nameP E s = nm := ⟨_, rfl⟩
    have HNM := Lib.hid fun W hW => hnm ▸ nameC p E T Q s W hW
    rw [hnm] at hnl ⊢
    obtain ⟨X, hX⟩ : ∃ X, wholeP 2 0 0 0 nm ta [] = X := ⟨_, rfl⟩
    have HWW : Hid (∀ W, T.base ≤ W.heap.size → Calls Tryd.prog 48 #[.agg #[.int .u8 2, .int .u8 0, .int .u32 0, .int .i64 0, .string (str nm), .slice none 0 0], .int .i64 (ta : Int), .slice none 0 0] W fun e w' => ∃ S R, e = .returned (nodeV X S R) ∧ NdAt T.base w' X S R ∧ Below W.heap.size W w') := fun W hB => whole0 2 0 0 0 nm ta W hB (by omega) (by omega) (by omega) (by omega) (by omega) (by omega) hnl X hX.symm
    rw [hX]
    clear ht hbq htok h2 h3 h4 h5 hX hu hnm
    go_enter Tryd.func59, Tryd.ntmps59
    go_upto_region 1 with fail
    generalize (w.alloc (.cells #[.int .u8 0, .int .u8 0, .int .u32 0, .int .i64 0, .string ⟨#[]⟩, .slice none 0 0, .slice none 0 0] 67)) = W at HB0 HX0 ⊢
    obtain ⟨r, hr⟩ : ∃ r, w.heap.size = r := ⟨_, rfl⟩
    rw [hr] at HX0 ⊢
    have hrp : r ≠ p := by omega
    have hwr : w.heap.size ≤ r := by omega
    clear hr hpl
    have HP0 := Lib.hid (h.out.below HB0.out)
    have HNX := Lib.hid (nextC p E T Q s W HP0)
    rw [HT.out] at HNX
    dsimp only [nxV, tokV] at HNX
    go_wp2_with fail
    refine HNX.out.mono ?_
    rintro e w1 ⟨rfl, hb1⟩
    have HB1 := Lib.hid (bthen HB0.out hb1)
    have HX1 := Lib.hid (bkbel HX0.out hb1)
    clear hb1 HNX HP0 HX0
    have hwr' : r < w1.heap.size := HX1.out.lt
    have hwp' : p < w1.heap.size := (h.out.below HB1.out).lt
    have HBn : Hid (Below w1.heap.size w1 (w1.alloc (.cells #[.int .u8 (tk : Int), .int .i64 (ta : Int), .int .i64 (tf : Int)] 74))) := pokeB'
    have HTB := Lib.hid (Bk.new w1 74 #[.int .u8 (tk : Int), .int .i64 (ta : Int), .int .i64 (tf : Int)])
    go_upto_region 2 with fail
    generalize (w1.alloc (.cells #[.int .u8 (tk : Int), .int .i64 (ta : Int), .int .i64 (tf : Int)] 74)) = W2 at HBn HTB ⊢
    obtain ⟨b3, hb⟩ : ∃ b, w1.heap.size = b := ⟨_, rfl⟩
    rw [hb] at HTB ⊢
    have hb3p : b3 ≠ p := by omega
    have hb3r : b3 ≠ r := by omega
    have hrb3 : r ≠ b3 := by omega
    clear hb hwr' hwp'
    have HB2 := Lib.hid (bthen HB1.out HBn.out)
    have HX2 := Lib.hid (bkbel HX1.out HBn.out)
    have HP2 := Lib.hid (PP.below h.out HB2.out)
    clear HX1 HBn HB1
    obtain ⟨g0, g1, g2, g3, g4, g5, g6⟩ := HP2.out.ps.cells
    obtain ⟨t0, t1, t2⟩ := bcells3 HTB.out
    have gz := HP2.out.ps.frozens 2
    go_wp2_with fail
    refine (HNM.out W2 (Lib.hid HP2.out.ps)).mono ?_
    rintro e w3 ⟨rfl, hp⟩
    have HP3 := Lib.hid (HP2.out.trans hp)
    have HX3 := Lib.hid (hp.bk HX2.out hrp)
    have HT3 := Lib.hid (hp.bk HTB.out hb3p)
    clear hp g0 g1 g2 g3 g4 g5 g6 gz t0 t1 t2
    have HN2 := Lib.hid (nextC p E T Q (nameS E s) w3 (Lib.hid HP3.out.ps))
    rw [HU.out] at HN2
    dsimp only [nxV, tokV] at HN2
    go_wp2_with fail
    refine HN2.out.mono ?_
    rintro e w4 ⟨rfl, hb⟩
    have HBo : Hid (∀ o, Below w3.heap.size w3 (w4.alloc o)) := fun o => balloc hb o
    have HT4 := Lib.hid (bkbel HT3.out hb)
    obtain ⟨t0, t1, t2⟩ := bcells3 HT4.out
    have htl : b3 < w4.heap.size := HT4.out.lt
    clear hb
    go_wp2_with fail
    refine (HWW.out _ (Nat.le_trans HP3.out.ps.base (HBo.out _).size)).mono ?_
    rintro e w5 ⟨S0, R0, rfl, hn, hb⟩
    rw [nodeV_lit]
    have HN5 := Lib.hid hn
    have HP5 := Lib.hid (HP3.out.then (bthen (HBo.out _) hb))
    have HX5 := Lib.hid (bkbel HX3.out (bthen (HBo.out _) hb))
    clear hn hb t0 t1 t2
    obtain ⟨y0, y1, y2, y3, y4, y5, y6⟩ := cells7 HX5.out
    obtain ⟨f0, f1, f2, f3, f4, f5, f6⟩ := froz7 HX5.out
    have HF := Lib.hid (fr7 w5 r (.int .u8 (X.1.kind : Int)) (.int .u8 (X.1.op : Int)) (.int .u32 (X.1.value : Int)) (.int .i64 X.1.width) (.string (str X.1.name)) (.slice S0.A S0.n S0.c) (.slice R0.A R0.n R0.c))
    have HK := Lib.hid (put7 (v0 := .int .u8 (X.1.kind : Int)) (v1 := .int .u8 (X.1.op : Int)) (v2 := .int .u32 (X.1.value : Int)) (v3 := .int .i64 X.1.width) (v4 := .string (str X.1.name)) (v5 := .slice S0.A S0.n S0.c) (v6 := .slice R0.A R0.n R0.c) HX5.out)
    go_wp2_with fail
    generalize (((((((w5.setCell ⟨r, 0, none⟩ (.int .u8 (X.1.kind : Int))).setCell ⟨r, 1, none⟩ (.int .u8 (X.1.op : Int))).setCell ⟨r, 2, none⟩ (.int .u32 (X.1.value : Int))).setCell ⟨r, 3, none⟩ (.int .i64 X.1.width)).setCell ⟨r, 4, none⟩ (.string (str X.1.name))).setCell ⟨r, 5, none⟩ (.slice S0.A S0.n S0.c)).setCell ⟨r, 6, none⟩ (.slice R0.A R0.n R0.c)) = WF at HF HK ⊢
    obtain ⟨r0, r1, r2, r3, r4, r5, r6⟩ := cells7 HK.out
    refine bodyPost_ret (v := nodeV X S0 R0) (by rw [nodeV_lit]; simp [results, Tryd.results59, go_sem, r0, r1, r2, r3, r4, r5, r6]) rfl ?_
    exact nd_out HP5.out h.out HX5.out hrp hwr HF.out HN5.out
  | disk x _ h1 h2 h3 h4 h5 h6 =>
    rw [ht] at h2 h3 h4
    dsimp only at h2 h3 h4
    have e1 : ((s.e : Int) != 0) = false := by simp; omega
    have e2 : ((tk : Int) == 3) = false := by simp; omega
    have e3 : ((str tt).toList == [40]) = false := by rw [toList_data, str_data]; simpa using h3
    have e4 : ((str tt).toList == [100, 105, 115, 107]) = true := by rw [toList_data, str_data, h4]; rfl
    obtain ⟨t1, t2, _⟩ := htok (.inr (by rw [h4]; simp))
    have hT := h.out.ok.few
    have wn : IntKind.i64.wrap ((s.n : Int) + 1) = (s.n : Int) + 1 := by rw [IntKind.wrap_i64]; omega
    have T2 := Lib.hid t2
    have HC := Lib.hid h5
    have OW := Lib.hid (okW_len h6)
    rw [ht]
    dsimp only
    obtain ⟨X, hX⟩ : ∃ X, wholeP 4 0 0 0 [] ta [x] = X := ⟨_, rfl⟩
    have HXE := Lib.hid hX
    rw [hX]
    clear ht hbq htok h2 h3 h4 h5 h6 hX t1 t2
    go_enter Tryd.func59, Tryd.ntmps59
    go_upto_region 1 with fail
    generalize (w.alloc (.cells #[.int .u8 0, .int .u8 0, .int .u32 0, .int .i64 0, .string ⟨#[]⟩, .slice none 0 0, .slice none 0 0] 67)) = W at HB0 HX0 ⊢
    obtain ⟨r, hr⟩ : ∃ r, w.heap.size = r := ⟨_, rfl⟩
    rw [hr] at HX0 ⊢
    have hrp : r ≠ p := by omega
    have hwr : w.heap.size ≤ r := by omega
    clear hr hpl
    have HP0 := Lib.hid (h.out.below HB0.out)
    have HNX := Lib.hid (nextC p E T Q s W HP0)
    rw [HT.out] at HNX
    dsimp only [nxV, tokV] at HNX
    go_wp2_with fail
    refine HNX.out.mono ?_
    rintro e w1 ⟨rfl, hb1⟩
    have HB1 := Lib.hid (bthen HB0.out hb1)
    have HX1 := Lib.hid (bkbel HX0.out hb1)
    clear hb1 HNX HP0 HX0
    have hwr' : r < w1.heap.size := HX1.out.lt
    have hwp' : p < w1.heap.size := (h.out.below HB1.out).lt
    have HBn : Hid (Below w1.heap.size w1 (w1.alloc (.cells #[.int .u8 (tk : Int), .int .i64 (ta : Int), .int .i64 (tf : Int)] 74))) := pokeB'
    have HTB := Lib.hid (Bk.new w1 74 #[.int .u8 (tk : Int), .int .i64 (ta : Int), .int .i64 (tf : Int)])
    go_upto_region 2 with fail
    generalize (w1.alloc (.cells #[.int .u8 (tk : Int), .int .i64 (ta : Int), .int .i64 (tf : Int)] 74)) = W2 at HBn HTB ⊢
    obtain ⟨b3, hb⟩ : ∃ b, w1.heap.size = b := ⟨_, rfl⟩
    rw [hb] at HTB ⊢
    have hb3p : b3 ≠ p := by omega
    have hb3r : b3 ≠ r := by omega
    have hrb3 : r ≠ b3 := by omega
    clear hb hwr' hwp'
    have HB2 := Lib.hid (bthen HB1.out HBn.out)
    have HX2 := Lib.hid (bkbel HX1.out HBn.out)
    have HP2 := Lib.hid (PP.below h.out HB2.out)
    clear HX1 HBn HB1
    obtain ⟨g0, g1, g2, g3, g4, g5, g6⟩ := HP2.out.ps.cells
    obtain ⟨t0, t1, t2⟩ := bcells3 HTB.out
    have gz := HP2.out.ps.frozens 2
    have hd := HP2.out.ps.setN (s.n + 1) T2.out
    have hc : ((s.n + 1 : Nat) : Int) = (s.n : Int) + 1 := by omega
    rw [hc] at hd
    clear hc
    have HPW := Lib.hid (HP2.out.trans hd)
    have HXW := Lib.hid (hd.bk HX2.out hrp)
    have HTW := Lib.hid (hd.bk HTB.out hb3p)
    clear hd
    go_upto_region 15 with fail
    generalize (W2.setCell ⟨p, 2, none⟩ (.int .i64 ((s.n : Int) + 1))) = W3 at HPW HXW HTW ⊢
    clear g0 g1 g2 g3 g4 g5 g6 gz t0 t1 t2
    have HSS : Hid (∀ w', Bk w' b3 74 #[.int .u8 (tk : Int), .int .i64 (ta : Int), .int .i64 (tf : Int)] → w'.cell? ⟨b3, 1, none⟩ = some (.int .i64 (ta : Int))) := fun w' hb => hb.cell 1
    have HST : Hid (∀ (w' : World) (u0 u1 u2 u3 u4 u5 u6 : Value), Bk w' b3 74 #[.int .u8 (tk : Int), .int .i64 (ta : Int), .int .i64 (tf : Int)] → (((((((w'.setCell ⟨r, 0, none⟩ u0).setCell ⟨r, 1, none⟩ u1).setCell ⟨r, 2, none⟩ u2).setCell ⟨r, 3, none⟩ u3).setCell ⟨r, 4, none⟩ u4).setCell ⟨r, 5, none⟩ u5).setCell ⟨r, 6, none⟩ u6).cell? ⟨b3, 1, none⟩ = some (.int .i64 (ta : Int))) := fun w' u0 u1 u2 u3 u4 u5 u6 hb => (Bk.fr hb (fr7 w' r u0 u1 u2 u3 u4 u5 u6) hb3r).cell 1
    have HTC := Lib.hid HTW.out.drew
    have HIW : Hid (Calls Tryd.prog 69 #[.pointer (some ⟨p, 0, none⟩), .string ⟨#[91]⟩, .string ⟨#[93]⟩] W3.drew (NdPost W3.drew p E T Q x s')) := HIH.out.within _ [91] [93] _ _ W3.drew HC.out (Lib.hid (HPW.out.ps.below (Below.refl _ _).drew))
    have HPD := Lib.hid (HPW.out.then (Below.refl _ _).drew)
    have HXD := Lib.hid HXW.out.drew
    have HRN : Hid (∀ (S R : SV) (v5 : World), NdAt T.base v5 x S R → NdsAt T.base (v5.alloc (.cells #[.int .u8 (x.1.kind : Int), .int .u8 (x.1.op : Int), .int .u32 (x.1.value : Int), .int .i64 x.1.width, .string (str x.1.name), .slice S.A S.n S.c, .slice R.A R.n R.c] 67)) (some ⟨v5.heap.size, 0, none⟩) 1 [(x, S, R)]) := fun S R v5 hn => nds_new (W := v5) [(x, S, R)] (fun q hq => by rw [List.mem_singleton.1 hq]; exact hn)
    have HW : Hid (∀ (S R : SV) (W' : World) (g : Nat), NdsAt T.base W' (some ⟨g, 0, none⟩) 1 [(x, S, R)] → Calls Tryd.prog 48 #[.agg #[.int .u8 4, .int .u8 0, .int .u32 0, .int .i64 0, .string ⟨#[]⟩, .slice none 0 0], .int .i64 (ta : Int), .slice (some ⟨g, 0, none⟩) 1 1] W' fun e w' => ∃ S0 R0, e = .returned (nodeV X S0 R0) ∧ NdAt T.base w' X S0 R0 ∧ Below W'.heap.size W' w') := fun S R W' g hg => by
      have hlen : (atsN 0 [(x, S, R)]).length ≤ 100000000 := by
        have h1 := OW.out
        have h2 : (atsN 0 ([(x, S, R)] : List NdV)).length = 1 + (([x] : List Nd).flatMap (·.2)).length := by unfold atsN; simp; omega
        omega
      rw [← HXE.out]
      exact wholeC 4 0 0 0 [] ta (some ⟨g, 0, none⟩) 1 1 [(x, S, R)] W' (Lib.hid hg) (by omega) hlen (by omega) (by omega) (by omega) (by omega) (by omega) (by omega) (by simp)
    go_region_held3 (fun w' => w'.cell? ⟨b3, 1, none⟩ = some (.int .i64 (ta : Int)))
      (first | with_reducible exact HSS.out _ HTC.out | with_reducible exact HSS.out _ (HTC.out.alloc _) | with_reducible exact HST.out _ _ _ _ _ _ _ _ HTC.out)
      (first
        | (go_at_call 69
           with_reducible refine HIW.out.mono ?_
           rintro e w5 ⟨S, R, rfl, hn, hp⟩
           rw [nodeV_lit]
           have HTC' := Lib.hid (hp.bk HTC.out hb3p)
           clear HTC
           have HTC := HTC'
           clear HTC'
           have HN5 := Lib.hid hn
           have HP5 := Lib.hid (HPD.out.trans hp)
           have HX5 := Lib.hid (hp.bk HXD.out hrp)
           clear hn hp)
        | (go_at_call 48
           with_reducible refine (HW.out S R _ _ (HRN.out S R _ HN5.out)).mono ?_
           rintro e v7 ⟨S0, R0, rfl, hn7, hb7⟩
           rw [nodeV_lit]
           have HB7 := Lib.hid (bthen pokeB' hb7)
           have HN7 := Lib.hid hn7
           have HP7 := Lib.hid (HP5.out.then HB7.out)
           have HX7 := Lib.hid (bkbel HX5.out HB7.out)
           have HTC' := Lib.hid (bkbel HTC.out HB7.out)
           clear HTC hn7 hb7
           have HTC := HTC'
           clear HTC'
           obtain ⟨y0, y1, y2, y3, y4, y5, y6⟩ := cells7 HX7.out
           obtain ⟨f0, f1, f2, f3, f4, f5, f6⟩ := froz7 HX7.out
           clear HRN HW HIW))
    all_goals
      have HF := Lib.hid (fr7 v7 r (.int .u8 (X.1.kind : Int)) (.int .u8 (X.1.op : Int)) (.int .u32 (X.1.value : Int)) (.int .i64 X.1.width) (.string (str X.1.name)) (.slice S0.A S0.n S0.c) (.slice R0.A R0.n R0.c))
      have HK := Lib.hid (put7 (v0 := .int .u8 (X.1.kind : Int)) (v1 := .int .u8 (X.1.op : Int)) (v2 := .int .u32 (X.1.value : Int)) (v3 := .int .i64 X.1.width) (v4 := .string (str X.1.name)) (v5 := .slice S0.A S0.n S0.c) (v6 := .slice R0.A R0.n R0.c) HX7.out)
      go_wp2
      generalize (((((((v7.setCell ⟨r, 0, none⟩ (.int .u8 (X.1.kind : Int))).setCell ⟨r, 1, none⟩ (.int .u8 (X.1.op : Int))).setCell ⟨r, 2, none⟩ (.int .u32 (X.1.value : Int))).setCell ⟨r, 3, none⟩ (.int .i64 X.1.width)).setCell ⟨r, 4, none⟩ (.string (str X.1.name))).setCell ⟨r, 5, none⟩ (.slice S0.A S0.n S0.c)).setCell ⟨r, 6, none⟩ (.slice R0.A R0.n R0.c)) = WF at HF HK ⊢
      obtain ⟨r0, r1, r2, r3, r4, r5, r6⟩ := cells7 HK.out
      refine bodyPost_ret (v := nodeV X S0 R0) (by rw [nodeV_lit]; simp [results, Tryd.results59, go_sem, r0, r1, r2, r3, r4, r5, r6]) rfl ?_
      exact nd_out HP7.out h.out HX7.out hrp hwr HF.out HN7.out
  | elem x _ h1 h2 h3 h4 h5 h6 h7 =>
    rw [ht] at h2 h3 h4
    dsimp only at h2 h3 h4
    have e1 : ((s.e : Int) != 0) = false := by simp; omega
    have e2 : ((tk : Int) == 3) = false := by simp; omega
    have e3 : ((str tt).toList == [40]) = false := by rw [toList_data, str_data]; simpa using h3
    have e4 : ((str tt).toList == [100, 105, 115, 107]) = false := by rw [toList_data, str_data]; simpa using h4
    have hnl : (nameP E s).length ≤ 1000000 := by
      unfold nameP
      split
      · have := h.out.nextLe.2.2; omega
      · exact Nat.zero_le _
    obtain ⟨⟨uk, ut, ua, uf⟩, hu⟩ : ∃ t, nextP E (nameS E s) = t := ⟨_, rfl⟩
    rw [hu] at h5
    dsimp only at h5
    have e5 : ((str ut).toList == [91]) = true := by rw [toList_data, str_data, h5]; rfl
    have HU := Lib.hid hu
    have HC := Lib.hid h6
    have OW := Lib.hid (okW_len h7)
    rw [ht]
    dsimp only
    obtain ⟨nm, hnm⟩ : ∃ nm, nameP E s = nm := ⟨_, rfl⟩
    have HNM := Lib.hid fun W hW => hnm ▸ nameC p E T Q s W hW
    rw [hnm] at hnl ⊢
    obtain ⟨X, hX⟩ : ∃ X, wholeP 3 0 0 0 nm ta [x] = X := ⟨_, rfl⟩
    have HXE := Lib.hid hX
    rw [hX]
    clear ht hbq htok h2 h3 h4 h5 h6 h7 hX hu hnm
    go_enter Tryd.func59, Tryd.ntmps59
    go_upto_region 1 with fail
    generalize (w.alloc (.cells #[.int .u8 0, .int .u8 0, .int .u32 0, .int .i64 0, .string ⟨#[]⟩, .slice none 0 0, .slice none 0 0] 67)) = W at HB0 HX0 ⊢
    obtain ⟨r, hr⟩ : ∃ r, w.heap.size = r := ⟨_, rfl⟩
    rw [hr] at HX0 ⊢
    have hrp : r ≠ p := by omega
    have hwr : w.heap.size ≤ r := by omega
    clear hr hpl
    have HP0 := Lib.hid (h.out.below HB0.out)
    have HNX := Lib.hid (nextC p E T Q s W HP0)
    rw [HT.out] at HNX
    dsimp only [nxV, tokV] at HNX
    go_wp2_with fail
    refine HNX.out.mono ?_
    rintro e w1 ⟨rfl, hb1⟩
    have HB1 := Lib.hid (bthen HB0.out hb1)
    have HX1 := Lib.hid (bkbel HX0.out hb1)
    clear hb1 HNX HP0 HX0
    have hwr' : r < w1.heap.size := HX1.out.lt
    have hwp' : p < w1.heap.size := (h.out.below HB1.out).lt
    have HBn : Hid (Below w1.heap.size w1 (w1.alloc (.cells #[.int .u8 (tk : Int), .int .i64 (ta : Int), .int .i64 (tf : Int)] 74))) := pokeB'
    have HTB := Lib.hid (Bk.new w1 74 #[.int .u8 (tk : Int), .int .i64 (ta : Int), .int .i64 (tf : Int)])
    go_upto_region 2 with fail
    generalize (w1.alloc (.cells #[.int .u8 (tk : Int), .int .i64 (ta : Int), .int .i64 (tf : Int)] 74)) = W2 at HBn HTB ⊢
    obtain ⟨b3, hb⟩ : ∃ b, w1.heap.size = b := ⟨_, rfl⟩
    rw [hb] at HTB ⊢
    have hb3p : b3 ≠ p := by omega
    have hb3r : b3 ≠ r := by omega
    have hrb3 : r ≠ b3 := by omega
    clear hb hwr' hwp'
    have HB2 := Lib.hid (bthen HB1.out HBn.out)
    have HX2 := Lib.hid (bkbel HX1.out HBn.out)
    have HP2 := Lib.hid (PP.below h.out HB2.out)
    clear HX1 HBn HB1
    obtain ⟨g0, g1, g2, g3, g4, g5, g6⟩ := HP2.out.ps.cells
    obtain ⟨t0, t1, t2⟩ := bcells3 HTB.out
    have gz := HP2.out.ps.frozens 2
    go_wp2_with fail
    refine (HNM.out W2 (Lib.hid HP2.out.ps)).mono ?_
    rintro e w3 ⟨rfl, hp⟩
    have HP3 := Lib.hid (HP2.out.trans hp)
    have HX3 := Lib.hid (hp.bk HX2.out hrp)
    have HT3 := Lib.hid (hp.bk HTB.out hb3p)
    clear hp g0 g1 g2 g3 g4 g5 g6 gz t0 t1 t2
    have HN2 := Lib.hid (nextC p E T Q (nameS E s) w3 (Lib.hid HP3.out.ps))
    rw [HU.out] at HN2
    dsimp only [nxV, tokV] at HN2
    go_wp2_with fail
    refine HN2.out.mono ?_
    rintro e w4 ⟨rfl, hb⟩
    have HBo : Hid (Below w3.heap.size w3 (w4.alloc (.cells #[.int .u8 (uk : Int), .int .i64 (ua : Int), .int .i64 (uf : Int)] 74))) := balloc hb _
    clear hb
    go_upto_region 19 with fail
    generalize (w4.alloc (.cells #[.int .u8 (uk : Int), .int .i64 (ua : Int), .int .i64 (uf : Int)] 74)) = W3 at HBo ⊢
    have HPW := Lib.hid (HP3.out.then HBo.out)
    have HXW := Lib.hid (bkbel HX3.out HBo.out)
    have HTW := Lib.hid (bkbel HT3.out HBo.out)
    have HSS : Hid (∀ w', Bk w' b3 74 #[.int .u8 (tk : Int), .int .i64 (ta : Int), .int .i64 (tf : Int)] → w'.cell? ⟨b3, 1, none⟩ = some (.int .i64 (ta : Int))) := fun w' hb => hb.cell 1
    have HST : Hid (∀ (w' : World) (u0 u1 u2 u3 u4 u5 u6 : Value), Bk w' b3 74 #[.int .u8 (tk : Int), .int .i64 (ta : Int), .int .i64 (tf : Int)] → (((((((w'.setCell ⟨r, 0, none⟩ u0).setCell ⟨r, 1, none⟩ u1).setCell ⟨r, 2, none⟩ u2).setCell ⟨r, 3, none⟩ u3).setCell ⟨r, 4, none⟩ u4).setCell ⟨r, 5, none⟩ u5).setCell ⟨r, 6, none⟩ u6).cell? ⟨b3, 1, none⟩ = some (.int .i64 (ta : Int))) := fun w' u0 u1 u2 u3 u4 u5 u6 hb => (Bk.fr hb (fr7 w' r u0 u1 u2 u3 u4 u5 u6) hb3r).cell 1
    have HTC := Lib.hid HTW.out.drew
    have HIW : Hid (Calls Tryd.prog 69 #[.pointer (some ⟨p, 0, none⟩), .string ⟨#[91]⟩, .string ⟨#[93]⟩] W3.drew (NdPost W3.drew p E T Q x s')) := HIH.out.within _ [91] [93] _ _ W3.drew HC.out (Lib.hid (HPW.out.ps.below (Below.refl _ _).drew))
    have HPD := Lib.hid (HPW.out.then (Below.refl _ _).drew)
    have HXD := Lib.hid HXW.out.drew
    have HRN : Hid (∀ (S R : SV) (v5 : World), NdAt T.base v5 x S R → NdsAt T.base (v5.alloc (.cells #[.int .u8 (x.1.kind : Int), .int .u8 (x.1.op : Int), .int .u32 (x.1.value : Int), .int .i64 x.1.width, .string (str x.1.name), .slice S.A S.n S.c, .slice R.A R.n R.c] 67)) (some ⟨v5.heap.size, 0, none⟩) 1 [(x, S, R)]) := fun S R v5 hn => nds_new (W := v5) [(x, S, R)] (fun q hq => by rw [List.mem_singleton.1 hq]; exact hn)
    have HW : Hid (∀ (S R : SV) (W' : World) (g : Nat), NdsAt T.base W' (some ⟨g, 0, none⟩) 1 [(x, S, R)] → Calls Tryd.prog 48 #[.agg #[.int .u8 3, .int .u8 0, .int .u32 0, .int .i64 0, .string (str nm), .slice none 0 0], .int .i64 (ta : Int), .slice (some ⟨g, 0, none⟩) 1 1] W' fun e w' => ∃ S0 R0, e = .returned (nodeV X S0 R0) ∧ NdAt T.base w' X S0 R0 ∧ Below W'.heap.size W' w') := fun S R W' g hg => by
      have hlen : (atsN 0 [(x, S, R)]).length ≤ 100000000 := by
        have h1 := OW.out
        have h2 : (atsN 0 ([(x, S, R)] : List NdV)).length = 1 + (([x] : List Nd).flatMap (·.2)).length := by unfold atsN; simp; omega
        omega
      rw [← HXE.out]
      exact wholeC 3 0 0 0 nm ta (some ⟨g, 0, none⟩) 1 1 [(x, S, R)] W' (Lib.hid hg) (by omega) hlen (by omega) (by omega) (by omega) (by omega) (by omega) (by omega) hnl
    go_region_held3 (fun w' => w'.cell? ⟨b3, 1, none⟩ = some (.int .i64 (ta : Int)))
      (first | with_reducible exact HSS.out _ HTC.out | with_reducible exact HSS.out _ (HTC.out.alloc _) | with_reducible exact HST.out _ _ _ _ _ _ _ _ HTC.out)
      (first
        | (go_at_call 69
           with_reducible refine HIW.out.mono ?_
           rintro e w5 ⟨S, R, rfl, hn, hp⟩
           rw [nodeV_lit]
           have HTC' := Lib.hid (hp.bk HTC.out hb3p)
           clear HTC
           have HTC := HTC'
           clear HTC'
           have HN5 := Lib.hid hn
           have HP5 := Lib.hid (HPD.out.trans hp)
           have HX5 := Lib.hid (hp.bk HXD.out hrp)
           clear hn hp)
        | (go_at_call 48
           with_reducible refine (HW.out S R _ _ (HRN.out S R _ HN5.out)).mono ?_
           rintro e v7 ⟨S0, R0, rfl, hn7, hb7⟩
           rw [nodeV_lit]
           have HB7 := Lib.hid (bthen pokeB' hb7)
           have HN7 := Lib.hid hn7
           have HP7 := Lib.hid (HP5.out.then HB7.out)
           have HX7 := Lib.hid (bkbel HX5.out HB7.out)
           have HTC' := Lib.hid (bkbel HTC.out HB7.out)
           clear HTC hn7 hb7
           have HTC := HTC'
           clear HTC'
           obtain ⟨y0, y1, y2, y3, y4, y5, y6⟩ := cells7 HX7.out
           obtain ⟨f0, f1, f2, f3, f4, f5, f6⟩ := froz7 HX7.out
           clear HRN HW HIW))
    all_goals
      have HF := Lib.hid (fr7 v7 r (.int .u8 (X.1.kind : Int)) (.int .u8 (X.1.op : Int)) (.int .u32 (X.1.value : Int)) (.int .i64 X.1.width) (.string (str X.1.name)) (.slice S0.A S0.n S0.c) (.slice R0.A R0.n R0.c))
      have HK := Lib.hid (put7 (v0 := .int .u8 (X.1.kind : Int)) (v1 := .int .u8 (X.1.op : Int)) (v2 := .int .u32 (X.1.value : Int)) (v3 := .int .i64 X.1.width) (v4 := .string (str X.1.name)) (v5 := .slice S0.A S0.n S0.c) (v6 := .slice R0.A R0.n R0.c) HX7.out)
      go_wp2
      generalize (((((((v7.setCell ⟨r, 0, none⟩ (.int .u8 (X.1.kind : Int))).setCell ⟨r, 1, none⟩ (.int .u8 (X.1.op : Int))).setCell ⟨r, 2, none⟩ (.int .u32 (X.1.value : Int))).setCell ⟨r, 3, none⟩ (.int .i64 X.1.width)).setCell ⟨r, 4, none⟩ (.string (str X.1.name))).setCell ⟨r, 5, none⟩ (.slice S0.A S0.n S0.c)).setCell ⟨r, 6, none⟩ (.slice R0.A R0.n R0.c)) = WF at HF HK ⊢
      obtain ⟨r0, r1, r2, r3, r4, r5, r6⟩ := cells7 HK.out
      refine bodyPost_ret (v := nodeV X S0 R0) (by rw [nodeV_lit]; simp [results, Tryd.results59, go_sem, r0, r1, r2, r3, r4, r5, r6]) rfl ?_
      exact nd_out HP7.out h.out HX7.out hrp hwr HF.out HN7.out
end
end Go.Proofs.YtehcpcpmcngnjaaDoor

