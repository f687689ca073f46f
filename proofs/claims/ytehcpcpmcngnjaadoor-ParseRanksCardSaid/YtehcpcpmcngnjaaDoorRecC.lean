/-
  The parser's recursion: choice.
-/
import Derived.Test.YtehcpcpmcngnjaaDoorRec30
set_option linter.unusedVariables false
set_option linter.unusedSimpArgs false
namespace Go.Proofs.YtehcpcpmcngnjaaDoor
open Go.RowKit Go.PlainAid

/-- Nodes in a slice that is just built. -/
theorem nds_new {B : Nat} {W : World} (L : List NdV) (h : ∀ q ∈ L, NdAt B W q.1 q.2.1 q.2.2) (hL : L ≠ [] := by simp) : NdsAt B (W.alloc (.cells (L.flatMap cellNV).toArray 67)) (some ⟨W.heap.size, 0, none⟩) L.length L :=
  ⟨by
    have := Rd.new W (L.flatMap cellNV).toArray 67
    rwa [List.toList_toArray] at this, rfl, (by obtain ⟨q, hq⟩ := List.exists_mem_of_ne_nil L hL; exact ((h q hq).below pokeB').base), fun q hq => (h q hq).below pokeB'⟩
theorem here_at {B : Nat} {x : Nd} {S R : SV} (W W' : World) (h : NdAt B W x S R) (hb : Below W.heap.size W W') : Calls Tryd.prog 49 #[.agg #[.int .u8 (x.1.kind : Int), .int .u8 (x.1.op : Int), .int .u32 (x.1.value : Int), .int .i64 x.1.width, .string (str x.1.name), .slice S.A S.n S.c, .slice R.A R.n R.c]] W' fun e w' => e = .returned (.int .i64 (hereP x : Int)) ∧ Below W'.heap.size W' w' := hereC x S R W' (Lib.hid (h.below hb).a)
theorem okW_len {l : List Nd} (h : okW l = true) : (l.flatMap (·.2)).length ≤ 1000000 := of_decide_eq_true h
theorem hereP_le {B : Nat} {W : World} {x : Nd} {S R : SV} (h : NdAt B W x S R) : hereP x ≤ 1000000 := by
  unfold hereP
  have h1 := h.a.all
  obtain ⟨ex, l⟩ := x
  cases l with
  | nil => exact Nat.zero_le _
  | cons a r => exact h1 a (List.mem_cons_self ..)
section
variable {p : Nat} {E : Env} {T : TV} {Q : SV}
theorem choice_some {f : Nat} {s s' : PSt} {X : Nd} (h : choiceP E (f + 1) s = some (X, s')) : ∃ x s1, chainP E f 1 s = some (x, s1) ∧ okP s1 = true ∧ ((entB E s1 [63] = false ∧ X = x ∧ s' = s1) ∨ (entB E s1 [63] = true ∧ ∃ y s3 z s5, choiceP E f (entS E s1 [63]) = some (y, s3) ∧ choiceP E f (mustP E s3 [58]) = some (z, s5) ∧ okP s5 = true ∧ okW [x, y, z] = true ∧ X = wholeP 7 0 0 0 [] (hereP x) [x, y, z] ∧ s' = deepP s5 (-1))) := by
  unfold choiceP at h
  cases h1 : chainP E f 1 s with
  | none => rw [h1] at h; cases h
  | some q =>
    obtain ⟨x, s1⟩ := q
    rw [h1] at h
    dsimp only at h
    cases h2 : okP s1 with
    | false => rw [h2] at h; cases h
    | true =>
      rw [h2] at h
      dsimp only at h
      refine ⟨x, s1, rfl, h2, ?_⟩
      cases h3 : entB E s1 [63] with
      | false =>
        rw [h3] at h
        dsimp only at h
        injection h with h
        injection h with h4 h5
        exact .inl ⟨rfl, h4.symm, h5.symm⟩
      | true =>
        rw [h3] at h
        dsimp only at h
        cases h4 : choiceP E f (entS E s1 [63]) with
        | none => rw [h4] at h; cases h
        | some q =>
          obtain ⟨y, s3⟩ := q
          rw [h4] at h
          dsimp only at h
          cases h5 : choiceP E f (mustP E s3 [58]) with
          | none => rw [h5] at h; cases h
          | some q =>
            obtain ⟨z, s5⟩ := q
            rw [h5] at h
            dsimp only at h
            cases h6 : (okP s5 && okW [x, y, z]) with
            | false => rw [h6] at h; cases h
            | true =>
              rw [h6] at h
              dsimp only at h
              injection h with h
              injection h with h7 h8
              rw [Bool.and_eq_true] at h6
              exact .inr ⟨rfl, y, s3, z, s5, rfl, h5, h6.1, h6.2, h7.symm, h8.symm⟩
def S3C (x : Nd) (S R : SV) (y : Nd) (S4 R4 : SV) (z : Nd) (S7 R7 : SV) (b3 b4 b5 : Nat) (w' : World) : Prop := w'.cell? ⟨b3, 0, none⟩ = some (.int .u8 (x.1.kind : Int)) ∧ w'.cell? ⟨b3, 1, none⟩ = some (.int .u8 (x.1.op : Int)) ∧ w'.cell? ⟨b3, 2, none⟩ = some (.int .u32 (x.1.value : Int)) ∧ w'.cell? ⟨b3, 3, none⟩ = some (.int .i64 x.1.width) ∧ w'.cell? ⟨b3, 4, none⟩ = some (.string (str x.1.name)) ∧ w'.cell? ⟨b3, 5, none⟩ = some (.slice S.A S.n S.c) ∧ w'.cell? ⟨b3, 6, none⟩ = some (.slice R.A R.n R.c) ∧ w'.cell? ⟨b4, 0, none⟩ = some (.int .u8 (y.1.kind : Int)) ∧ w'.cell? ⟨b4, 1, none⟩ = some (.int .u8 (y.1.op : Int)) ∧ w'.cell? ⟨b4, 2, none⟩ = some (.int .u32 (y.1.value : Int)) ∧ w'.cell? ⟨b4, 3, none⟩ = some (.int .i64 y.1.width) ∧ w'.cell? ⟨b4, 4, none⟩ = some (.string (str y.1.name)) ∧ w'.cell? ⟨b4, 5, none⟩ = some (.slice S4.A S4.n S4.c) ∧ w'.cell? ⟨b4, 6, none⟩ = some (.slice R4.A R4.n R4.c) ∧ w'.cell? ⟨b5, 0, none⟩ = some (.int .u8 (z.1.kind : Int)) ∧ w'.cell? ⟨b5, 1, none⟩ = some (.int .u8 (z.1.op : Int)) ∧ w'.cell? ⟨b5, 2, none⟩ = some (.int .u32 (z.1.value : Int)) ∧ w'.cell? ⟨b5, 3, none⟩ = some (.int .i64 z.1.width) ∧ w'.cell? ⟨b5, 4, none⟩ = some (.string (str z.1.name)) ∧ w'.cell? ⟨b5, 5, none⟩ = some (.slice S7.A S7.n S7.c) ∧ w'.cell? ⟨b5, 6, none⟩ = some (.slice R7.A R7.n R7.c)
theorem s3c_of {W w' : World} {x : Nd} {S R : SV} {y : Nd} {S4 R4 : SV} {z : Nd} {S7 R7 : SV} {b3 b4 b5 : Nat} (h3 : Bk W b3 67 (ndC x S R)) (h4 : Bk W b4 67 (ndC y S4 R4)) (h5 : Bk W b5 67 (ndC z S7 R7)) (hb : Below W.heap.size W w') : S3C x S R y S4 R4 z S7 R7 b3 b4 b5 w' := ⟨(bkbel h3 hb).cell 0, (bkbel h3 hb).cell 1, (bkbel h3 hb).cell 2, (bkbel h3 hb).cell 3, (bkbel h3 hb).cell 4, (bkbel h3 hb).cell 5, (bkbel h3 hb).cell 6, (bkbel h4 hb).cell 0, (bkbel h4 hb).cell 1, (bkbel h4 hb).cell 2, (bkbel h4 hb).cell 3, (bkbel h4 hb).cell 4, (bkbel h4 hb).cell 5, (bkbel h4 hb).cell 6, (bkbel h5 hb).cell 0, (bkbel h5 hb).cell 1, (bkbel h5 hb).cell 2, (bkbel h5 hb).cell 3, (bkbel h5 hb).cell 4, (bkbel h5 hb).cell 5, (bkbel h5 hb).cell 6⟩
theorem s3c_set {W w' : World} {x : Nd} {S R : SV} {y : Nd} {S4 R4 : SV} {z : Nd} {S7 R7 : SV} {b3 b4 b5 r : Nat} (h3 : Bk W b3 67 (ndC x S R)) (h4 : Bk W b4 67 (ndC y S4 R4)) (h5 : Bk W b5 67 (ndC z S7 R7)) (e3 : b3 ≠ r) (e4 : b4 ≠ r) (e5 : b5 ≠ r) (u0 u1 u2 u3 u4 u5 u6 : Value) (hb : Below W.heap.size W w') : S3C x S R y S4 R4 z S7 R7 b3 b4 b5 (((((((w'.setCell ⟨r, 0, none⟩ u0).setCell ⟨r, 1, none⟩ u1).setCell ⟨r, 2, none⟩ u2).setCell ⟨r, 3, none⟩ u3).setCell ⟨r, 4, none⟩ u4).setCell ⟨r, 5, none⟩ u5).setCell ⟨r, 6, none⟩ u6) := ⟨(Bk.fr (bkbel h3 hb) (fr7 w' r u0 u1 u2 u3 u4 u5 u6) e3).cell 0, (Bk.fr (bkbel h3 hb) (fr7 w' r u0 u1 u2 u3 u4 u5 u6) e3).cell 1, (Bk.fr (bkbel h3 hb) (fr7 w' r u0 u1 u2 u3 u4 u5 u6) e3).cell 2, (Bk.fr (bkbel h3 hb) (fr7 w' r u0 u1 u2 u3 u4 u5 u6) e3).cell 3, (Bk.fr (bkbel h3 hb) (fr7 w' r u0 u1 u2 u3 u4 u5 u6) e3).cell 4, (Bk.fr (bkbel h3 hb) (fr7 w' r u0 u1 u2 u3 u4 u5 u6) e3).cell 5, (Bk.fr (bkbel h3 hb) (fr7 w' r u0 u1 u2 u3 u4 u5 u6) e3).cell 6, (Bk.fr (bkbel h4 hb) (fr7 w' r u0 u1 u2 u3 u4 u5 u6) e4).cell 0, (Bk.fr (bkbel h4 hb) (fr7 w' r u0 u1 u2 u3 u4 u5 u6) e4).cell 1, (Bk.fr (bkbel h4 hb) (fr7 w' r u0 u1 u2 u3 u4 u5 u6) e4).cell 2, (Bk.fr (bkbel h4 hb) (fr7 w' r u0 u1 u2 u3 u4 u5 u6) e4).cell 3, (Bk.fr (bkbel h4 hb) (fr7 w' r u0 u1 u2 u3 u4 u5 u6) e4).cell 4, (Bk.fr (bkbel h4 hb) (fr7 w' r u0 u1 u2 u3 u4 u5 u6) e4).cell 5, (Bk.fr (bkbel h4 hb) (fr7 w' r u0 u1 u2 u3 u4 u5 u6) e4).cell 6, (Bk.fr (bkbel h5 hb) (fr7 w' r u0 u1 u2 u3 u4 u5 u6) e5).cell 0, (Bk.fr (bkbel h5 hb) (fr7 w' r u0 u1 u2 u3 u4 u5 u6) e5).cell 1, (Bk.fr (bkbel h5 hb) (fr7 w' r u0 u1 u2 u3 u4 u5 u6) e5).cell 2, (Bk.fr (bkbel h5 hb) (fr7 w' r u0 u1 u2 u3 u4 u5 u6) e5).cell 3, (Bk.fr (bkbel h5 hb) (fr7 w' r u0 u1 u2 u3 u4 u5 u6) e5).cell 4, (Bk.fr (bkbel h5 hb) (fr7 w' r u0 u1 u2 u3 u4 u5 u6) e5).cell 5, (Bk.fr (bkbel h5 hb) (fr7 w' r u0 u1 u2 u3 u4 u5 u6) e5).cell 6⟩
set_option maxRecDepth 100000 in
set_option maxHeartbeats 4000000 in
theorem choice_step {f : Nat} (IH : Sp p E T Q f) (s : PSt) (X : Nd) (s' : PSt) (w : World) (hx : choiceP E (f + 1) s = some (X, s')) (h : Hid (Ps w p E T Q s)) :
    Calls Tryd.prog 41 #[.pointer (some ⟨p, 0, none⟩)] w (NdPost w p E T Q X s') := by
  obtain ⟨x, s1, hc, ok1, hcase⟩ := choice_some hx
  have HC := Lib.hid hc
  have HIH := Lib.hid IH
  have hpl : p < w.heap.size := h.out.lt
  have HB0 : Hid (Below w.heap.size w (w.alloc (.cells #[.int .u8 0, .int .u8 0, .int .u32 0, .int .i64 0, .string ⟨#[]⟩, .slice none 0 0, .slice none 0 0] 67))) := pokeB'
  have HX0 := Lib.hid (Bk.new w 67 #[.int .u8 0, .int .u8 0, .int .u32 0, .int .i64 0, .string ⟨#[]⟩, .slice none 0 0, .slice none 0 0])
  have HCASE := Lib.hid hcase
  clear hx hc IH hcase
  go_enter Tryd.func41, Tryd.ntmps41
  go_upto_region 1 with fail
  generalize (w.alloc (.cells #[.int .u8 0, .int .u8 0, .int .u32 0, .int .i64 0, .string ⟨#[]⟩, .slice none 0 0, .slice none 0 0] 67)) = W at HB0 HX0 ⊢
  obtain ⟨r, hr⟩ : ∃ r, w.heap.size = r := ⟨_, rfl⟩
  rw [hr] at HX0 ⊢
  have hrp : r ≠ p := by omega
  have hwr : w.heap.size ≤ r := by omega
  clear hr hpl
  have HP0 := Lib.hid (h.out.below HB0.out)
  go_wp2_with fail
  refine (HIH.out.chain 1 _ _ _ W (by omega) HC.out HP0).mono ?_
  rintro e w1 ⟨S, R, rfl, hn, hp⟩
  rw [nodeV_lit]
  have HX1 := Lib.hid (hp.bk HX0.out hrp)
  have HP1 := Lib.hid (PP.after HB0.out hp)
  have HN1 := Lib.hid hn
  clear hp hn HX0 HP0
  have HBX : Hid (Below w1.heap.size w1 (w1.alloc (.cells #[.int .u8 (x.1.kind : Int), .int .u8 (x.1.op : Int), .int .u32 (x.1.value : Int), .int .i64 x.1.width, .string (str x.1.name), .slice S.A S.n S.c, .slice R.A R.n R.c] 67))) := pokeB'
  have HYb3 := Lib.hid (Bk.new w1 67 #[.int .u8 (x.1.kind : Int), .int .u8 (x.1.op : Int), .int .u32 (x.1.value : Int), .int .i64 x.1.width, .string (str x.1.name), .slice S.A S.n S.c, .slice R.A R.n R.c])
  have hwr' : r < w1.heap.size := HX1.out.lt
  have hwp' : p < w1.heap.size := HP1.out.ps.lt
  go_upto_region 2 with fail
  generalize (w1.alloc (.cells #[.int .u8 (x.1.kind : Int), .int .u8 (x.1.op : Int), .int .u32 (x.1.value : Int), .int .i64 x.1.width, .string (str x.1.name), .slice S.A S.n S.c, .slice R.A R.n R.c] 67)) = W2 at HBX HYb3 ⊢
  obtain ⟨b3, hb⟩ : ∃ b, w1.heap.size = b := ⟨_, rfl⟩
  rw [hb] at HYb3 ⊢
  have hb3p : b3 ≠ p := by omega
  have hb3r : b3 ≠ r := by omega
  have hb3r' : r ≠ b3 := by omega
  clear hb hwr' hwp'
  have HP2 := Lib.hid (HP1.out.then HBX.out)
  have HX2 := Lib.hid (bkbel HX1.out HBX.out)
  have HN2 := Lib.hid (HN1.out.below HBX.out)
  clear HP1 HX1 HN1 HBX
  go_wp2_with fail
  refine (enterC p E T Q s1 [63] W2 (Lib.hid HP2.out.ps) ok1).mono ?_
  rintro e w3 ⟨rfl, hp⟩
  have HP3 := Lib.hid (HP2.out.trans hp)
  have HX3 := Lib.hid (hp.bk HX2.out hrp)
  have HY3 := Lib.hid (hp.bk HYb3.out hb3p)
  have HN3 := Lib.hid (hp.nd HP2.out.ps HN2.out)
  clear hp HP2 HX2 HYb3 HN2
  rcases HCASE.out with ⟨c1, rfl, rfl⟩ | ⟨c1, y, s3, z, s5, c2, c3, ok5, okw, hX, rfl⟩
  · rw [c1]
    have he : entS E s' [63] = s' := by unfold entS; rw [c1]; rfl
    rw [he] at HP3
    clear he c1
    obtain ⟨x0, x1, x2, x3, x4, x5, x6⟩ := cells7 HY3.out
    obtain ⟨y0, y1, y2, y3, y4, y5, y6⟩ := cells7 HX3.out
    obtain ⟨f0, f1, f2, f3, f4, f5, f6⟩ := froz7 HX3.out
    have HF := Lib.hid (fr7 w3 r (.int .u8 (X.1.kind : Int)) (.int .u8 (X.1.op : Int)) (.int .u32 (X.1.value : Int)) (.int .i64 X.1.width) (.string (str X.1.name)) (.slice S.A S.n S.c) (.slice R.A R.n R.c))
    have HK := Lib.hid (put7 (v0 := .int .u8 (X.1.kind : Int)) (v1 := .int .u8 (X.1.op : Int)) (v2 := .int .u32 (X.1.value : Int)) (v3 := .int .i64 X.1.width) (v4 := .string (str X.1.name)) (v5 := .slice S.A S.n S.c) (v6 := .slice R.A R.n R.c) HX3.out)
    go_wp2_with fail
    generalize (((((((w3.setCell ⟨r, 0, none⟩ (.int .u8 (X.1.kind : Int))).setCell ⟨r, 1, none⟩ (.int .u8 (X.1.op : Int))).setCell ⟨r, 2, none⟩ (.int .u32 (X.1.value : Int))).setCell ⟨r, 3, none⟩ (.int .i64 X.1.width)).setCell ⟨r, 4, none⟩ (.string (str X.1.name))).setCell ⟨r, 5, none⟩ (.slice S.A S.n S.c)).setCell ⟨r, 6, none⟩ (.slice R.A R.n R.c)) = WF at HF HK ⊢
    obtain ⟨r0, r1, r2, r3, r4, r5, r6⟩ := cells7 HK.out
    refine bodyPost_ret (v := nodeV X S R) (by rw [nodeV_lit]; simp [results, Tryd.results41, go_sem, r0, r1, r2, r3, r4, r5, r6]) rfl ?_
    exact nd_out HP3.out h.out HX3.out hrp hwr HF.out HN3.out
  · rw [c1]
    have HXE := Lib.hid hX
    clear hX
    have C2 := Lib.hid c2
    have C3 := Lib.hid c3
    have OW := Lib.hid (okW_len okw)
    clear c1 c2 c3 HC HCASE okw
    go_wp2_with fail
    refine (HIH.out.choice _ _ _ w3 C2.out (Lib.hid HP3.out.ps)).mono ?_
    rintro e w4 ⟨S4, R4, rfl, hn, hp⟩
    rw [nodeV_lit]
    have HX4 := Lib.hid (hp.bk HX3.out hrp)
    have HYb3 := Lib.hid (hp.bk HY3.out hb3p)
    have HN4 := Lib.hid (hp.nd HP3.out.ps HN3.out)
    have HP4 := Lib.hid (HP3.out.trans hp)
    have HM4 := Lib.hid hn
    clear hp hn HX3 HY3 HN3 HP3 C2
    have HBX : Hid (Below w4.heap.size w4 (w4.alloc (.cells #[.int .u8 (y.1.kind : Int), .int .u8 (y.1.op : Int), .int .u32 (y.1.value : Int), .int .i64 y.1.width, .string (str y.1.name), .slice S4.A S4.n S4.c, .slice R4.A R4.n R4.c] 67))) := pokeB'
    have HYb4 := Lib.hid (Bk.new w4 67 #[.int .u8 (y.1.kind : Int), .int .u8 (y.1.op : Int), .int .u32 (y.1.value : Int), .int .i64 y.1.width, .string (str y.1.name), .slice S4.A S4.n S4.c, .slice R4.A R4.n R4.c])
    have hwr' : r < w4.heap.size := HX4.out.lt
    have hwp' : p < w4.heap.size := HP4.out.ps.lt
    have hwb3 : b3 < w4.heap.size := HYb3.out.lt
    go_upto_region 5 with fail
    generalize (w4.alloc (.cells #[.int .u8 (y.1.kind : Int), .int .u8 (y.1.op : Int), .int .u32 (y.1.value : Int), .int .i64 y.1.width, .string (str y.1.name), .slice S4.A S4.n S4.c, .slice R4.A R4.n R4.c] 67)) = W5 at HBX HYb4 ⊢
    obtain ⟨b4, hb⟩ : ∃ b, w4.heap.size = b := ⟨_, rfl⟩
    rw [hb] at HYb4 ⊢
    have hb4p : b4 ≠ p := by omega
    have hb4r : b4 ≠ r := by omega
    have hb4r' : r ≠ b4 := by omega
    have hb4b3 : b4 ≠ b3 := by omega
    have hb3b4 : b3 ≠ b4 := by omega
    clear hb hwr' hwp'
    have HP5 := Lib.hid (HP4.out.then HBX.out)
    have HX5 := Lib.hid (bkbel HX4.out HBX.out)
    have HY5 := Lib.hid (bkbel HYb3.out HBX.out)
    have HN5 := Lib.hid (HN4.out.below HBX.out)
    have HM5 := Lib.hid (HM4.out.below HBX.out)
    clear HP4 HX4 HYb3 HN4 HM4 HBX hwb3
    go_wp2_with fail
    refine (mustC p E T Q s3 [58] W5 (Lib.hid HP5.out.ps)).mono ?_
    rintro e w6 ⟨⟨v, rfl⟩, hp⟩
    have HX6 := Lib.hid (hp.bk HX5.out hrp)
    have HY6 := Lib.hid (hp.bk HY5.out hb3p)
    have HZ6 := Lib.hid (hp.bk HYb4.out hb4p)
    have HN6 := Lib.hid (hp.nd HP5.out.ps HN5.out)
    have HM6 := Lib.hid (hp.nd HP5.out.ps HM5.out)
    have HP6 := Lib.hid (HP5.out.trans hp)
    clear hp HX5 HY5 HYb4 HN5 HM5 HP5
    go_wp2_with fail
    refine (HIH.out.choice _ _ _ w6 C3.out (Lib.hid HP6.out.ps)).mono ?_
    rintro e w7 ⟨S7, R7, rfl, hn, hp⟩
    rw [nodeV_lit]
    have HX7 := Lib.hid (hp.bk HX6.out hrp)
    have HYb3 := Lib.hid (hp.bk HY6.out hb3p)
    have HYb4 := Lib.hid (hp.bk HZ6.out hb4p)
    have HN7 := Lib.hid (hp.nd HP6.out.ps HN6.out)
    have HM7 := Lib.hid (hp.nd HP6.out.ps HM6.out)
    have HP7 := Lib.hid (HP6.out.trans hp)
    have HK7 := Lib.hid hn
    clear hp hn HX6 HY6 HZ6 HN6 HM6 HP6 C3
    have HBX : Hid (Below w7.heap.size w7 (w7.alloc (.cells #[.int .u8 (z.1.kind : Int), .int .u8 (z.1.op : Int), .int .u32 (z.1.value : Int), .int .i64 z.1.width, .string (str z.1.name), .slice S7.A S7.n S7.c, .slice R7.A R7.n R7.c] 67))) := pokeB'
    have HYb5 := Lib.hid (Bk.new w7 67 #[.int .u8 (z.1.kind : Int), .int .u8 (z.1.op : Int), .int .u32 (z.1.value : Int), .int .i64 z.1.width, .string (str z.1.name), .slice S7.A S7.n S7.c, .slice R7.A R7.n R7.c])
    have hwr' : r < w7.heap.size := HX7.out.lt
    have hwp' : p < w7.heap.size := HP7.out.ps.lt
    have hwb3 : b3 < w7.heap.size := HYb3.out.lt
    have hwb4 : b4 < w7.heap.size := HYb4.out.lt
    go_upto_region 7 with fail
    generalize (w7.alloc (.cells #[.int .u8 (z.1.kind : Int), .int .u8 (z.1.op : Int), .int .u32 (z.1.value : Int), .int .i64 z.1.width, .string (str z.1.name), .slice S7.A S7.n S7.c, .slice R7.A R7.n R7.c] 67)) = W8 at HBX HYb5 ⊢
    obtain ⟨b5, hb⟩ : ∃ b, w7.heap.size = b := ⟨_, rfl⟩
    rw [hb] at HYb5 ⊢
    have hb5p : b5 ≠ p := by omega
    have hb5r : b5 ≠ r := by omega
    have hb5r' : r ≠ b5 := by omega
    have hb5b3 : b5 ≠ b3 := by omega
    have hb3b5 : b3 ≠ b5 := by omega
    have hb5b4 : b5 ≠ b4 := by omega
    have hb4b5 : b4 ≠ b5 := by omega
    clear hb hwr' hwp'
    have HP8 := Lib.hid (HP7.out.then HBX.out)
    have HX8 := Lib.hid (bkbel HX7.out HBX.out)
    have HY8 := Lib.hid (bkbel HYb3.out HBX.out)
    have HZ8 := Lib.hid (bkbel HYb4.out HBX.out)
    have HN8 := Lib.hid (HN7.out.below HBX.out)
    have HM8 := Lib.hid (HM7.out.below HBX.out)
    have HK8 := Lib.hid (HK7.out.below HBX.out)
    clear HP7 HX7 HYb3 HYb4 HN7 HM7 HK7 HBX hwb3 hwb4
    have hok := ok5
    unfold okP at hok
    simp only [Bool.and_eq_true, decide_eq_true_eq] at hok
    have wd : IntKind.i64.wrap (s5.deep - 1) = s5.deep - 1 := by rw [IntKind.wrap_i64]; omega
    obtain ⟨g0, g1, g2, g3, g4, g5, g6⟩ := HP8.out.ps.cells
    have gz := HP8.out.ps.frozens 3
    have hd := HP8.out.ps.setDeep (s5.deep - 1)
    have HP9 := Lib.hid (HP8.out.trans hd)
    have HX9 := Lib.hid (hd.bk HX8.out hrp)
    have HY9 := Lib.hid (hd.bk HY8.out hb3p)
    have HZ9 := Lib.hid (hd.bk HZ8.out hb4p)
    have HV9 := Lib.hid (hd.bk HYb5.out hb5p)
    have HN9 := Lib.hid (hd.nd HP8.out.ps HN8.out)
    have HM9 := Lib.hid (hd.nd HP8.out.ps HM8.out)
    have HK9 := Lib.hid (hd.nd HP8.out.ps HK8.out)
    clear hd hok
    go_upto_region 8 with fail
    generalize (W8.setCell ⟨p, 3, none⟩ (.int .i64 (s5.deep - 1))) = W9 at HP9 HX9 HY9 HZ9 HV9 HN9 HM9 HK9 ⊢
    clear HP8 HX8 HY8 HZ8 HYb5 HN8 HM8 HK8 g0 g1 g2 g3 g4 g5 g6 gz
    have HH := Lib.hid fun W' hb => here_at W9 W' HN9.out hb
    have hnds : ∀ W', Below W9.heap.size W9 W' → ∀ q ∈ ([(x, S, R), (y, S4, R4), (z, S7, R7)] : List NdV), NdAt T.base W' q.1 q.2.1 q.2.2 := fun W' hb q hq => by
      simp only [List.mem_cons, List.not_mem_nil, or_false] at hq
      rcases hq with rfl | rfl | rfl
      · exact HN9.out.below hb
      · exact HM9.out.below hb
      · exact HK9.out.below hb
    have HND := Lib.hid hnds
    have hhl := hereP_le HN9.out
    have HW : Hid (∀ W' g, NdsAt T.base W' (some ⟨g, 0, none⟩) 3 [(x, S, R), (y, S4, R4), (z, S7, R7)] → Calls Tryd.prog 48 #[.agg #[.int .u8 7, .int .u8 0, .int .u32 0, .int .i64 0, .string ⟨#[]⟩, .slice none 0 0], .int .i64 (hereP x : Int), .slice (some ⟨g, 0, none⟩) 3 3] W' fun e w' => ∃ S0 R0, e = .returned (nodeV X S0 R0) ∧ NdAt T.base w' X S0 R0 ∧ Below W'.heap.size W' w') := fun W' g hg => by
      have hlen : (atsN 0 [(x, S, R), (y, S4, R4), (z, S7, R7)]).length ≤ 100000000 := by
        have h1 := OW.out
        have h2 : (atsN 0 [(x, S, R), (y, S4, R4), (z, S7, R7)]).length = 1 + (([x, y, z] : List Nd).flatMap (·.2)).length := by unfold atsN; simp; omega
        omega
      rw [HXE.out]
      exact wholeC 7 0 0 0 [] (hereP x) (some ⟨g, 0, none⟩) 3 3 [(x, S, R), (y, S4, R4), (z, S7, R7)] W' (Lib.hid hg) (by omega) hlen hhl (by omega) (by omega) (by omega) (by omega) (by omega) (by simp)
    have hrw : ∀ v5, Below (W9.alloc (.cells #[.int .u8 (x.1.kind : Int), .int .u8 (x.1.op : Int), .int .u32 (x.1.value : Int), .int .i64 x.1.width, .string (str x.1.name), .slice S.A S.n S.c, .slice R.A R.n R.c, .int .u8 (y.1.kind : Int), .int .u8 (y.1.op : Int), .int .u32 (y.1.value : Int), .int .i64 y.1.width, .string (str y.1.name), .slice S4.A S4.n S4.c, .slice R4.A R4.n R4.c, .int .u8 (z.1.kind : Int), .int .u8 (z.1.op : Int), .int .u32 (z.1.value : Int), .int .i64 z.1.width, .string (str z.1.name), .slice S7.A S7.n S7.c, .slice R7.A R7.n R7.c] 67)).drew.heap.size (W9.alloc (.cells #[.int .u8 (x.1.kind : Int), .int .u8 (x.1.op : Int), .int .u32 (x.1.value : Int), .int .i64 x.1.width, .string (str x.1.name), .slice S.A S.n S.c, .slice R.A R.n R.c, .int .u8 (y.1.kind : Int), .int .u8 (y.1.op : Int), .int .u32 (y.1.value : Int), .int .i64 y.1.width, .string (str y.1.name), .slice S4.A S4.n S4.c, .slice R4.A R4.n R4.c, .int .u8 (z.1.kind : Int), .int .u8 (z.1.op : Int), .int .u32 (z.1.value : Int), .int .i64 z.1.width, .string (str z.1.name), .slice S7.A S7.n S7.c, .slice R7.A R7.n R7.c] 67)).drew v5 → NdsAt T.base v5 (some ⟨W9.heap.size, 0, none⟩) 3 [(x, S, R), (y, S4, R4), (z, S7, R7)] := fun v5 hb =>
      ((nds_new (W := W9) [(x, S, R), (y, S4, R4), (z, S7, R7)] (HND.out W9 (Below.refl _ _))).below (Below.refl _ _).drew).below hb
    have HRW := Lib.hid hrw
    have hrn : ∀ v5, Below W9.heap.size W9 v5 → NdsAt T.base (v5.alloc (.cells #[.int .u8 (x.1.kind : Int), .int .u8 (x.1.op : Int), .int .u32 (x.1.value : Int), .int .i64 x.1.width, .string (str x.1.name), .slice S.A S.n S.c, .slice R.A R.n R.c, .int .u8 (y.1.kind : Int), .int .u8 (y.1.op : Int), .int .u32 (y.1.value : Int), .int .i64 y.1.width, .string (str y.1.name), .slice S4.A S4.n S4.c, .slice R4.A R4.n R4.c, .int .u8 (z.1.kind : Int), .int .u8 (z.1.op : Int), .int .u32 (z.1.value : Int), .int .i64 z.1.width, .string (str z.1.name), .slice S7.A S7.n S7.c, .slice R7.A R7.n R7.c] 67)) (some ⟨v5.heap.size, 0, none⟩) 3 [(x, S, R), (y, S4, R4), (z, S7, R7)] := fun v5 hb => nds_new (W := v5) [(x, S, R), (y, S4, R4), (z, S7, R7)] (HND.out v5 hb)
    have HRN := Lib.hid hrn
    clear hnds hrw hrn
    have HSS : Hid (∀ w', Below W9.heap.size W9 w' → S3C x S R y S4 R4 z S7 R7 b3 b4 b5 w') := fun w' hb => s3c_of HY9.out HZ9.out HV9.out hb
    have HST : Hid (∀ (w0 : World) (u0 u1 u2 u3 u4 u5 u6 : Value), Below W9.heap.size W9 w0 → S3C x S R y S4 R4 z S7 R7 b3 b4 b5 (((((((w0.setCell ⟨r, 0, none⟩ u0).setCell ⟨r, 1, none⟩ u1).setCell ⟨r, 2, none⟩ u2).setCell ⟨r, 3, none⟩ u3).setCell ⟨r, 4, none⟩ u4).setCell ⟨r, 5, none⟩ u5).setCell ⟨r, 6, none⟩ u6)) := fun w0 u0 u1 u2 u3 u4 u5 u6 hb => s3c_set HY9.out HZ9.out HV9.out hb3r hb4r hb5r u0 u1 u2 u3 u4 u5 u6 hb
    have HBC : Hid (Below W9.heap.size W9 W9.drew) := (Below.refl _ _).drew
    have HBR : Hid (Below W9.heap.size W9 W9) := Below.refl _ _
    have HBA : Hid (Below W9.heap.size W9 (W9.alloc (.cells #[.int .u8 (x.1.kind : Int), .int .u8 (x.1.op : Int), .int .u32 (x.1.value : Int), .int .i64 x.1.width, .string (str x.1.name), .slice S.A S.n S.c, .slice R.A R.n R.c, .int .u8 (y.1.kind : Int), .int .u8 (y.1.op : Int), .int .u32 (y.1.value : Int), .int .i64 y.1.width, .string (str y.1.name), .slice S4.A S4.n S4.c, .slice R4.A R4.n R4.c, .int .u8 (z.1.kind : Int), .int .u8 (z.1.op : Int), .int .u32 (z.1.value : Int), .int .i64 z.1.width, .string (str z.1.name), .slice S7.A S7.n S7.c, .slice R7.A R7.n R7.c] 67)).drew) := (balloc (Below.refl _ _) _).drew
    go_region_held3 (fun w' => w'.cell? ⟨b3, 0, none⟩ = some (.int .u8 (x.1.kind : Int)) ∧ w'.cell? ⟨b3, 1, none⟩ = some (.int .u8 (x.1.op : Int)) ∧ w'.cell? ⟨b3, 2, none⟩ = some (.int .u32 (x.1.value : Int)) ∧ w'.cell? ⟨b3, 3, none⟩ = some (.int .i64 x.1.width) ∧ w'.cell? ⟨b3, 4, none⟩ = some (.string (str x.1.name)) ∧ w'.cell? ⟨b3, 5, none⟩ = some (.slice S.A S.n S.c) ∧ w'.cell? ⟨b3, 6, none⟩ = some (.slice R.A R.n R.c) ∧ w'.cell? ⟨b4, 0, none⟩ = some (.int .u8 (y.1.kind : Int)) ∧ w'.cell? ⟨b4, 1, none⟩ = some (.int .u8 (y.1.op : Int)) ∧ w'.cell? ⟨b4, 2, none⟩ = some (.int .u32 (y.1.value : Int)) ∧ w'.cell? ⟨b4, 3, none⟩ = some (.int .i64 y.1.width) ∧ w'.cell? ⟨b4, 4, none⟩ = some (.string (str y.1.name)) ∧ w'.cell? ⟨b4, 5, none⟩ = some (.slice S4.A S4.n S4.c) ∧ w'.cell? ⟨b4, 6, none⟩ = some (.slice R4.A R4.n R4.c) ∧ w'.cell? ⟨b5, 0, none⟩ = some (.int .u8 (z.1.kind : Int)) ∧ w'.cell? ⟨b5, 1, none⟩ = some (.int .u8 (z.1.op : Int)) ∧ w'.cell? ⟨b5, 2, none⟩ = some (.int .u32 (z.1.value : Int)) ∧ w'.cell? ⟨b5, 3, none⟩ = some (.int .i64 z.1.width) ∧ w'.cell? ⟨b5, 4, none⟩ = some (.string (str z.1.name)) ∧ w'.cell? ⟨b5, 5, none⟩ = some (.slice S7.A S7.n S7.c) ∧ w'.cell? ⟨b5, 6, none⟩ = some (.slice R7.A R7.n R7.c))
      ((refine (show S3C x S R y S4 R4 z S7 R7 b3 b4 b5 _ from ?_); first | with_reducible exact HSS.out _ HBC.out | with_reducible exact HSS.out _ (balloc HBC.out _) | with_reducible exact HST.out _ _ _ _ _ _ _ _ HBC.out | with_reducible exact HSS.out _ HBA.out | with_reducible exact HSS.out _ HBR.out))
      (first
        | (go_at_call 49
           first
             | with_reducible refine (HH.out _ HBC.out).mono ?_
             | with_reducible refine (HH.out _ HBA.out).mono ?_
           rintro e v5 ⟨rfl, hb5⟩
           first
             | (have HB5 : Hid (Below W9.heap.size W9 v5) := by with_reducible exact Lib.hid (bthen HBC.out hb5))
             | (have HB5 : Hid (Below W9.heap.size W9 v5) := by with_reducible exact Lib.hid (bthen HBA.out hb5)
                have HR5 : Hid (NdsAt T.base v5 (some ⟨W9.heap.size, 0, none⟩) 3 [(x, S, R), (y, S4, R4), (z, S7, R7)]) := by with_reducible exact Lib.hid (HRW.out _ hb5))
           clear HBC hb5
           have HBC := HB5)
        | (go_at_call 48
           first
             | with_reducible refine (HW.out _ _ HR5.out).mono ?_
             | with_reducible refine (HW.out _ _ (HRN.out _ HB5.out)).mono ?_
           rintro e v7 ⟨S0, R0, rfl, hn7, hb7⟩
           rw [nodeV_lit]
           first
             | (have HB7 : Hid (Below W9.heap.size W9 v7) := by with_reducible exact Lib.hid (bthen HB5.out hb7))
             | (have HB7 : Hid (Below W9.heap.size W9 v7) := by with_reducible exact Lib.hid (bthen (balloc HB5.out _) hb7))
           have HN7 := Lib.hid hn7
           have HX7 := Lib.hid (HX9.out.below HB7.out HX9.out.lt)
           repeat (rename (World.cell? _ _ = some _) => hZ; clear hZ)
           obtain ⟨y0, y1, y2, y3, y4, y5, y6⟩ := cells7 HX7.out
           obtain ⟨f0, f1, f2, f3, f4, f5, f6⟩ := froz7 HX7.out
           clear HBC hb7 hn7 HRW HRN HH HND HW HN9 HM9 HK9 HY9 HZ9 HV9
           have HBC := HB7))
    all_goals
      have HF := Lib.hid (fr7 v7 r (.int .u8 (X.1.kind : Int)) (.int .u8 (X.1.op : Int)) (.int .u32 (X.1.value : Int)) (.int .i64 X.1.width) (.string (str X.1.name)) (.slice S0.A S0.n S0.c) (.slice R0.A R0.n R0.c))
      have HK := Lib.hid (put7 (v0 := .int .u8 (X.1.kind : Int)) (v1 := .int .u8 (X.1.op : Int)) (v2 := .int .u32 (X.1.value : Int)) (v3 := .int .i64 X.1.width) (v4 := .string (str X.1.name)) (v5 := .slice S0.A S0.n S0.c) (v6 := .slice R0.A R0.n R0.c) HX7.out)
      go_wp2
      generalize (((((((v7.setCell ⟨r, 0, none⟩ (.int .u8 (X.1.kind : Int))).setCell ⟨r, 1, none⟩ (.int .u8 (X.1.op : Int))).setCell ⟨r, 2, none⟩ (.int .u32 (X.1.value : Int))).setCell ⟨r, 3, none⟩ (.int .i64 X.1.width)).setCell ⟨r, 4, none⟩ (.string (str X.1.name))).setCell ⟨r, 5, none⟩ (.slice S0.A S0.n S0.c)).setCell ⟨r, 6, none⟩ (.slice R0.A R0.n R0.c)) = WF at HF HK ⊢
      obtain ⟨r0, r1, r2, r3, r4, r5, r6⟩ := cells7 HK.out
      refine bodyPost_ret (v := nodeV X S0 R0) (by rw [nodeV_lit]; simp [results, Tryd.results41, go_sem, r0, r1, r2, r3, r4, r5, r6]) rfl ?_
      exact nd_out (HP9.out.then HB7.out) h.out HX7.out hrp hwr HF.out HN7.out
end
end Go.Proofs.YtehcpcpmcngnjaaDoor

