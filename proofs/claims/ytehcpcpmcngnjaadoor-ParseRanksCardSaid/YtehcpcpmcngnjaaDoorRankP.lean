/-
  What the parser reads of the texts of ParseRanks, and of the chapter's examples: by the kernel, over all operators of two. No program in sight.
-/
import Derived.Test.YtehcpcpmcngnjaaDoorPars
set_option linter.unusedVariables false
set_option linter.unusedSimpArgs false
namespace Go.Proofs.YtehcpcpmcngnjaaDoor

def vrX (c : UInt8) : Ex := .mk 2 0 0 0 [c] []
def numX (v : Nat) (w : Int) : Ex := .mk 1 0 v w [] []
def binX (o : Nat) (x y : Ex) : Ex := .mk 6 o 0 0 [] [x, y]
def unX (o : Nat) (x : Ex) : Ex := .mk 5 o 0 0 [] [x]
def castX (w : Int) (x : Ex) : Ex := .mk 8 0 0 w [] [x]
def muxX (x y z : Ex) : Ex := .mk 7 0 0 0 [] [x, y, z]
def elemX (n : List UInt8) (x : Ex) : Ex := .mk 3 0 0 0 n [x]
/-- The fuel that all these texts need. -/
def fuelX : Nat := 60
def isX (t : List UInt8) (w : Ex) : Bool := match exprR fuelX t with
  | some (x, a, e) => sameX x w && (decide (a = t.length) && decide (e = 0))
  | none => false
theorem isX_eq {t : List UInt8} {w : Ex} (h : isX t w = true) : exprR fuelX t = some (w, t.length, 0) := by
  unfold isX at h
  split at h
  · rename_i x a e he
    simp only [Bool.and_eq_true, decide_eq_true_eq] at h
    rw [he, sameX_eq x w h.1, h.2.1, h.2.2]
  · cases h
def leftX (p q : Nat) : Ex := binX q (binX p (vrX 120) (vrX 121)) (vrX 122)
def rightX (p q : Nat) : Ex := binX p (vrX 120) (binX q (vrX 121) (vrX 122))
def wantX (p q : Nat) : Ex := if rankO p < rankO q then rightX p q else leftX p q
def t1X (p q : Nat) : List UInt8 := ((([120] ++ nameO p) ++ [121]) ++ nameO q) ++ [122]
def t2X (p q : Nat) : List UInt8 := ((([40, 120] ++ nameO p) ++ [121, 41]) ++ nameO q) ++ [122]
def t3X (p q : Nat) : List UInt8 := ((([120] ++ nameO p) ++ [40, 121]) ++ nameO q) ++ [122, 41]
def t4X (p : Nat) : List UInt8 := ([45, 120] ++ nameO p) ++ [45, 121, 64, 51]
def t5X (p : Nat) : List UInt8 := ([40, 120] ++ nameO p) ++ [121, 41, 64, 51, 64, 51]
def t6X (p q : Nat) : List UInt8 := ((([120] ++ nameO p) ++ [121, 32, 63, 32, 121, 32, 58, 32, 122]) ++ nameO q) ++ [120]
def w4X (p : Nat) : Ex := binX p (unX 2 (vrX 120)) (unX 2 (castX 3 (vrX 121)))
def w5X (p : Nat) : Ex := castX 3 (castX 3 (binX p (vrX 120) (vrX 121)))
def w6X (p q : Nat) : Ex := muxX (binX p (vrX 120) (vrX 121)) (vrX 121) (binX q (vrX 122) (vrX 120))
def ranksB (p q : Nat) : Bool := isX (t1X p q) (wantX p q) && (isX (t2X p q) (leftX p q) && (isX (t3X p q) (rightX p q) && (isX (t4X p) (w4X p) && (isX (t5X p) (w5X p) && isX (t6X p q) (w6X p q)))))
set_option maxRecDepth 100000 in
theorem ranks_all : ∀ p < 14, ∀ q < 14, ranksB (p + 3) (q + 3) = true := by decide +kernel
structure RanksOk (p q : Nat) : Prop where
  h1 : exprR fuelX (t1X p q) = some (wantX p q, (t1X p q).length, 0)
  h2 : exprR fuelX (t2X p q) = some (leftX p q, (t2X p q).length, 0)
  h3 : exprR fuelX (t3X p q) = some (rightX p q, (t3X p q).length, 0)
  h4 : exprR fuelX (t4X p) = some (w4X p, (t4X p).length, 0)
  h5 : exprR fuelX (t5X p) = some (w5X p, (t5X p).length, 0)
  h6 : exprR fuelX (t6X p q) = some (w6X p q, (t6X p q).length, 0)
theorem ranks_ok {p q : Nat} (hp : 3 ≤ p) (hp' : p ≤ 16) (hq : 3 ≤ q) (hq' : q ≤ 16) : RanksOk p q := by
  have h := ranks_all (p - 3) (by omega) (q - 3) (by omega)
  rw [show p - 3 + 3 = p by omega, show q - 3 + 3 = q by omega] at h
  unfold ranksB at h
  simp only [Bool.and_eq_true] at h
  obtain ⟨h1, h2, h3, h4, h5, h6⟩ := h
  exact ⟨isX_eq h1, isX_eq h2, isX_eq h3, isX_eq h4, isX_eq h5, isX_eq h6⟩
/-! ### the chapter's examples -/
-- "1:4 + x * y @ 2 == ~z & a[0:1]"
def a1T : List UInt8 := [49, 58, 52, 32, 43, 32, 120, 32, 42, 32, 121, 32, 64, 32, 50, 32, 61, 61, 32, 126, 122, 32, 38, 32, 97, 91, 48, 58, 49, 93]
def a1X : Ex := binX 8 (binX 13 (binX 3 (numX 1 4) (binX 5 (vrX 120) (castX 2 (vrX 121)))) (unX 1 (vrX 122))) (elemX [97] (numX 0 1))
-- "c ? 1:2 : d ? x : y"
def a2T : List UInt8 := [99, 32, 63, 32, 49, 58, 50, 32, 58, 32, 100, 32, 63, 32, 120, 32, 58, 32, 121]
def a2X : Ex := muxX (vrX 99) (numX 1 2) (muxX (vrX 100) (vrX 120) (vrX 121))
-- "- - x"
def a3T : List UInt8 := [45, 32, 45, 32, 120]
def a3X : Ex := unX 2 (unX 2 (vrX 120))
def noX (t : List UInt8) (a e : Nat) : Bool := match exprR fuelX t with
  | some (.mk 0 0 0 0 [] [], a', e') => decide (a' = a) && decide (e' = e)
  | _ => false
theorem noX_eq {t : List UInt8} {a e : Nat} (h : noX t a e = true) : exprR fuelX t = some (ex0, a, e) := by
  unfold noX at h
  split at h
  · rename_i a' e' he
    simp only [Bool.and_eq_true, decide_eq_true_eq] at h
    rw [he, h.1, h.2]
    rfl
  · cases h
structure AwakeOk : Prop where
  h1 : exprR fuelX a1T = some (a1X, a1T.length, 0)
  h2 : exprR fuelX a2T = some (a2X, a2T.length, 0)
  h3 : exprR fuelX a3T = some (a3X, a3T.length, 0)
  h4 : exprR fuelX [120, 32, 43] = some (ex0, 3, 300)
  h5 : exprR fuelX [40, 120] = some (ex0, 2, 300)
  h6 : exprR fuelX [120, 32, 121] = some (ex0, 2, 300)
  h7 : exprR fuelX [119, 104, 105, 108, 101] = some (ex0, 0, 300)
  h8 : exprR fuelX [49, 58, 57, 57, 57, 57, 57, 57, 57, 57, 57, 57] = some (ex0, 0, 302)
set_option maxRecDepth 100000 in
theorem awake_ok : AwakeOk :=
  ⟨isX_eq (by decide +kernel), isX_eq (by decide +kernel), isX_eq (by decide +kernel), noX_eq (by decide +kernel), noX_eq (by decide +kernel), noX_eq (by decide +kernel), noX_eq (by decide +kernel), noX_eq (by decide +kernel)⟩
end Go.Proofs.YtehcpcpmcngnjaaDoor
