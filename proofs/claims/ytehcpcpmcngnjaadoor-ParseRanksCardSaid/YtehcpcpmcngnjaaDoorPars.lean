/-
  Expressions, and what the parser of layer 30 reads of tokens: plain functions with fuel (none: the fuel ran out). No program in sight.
-/
import Derived.Test.YtehcpcpmcngnjaaDoorTokP
set_option linter.unusedVariables false
set_option linter.unusedSimpArgs false
namespace Go.Proofs.YtehcpcpmcngnjaaDoor

/-- An expression: kind, operation, value, width, name, those within it. -/
inductive Ex where
  | mk (kind op value : Nat) (width : Int) (name : List UInt8) (subs : List Ex)
def ex0 : Ex := .mk 0 0 0 0 [] []
/-! ### operations -/
def nameO : Nat → List UInt8
  | 1 => [126] | 2 => [45] | 3 => [43] | 4 => [45] | 5 => [42] | 6 => [47] | 7 => [37] | 8 => [38] | 9 => [124] | 10 => [94] | 11 => [60, 60] | 12 => [62, 62] | 13 => [61, 61] | 14 => [33, 61] | 15 => [60] | 16 => [60, 61] | _ => []
def rankO : Nat → Nat
  | 3 => 5 | 4 => 5 | 5 => 6 | 6 => 6 | 7 => 6 | 8 => 2 | 9 => 1 | 10 => 1 | 11 => 4 | 12 => 4 | 13 => 3 | 14 => 3 | 15 => 3 | 16 => 3 | _ => 0
def isO (t : List UInt8) (two : Bool) (o : Nat) : Bool := decide (nameO o = t) && (decide (0 < rankO o) == two)
/-- The first operation from the o-th on with a name; 17: none. -/
def findF (t : List UInt8) (two : Bool) : Nat → Nat → Option Nat
  | 0, _ => none
  | f + 1, o => if isO t two o then some o else findF t two f (o + 1)
def findO (t : List UInt8) (two : Bool) : Option Nat := findF t two 16 1
/-- The words that are no names. -/
def resvW : List (List UInt8) := ["device", "width", "input", "ghost", "var", "array", "require", "init", "proc", "work", "recover", "invariant", "flush", "barrier", "write", "if", "else", "while", "bound", "call", "disk"].map fun s => s.toList.map fun c => UInt8.ofNat c.toNat
def resvB (t : List UInt8) : Bool := resvW.contains t
/-! ### the parser -/
structure PSt where
  n : Nat
  deep : Int
  fail : Nat
  e : Nat
deriving DecidableEq
structure Env where
  text : List UInt8
  toks : List Tk
abbrev Nd := Ex × List Nat
def nd0 : Nd := (ex0, [])
/-- What is next: a token; none: the end, or something is wrong. -/
def nextP (E : Env) (s : PSt) : Tk := if s.e ≠ 0 then ⟨0, [], E.text.length, E.text.length⟩ else match E.toks[s.n]? with
  | some t => t
  | none => ⟨0, [], E.text.length, E.text.length⟩
def wrongP (E : Env) (s : PSt) (e : Nat) : PSt := if s.e = 0 then { s with fail := (nextP E s).at', e := e } else s
def isP (E : Env) (s : PSt) (w : List UInt8) : Bool := decide ((nextP E s).kind ≠ 0) && decide ((nextP E s).text = w)
def stepP (s : PSt) : PSt := { s with n := s.n + 1 }
def isS (E : Env) (s : PSt) (w : List UInt8) : PSt := if isP E s w then stepP s else s
def mustP (E : Env) (s : PSt) (w : List UInt8) : PSt := if isP E s w then stepP s else wrongP E s 300
def nameB (E : Env) (s : PSt) : Bool := decide ((nextP E s).kind = 1) && !resvB (nextP E s).text
def nameP (E : Env) (s : PSt) : List UInt8 := if nameB E s then (nextP E s).text else []
def nameS (E : Env) (s : PSt) : PSt := if nameB E s then stepP s else wrongP E s 300
def numP (E : Env) (s : PSt) : Nat × PSt :=
  if (nextP E s).kind = 2 then (if (valT (nextP E s).text).2 = 0 then ((valT (nextP E s).text).1, stepP s) else (0, wrongP E s 302)) else (0, wrongP E s 300)
def deepP (s : PSt) (d : Int) : PSt := { s with deep := s.deep + d }
def entB (E : Env) (s : PSt) (w : List UInt8) : Bool := decide ((nextP E s).text = w) && decide ((nextP E s).text ≠ [])
def entS (E : Env) (s : PSt) (w : List UInt8) : PSt := if entB E s w then (if 200 ≤ s.deep then wrongP E s 301 else deepP (stepP s) 1) else s
def openP (E : Env) (s : PSt) (w : List UInt8) : PSt := if entB E s w then entS E s w else deepP (wrongP E s 300) 1
def shutP (E : Env) (s : PSt) (w : List UInt8) : PSt := deepP (mustP E s w) (-1)
def wholeP (kind op value : Nat) (width : Int) (name : List UInt8) (at' : Nat) (l : List Nd) : Nd := (.mk kind op value width name (l.map (·.1)), at' :: l.flatMap (·.2))
def hereP (x : Nd) : Nat := x.2.headD 0
/-- Within bounds (what is as deep as no machine goes is left out). -/
def okP (s : PSt) : Bool := decide (-1000000 ≤ s.deep) && decide (s.deep ≤ 1000000)
/-- Few enough nodes. -/
def okW (l : List Nd) : Bool := decide ((l.flatMap (·.2)).length ≤ 1000000)
section
variable (E : Env)
mutual
def choiceP : Nat → PSt → Option (Nd × PSt)
  | 0, _ => none
  | f + 1, s => match chainP f 1 s with
    | none => none
    | some (x, s1) => match okP s1 with
      | false => none
      | true => match entB E s1 [63] with
        | false => some (x, s1)
        | true => match choiceP f (entS E s1 [63]) with
          | none => none
          | some (y, s3) => match choiceP f (mustP E s3 [58]) with
            | none => none
            | some (z, s5) => match okP s5 && okW [x, y, z] with
              | false => none
              | true => some (wholeP 7 0 0 0 [] (hereP x) [x, y, z], deepP s5 (-1))
def chainP : Nat → Nat → PSt → Option (Nd × PSt)
  | 0, _, _ => none
  | f + 1, r, s => match operandP f s with
    | none => none
    | some (x, s1) => linksP f r x s1
def linksP : Nat → Nat → Nd → PSt → Option (Nd × PSt)
  | 0, _, _, _ => none
  | f + 1, r, x, s => match decide (s.e = 0) with
    | false => some (x, s)
    | true => match (if (nextP E s).kind = 4 then findO (nextP E s).text true else none) with
      | none => some (x, s)
      | some op => match decide (rankO op < r) with
        | true => some (x, s)
        | false => match chainP f (rankO op + 1) (stepP s) with
          | none => none
          | some (y, s2) => match okW [x, y] with
            | false => none
            | true => linksP f r (wholeP 6 op 0 0 [] (hereP x) [x, y]) s2
def operandP : Nat → PSt → Option (Nd × PSt)
  | 0, _ => none
  | f + 1, s => match (if (nextP E s).kind = 4 then findO (nextP E s).text false else none) with
    | some op => match okP s with
      | false => none
      | true => match operandP f (openP E s (nextP E s).text) with
        | none => none
        | some (x, s2) => match okP s2 && okW [x] with
          | false => none
          | true => some (wholeP 5 op 0 0 [] (nextP E s).at' [x], deepP s2 (-1))
    | none => match basisP f s with
      | none => none
      | some (x, s1) => castsP f x s1
def castsP : Nat → Nd → PSt → Option (Nd × PSt)
  | 0, _, _ => none
  | f + 1, x, s => match isP E s [64] with
    | false => some (x, s)
    | true => match okW [x] with
      | false => none
      | true => castsP f (wholeP 8 0 0 (numP E (stepP s)).1 [] (hereP x) [x]) (numP E (stepP s)).2
def withinP : Nat → PSt → List UInt8 → List UInt8 → Option (Nd × PSt)
  | 0, _, _, _ => none
  | f + 1, s, a, b => match okP s with
    | false => none
    | true => match choiceP f (openP E s a) with
      | none => none
      | some (x, s2) => match okP s2 with
        | false => none
        | true => some (x, shutP E s2 b)
def basisP : Nat → PSt → Option (Nd × PSt)
  | 0, _ => none
  | f + 1, s => match decide (s.e = 0) with
    | false => some (nd0, s)
    | true => match decide ((nextP E s).kind = 3) with
      | true => match decide ((litT (nextP E s).text).2.2 = 0) with
        | false => some (nd0, wrongP E s 302)
        | true => some (wholeP 1 0 (litT (nextP E s).text).1 (litT (nextP E s).text).2.1 [] (nextP E s).at' [], stepP s)
      | false => match decide ((nextP E s).text = [40]) with
        | true => withinP f s [40] [41]
        | false => match decide ((nextP E s).text = [100, 105, 115, 107]) with
          | true => match withinP f (stepP s) [91] [93] with
            | none => none
            | some (x, s2) => match okW [x] with
              | false => none
              | true => some (wholeP 4 0 0 0 [] (nextP E s).at' [x], s2)
          | false => match decide ((nextP E (nameS E s)).text = [91]) with
            | true => match withinP f (nameS E s) [91] [93] with
              | none => none
              | some (x, s2) => match okW [x] with
                | false => none
                | true => some (wholeP 3 0 0 0 (nameP E s) (nextP E s).at' [x], s2)
            | false => some (wholeP 2 0 0 0 (nameP E s) (nextP E s).at' [], nameS E s)
end
end
/-- What is left behind the whole is wrong. -/
def restP (E : Env) (s : PSt) : PSt := if s.e = 0 ∧ s.n < E.toks.length then wrongP E s 300 else s
/-- parse.Expr: the expression, a place, an error. -/
def exprR (fuel : Nat) (t : List UInt8) : Option (Ex × Nat × Nat) :=
  if 65536 < t.length then some (ex0, 0, 3) else match badY (allT t) with
  | some a => some (ex0, a, 280)
  | none => match choiceP ⟨t, toksY t (allT t)⟩ fuel ⟨0, 0, 0, 0⟩ with
    | none => none
    | some (x, s) => if (restP ⟨t, toksY t (allT t)⟩ s).e = 0 then some (x.1, t.length, 0) else some (ex0, (restP ⟨t, toksY t (allT t)⟩ s).fail, (restP ⟨t, toksY t (allT t)⟩ s).e)
mutual
def sameX : Ex → Ex → Bool
  | .mk a b c d e l, .mk a' b' c' d' e' l' => decide (a = a') && (decide (b = b') && (decide (c = c') && (decide (d = d') && (decide (e = e') && sameXs l l'))))
def sameXs : List Ex → List Ex → Bool
  | [], [] => true
  | x :: l, y :: l' => sameX x y && sameXs l l'
  | _, _ => false
end
mutual
theorem sameX_eq : ∀ (x y : Ex), sameX x y = true → x = y
  | .mk a b c d e l, .mk a' b' c' d' e' l', h => by
    simp only [sameX, Bool.and_eq_true, decide_eq_true_eq] at h
    obtain ⟨rfl, rfl, rfl, rfl, rfl, h⟩ := h
    rw [sameXs_eq l l' h]
theorem sameXs_eq : ∀ (l l' : List Ex), sameXs l l' = true → l = l'
  | [], [], _ => rfl
  | x :: l, y :: l', h => by
    simp only [sameXs, Bool.and_eq_true] at h
    rw [sameX_eq x y h.1, sameXs_eq l l' h.2]
  | [], _ :: _, h => by simp [sameXs] at h
  | _ :: _, [], h => by simp [sameXs] at h
end
end Go.Proofs.YtehcpcpmcngnjaaDoor
