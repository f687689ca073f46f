/-
  Plain mathematics of graphs of ands: no Go in sight.
-/
namespace Go.Proofs.Ytamoniljgifggaa

/-- A node: its kind, and its sides. -/
structure Nd where
  k : Int
  l : Int
  r : Int
deriving DecidableEq

/-- The negation of a reference. -/
def notI (r : Int) : Int := if r % 2 = 0 then r + 1 else r - 1
/-- What a truth is in numbers. -/
def bitI (b : Bool) : Int := if b then 1 else 0

/-- The inputs of a graph: the references of its nodes of kind 2. -/
def inputsFrom (i : Nat) : List Nd → List Int
  | [] => []
  | x :: G => if x.k = 2 then (2 * i : Int) :: inputsFrom (i + 1) G else inputsFrom (i + 1) G
def inputsOf (G : List Nd) : List Int := inputsFrom 0 G
theorem inputsFrom_append (G H : List Nd) (i : Nat) : inputsFrom i (G ++ H) = inputsFrom i G ++ inputsFrom (i + G.length) H := by
  induction G generalizing i with
  | nil => simp [inputsFrom]
  | cons x G ih =>
    have e : i + 1 + G.length = i + (G.length + 1) := by omega
    simp only [List.cons_append, inputsFrom, ih, List.length_cons, e]
    split <;> simp
theorem inputsFrom_len (G : List Nd) (i : Nat) : (inputsFrom i G).length ≤ G.length := by
  induction G generalizing i with
  | nil => simp [inputsFrom]
  | cons x G ih => have := ih (i + 1); simp only [inputsFrom]; split <;> simp <;> omega
theorem inputsOf_len (G : List Nd) : (inputsOf G).length ≤ G.length := inputsFrom_len G 0
theorem inputsOf_snoc (G : List Nd) (x : Nd) : inputsOf (G ++ [x]) = if x.k = 2 then inputsOf G ++ [(2 * G.length : Int)] else inputsOf G := by
  simp only [inputsOf, inputsFrom_append, inputsFrom, Nat.zero_add]
  split <;> simp

/-- The ands of a graph with their numbers. -/
def entsFrom (i : Nat) : List Nd → List (Int × Int × Int)
  | [] => []
  | x :: G => if x.k = 3 then (x.l, x.r, (i : Int)) :: entsFrom (i + 1) G else entsFrom (i + 1) G
def ents (G : List Nd) : List (Int × Int × Int) := entsFrom 0 G
theorem entsFrom_append (G H : List Nd) (i : Nat) : entsFrom i (G ++ H) = entsFrom i G ++ entsFrom (i + G.length) H := by
  induction G generalizing i with
  | nil => simp [entsFrom]
  | cons x G ih =>
    have e : i + 1 + G.length = i + (G.length + 1) := by omega
    simp only [List.cons_append, entsFrom, ih, List.length_cons, e]
    split <;> simp
theorem ents_snoc (G : List Nd) (x : Nd) : ents (G ++ [x]) = if x.k = 3 then ents G ++ [(x.l, x.r, (G.length : Int))] else ents G := by
  simp only [ents, entsFrom_append, entsFrom, Nat.zero_add]
  split <;> simp
def lookS (L : List (Int × Int × Int)) (a b : Int) : Option Int := (L.find? fun x => x.1 == a && x.2.1 == b).map (·.2.2)
theorem lookS_append (L M : List (Int × Int × Int)) (a b : Int) : lookS (L ++ M) a b = (lookS L a b).or (lookS M a b) := by
  simp only [lookS, List.find?_append]
  cases List.find? (fun x : Int × Int × Int => x.1 == a && x.2.1 == b) L <;> simp
theorem entsFrom_mem (G : List Nd) (i : Nat) (x : Int × Int × Int) (h : x ∈ entsFrom i G) : ∃ j : Nat, j < G.length ∧ x.2.2 = ((i + j : Nat) : Int) ∧ G[j]? = some ⟨3, x.1, x.2.1⟩ := by
  induction G generalizing i with
  | nil => simp [entsFrom] at h
  | cons y G ih =>
    simp only [entsFrom] at h
    split at h
    · rename_i hk
      rcases List.mem_cons.1 h with rfl | h
      · refine ⟨0, by simp, by simp, ?_⟩
        cases y
        simp_all
      · obtain ⟨j, h1, h2, h3⟩ := ih (i + 1) h
        exact ⟨j + 1, by simp; omega, by rw [h2]; omega, by simpa using h3⟩
    · obtain ⟨j, h1, h2, h3⟩ := ih (i + 1) h
      exact ⟨j + 1, by simp; omega, by rw [h2]; omega, by simpa using h3⟩
theorem lookS_lt (G : List Nd) (a b v : Int) (h : lookS (ents G) a b = some v) : 0 ≤ v ∧ v < G.length := by
  simp only [lookS, Option.map_eq_some_iff] at h
  obtain ⟨x, hx, rfl⟩ := h
  obtain ⟨j, h1, h2, _⟩ := entsFrom_mem G 0 x (List.mem_of_find?_eq_some hx)
  omega

/-- The and of two references: the graph then, and its reference. -/
def andG (G : List Nd) (a b : Int) : List Nd × Int :=
  if min a b = 0 ∨ a = notI b then (G, 0)
  else if min a b = 1 ∨ a = b then (G, max a b)
  else match lookS (ents G) (min a b) (max a b) with
    | some v => (G, 2 * v)
    | none => (G ++ [⟨3, min a b, max a b⟩], 2 * G.length)

/-- Sides lead to nodes before, and kinds are kinds. -/
def GOk (G : List Nd) : Prop := ∀ (i : Nat) (x : Nd), G[i]? = some x → (x.k = 1 ∨ x.k = 2 ∨ x.k = 3) ∧ (x.k = 3 → 0 ≤ x.l ∧ x.l < 2 * i ∧ 0 ≤ x.r ∧ x.r < 2 * i)
theorem GOk.snoc {G : List Nd} (h : GOk G) (x : Nd) (hk : x.k = 1 ∨ x.k = 2 ∨ x.k = 3) (hx : x.k = 3 → 0 ≤ x.l ∧ x.l < 2 * G.length ∧ 0 ≤ x.r ∧ x.r < 2 * G.length) : GOk (G ++ [x]) := by
  intro i y hy
  rcases Nat.lt_trichotomy i G.length with hi | hi | hi
  · rw [List.getElem?_append_left hi] at hy
    exact h i y hy
  · subst hi
    simp at hy
    subst hy
    exact ⟨hk, hx⟩
  · rw [List.getElem?_eq_none (by simp; omega)] at hy
    cases hy
theorem andG_ok {G : List Nd} (h : GOk G) (a b : Int) (ha : 0 ≤ a) (ha' : a < 2 * G.length) (hb : 0 ≤ b) (hb' : b < 2 * G.length) : GOk (andG G a b).1 := by
  unfold andG
  split
  · exact h
  · split
    · exact h
    · split
      · exact h
      · exact h.snoc _ (.inr (.inr rfl)) (fun _ => by simp only; omega)
theorem andG_len (G : List Nd) (a b : Int) : G.length ≤ (andG G a b).1.length ∧ (andG G a b).1.length ≤ G.length + 1 := by
  unfold andG
  split
  · simp
  · split
    · simp
    · split <;> simp

/-- What a reference is, by the values of nodes. -/
def valR (vals : List Bool) (r : Int) : Bool := (vals.getD (r / 2).toNat false) != decide (r % 2 = 1)
/-- What all nodes are: those so far, and the values of inputs that are left. -/
def evalStep (st : List Bool × List Bool) (x : Nd) : List Bool × List Bool :=
  if x.k = 3 then (st.1 ++ [valR st.1 x.l && valR st.1 x.r], st.2)
  else if x.k = 2 then (st.1 ++ [st.2.headD false], st.2.tail)
  else (st.1 ++ [false], st.2)
def evalTo (G : List Nd) (inp : List Bool) : List Bool × List Bool := G.foldl evalStep ([], inp)
def evalG (G : List Nd) (inp : List Bool) : List Bool := (evalTo G inp).1
theorem evalTo_snoc (G : List Nd) (x : Nd) (inp : List Bool) : evalTo (G ++ [x]) inp = evalStep (evalTo G inp) x := by simp [evalTo]
theorem evalG_len (G : List Nd) (inp : List Bool) : (evalG G inp).length = G.length := by
  have : ∀ (G : List Nd) (st : List Bool × List Bool), (G.foldl evalStep st).1.length = st.1.length + G.length := by
    intro G
    induction G with
    | nil => simp
    | cons x G ih =>
      intro st
      rw [List.foldl_cons, ih]
      unfold evalStep
      split
      · simp; omega
      · split <;> (simp; omega)
  simpa [evalG, evalTo] using this G ([], inp)
theorem evalTo_rest (G : List Nd) (inp : List Bool) : (evalTo G inp).2 = inp.drop (inputsOf G).length := by
  have : ∀ (G : List Nd) (i : Nat) (st : List Bool × List Bool), (G.foldl evalStep st).2 = st.2.drop (inputsFrom i G).length := by
    intro G
    induction G with
    | nil => simp [inputsFrom]
    | cons x G ih =>
      intro i st
      rw [List.foldl_cons, ih (i + 1), show inputsFrom i (x :: G) = if x.k = 2 then (2 * i : Int) :: inputsFrom (i + 1) G else inputsFrom (i + 1) G from rfl]
      generalize inputsFrom (i + 1) G = I
      unfold evalStep
      by_cases h3 : x.k = 3
      · have h2 : ¬ x.k = 2 := by omega
        simp [h3]
      · by_cases h2 : x.k = 2
        · simp [h2]
        · simp [h3, h2]
  exact this G 0 ([], inp)
theorem inputsOf_take_lt {G : List Nd} {k : Nat} {x : Nd} (hx : G[k]? = some x) (hk : x.k = 2) : (inputsOf (G.take k)).length < (inputsOf G).length := by
  have hl : k < G.length := (List.getElem?_eq_some_iff.1 hx).1
  have h1 : G.take (k + 1) = G.take k ++ [x] := by
    obtain ⟨h, rfl⟩ := List.getElem?_eq_some_iff.1 hx
    rw [List.take_succ_eq_append_getElem h]
  have h2 : inputsOf G = inputsOf (G.take (k + 1)) ++ inputsFrom (0 + (G.take (k + 1)).length) (G.drop (k + 1)) := by
    rw [inputsOf, inputsOf, ← inputsFrom_append, List.take_append_drop]
  rw [h2, h1, inputsOf_snoc, if_pos hk]
  simp
theorem valR_lt {vals : List Bool} {r : Int} (h0 : 0 ≤ r) (h1 : r < 2 * vals.length) : ∃ b, vals[(r / 2).toNat]? = some b ∧ valR vals r = (b != decide (r % 2 = 1)) := by
  have hl : (r / 2).toNat < vals.length := by omega
  refine ⟨vals[(r / 2).toNat], List.getElem?_eq_getElem hl, ?_⟩
  simp [valR, List.getD, hl]
end Go.Proofs.Ytamoniljgifggaa
