/-
  What decode.Assign computes, in plain terms.
-/
import Derived.Test.YtamoniljgifggaaIter
set_option linter.unusedVariables false
set_option linter.unusedSimpArgs false
namespace Go.Proofs.Ytamoniljgifggaa
open Go.RowKit

def setIn (all : List Int) (l : List Bool) (x : Int) (b : Bool) : List Bool := l.set (all.idxOf x) b
theorem setIn_len (all : List Int) (l : List Bool) (x : Int) (b : Bool) : (setIn all l x b).length = l.length := by simp [setIn]
def wordTo (all : List Int) (v : Int) (w : List Int) (j : Nat) (l : List Bool) : List Bool := (List.range j).foldl (fun l k => setIn all l (w.getD k 0) (bitN v k)) l
theorem wordTo_succ (all : List Int) (v : Int) (w : List Int) (j : Nat) (l : List Bool) : wordTo all v w (j + 1) l = setIn all (wordTo all v w j l) (w.getD j 0) (bitN v j) := by
  simp [wordTo, List.range_succ]
def wordsTo (all : List Int) (L : List (List Int × Int)) (l : List Bool) : List Bool := L.foldl (fun l p => wordTo all p.2 p.1 p.1.length l) l
theorem wordsTo_snoc (all : List Int) (L : List (List Int × Int)) (p : List Int × Int) (l : List Bool) : wordsTo all (L ++ [p]) l = wordTo all p.2 p.1 p.1.length (wordsTo all L l) := by simp [wordsTo]
theorem wordTo_len (all : List Int) (v : Int) (w : List Int) (j : Nat) (l : List Bool) : (wordTo all v w j l).length = l.length := by
  induction j with
  | zero => rfl
  | succ j ih => rw [wordTo_succ, setIn_len, ih]
theorem wordsTo_len (all : List Int) (L : List (List Int × Int)) (l : List Bool) : (wordsTo all L l).length = l.length := by
  induction L generalizing l with
  | nil => rfl
  | cons p L ih =>
    show (wordsTo all L (wordTo all p.2 p.1 p.1.length l)).length = _
    rw [ih, wordTo_len]
def fitP (p : List Int × Int) : Bool := decide (p.2 % 2 ^ p.1.length = p.2)
def keepStep (all : List Int) (v : Int → Bool) (kp : List Bool) (st : List Bool × Nat) (p : Int × Int) : List Bool × Nat :=
  if v p.1 then ((if st.2 < kp.length then setIn all st.1 p.2 (kp.getD st.2 false) else st.1), st.2 + 1) else st
def keepTo (all : List Int) (v : Int → Bool) (kp : List Bool) (L : List (Int × Int)) (l : List Bool) : List Bool × Nat := L.foldl (keepStep all v kp) (l, 0)
theorem keepTo_snoc (all : List Int) (v : Int → Bool) (kp : List Bool) (L : List (Int × Int)) (p : Int × Int) (l : List Bool) : keepTo all v kp (L ++ [p]) l = keepStep all v kp (keepTo all v kp L l) p := by simp [keepTo]
theorem keepStep_len (all : List Int) (v : Int → Bool) (kp : List Bool) (st : List Bool × Nat) (p : Int × Int) : (keepStep all v kp st p).1.length = st.1.length ∧ (keepStep all v kp st p).2 ≤ st.2 + 1 := by
  unfold keepStep
  split
  · refine ⟨?_, Nat.le_refl _⟩
    dsimp only
    split
    · exact setIn_len _ _ _ _
    · rfl
  · exact ⟨rfl, Nat.le_succ _⟩
theorem keepTo_len (all : List Int) (v : Int → Bool) (kp : List Bool) (L : List (Int × Int)) (l : List Bool) : (keepTo all v kp L l).1.length = l.length ∧ (keepTo all v kp L l).2 ≤ L.length := by
  have : ∀ (L : List (Int × Int)) (st : List Bool × Nat), (L.foldl (keepStep all v kp) st).1.length = st.1.length ∧ (L.foldl (keepStep all v kp) st).2 ≤ st.2 + L.length := by
    intro L
    induction L with
    | nil => intro st; exact ⟨rfl, Nat.le_refl _⟩
    | cons p L ih =>
      intro st
      obtain ⟨h1, h2⟩ := ih (keepStep all v kp st p)
      obtain ⟨h3, h4⟩ := keepStep_len all v kp st p
      simp only [List.foldl_cons, List.length_cons]
      exact ⟨h1.trans h3, by omega⟩
  have h := this L (l, 0)
  exact ⟨h.1, by have := h.2; simp only [Nat.zero_add] at this; exact this⟩
/-- The inputs when the words are set. -/
def asg0 (R : Res) (sin : List Int) : List Bool := wordsTo (inputsOf R.G) (R.ins.zip sin) (List.replicate (inputsOf R.G).length false)
def asgD (R : Res) (l : List Bool) : List OpR := doneL (valR (evalG R.G l)) R.ops
def pick1 (R : Res) (l : List Bool) (D : List OpR) (pt : Int) : List Bool := if 0 ≤ pt then (match D[pt.toNat]? with
  | some o => setIn (inputsOf R.G) l o.sel true
  | none => l) else l
def asg2 (R : Res) (kp : List Bool) (l : List Bool) : List Bool × Nat := keepTo (inputsOf R.G) (valR (evalG R.G l)) kp (R.cached.zip R.keep) l
/-- The assignment of a schedule, and the error. -/
def assignR (R : Res) (sin : List Int) (pt : Int) (kp : List Bool) : List Bool × Int :=
  if rightR R = false then ([], 420)
  else if sin.length ≠ R.ins.length then ([], 422)
  else if (R.ins.zip sin).all fitP = false then ([], 422)
  else if pt < 0 ∨ ((asgD R (asg0 R sin)).length : Int) < pt then ([], 422)
  else if (asg2 R kp (pick1 R (asg0 R sin) (asgD R (asg0 R sin)) pt)).2 ≠ kp.length then ([], 422)
  else ((asg2 R kp (pick1 R (asg0 R sin) (asgD R (asg0 R sin)) pt)).1, 0)

/-- The map from inputs to their places. -/
def whereL (all : List Int) : List (Int × Int) := all.mapIdx fun i x => (x, (i : Int))
theorem whereL_snoc (l : List Int) (x : Int) : whereL (l ++ [x]) = whereL l ++ [(x, (l.length : Int))] := by simp [whereL, List.mapIdx_append]
theorem lookI_append (L M : List (Int × Int)) (a : Int) : lookI (L ++ M) a = (lookI L a).or (lookI M a) := by
  simp only [lookI, List.find?_append]
  cases List.find? (fun x : Int × Int => x.1 == a) L <;> simp
theorem snoc_ind {α : Type} {P : List α → Prop} (h0 : P []) (h1 : ∀ l x, P l → P (l ++ [x])) (l : List α) : P l := by
  have : ∀ m : List α, P m.reverse := by
    intro m
    induction m with
    | nil => exact h0
    | cons x m ih => rw [List.reverse_cons]; exact h1 _ _ ih
  have h := this l.reverse
  rwa [List.reverse_reverse] at h
theorem whereL_none (l : List Int) (x : Int) (h : x ∉ l) : lookI (whereL l) x = none := by
  revert h
  refine snoc_ind (P := fun l => x ∉ l → lookI (whereL l) x = none) ?_ ?_ l
  · intro _; rfl
  · intro l y ih h
    rw [whereL_snoc, lookI_append, ih (fun hm => h (List.mem_append_left _ hm))]
    have : (y == x) = false := by
      simp only [beq_eq_false_iff_ne]
      rintro rfl
      exact h (by simp)
    simp [lookI, this]
theorem whereL_some (l : List Int) (x : Int) (h : x ∈ l) : lookI (whereL l) x = some ((l.idxOf x : Nat) : Int) := by
  revert h
  refine snoc_ind (P := fun l => x ∈ l → lookI (whereL l) x = some ((l.idxOf x : Nat) : Int)) ?_ ?_ l
  · intro h; cases h
  · intro l y ih h
    rw [whereL_snoc, lookI_append]
    by_cases hm : x ∈ l
    · rw [ih hm, List.idxOf_append, if_pos hm]
      rfl
    · have hy : y = x := by
        rcases List.mem_append.1 h with h1 | h1
        · exact absurd h1 hm
        · simp at h1; exact h1.symm
      subst hy
      rw [whereL_none l y hm, List.idxOf_append, if_neg hm]
      simp [lookI]
theorem whereL_put (l : List Int) (x : Int) (h : x ∉ l) : putI (whereL l) x (l.length : Int) = whereL (l ++ [x]) := by
  rw [putI_new _ _ _ (whereL_none l x h), whereL_snoc]
theorem inputsFrom_lb (G : List Nd) (i : Nat) : ∀ x ∈ inputsFrom i G, (2 * i : Int) ≤ x := by
  induction G generalizing i with
  | nil => simp [inputsFrom]
  | cons y G ih =>
    intro x hx
    unfold inputsFrom at hx
    split at hx
    · rcases List.mem_cons.1 hx with rfl | hx
      · omega
      · have := ih (i + 1) x hx; omega
    · have := ih (i + 1) x hx; omega
theorem inputsFrom_nodup (G : List Nd) (i : Nat) : (inputsFrom i G).Nodup := by
  induction G generalizing i with
  | nil => simp [inputsFrom]
  | cons y G ih =>
    unfold inputsFrom
    split
    · rw [List.nodup_cons]
      refine ⟨fun h => ?_, ih _⟩
      have := inputsFrom_lb G (i + 1) _ h
      omega
    · exact ih _
theorem inputsFrom_mem (G : List Nd) (i k : Nat) (nd : Nd) (h : G[k]? = some nd) (hk : nd.k = 2) : (2 * ((i + k : Nat) : Int)) ∈ inputsFrom i G := by
  induction G generalizing i k with
  | nil => simp at h
  | cons y G ih =>
    cases k with
    | zero =>
      simp at h
      subst h
      unfold inputsFrom
      rw [if_pos hk]
      simp
    | succ k =>
      have := ih (i + 1) k (by simpa using h)
      rw [show i + 1 + k = i + (k + 1) by omega] at this
      unfold inputsFrom
      split
      · exact List.mem_cons_of_mem _ this
      · exact this
theorem inOk_mem {G : List Nd} {x : Int} (h : inOk G x = true) : x ∈ inputsOf G := by
  simp only [inOk, Bool.and_eq_true, decide_eq_true_eq] at h
  obtain ⟨⟨h1, h2⟩, h3⟩ := h
  obtain ⟨h0, _⟩ := of_decide_eq_true h1
  obtain ⟨nd, hn, hk⟩ := Option.map_eq_some_iff.1 h3
  have := inputsFrom_mem G 0 (x / 2).toNat nd hn hk
  have e : (2 * ((0 + (x / 2).toNat : Nat) : Int)) = x := by omega
  rw [e] at this
  exact this
theorem Rd.frM {w w' : World} {A : Option Addr} {xs : List Value} {mb : Nat} {L : List (Int × Int)} (h : Rd w A xs) (hM : MapI w mb L) (hf : Fr (fun q => q = mb) w w') : Rd w' A xs := fun hx => by
  obtain ⟨b, off, cs, t, fr, rfl, hb, hc⟩ := h hx
  exact ⟨b, off, cs, t, fr, rfl, (hf.block b (lt_of_heap hb) (hM.ne hb)).trans hb, hc⟩
theorem not_take {l : List Int} {k : Nat} {x : Int} (hn : l.Nodup) (h : l[k]? = some x) : x ∉ l.take k := by
  intro hm
  obtain ⟨q, hq⟩ := List.mem_iff_getElem?.1 hm
  have hqk : q < k := by
    have := (List.getElem?_eq_some_iff.1 hq).1
    rw [List.length_take] at this
    omega
  rw [List.getElem?_take, if_pos hqk] at hq
  obtain ⟨l1, e1⟩ := List.getElem?_eq_some_iff.1 h
  obtain ⟨l2, e2⟩ := List.getElem?_eq_some_iff.1 hq
  exact (List.pairwise_iff_getElem.1 (List.nodup_iff_pairwise_ne.1 hn) q k l2 l1 hqk) (by rw [e1, e2])
theorem bool_info : (Try.prog.info? 4).map (fun i => (i.zero, i.size, i.bytes)) = some (some (.bool false), 1, 1) := by kernel_rfl
def bcells (l : List Bool) : Array Value := (l.map Value.bool).toArray
theorem made_bools (n : Nat) : madeCells #[.bool false] n = bcells (List.replicate n false) := by
  apply Array.ext
  · simp [madeCells, bcells]
  · intro i h1 h2
    simp [madeCells, bcells, Nat.mod_one]
theorem makeBools (n : Nat) (hn : n ≤ 1000000) (w : World) : (Instr.makeSlice 28 (.int .i64 (n : Int)) (.int .i64 (n : Int))).run Try.prog w = .ok (.slice (some ⟨w.heap.size, 0, none⟩) n n) (w.alloc (.cells (bcells (List.replicate n false)) 4)) := by
  obtain ⟨i, hi, hz, hs, hb⟩ := info_parts bool_info
  have h := run_make (P := Try.prog) w 28 4 i (.bool false) Try.underlying28 hi hz .i64 .i64 n n (by omega) (by omega) (by rw [hb]; omega) (by omega)
  rw [Int.toNat_natCast, hs, Nat.mul_one] at h
  rw [← made_bools]
  exact h
theorem bcells_at {l : List Bool} {i : Nat} (h : i < l.length) : ∃ b, (bcells l)[i]? = some (.bool b) := ⟨l[i], by simp [bcells, h]⟩
theorem bcells_set (l : List Bool) (i : Nat) (b : Bool) : (bcells l).setIfInBounds i (.bool b) = bcells (l.set i b) := by
  simp [bcells, List.map_set]
theorem idx_lt {l : List Int} {x : Int} (h : x ∈ l) : l.idxOf x < l.length := List.idxOf_lt_length_iff.2 h
theorem rd_bools {w : World} {ib : Nat} {t : TypeId} {l : List Bool} (h : Bk w ib t (bcells l)) : Rd w (some ⟨ib, 0, none⟩) (l.map Value.bool) := fun _ =>
  ⟨ib, 0, bcells l, t, (0, 0), rfl, h, fun j u hu => by rw [Nat.zero_add]; simpa [bcells] using hu⟩
/-- Only the block of truths has changed. -/
structure AInv (V : World) (ib : Nat) (l : List Bool) (W : World) : Prop where
  fr : Fr (fun q => q = ib) V W
  arr : Bk W ib 4 (bcells l)
theorem AInv.drew {V W : World} {ib : Nat} {l : List Bool} (h : AInv V ib l W) : AInv V ib l W.drew := ⟨h.fr.drew, h.arr.drew⟩
theorem AInv.below {V W W' : World} {ib : Nat} {l : List Bool} (h : AInv V ib l W) (hb : Below W.heap.size W W') : AInv V ib l W' := ⟨h.fr.trans (Fr.of_below hb), h.arr.below hb h.arr.lt⟩
theorem AInv.set {V W : World} {ib : Nat} {l : List Bool} (h : AInv V ib l W) (all : List Int) (x : Int) (b : Bool) : AInv V ib (setIn all l x b) (W.setCell ⟨ib, all.idxOf x, none⟩ (.bool b)) := by
  refine ⟨h.fr.setCell (p := ⟨ib, all.idxOf x, none⟩) (.inl rfl) _, ?_⟩
  have h1 := h.arr.put (all.idxOf x) (.bool b)
  rw [bcells_set] at h1
  exact h1
theorem own_all {R : Res} (h : rightR R = true) : ∀ x ∈ ownL R, inOk R.G x = true := by
  simp only [rightR, Bool.and_eq_true, List.all_eq_true] at h
  exact h.1.1.2
end Go.Proofs.Ytamoniljgifggaa
