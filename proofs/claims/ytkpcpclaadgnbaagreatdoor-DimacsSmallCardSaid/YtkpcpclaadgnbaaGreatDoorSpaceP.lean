/-
  Texts with other spaces, line feeds and comments: they are read as the text is. Plain lists.
-/
import Derived.Test.YtkpcpclaadgnbaaGreatDoorWrongP6
import Derived.Lib.Replace
set_option linter.unusedVariables false
set_option linter.unusedSimpArgs false
namespace Go.Proofs.YtkpcpclaadgnbaaGreatDoor
open Go.Lib

/-! ### words without places -/
def wordsP (ls : List (List UInt8)) : List (List UInt8) := ls.flatMap fun l => if overD l then [] else wordsL l
theorem wordsD_snd : ∀ (ls : List (List UInt8)) (i : Nat), (wordsD ls i).map Prod.snd = wordsP ls
  | [], _ => rfl
  | l :: r, i => by
    unfold wordsD
    rw [List.map_append, wordsD_snd r (i + 1)]
    unfold wordsP
    rw [List.flatMap_cons]
    congr 1
    split
    · rfl
    · rw [List.map_map]
      exact List.map_id _
theorem runW_same (v : Int) (n : Nat) : ∀ (W W' : List (Nat × List UInt8)) (st r : Rs), W.map Prod.snd = W'.map Prod.snd → runW v n st W = (0, 0, r) → runW v n st W' = (0, 0, r)
  | [], [], st, r, _, h => h
  | [], q :: W', st, r, h, _ => by simp at h
  | p :: W, [], st, r, h, _ => by simp at h
  | p :: W, q :: W', st, r, h, hr => by
    simp only [List.map_cons, List.cons.injEq] at h
    rw [runW] at hr ⊢
    rw [← h.1]
    split at hr
    · rename_i h0
      rw [if_pos h0]
      exact runW_same v n W W' _ r h.2 hr
    · rename_i h0
      obtain ⟨_, hr⟩ := Prod.mk.inj hr
      obtain ⟨hr, _⟩ := Prod.mk.inj hr
      exact absurd hr h0
theorem headD_pre (l : List UInt8) (R : List (List UInt8)) (hl : overD l = false) : ∀ (pre : List (List UInt8)) (i : Nat), (∀ x ∈ pre, overD x = true) → headD i (pre ++ l :: R) = some (i + pre.length, l, R)
  | [], i, _ => by
    show headD i (l :: R) = _
    unfold headD
    rw [if_neg (by rw [hl]; simp)]
    rfl
  | x :: pre, i, h => by
    show headD i (x :: (pre ++ l :: R)) = _
    unfold headD
    rw [if_pos (h x (by simp)), headD_pre l R hl pre (i + 1) (fun y hy => h y (by simp [hy])), List.length_cons]
    rw [show i + 1 + pre.length = i + (pre.length + 1) by omega]
theorem words_text (cls : List (List Int)) : wordsP (cls.map lnS ++ [[]]) = cls.flatMap lnW := by
  unfold wordsP
  rw [List.flatMap_append]
  have h1 : ([[]] : List (List UInt8)).flatMap (fun l => if overD l then [] else wordsL l) = [] := by
    simp [over_nilD]
  rw [h1, List.append_nil, List.flatMap_map]
  congr 1
  funext c
  rw [ln_over, ln_words]
  rfl
/-- Lines with the words of a formula, behind its header. -/
theorem readL_like {f : Fm} (hk : checkD f = (-1, 0)) (pre rest : List (List UInt8)) (hp : ∀ x ∈ pre, overD x = true) (hw : wordsP rest = f.cls.flatMap lnW) :
    readL (pre ++ hdS f.vars f.cls.length :: rest) = (f, 0, 0) := by
  obtain ⟨⟨h1, h2⟩, h3, h4⟩ := checkD_ok.1 hk
  unfold readL
  rw [headD_pre _ _ (hd_over _ _) pre 0 hp]
  dsimp only
  rw [(parseH_iff _ _ _).2 ⟨hdOk_mk h1 h2 (by omega) (by omega), rfl⟩]
  dsimp only
  rw [Int.toNat_natCast]
  have hr := run_lines f.vars f.cls.length h1 f.cls [] 1 h4 (by simp)
  have hr2 := runW_same _ _ _ (wordsD rest (0 + pre.length + 1)) _ _ (by rw [wordsD_snd, wordsD_snd, hw, words_text]) hr
  unfold zRs
  rw [hr2]
  unfold endD
  rw [if_neg (by simp), if_neg (by simp)]
  rfl

/-! ### joined texts -/
theorem joinB_app (c : UInt8) : ∀ (l m : List (List UInt8)), l ≠ [] → m ≠ [] → joinB c (l ++ m) = joinB c l ++ c :: joinB c m
  | [], _, h, _ => absurd rfl h
  | [w], m, _, hm => by
    show joinB c (w :: m) = _
    rw [joinB_cons _ _ _ hm]
    rfl
  | w :: v :: r, m, _, hm => by
    show joinB c (w :: ((v :: r) ++ m)) = _
    rw [joinB_cons _ _ _ (by simp), joinB_app c (v :: r) m (by simp) hm, joinB_cons _ w (v :: r) (by simp)]
    simp
theorem split_all (c : UInt8) : ∀ (l : List (List UInt8)), l ≠ [] → split (joinB c l) [c] = l.flatMap fun w => split w [c]
  | [], h => absurd rfl h
  | [w], _ => by simp [joinB]
  | w :: v :: r, _ => by
    have ih := split_all c (v :: r) (by simp)
    have hs := split_spec c w
    have ht := split_spec c (joinB c (v :: r))
    rw [List.flatMap_cons, ← ih, joinB_cons _ _ _ (by simp)]
    have hj : w ++ c :: joinB c (v :: r) = joinB c (split w [c] ++ split (joinB c (v :: r)) [c]) := by
      rw [joinB_app c _ _ hs.1 ht.1, hs.2.2, ht.2.2]
    rw [hj]
    refine split_join c _ (by simp [hs.1]) (fun x hx => ?_)
    rcases List.mem_append.1 hx with hx | hx
    · exact hs.2.1 x hx
    · exact ht.2.1 x hx
theorem joinB_mem (c : UInt8) {b : UInt8} : ∀ {l : List (List UInt8)} {w : List UInt8}, w ∈ l → b ∈ w → b ∈ joinB c l
  | [x], w, hw, hb => by
    rw [List.mem_singleton.1 hw] at hb
    exact hb
  | x :: y :: r, w, hw, hb => by
    rw [joinB_cons _ _ _ (by simp)]
    rcases List.mem_cons.1 hw with rfl | hw
    · exact List.mem_append_left _ hb
    · exact List.mem_append_right _ (List.mem_cons_of_mem _ (joinB_mem c hw hb))
theorem joinB_free (c : UInt8) {b : UInt8} (hc : b ≠ c) : ∀ {l : List (List UInt8)}, (∀ w ∈ l, b ∉ w) → b ∉ joinB c l
  | [], _ => by simp [joinB]
  | [x], h => by
    show b ∉ x
    exact h x (by simp)
  | x :: y :: r, h => by
    rw [joinB_cons _ _ _ (by simp)]
    have ih := joinB_free c hc (l := y :: r) (fun w hw => h w (List.mem_cons_of_mem _ hw))
    intro hm
    rcases List.mem_append.1 hm with hm | hm
    · exact h x (by simp) hm
    · rcases List.mem_cons.1 hm with hm | hm
      · exact hc hm
      · exact ih hm
theorem joinB_le (c : UInt8) : ∀ (l : List (List UInt8)), (joinB c l).length ≤ (l.map List.length).sum + l.length
  | [] => by simp [joinB]
  | [w] => by simp [joinB]
  | w :: v :: r => by
    have ih := joinB_le c (v :: r)
    rw [joinB_cons _ _ _ (by simp)]
    simp only [List.length_append, List.length_cons, List.map_cons, List.sum_cons] at ih ⊢
    omega
/-- Between words any text. -/
def joinR (x : List UInt8) : List (List UInt8) → List UInt8
  | [] => []
  | [w] => w
  | w :: v :: r => w ++ x ++ joinR x (v :: r)
theorem joinR_cons (x w : List UInt8) {l : List (List UInt8)} (h : l ≠ []) : joinR x (w :: l) = w ++ x ++ joinR x l := by
  obtain ⟨v, r, rfl⟩ := List.exists_cons_of_ne_nil h
  rfl
theorem joinR_one (c : UInt8) : ∀ l : List (List UInt8), joinR [c] l = joinB c l
  | [] => rfl
  | [w] => rfl
  | w :: v :: r => by
    rw [joinR_cons _ _ (by simp), joinB_cons _ _ _ (by simp), joinR_one c (v :: r)]
    simp
def inter (x : List UInt8) : List (List UInt8) → List (List UInt8)
  | [] => []
  | [w] => [w]
  | w :: v :: r => w :: x :: inter x (v :: r)
theorem inter_cons (x w : List UInt8) {l : List (List UInt8)} (h : l ≠ []) : inter x (w :: l) = w :: x :: inter x l := by
  obtain ⟨v, r, rfl⟩ := List.exists_cons_of_ne_nil h
  rfl
theorem inter_ne (x : List UInt8) {l : List (List UInt8)} (h : l ≠ []) : inter x l ≠ [] := by
  obtain ⟨v, r, rfl⟩ := List.exists_cons_of_ne_nil h
  cases r <;> simp [inter]
theorem joinR_inter (c : UInt8) (x : List UInt8) : ∀ l : List (List UInt8), joinR (c :: (x ++ [c])) l = joinB c (inter x l)
  | [] => rfl
  | [w] => rfl
  | w :: v :: r => by
    rw [joinR_cons _ _ (by simp), inter_cons _ _ (by simp), joinB_cons _ _ _ (by simp), joinB_cons _ _ _ (inter_ne x (by simp)), joinR_inter c x (v :: r)]
    simp
theorem inter_mem {x w : List UInt8} : ∀ {l : List (List UInt8)}, w ∈ inter x l → w = x ∨ w ∈ l
  | [u], h => .inr h
  | u :: v :: r, h => by
    rw [inter_cons _ _ (by simp)] at h
    rcases List.mem_cons.1 h with rfl | h
    · exact .inr (by simp)
    · rcases List.mem_cons.1 h with rfl | h
      · exact .inl rfl
      · rcases inter_mem h with h | h
        · exact .inl h
        · exact .inr (List.mem_cons_of_mem _ h)
theorem inter_flat {β : Type} (x : List UInt8) (g : List UInt8 → List β) (hx : g x = []) : ∀ l : List (List UInt8), (inter x l).flatMap g = l.flatMap g
  | [] => rfl
  | [w] => rfl
  | w :: v :: r => by
    rw [inter_cons _ _ (by simp), List.flatMap_cons, List.flatMap_cons, List.flatMap_cons, hx, List.nil_append, inter_flat x g hx (v :: r)]
theorem joinR_free {b : UInt8} {x : List UInt8} (hx : b ∉ x) : ∀ {l : List (List UInt8)}, (∀ w ∈ l, b ∉ w) → b ∉ joinR x l
  | [], _ => by simp [joinR]
  | [w], h => by
    show b ∉ w
    exact h w (by simp)
  | w :: v :: r, h => by
    rw [joinR_cons _ _ (by simp)]
    have ih := joinR_free hx (l := v :: r) (fun u hu => h u (List.mem_cons_of_mem _ hu))
    intro hm
    rcases List.mem_append.1 hm with hm | hm
    · rcases List.mem_append.1 hm with hm | hm
      · exact h w (by simp) hm
      · exact hx hm
    · exact ih hm
theorem joinR_le (x : List UInt8) (hx : x.length ≤ 3) (c : UInt8) : ∀ l : List (List UInt8), (joinR x l).length ≤ 3 * (joinB c l).length
  | [] => by simp [joinR]
  | [w] => by
    show w.length ≤ 3 * w.length
    omega
  | w :: v :: r => by
    have ih := joinR_le x hx c (v :: r)
    rw [joinR_cons _ _ (by simp), joinB_cons _ _ _ (by simp)]
    simp only [List.length_append, List.length_cons] at ih ⊢
    omega
/-- ReplaceAll of one byte. -/
theorem replaceK_join (c : UInt8) (x : List UInt8) : ∀ l : List (List UInt8), l ≠ [] → (∀ w ∈ l, c ∉ w) → replaceK [c] x (count (joinB c l) [c]) (joinB c l) = joinR x l
  | [], h, _ => absurd rfl h
  | [w], _, h => by
    show replaceK [c] x (count w [c]) w = w
    rw [count_one, List.count_eq_zero.2 (h w (by simp))]
    rfl
  | w :: v :: r, _, h => by
    have hw := h w (by simp)
    have ih := replaceK_join c x (v :: r) (by simp) (fun u hu => h u (List.mem_cons_of_mem _ hu))
    rw [joinB_cons _ _ _ (by simp), joinR_cons _ _ (by simp), ← ih]
    have hc : count (w ++ c :: joinB c (v :: r)) [c] = count (joinB c (v :: r)) [c] + 1 := by
      rw [count_one, count_one, List.count_append, List.count_eq_zero.2 hw, List.count_cons_self]
      omega
    rw [hc, replaceK_hit _ _ _ _ w.length (index_one c w _ hw), List.take_left]
    congr 2
    rw [show w.length + [c].length = (w ++ [c]).length by simp, show w ++ c :: joinB c (v :: r) = (w ++ [c]) ++ joinB c (v :: r) by simp, List.drop_left]
theorem replaceAll_one (c : UInt8) (x : List UInt8) (hx : x ≠ [c]) (s : List UInt8) : replaceAll s [c] x = joinR x (split s [c]) := by
  obtain ⟨h1, h2, h3⟩ := split_spec c s
  have h := replaceK_join c x (split s [c]) h1 h2
  rw [h3] at h
  unfold replaceAll replace
  rw [if_neg (by simpa using fun e => hx e.symm)]
  unfold replaceNum
  rw [if_pos (.inl (by omega))]
  exact h

/-! ### words of texts -/
theorem over_words {l : List UInt8} (h : (99 : UInt8) ∉ l) : (if overD l then [] else wordsL l) = wordsL l := by
  split
  · rename_i ho
    have hall : ∀ b ∈ l, b = 32 := by
      intro b hb
      refine Classical.byContradiction fun hne => ?_
      rw [over_of ⟨b, hb, hne⟩ h] at ho
      cases ho
    unfold wordsL
    refine (List.filter_eq_nil_iff.2 fun w hw => ?_).symm
    obtain ⟨_, h2, h3⟩ := split_spec 32 l
    have hwe : w = [] := by
      cases w with
      | nil => rfl
      | cons b w' =>
        exfalso
        have hb : b ∈ l := by
          rw [← h3]
          exact joinB_mem 32 hw (by simp)
        have := hall b hb
        subst this
        exact h2 _ hw (by simp)
    rw [hwe]
    simp
  · rfl
def words2 (r : List UInt8) : List (List UInt8) := (split r [10]).flatMap wordsL
theorem words_free2 {r : List UInt8} (h : (99 : UInt8) ∉ r) : wordsP (split r [10]) = words2 r := by
  have hp : ∀ l ∈ split r [10], (99 : UInt8) ∉ l := fun l hl hb => h (by
    rw [← (split_spec 10 r).2.2]
    exact joinB_mem 10 hl hb)
  unfold wordsP words2
  generalize split r [10] = L at hp
  induction L with
  | nil => rfl
  | cons a L ih =>
    rw [List.flatMap_cons, List.flatMap_cons, over_words (hp a (by simp)), ih (fun l hl => hp l (by simp [hl]))]
/-- Words as they may stand in a line. -/
def Wds (ws : List (List UInt8)) : Prop := ws ≠ [] ∧ ∀ w ∈ ws, w ≠ [] ∧ (32 : UInt8) ∉ w ∧ (10 : UInt8) ∉ w ∧ (99 : UInt8) ∉ w
theorem lnW_wds (c : List Int) : Wds (lnW c) := by
  refine ⟨by simp [lnW], fun w hw => ⟨lnW_ne c w hw, ?_⟩⟩
  rcases List.mem_append.1 hw with h | h
  · obtain ⟨n, _, rfl⟩ := List.mem_map.1 h
    exact ⟨(itoa_free n).1, (itoa_free n).2.1, (itoa_free n).2.2.2⟩
  · rw [List.mem_singleton.1 h]; decide
theorem filter_wds : ∀ {ws : List (List UInt8)}, (∀ w ∈ ws, w ≠ []) → ws.filter (fun w : List UInt8 => !w.isEmpty) = ws := by
  intro ws h
  rw [List.filter_eq_self]
  intro w hw
  cases w with
  | nil => exact absurd rfl (h _ hw)
  | cons _ _ => rfl
theorem wordsL_join {ws : List (List UInt8)} (h : ws ≠ []) (hf : ∀ w ∈ ws, (32 : UInt8) ∉ w) : wordsL (joinB 32 ws) = ws.filter (fun w : List UInt8 => !w.isEmpty) := by
  unfold wordsL
  rw [split_join 32 ws h hf]
theorem wordsL_word {w : List UInt8} (h : w ≠ []) (hf : (32 : UInt8) ∉ w) : wordsL w = [w] := by
  have := wordsL_join (ws := [w]) (by simp) (by simpa using hf)
  rw [filter_wds (by simpa using h)] at this
  exact this
theorem flat_words : ∀ {ws : List (List UInt8)}, (∀ w ∈ ws, w ≠ [] ∧ (32 : UInt8) ∉ w) → ws.flatMap wordsL = ws
  | [], _ => rfl
  | w :: ws, h => by
    rw [List.flatMap_cons, wordsL_word (h w (by simp)).1 (h w (by simp)).2, flat_words (fun u hu => h u (by simp [hu]))]
    rfl
def repl (q : Nat) : List UInt8 := if q = 0 then [32, 32] else if q = 1 then [10] else [10, 32, 10]
theorem filter_inter (ws : List (List UInt8)) : (inter [] ws).filter (fun w : List UInt8 => !w.isEmpty) = ws.filter (fun w : List UInt8 => !w.isEmpty) := by
  have h := inter_flat [] (fun w : List UInt8 => if w.isEmpty then [] else [w]) rfl ws
  have e : ∀ l : List (List UInt8), l.flatMap (fun w : List UInt8 => if w.isEmpty then [] else [w]) = l.filter (fun w : List UInt8 => !w.isEmpty) := by
    intro l
    induction l with
    | nil => rfl
    | cons a l ih =>
      rw [List.flatMap_cons, ih, List.filter_cons]
      cases a with
      | nil => rfl
      | cons _ _ => rfl
  rw [e, e] at h
  exact h
theorem words2_join {ws : List (List UInt8)} (h : Wds ws) (q : Nat) : words2 (joinR (repl q) ws) = ws := by
  have h1 := h.1
  unfold words2 repl
  split
  · rw [show ([32, 32] : List UInt8) = 32 :: ([] ++ [32]) from rfl, joinR_inter]
    have hf : (10 : UInt8) ∉ joinB 32 (inter [] ws) := joinB_free 32 (by decide) fun w hw => by
      rcases inter_mem hw with rfl | hw
      · simp
      · exact (h.2 w hw).2.2.1
    rw [split_none 10 _ hf, List.flatMap_cons, List.flatMap_nil, List.append_nil, wordsL_join (inter_ne _ h1) (fun w hw => by
      rcases inter_mem hw with rfl | hw
      · simp
      · exact (h.2 w hw).2.1), filter_inter, filter_wds (fun w hw => (h.2 w hw).1)]
  · split
    · rw [joinR_one, split_join 10 ws h1 (fun w hw => (h.2 w hw).2.2.1), flat_words (fun w hw => ⟨(h.2 w hw).1, (h.2 w hw).2.1⟩)]
    · rw [show ([10, 32, 10] : List UInt8) = 10 :: ([32] ++ [10]) from rfl, joinR_inter, split_join 10 _ (inter_ne _ h1) (fun w hw => by
        rcases inter_mem hw with rfl | hw
        · decide
        · exact (h.2 w hw).2.2.1), inter_flat [32] wordsL (by decide +kernel), flat_words (fun w hw => ⟨(h.2 w hw).1, (h.2 w hw).2.1⟩)]
/-- A line with other spaces. -/
def chgL (n : Nat) (l : List UInt8) : List UInt8 := if n % 3 = 0 then replaceAll l [32] (repl (n / 3 % 3)) else l
theorem repl_ne (q : Nat) : repl q ≠ [32] := by
  unfold repl
  split
  · decide
  · split <;> decide
theorem repl_free (q : Nat) : (99 : UInt8) ∉ repl q := by
  unfold repl
  split
  · decide
  · split <;> decide
theorem repl_len (q : Nat) : (repl q).length ≤ 3 := by
  unfold repl
  split
  · decide
  · split <;> decide
theorem chg_len (n : Nat) (l : List UInt8) : (chgL n l).length ≤ 3 * l.length := by
  unfold chgL
  split
  · rw [replaceAll_one 32 _ (repl_ne _)]
    have h := joinR_le (repl (n / 3 % 3)) (repl_len _) 32 (split l [32])
    rwa [(split_spec 32 l).2.2] at h
  · omega
theorem chg_words (n : Nat) (c : List Int) : wordsP (split (chgL n (lnS c)) [10]) = lnW c := by
  have hw := lnW_wds c
  unfold chgL
  split
  · rw [replaceAll_one 32 _ (repl_ne _), ln_split, words_free2 (joinR_free (repl_free _) fun w h => (hw.2 w h).2.2.2), words2_join hw]
  · rw [split_none 10 _ (ln_free c)]
    unfold wordsP
    rw [List.flatMap_cons, ln_over, ln_words]
    simp
theorem chg_nil (n : Nat) : chgL n [] = [] := by
  unfold chgL
  split
  · rw [replaceAll_one 32 _ (repl_ne _), split_none 32 [] (by simp)]
    rfl
  · rfl

/-! ### the text of the statement -/
def numAt (U : List Nat) (i : Nat) : Nat := if U.length = 0 then 0 else U.getD (i % U.length) 0
def comm4 : List (List UInt8) := [[99, 32, 49, 32, 120, 32, 48], [], [32, 32, 32], [99]]
def putL (n : Nat) (l : List UInt8) : List (List UInt8) := (if n % 5 = 1 then comm4 else []) ++ [chgL n l]
def othL (U : List Nat) : Nat → List (List UInt8) → List (List UInt8)
  | _, [] => []
  | i, l :: r => putL (numAt U i) l ++ othL U (i + 1) r
def preL (U : List Nat) : List (List UInt8) := if 0 < U.length ∧ U.getD 0 0 % 2 = 1 then [[99, 32, 112, 32, 99, 110, 102, 32, 49, 32, 49], [32]] else []
def allL (U : List Nat) (f : Fm) : List (List UInt8) := preL U ++ hdS f.vars f.cls.length :: othL U 0 (f.cls.map lnS ++ [[]])
theorem wordsP_app (a b : List (List UInt8)) : wordsP (a ++ b) = wordsP a ++ wordsP b := by
  unfold wordsP
  rw [List.flatMap_append]
theorem wordsP_flat : ∀ L : List (List UInt8), wordsP (L.flatMap fun w => split w [10]) = L.flatMap fun w => wordsP (split w [10])
  | [] => rfl
  | a :: L => by
    rw [List.flatMap_cons, List.flatMap_cons, wordsP_app, wordsP_flat L]
theorem comm_words : comm4.flatMap (fun w => wordsP (split w [10])) = [] := by decide +kernel
theorem put_words (n : Nat) (l : List UInt8) : (putL n l).flatMap (fun w => wordsP (split w [10])) = wordsP (split (chgL n l) [10]) := by
  unfold putL
  rw [List.flatMap_append, List.flatMap_cons, List.flatMap_nil, List.append_nil]
  split
  · rw [comm_words, List.nil_append]
  · rfl
theorem oth_words (U : List Nat) : ∀ (cls : List (List Int)) (i : Nat), (othL U i (cls.map lnS ++ [[]])).flatMap (fun w => wordsP (split w [10])) = cls.flatMap lnW
  | [], i => by
    show (putL (numAt U i) [] ++ othL U (i + 1) []).flatMap _ = _
    rw [List.flatMap_append, put_words, chg_nil]
    show wordsP (split [] [10]) ++ [] = []
    decide +kernel
  | c :: cls, i => by
    show (putL (numAt U i) (lnS c) ++ othL U (i + 1) (cls.map lnS ++ [[]])).flatMap _ = _
    rw [List.flatMap_append, put_words, chg_words, oth_words U cls (i + 1), List.flatMap_cons]
theorem oth_size (U : List Nat) : ∀ (L : List (List UInt8)) (i : Nat), ((othL U i L).map List.length).sum ≤ 3 * (L.map List.length).sum + 11 * L.length ∧ (othL U i L).length ≤ 5 * L.length
  | [], i => by simp [othL]
  | l :: L, i => by
    have ih := oth_size U L (i + 1)
    have hc := chg_len (numAt U i) l
    have hp : ((putL (numAt U i) l).map List.length).sum ≤ 3 * l.length + 11 ∧ (putL (numAt U i) l).length ≤ 5 := by
      unfold putL
      split
      · simp [comm4]
        omega
      · simp
        omega
    unfold othL
    simp only [List.map_append, List.sum_append, List.length_append, List.map_cons, List.sum_cons, List.length_cons]
    omega
theorem pre_over (U : List Nat) : ∀ x ∈ preL U, overD x = true := by
  unfold preL
  split
  · decide +kernel
  · intro x hx; cases hx
theorem pre_split (U : List Nat) : (preL U).flatMap (fun w => split w [10]) = preL U := by
  unfold preL
  split
  · decide +kernel
  · rfl
theorem all_size {f : Fm} (hk : FmK f) (U : List Nat) : (joinB 10 (allL U f)).length ≤ 2000000 ∧ (allL U f).length ≤ 600000 := by
  have h1 := joinB_le 10 (allL U f)
  have h2 := oth_size U (f.cls.map lnS ++ [[]]) 0
  have h3 := split_sum 10 (textD f)
  have h4 := hk.sz
  rw [text_split] at h3
  have h5 : ((preL U).map List.length).sum ≤ 20 ∧ (preL U).length ≤ 2 := by
    unfold preL
    split
    · decide
    · decide
  unfold allL at h1 ⊢
  simp only [List.map_append, List.sum_append, List.length_append, List.map_cons, List.sum_cons, List.length_cons, List.length_map, List.length_nil, List.map_nil, List.sum_nil] at h1 h2 h3 ⊢
  omega
/-- Comments, empty lines, spaces and line feeds change nothing. -/
theorem all_read {f : Fm} (hk : FmK f) (U : List Nat) : readD (joinB 10 (allL U f)) = (f, 0, 0) := by
  have hs := (all_size hk U).1
  unfold readD
  rw [if_neg (by omega)]
  unfold allL at hs ⊢
  rw [split_all 10 _ (by simp), List.flatMap_append, List.flatMap_cons, pre_split, split_none 10 _ (hd_free _ _)]
  refine readL_like hk.ok _ _ (pre_over U) ?_
  show wordsP (List.flatMap _ _) = _
  rw [wordsP_flat, oth_words]
theorem all_canon {f : Fm} (hk : FmK f) (U : List Nat) : canonD (joinB 10 (allL U f)) = (textD f, 0, 0) := by
  unfold canonD
  rw [all_read hk U, if_pos rfl, hk.write]
/-- All clauses in one line. -/
def oneL (f : Fm) : List UInt8 := hdS f.vars f.cls.length ++ 10 :: joinB 32 (f.cls.map lnS ++ [[]])
theorem one_size {f : Fm} (hk : FmK f) : (oneL f).length ≤ 200000 := by
  have h1 := joinB_le 32 (f.cls.map lnS ++ [[]])
  have h3 := split_sum 10 (textD f)
  have h4 := hk.sz
  rw [text_split] at h3
  unfold oneL
  simp only [List.map_append, List.sum_append, List.length_append, List.map_cons, List.sum_cons, List.length_cons, List.length_map, List.length_nil, List.map_nil, List.sum_nil] at h1 h3 ⊢
  omega
theorem one_read {f : Fm} (hk : FmK f) : readD (oneL f) = (f, 0, 0) := by
  have hs := one_size hk
  have hmem : ∀ w ∈ f.cls.map lnS ++ [[]], (10 : UInt8) ∉ w ∧ (99 : UInt8) ∉ w := by
    intro w hw
    rcases List.mem_append.1 hw with hw | hw
    · obtain ⟨c, _, rfl⟩ := List.mem_map.1 hw
      exact ⟨ln_free c, ln_no c 99 (fun n => (itoa_free n).2.2.2) (by decide) (by decide)⟩
    · rw [List.mem_singleton.1 hw]
      simp
  have hj : oneL f = joinB 10 [hdS f.vars f.cls.length, joinB 32 (f.cls.map lnS ++ [[]])] := by
    rw [joinB_cons _ _ _ (by simp)]
    rfl
  unfold readD
  rw [if_neg (by omega), hj, split_join 10 _ (by simp) (fun w hw => by
    simp only [List.mem_cons, List.not_mem_nil, or_false] at hw
    rcases hw with rfl | rfl
    · exact hd_free _ _
    · exact joinB_free 32 (by decide) fun w hw => (hmem w hw).1)]
  refine readL_like hk.ok [] _ (fun x hx => by cases hx) ?_
  unfold wordsP
  rw [List.flatMap_cons, List.flatMap_nil, List.append_nil, over_words (joinB_free 32 (by decide) fun w hw => (hmem w hw).2)]
  unfold wordsL
  rw [split_all 32 _ (by simp), List.filter_flatMap, List.flatMap_append, List.flatMap_map]
  have h1 : ([[]] : List (List UInt8)).flatMap (fun a => (split a [32]).filter (fun w : List UInt8 => !w.isEmpty)) = [] := by decide +kernel
  rw [h1, List.append_nil]
  congr 1
  funext c
  exact ln_words c
end Go.Proofs.YtkpcpclaadgnbaaGreatDoor
