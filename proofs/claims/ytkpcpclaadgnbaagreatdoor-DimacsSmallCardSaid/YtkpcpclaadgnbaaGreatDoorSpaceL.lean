/-
  salvorlaw06.DimacsSpaces: what its walk needs.
-/
import Derived.Test.YtkpcpclaadgnbaaGreatDoorSpaceP
import Derived.Test.YtkpcpclaadgnbaaGreatDoorWrongL6
import Derived.Test.YtkpcpclaadgnbaaGreatDoorOpen6
import Derived.ArgAppend
set_option linter.unusedVariables false
set_option linter.unusedSimpArgs false
namespace Go.Proofs.YtkpcpclaadgnbaaGreatDoor
open Go.RowKit Go.Shelf

theorem el_str : El Tryz.prog 47 9 1 := El.mk' (z := .string ⟨#[]⟩) (bytes := 16) Tryz.underlying47 (by kernel_rfl) rfl (by omega) (by omega)
/-- A row of strings of the call's own, or the first of the strings of a block, cut to one. -/
def RowS (w : World) (B q : Nat) (x0 : Value) (v : Value) (n : Nat) (xs : List Value) : Prop :=
  w.ownsRow B 9 1 v n xs ∨ (v = .slice (some ⟨q, 0, none⟩) 1 1 ∧ n = 1 ∧ xs = [x0] ∧ w.cell? ⟨q, 0, none⟩ = some x0)
theorem RowS.len {w : World} {B q : Nat} {x0 v : Value} {n : Nat} {xs : List Value} (h : RowS w B q x0 v n xs) : xs.length = n := by
  rcases h with h | ⟨_, rfl, rfl, _⟩
  · have := h.1
    omega
  · rfl
theorem RowS.below {w w' : World} {B q : Nat} {x0 v : Value} {n : Nat} {xs : List Value} (h : RowS w B q x0 v n xs) (hq : q < w.heap.size) (hb : Below w.heap.size w w') : RowS w' B q x0 v n xs := by
  rcases h with h | ⟨h1, h2, h3, h4⟩
  · exact .inl (own_fr h (Fr.of_below (F := fun _ => False) hb) (fun _ _ h => h))
  · exact .inr ⟨h1, h2, h3, (hb.cell (p := ⟨q, 0, none⟩) hq).trans h4⟩
theorem RowS.alloc {w : World} {B q : Nat} {x0 v : Value} {n : Nat} {xs : List Value} (h : RowS w B q x0 v n xs) (hq : q < w.heap.size) (o : Obj) : RowS (w.alloc o) B q x0 v n xs := h.below hq (balloc (Below.refl _ _) o)
theorem run_appS {w : World} {B q : Nat} {x0 v : Value} {n : Nat} {xs : List Value} (ty : TypeId) (h : RowS w B q x0 v n xs) (ad : Addr) (m c : Nat) (news : List Value) (hr : Rd w (some ad) news) (hl : news.length = m) (hm : 0 < m) (h1 : ∀ u ∈ news, u.oneCell' = true) (hnm : n + m ≤ 1000000000) (hB : B ≤ w.heap.size) :
    ∃ A' c' w', (Builtin.append_ #[47, 47] ty #[v, .slice (some ad) m c]).run Tryz.prog w = .ok (.slice A' (n + m) c') w' ∧ w'.ownsRow B 9 1 (.slice A' (n + m) c') (n + m) (xs ++ news) ∧ Below B w w' := by
  rcases h with h | ⟨rfl, rfl, rfl, h4⟩
  · obtain ⟨A', c', w', e1, e2, e3, _⟩ := run_app (P := Tryz.prog) el_str ty B v n xs h (some ad) m c news hr (by omega) h1 hnm hB
    exact ⟨A', c', w', e1, e2, (Below.refl _ _).grown e3 hB (fun k hk => (h.lt k hk).1)⟩
  · obtain ⟨ht, ⟨i, z, hi, hz, hs, hzs, hb⟩, hp⟩ := el_str
    obtain ⟨v', w', e1, e2, e3⟩ := run_append_arg_grows (P := Tryz.prog) w 47 ty 9 i z 1 i.bytes ht hi hz hs rfl hzs hp ⟨q, 0, none⟩ 1 1 [x0] rfl (fun j u hj => by
      match j, hj with
      | 0, hj =>
        obtain rfl := Option.some.inj hj
        exact h4) ad m c news (by omega) hr.news (by omega) (by unfold maxLen; omega) (by
          have := Nat.mul_le_mul hnm hb
          omega)
    have hv : ∃ A' c', v' = .slice A' (1 + m) c' := by
      rcases e2.2 with ⟨_, h0⟩ | ⟨g, cap, cur, rfl, _⟩
      · omega
      · exact ⟨_, _, rfl⟩
    obtain ⟨A', c', rfl⟩ := hv
    refine ⟨A', c', w', e1, ⟨e2.1, ?_⟩, (Below.refl _ _).grown e3 hB (fun k hk => by cases hk)⟩
    rcases e2.2 with ⟨h0, h1⟩ | ⟨g, cap, cur, g1, g2, g3⟩
    · omega
    · exact .inr ⟨g, cap, cur, g1, by omega, g3⟩
theorem wpList_appS {w : World} {ops : Array Oper} {rest : List Oper} {o : Oper} {a : Act} {Q : Exit → Act → World → Prop} (hgd : o.guard = none) (s x : Operand) (ho : o.op = .call { callee := .builtin .append, args := #[s, x], argTypes := #[47, 47] })
    (B q : Nat) (x0 v : Value) (n : Nat) (xs : List Value) (hs : a.eval s = v) (h : RowS w B q x0 v n xs)
    (ad : Addr) (m c : Nat) (news : List Value) (hx : a.eval x = .slice (some ad) m c) (hr : Rd w (some ad) news) (hl : news.length = m) (hm : 0 < m) (h1 : ∀ u ∈ news, u.oneCell' = true) (hnm : n + m ≤ 1000000000) (hB : B ≤ w.heap.size)
    (hK : ∀ A' c' w', w'.ownsRow B 9 1 (.slice A' (n + m) c') (n + m) (xs ++ news) → Below B w w' → wpList Tryz.prog ops Q rest (a.put o.dst (.slice A' (n + m) c')) w') : wpList Tryz.prog ops Q (o :: rest) a w :=
  wpList_plain hgd fun K hK' => by
    obtain ⟨A', c', w', e1, e2, e3⟩ := run_appS (ty := o.type) h ad m c news hr hl hm h1 hnm hB
    unfold Oper.wp execOp
    simp only [ho, resolve, invoke, builtin, Sem.run_bind, Sem.run_pure, Result.andThen_ok, List.map_toArray, List.map_cons, List.map_nil, hs, hx, e1]
    exact hK' _ _ (hK A' c' w' e2 e3)

/-! ### strings as values -/
def valS (L : List (List UInt8)) : List Value := L.map fun l => Value.string (str l)
theorem valS_app (a b : List (List UInt8)) : valS (a ++ b) = valS a ++ valS b := List.map_append
theorem one_strs (L : List (List UInt8)) : ∀ u ∈ valS L, u.oneCell' = true := by
  intro u hu
  obtain ⟨l, _, rfl⟩ := List.mem_map.1 hu
  rfl
theorem strs_map : ∀ {Ws : List ByteArray} {L : List (List UInt8)}, Ws.map (·.data.toList) = L → Ws = L.map str
  | [], L, h => by
    rw [← h]
    rfl
  | x :: Ws, [], h => by simp at h
  | x :: Ws, l :: L, h => by
    simp only [List.map_cons, List.cons.injEq] at h
    rw [List.map_cons, ← strs_map h.2]
    congr 1
    exact data_inj (by rw [str_data]; exact h.1)
theorem strs_data (L : List (List UInt8)) : (L.map str).map (·.data.toList) = L := by
  rw [List.map_map]
  conv => rhs; rw [← List.map_id L]
  congr 1
theorem map_valS (L : List (List UInt8)) : (L.map str).map Value.string = valS L := by
  unfold valS
  rw [List.map_map]
  rfl
theorem oth_take {U : List Nat} : ∀ {L : List (List UInt8)} {i k : Nat} {l : List UInt8}, L[k]? = some l → othL U i (L.take (k + 1)) = othL U i (L.take k) ++ putL (numAt U (i + k)) l
  | [], _, _, _, h => by simp at h
  | x :: L, i, 0, l, h => by
    simp at h
    subst h
    simp [othL]
  | x :: L, i, k + 1, l, h => by
    rw [List.take_succ_cons, List.take_succ_cons, othL, othL, oth_take (i := i + 1) (by simpa using h), show i + 1 + k = i + (k + 1) by omega]
    simp
theorem text_end (f : Fm) : Lib.hasSuffix (textD f) [10] = true := by
  unfold Lib.hasSuffix
  rw [List.isSuffixOf_iff_suffix]
  by_cases h0 : f.cls = []
  · refine ⟨hdS f.vars f.cls.length, ?_⟩
    unfold textD
    rw [h0]
    rfl
  · obtain ⟨pre, c, hc⟩ : ∃ pre c, f.cls = pre ++ [c] := ⟨_, _, (List.dropLast_concat_getLast h0).symm⟩
    refine ⟨hdS f.vars f.cls.length ++ 10 :: (txS pre ++ lnS c), ?_⟩
    unfold textD
    have : txS f.cls = txS pre ++ lnS c ++ [10] := by
      rw [hc]
      unfold txS
      rw [List.flatMap_append]
      simp
    rw [this]
    simp
theorem replC6 (l : List UInt8) (q : Nat) (w : World) (hv : Hid (Vars w)) (hl : l.length ≤ 100000) :
    Calls Tryz.prog 30 #[.string (str l), .string ⟨#[32]⟩, .string (str (repl q))] w fun e w' => e = .returned (.string (str (Lib.replaceAll l [32] (repl q)))) ∧ Below w.heap.size w w' := by
  obtain ⟨m, hm⟩ := hv.out.max
  have hc := Lib.countB_le ⟨#[32]⟩ (by decide) (str l).size (str l) (Nat.le_refl _)
  have hls : (str l).size ≤ 100000 := by rw [str_size]; exact hl
  have hr : (str (repl q)).size ≤ 3 := by rw [str_size]; exact repl_len q
  have hm3 := Nat.mul_le_mul hc hr
  refine (Tryz.strings_ReplaceAll (str l) ⟨#[32]⟩ (str (repl q)) m w (by omega) hm (by decide) (by omega)).mono ?_
  rintro e w' ⟨rfl, hb⟩
  refine ⟨?_, hb⟩
  rw [str_data, str_data]
  rfl
theorem endsC6 (f : Fm) (w : World) (hk : FmK f) : Calls Tryz.prog 29 #[.string (str (textD f)), .string ⟨#[10]⟩] w fun e w' => e = .returned (.bool true) ∧ w = w' := by
  refine (Tryz.strings_HasSuffix (str (textD f)) ⟨#[10]⟩ w (by rw [str_size]; have := hk.sz; omega)).mono ?_
  rintro e w' ⟨rfl, rfl⟩
  refine ⟨?_, rfl⟩
  rw [str_data]
  exact ret_bool (text_end f)
theorem joinR6 (A : Option Addr) (n c : Nat) (L : List (List UInt8)) (sep : UInt8) (T : List UInt8) (w : World) (h : Hid (Rd w A (valS L))) (hL : L ≠ []) (hl : L.length = n) (hc : n ≤ c) (hn : n ≤ 1000) (hT : joinB sep L = T) (hlT : T.length ≤ 10000000) :
    Calls Tryz.prog 27 #[.slice A n c, .string ⟨#[sep]⟩] w fun e w' => e = .returned (.string (str T)) ∧ Below w.heap.size w w' := by
  obtain ⟨b, off, rfl, hb, hcell⟩ := h.out.cells (by
    intro e
    apply hL
    unfold valS at e
    simpa using e)
  have hj : Lib.join ((L.map str).map (·.data.toList)) [sep] = T := by rw [strs_data, join_joinB6, hT]
  have h1 := Tryz.strings_Join b off c (L.map str) ⟨#[sep]⟩ w (fun j x hj => hcell j _ (by rw [← map_valS, List.getElem?_map, hj]; rfl)) hb (by rw [List.length_map]; omega) (by rw [List.length_map]; omega) (by
    show (Lib.join ((L.map str).map (·.data.toList)) [sep]).length ≤ _
    rw [hj]
    omega)
  rw [List.length_map, hl] at h1
  refine h1.mono ?_
  rintro e w' ⟨rfl, hb⟩
  refine ⟨?_, hb⟩
  show _ = Ending.returned (.string (str T))
  rw [← hj]
  rfl
end Go.Proofs.YtkpcpclaadgnbaaGreatDoor
