/-
  A map from references to numbers: look-up and store.
-/
import Derived.Test.YtamoniljgifggaaMap
set_option linter.unusedVariables false
set_option linter.unusedSimpArgs false
namespace Go.Proofs.Ytamoniljgifggaa
open Go.RowKit

def iEnt (x : Int × Int) : Value × Value := (.int .i64 x.1, .int .i64 x.2)
/-- Block mb is a map with these entries, in this order. -/
def MapI (w : World) (mb : Nat) (L : List (Int × Int)) : Prop := ∃ es clock, w.heap[mb]? = some (.map es clock) ∧ es.toList.map (fun e => (e.key, e.val)) = L.map iEnt
def lookI (L : List (Int × Int)) (a : Int) : Option Int := (L.find? fun x => x.1 == a).map (·.2)
/-- A number for a key: the first entry with it, or a new one behind the others. -/
def putI : List (Int × Int) → Int → Int → List (Int × Int)
  | [], a, v => [(a, v)]
  | x :: L, a, v => if x.1 == a then (a, v) :: L else x :: putI L a v
theorem putI_new (L : List (Int × Int)) (a v : Int) (h : lookI L a = none) : putI L a v = L ++ [(a, v)] := by
  induction L with
  | nil => rfl
  | cons x L ih =>
    simp only [lookI, List.find?_cons] at h
    cases hx : (x.1 == a) with
    | true => simp [hx] at h
    | false =>
      simp only [hx] at h
      simp only [putI, hx, Bool.false_eq_true, if_false, List.cons_append]
      rw [ih h]
theorem lookI_putI (L : List (Int × Int)) (a v b : Int) : lookI (putI L a v) b = if a = b then some v else lookI L b := by
  induction L with
  | nil =>
    simp only [putI, lookI, List.find?_cons, List.find?_nil]
    by_cases h : a = b
    · simp [h]
    · have h1 : (a == b) = false := by simpa using h
      simp [h, h1]
  | cons x L ih =>
    cases hx : (x.1 == a) with
    | true =>
      have hxa : x.1 = a := by simpa using hx
      simp only [putI, hx, if_true, lookI, List.find?_cons]
      by_cases h : a = b
      · simp [h]
      · have h1 : (a == b) = false := by simpa using h
        have h2 : (x.1 == b) = false := by rw [hxa]; exact h1
        simp [h, h1, h2]
    | false =>
      simp only [putI, hx, Bool.false_eq_true, if_false, lookI, List.find?_cons]
      cases hb : (x.1 == b) with
      | true =>
        have hne : ¬ a = b := by
          have h1 : x.1 = b := by simpa using hb
          have h2 : ¬ x.1 = a := by simpa using hx
          intro e
          exact h2 (h1.trans e.symm)
        simp [hne]
      | false => simpa only [lookI] using ih

theorem MapI.lt {w : World} {mb : Nat} {L : List (Int × Int)} (h : MapI w mb L) : mb < w.heap.size := by
  obtain ⟨es, clock, h, _⟩ := h
  exact lt_of_heap h
theorem MapI.fr {w w' : World} {mb : Nat} {L : List (Int × Int)} {F : Nat → Prop} (h : MapI w mb L) (hf : Fr F w w') (hF : ¬ F mb) : MapI w' mb L := by
  have := h.lt
  obtain ⟨es, clock, h, h2⟩ := h
  exact ⟨es, clock, (hf.block mb this hF).trans h, h2⟩
theorem MapI.below {w w' : World} {mb : Nat} {L : List (Int × Int)} (h : MapI w mb L) (hb : Below w.heap.size w w') : MapI w' mb L := h.fr (Fr.of_below (F := fun _ => False) hb) (fun h => h)
theorem MapI.ne {w : World} {mb g : Nat} {L : List (Int × Int)} {t : TypeId} {cs : Array Value} {fr : Nat × Nat} (h : MapI w mb L) (hb : w.heap[g]? = some (.cells cs t fr)) : g ≠ mb := by
  rintro rfl
  obtain ⟨es, clock, h, _⟩ := h
  rw [h] at hb
  cases hb
theorem MapI.new (w : World) : MapI (w.alloc (.map #[] 0)) w.heap.size [] := ⟨#[], 0, heap_alloc_new w _, rfl⟩

theorem findNow_I (a : Int) : ∀ (L : List (Int × Int)) (es : List MapEntry) (i : Nat), es.map (fun e => (e.key, e.val)) = L.map iEnt →
    ∃ r, Instr.findNow (.int .i64) (.int .i64 a) es i = some r ∧ r.map (·.2) = (lookI L a).map (Value.int .i64) ∧
      (∀ j v, r = some (j, v) → ∃ k, j = i + k ∧ k < es.length ∧ (es[k]?).map (·.key) = some (.int .i64 a) ∧ ∀ v', (es.modify k fun e => { e with key := .int .i64 a, val := .int .i64 v' }).map (fun e => (e.key, e.val)) = (putI L a v').map iEnt)
  | [], es, i, h => by
    have : es = [] := by simpa using h
    subst this
    exact ⟨none, rfl, rfl, fun j v h => by cases h⟩
  | x :: L, es, i, h => by
    cases es with
    | nil => simp at h
    | cons e es =>
      simp only [List.map_cons, List.cons.injEq] at h
      obtain ⟨hx, hr⟩ := h
      have hk : e.key = .int .i64 x.1 := congrArg Prod.fst hx
      have hv : e.val = .int .i64 x.2 := congrArg Prod.snd hx
      cases hc : (x.1 == a) with
      | true =>
        have hxa : x.1 = a := by simpa using hc
        have hc' : (a == x.1) = true := by rw [hxa]; simp
        refine ⟨some (i, e.val), ?_, ?_, ?_⟩
        · simp [Instr.findNow, Instr.sameNow, hk, hc']
        · simp [lookI, List.find?_cons, hc, hv]
        · rintro j v heq
          injection heq with heq
          injection heq with h1 h2
          refine ⟨0, by omega, by simp, by simp [hk, hxa], fun v' => ?_⟩
          simp only [putI, hc, if_true, List.modify_zero_cons, List.map_cons]
          rw [hr]
          rfl
      | false =>
        have hc' : (a == x.1) = false := by
          have : ¬ x.1 = a := by simpa using hc
          simp; exact fun e => this e.symm
        obtain ⟨r, h1, h2, h3⟩ := findNow_I a L es (i + 1) hr
        refine ⟨r, ?_, ?_, ?_⟩
        · simp [Instr.findNow, Instr.sameNow, hk, hc', h1]
        · simp only [lookI, List.find?_cons, hc]
          exact h2
        · intro j v heq
          obtain ⟨k, hk1, hk2, hk3, hk4⟩ := h3 j v heq
          refine ⟨k + 1, by omega, by simp; omega, by simpa using hk3, fun v' => ?_⟩
          simp only [putI, hc, Bool.false_eq_true, if_false, List.modify_succ_cons, List.map_cons]
          rw [hk4 v', hx]

theorem run_lookup_I (w : World) (mb : Nat) (L : List (Int × Int)) (h : MapI w mb L) (a : Int) :
    (Instr.lookup 106 (.map (some mb)) (.int .i64 a) false).run Try.prog w = .ok (.int .i64 ((lookI L a).getD 0)) w := by
  obtain ⟨es, clock, hb, hes⟩ := h
  obtain ⟨r, h1, h2, _⟩ := findNow_I a L es.toList 0 hes
  have hz : (zeroValue 3).run Try.prog w = .ok (.int .i64 0) w := by kernel_rfl
  have hg := MapKept.run_getObj_map (P := Try.prog) hb
  have hck : ∀ em, (Instr.checkKey em 10000 35 (.int .i64 a)).run Try.prog w = .ok () w := by
    intro em
    have : ∀ n, (Instr.checkKey em (n + 1) 35 (.int .i64 a)).run Try.prog w = .ok () w := fun n => by simp [Instr.checkKey, run_underlying Try.underlying35]
    exact this 9999
  have hf : (Instr.findKey 35 (.int .i64 a) es.toList).run Try.prog w = .ok r w := by simp [Instr.findKey, run_underlying Try.underlying35, h1]
  simp only [Instr.lookup, run_underlying Try.underlying106, Sem.run_bind, Result.andThen_ok, Sem.run_pure, hg, hck, hf]
  cases hl : lookI L a with
  | none =>
    rw [hl] at h2
    have : r = none := by simpa using h2
    subst this
    simp [hz]
  | some v =>
    rw [hl] at h2
    cases r with
    | none => simp at h2
    | some p =>
      simp at h2
      simp [h2]

theorem run_update_I (w : World) (mb : Nat) (L : List (Int × Int)) (h : MapI w mb L) (a v : Int) :
    ∃ o, (Instr.mapUpdate 106 (.map (some mb)) (.int .i64 a) (.int .i64 v)).run Try.prog w = .ok () (ChangeMaps.setBlock w mb o) ∧ MapI (ChangeMaps.setBlock w mb o) mb (putI L a v) := by
  have hlt := h.lt
  obtain ⟨es, clock, hb, hes⟩ := h
  obtain ⟨r, h1, h2, h3⟩ := findNow_I a L es.toList 0 hes
  have hg := MapKept.run_getObj_map (P := Try.prog) hb
  have hck : (Instr.checkKey false 10000 35 (.int .i64 a)).run Try.prog w = .ok () w := by
    have : ∀ n, (Instr.checkKey false (n + 1) 35 (.int .i64 a)).run Try.prog w = .ok () w := fun n => by simp [Instr.checkKey, run_underlying Try.underlying35]
    exact this 9999
  have hf : (Instr.findKey 35 (.int .i64 a) es.toList).run Try.prog w = .ok r w := by simp [Instr.findKey, run_underlying Try.underlying35, h1]
  cases r with
  | none =>
    have hn : lookI L a = none := by
      cases hl : lookI L a with
      | none => rfl
      | some v => rw [hl] at h2; simp at h2
    refine ⟨.map (es.push { key := .int .i64 a, val := .int .i64 v, born := clock }) (clock + 1), ?_, ?_⟩
    · simp only [Instr.mapUpdate, run_underlying Try.underlying106, Sem.run_bind, Result.andThen_ok, Sem.run_pure, hg, hck, hf]
      exact MapKept.run_setObj_map _ hb
    · rw [putI_new L a v hn]
      exact ⟨es.push { key := .int .i64 a, val := .int .i64 v, born := clock }, clock + 1, by simp [ChangeMaps.setBlock, hlt], by simp [hes, iEnt]⟩
  | some p =>
    obtain ⟨j, u⟩ := p
    obtain ⟨k, hk1, hk2, hk3, hk4⟩ := h3 j u rfl
    obtain rfl : j = k := by omega
    have hkey : ((es[j]?).map (·.key)).getD (.int .i64 a) = .int .i64 a := by
      have : (es.toList[j]?).map (·.key) = some (.int .i64 a) := hk3
      rw [Array.getElem?_toList] at this
      rw [this]; rfl
    have hst : (Instr.keyThatStays (.int .i64 a) (.int .i64 a)).run Try.prog w = .ok (.int .i64 a) w := by
      have : Instr.sameBits 10000 (.int .i64 a) (.int .i64 a) = true := by simp [Instr.sameBits]
      simp [Instr.keyThatStays, this]
    refine ⟨.map (es.modify j fun e => { e with key := .int .i64 a, val := .int .i64 v }) clock, ?_, ?_⟩
    · simp only [Instr.mapUpdate, run_underlying Try.underlying106, Sem.run_bind, Result.andThen_ok, Sem.run_pure, hg, hck, hf, hkey, hst]
      exact MapKept.run_setObj_map _ hb
    · exact ⟨es.modify j fun e => { e with key := .int .i64 a, val := .int .i64 v }, clock, by simp [ChangeMaps.setBlock, hlt], by rw [Array.toList_modify]; exact hk4 v⟩
end Go.Proofs.Ytamoniljgifggaa
