/-
  A map whose keys are the two sides of an and: look-up and store.
-/
import Derived.Test.YtamoniljgifggaaRows
import Derived.Test.YtamoniljgifggaaApp
import Derived.Test.YtamoniljgifggaaPlain
import Derived.Maps.Own
set_option linter.unusedVariables false
set_option linter.unusedSimpArgs false
namespace Go.Proofs.Ytamoniljgifggaa
open Go.RowKit

/-- An entry: two sides, and a number. -/
def sEnt (x : Int × Int × Int) : Value × Value := (.agg #[.int .i64 x.1, .int .i64 x.2.1], .int .i64 x.2.2)
/-- Block mb is a map with these entries, in this order. -/
def MapAt (w : World) (mb : Nat) (L : List (Int × Int × Int)) : Prop := ∃ es clock, w.heap[mb]? = some (.map es clock) ∧ es.toList.map (fun e => (e.key, e.val)) = L.map sEnt

theorem MapAt.lt {w : World} {mb : Nat} {L : List (Int × Int × Int)} (h : MapAt w mb L) : mb < w.heap.size := by
  obtain ⟨es, clock, h, _⟩ := h
  exact lt_of_heap h
theorem MapAt.fr {w w' : World} {mb : Nat} {L : List (Int × Int × Int)} {F : Nat → Prop} (h : MapAt w mb L) (hf : Fr F w w') (hF : ¬ F mb) : MapAt w' mb L := by
  have := h.lt
  obtain ⟨es, clock, h, h2⟩ := h
  exact ⟨es, clock, (hf.block mb this hF).trans h, h2⟩

theorem run_equal_sides (a b c d' : Int) (w : World) : (Op.equal 139 (.agg #[.int .i64 a, .int .i64 b]) (.agg #[.int .i64 c, .int .i64 d'])).run Try.prog w = .ok (a == c && b == d') w := by
  have h0 : ∀ n, (Op.equalIn (n + 1) 35 (.int .i64 a) (.int .i64 c)).run Try.prog w = .ok (a == c) w := fun n => by simp [Op.equalIn, run_underlying Try.underlying35]
  have h1 : ∀ n, (Op.equalIn (n + 1) 35 (.int .i64 b) (.int .i64 d')).run Try.prog w = .ok (b == d') w := fun n => by simp [Op.equalIn, run_underlying Try.underlying35]
  have hst : Try.prog.stoodInHeld 139 = false := by kernel_rfl
  have hk : ∀ d, (Op.equalIn (d + 2) 139 (.agg #[.int .i64 a, .int .i64 b]) (.agg #[.int .i64 c, .int .i64 d'])).run Try.prog w = .ok (a == c && b == d') w := by
    intro d
    rw [Op.equalIn]
    simp [run_underlying Try.underlying139, run_underlying Try.underlying35, hst, part, isAgg, h0 d, h1 d]
    by_cases e1 : a = c <;> by_cases e2 : b = d' <;> simp [e1, e2]
  simp [Op.equal, Op.maxDepth, hk 9998]

theorem run_findAsking (a b : Int) (w : World) : ∀ (L : List (Int × Int × Int)) (es : List MapEntry) (i : Nat), es.map (fun e => (e.key, e.val)) = L.map sEnt →
    ∃ r, (Instr.findAsking 139 (.agg #[.int .i64 a, .int .i64 b]) es i).run Try.prog w = .ok r w ∧ r.map (·.2) = (lookS L a b).map (Value.int .i64) ∧ (lookS L a b = none → r = none)
  | [], es, i, h => by
    have : es = [] := by simpa using h
    subst this
    exact ⟨none, by simp [Instr.findAsking], rfl, fun _ => rfl⟩
  | x :: L, es, i, h => by
    cases es with
    | nil => simp at h
    | cons e es =>
      simp only [List.map_cons, List.cons.injEq] at h
      obtain ⟨hx, hr⟩ := h
      have hk : e.key = .agg #[.int .i64 x.1, .int .i64 x.2.1] := congrArg Prod.fst hx
      have hv : e.val = .int .i64 x.2.2 := congrArg Prod.snd hx
      have he := run_equal_sides a b x.1 x.2.1 w
      by_cases hc : (x.1 == a && x.2.1 == b) = true
      · have hc' : (a == x.1 && b == x.2.1) = true := by
          simp only [Bool.and_eq_true, beq_iff_eq] at hc ⊢
          exact ⟨hc.1.symm, hc.2.symm⟩
        rw [hc'] at he
        refine ⟨some (i, e.val), ?_, ?_, ?_⟩
        · simp [Instr.findAsking, hk, he]
        · simp [lookS, List.find?_cons, hc, hv]
        · simp [lookS, List.find?_cons, hc]
      · have hc0 : (x.1 == a && x.2.1 == b) = false := by simpa using hc
        have hc' : (a == x.1 && b == x.2.1) = false := by
          rw [← hc0, Bool.eq_iff_iff]
          simp only [Bool.and_eq_true, beq_iff_eq]
          exact ⟨fun h => ⟨h.1.symm, h.2.symm⟩, fun h => ⟨h.1.symm, h.2.symm⟩⟩
        rw [hc'] at he
        obtain ⟨r, h1, h2, h3⟩ := run_findAsking a b w L es (i + 1) hr
        have hl : lookS (x :: L) a b = lookS L a b := by simp only [lookS, List.find?_cons, hc0]
        rw [hl]
        exact ⟨r, by simp [Instr.findAsking, hk, he, h1], h2, h3⟩

theorem run_findKey_sides (a b : Int) (w : World) (L : List (Int × Int × Int)) (es : List MapEntry) (h : es.map (fun e => (e.key, e.val)) = L.map sEnt) :
    ∃ r, (Instr.findKey 139 (.agg #[.int .i64 a, .int .i64 b]) es).run Try.prog w = .ok r w ∧ r.map (·.2) = (lookS L a b).map (Value.int .i64) ∧ (lookS L a b = none → r = none) := by
  cases es with
  | nil =>
    have : L = [] := by simpa [eq_comm] using h
    subst this
    exact ⟨none, by simp [Instr.findKey, Instr.findNow, run_underlying Try.underlying139], rfl, fun _ => rfl⟩
  | cons e es =>
    obtain ⟨r, h1, h2⟩ := run_findAsking a b w L (e :: es) 0 h
    have hk : ∃ x y, e.key = .agg #[x, y] := by
      cases L with
      | nil => simp at h
      | cons x L => simp only [List.map_cons, List.cons.injEq] at h; exact ⟨_, _, congrArg Prod.fst h.1⟩
    obtain ⟨x, y, hk⟩ := hk
    refine ⟨r, ?_, h2⟩
    simp [Instr.findKey, Instr.findNow, Instr.sameNow, run_underlying Try.underlying139, hk, h1]

theorem run_checkKey_sides (em : Bool) (a b : Int) (w : World) : (Instr.checkKey em 10000 139 (.agg #[.int .i64 a, .int .i64 b])).run Try.prog w = .ok () w := by
  have h0 : ∀ n c, (Instr.checkKey em (n + 1) 35 (.int .i64 c)).run Try.prog w = .ok () w := fun n c => by simp [Instr.checkKey, run_underlying Try.underlying35]
  have hk : ∀ d, (Instr.checkKey em (d + 2) 139 (.agg #[.int .i64 a, .int .i64 b])).run Try.prog w = .ok () w := by
    intro d
    rw [Instr.checkKey]
    simp [run_underlying Try.underlying139, run_underlying Try.underlying35, part, isAgg, h0 d]
  exact hk 9998

theorem run_lookup_sides (w : World) (mb : Nat) (L : List (Int × Int × Int)) (h : MapAt w mb L) (a b : Int) :
    (Instr.lookup 42 (.map (some mb)) (.agg #[.int .i64 a, .int .i64 b]) true).run Try.prog w = .ok (.tuple #[.int .i64 ((lookS L a b).getD 0), .bool (lookS L a b).isSome]) w := by
  obtain ⟨es, clock, hb, hes⟩ := h
  obtain ⟨r, h1, h2, h3⟩ := run_findKey_sides a b w L es.toList hes
  have hz : (zeroValue 3).run Try.prog w = .ok (.int .i64 0) w := by kernel_rfl
  have hg := MapKept.run_getObj_map (P := Try.prog) hb
  simp only [Instr.lookup, run_underlying Try.underlying42, Sem.run_bind, Result.andThen_ok, Sem.run_pure, hg, run_checkKey_sides, h1]
  cases hl : lookS L a b with
  | none =>
    rw [h3 hl]
    simp [hz]
  | some v =>
    rw [hl] at h2
    cases r with
    | none => simp at h2
    | some p =>
      simp at h2
      simp [h2]

theorem run_update_sides (w : World) (mb : Nat) (L : List (Int × Int × Int)) (h : MapAt w mb L) (a b v : Int) (hn : lookS L a b = none) :
    ∃ o, (Instr.mapUpdate 42 (.map (some mb)) (.agg #[.int .i64 a, .int .i64 b]) (.int .i64 v)).run Try.prog w = .ok () (ChangeMaps.setBlock w mb o) ∧
      MapAt (ChangeMaps.setBlock w mb o) mb (L ++ [(a, b, v)]) := by
  have hlt := h.lt
  obtain ⟨es, clock, hb, hes⟩ := h
  obtain ⟨r, h1, h2, h3⟩ := run_findKey_sides a b w L es.toList hes
  have hg := MapKept.run_getObj_map (P := Try.prog) hb
  refine ⟨.map (es.push { key := .agg #[.int .i64 a, .int .i64 b], val := .int .i64 v, born := clock }) (clock + 1), ?_, ?_⟩
  · simp only [Instr.mapUpdate, run_underlying Try.underlying42, Sem.run_bind, Result.andThen_ok, Sem.run_pure, hg, run_checkKey_sides, h1, h3 hn]
    exact MapKept.run_setObj_map _ hb
  · exact ⟨es.push { key := .agg #[.int .i64 a, .int .i64 b], val := .int .i64 v, born := clock }, clock + 1, by simp [ChangeMaps.setBlock, hlt], by simp [hes, sEnt]⟩

theorem MapAt.ne {w : World} {mb g : Nat} {L : List (Int × Int × Int)} {t : TypeId} {cs : Array Value} (h : MapAt w mb L) (hb : Bk w g t cs) : g ≠ mb := by
  rintro rfl
  obtain ⟨es, clock, h, _⟩ := h
  unfold Bk at hb
  rw [h] at hb
  cases hb
theorem setBlock_fr {F : Nat → Prop} {a w : World} {mb : Nat} (h : Fr F a w) (o : Obj) (hm : F mb) : Fr F a (ChangeMaps.setBlock w mb o) :=
  ⟨h.os, h.tape, h.output, by simpa [ChangeMaps.setBlock] using h.size, fun k hk hf => by
    have hne : mb ≠ k := fun e => hf (e ▸ hm)
    rw [← h.block k hk hf]
    simp [ChangeMaps.setBlock, Array.getElem?_setIfInBounds, hne]⟩
end Go.Proofs.Ytamoniljgifggaa
