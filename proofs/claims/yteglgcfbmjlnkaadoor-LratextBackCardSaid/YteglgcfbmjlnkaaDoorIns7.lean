/-
  slices.Insert at strings.
-/
import Derived.Test.YteglgcfbmjlnkaaDoorVars
import Derived.Shelf.Spec.SlicesInsert
import Derived.Shelf.Spec.SlicesInsertGrow
set_option linter.unusedVariables false
set_option linter.unusedSimpArgs false
namespace Go.Proofs.YteglgcfbmjlnkaaDoor
open Go.RowKit

def insRen : Go.Shelf.Ren := ⟨fun | 22 => 23 | 29 => 51 | 30 => 52 | 36 => 73 | 17 => 90 | n => n, fun | 24 => 54 | 9 => 9 | 3 => 3 | 4 => 4 | 0 => 0 | n => n, fun | n => n⟩
theorem insLays : Go.Proofs.Lays2.n22 Tryd.prog insRen := {
  mixed := by kernel_rfl
  f17 := Tryd.func90.trans (congrArg some (by kernel_rfl))
  f22 := Tryd.func23.trans (congrArg some (by kernel_rfl))
  f29 := Tryd.func51.trans (congrArg some (by kernel_rfl))
  f30 := Tryd.func52.trans (congrArg some (by kernel_rfl))
  f36 := Tryd.func73.trans (congrArg some (by kernel_rfl))
  t0 := Tryd.underlying0
  a0 := Tryd.isAgg0
  z0 := Tryd.sizeOf0
  v0 := Tryd.zeroValue0
  t3 := Tryd.underlying3
  a3 := Tryd.isAgg3
  z3 := Tryd.sizeOf3
  v3 := Tryd.zeroValue3
  t4 := Tryd.underlying4
  a4 := Tryd.isAgg4
  z4 := Tryd.sizeOf4
  v4 := Tryd.zeroValue4
  t9 := Tryd.underlying9
  a9 := Tryd.isAgg9
  z9 := Tryd.sizeOf9
  v9 := Tryd.zeroValue9
  t24 := Tryd.underlying54
  a24 := Tryd.isAgg54
  z24 := Tryd.sizeOf54
  v24 := Tryd.zeroValue54
  i9 := by kernel_rfl }
/-- Only block g and new ones: setCells. -/
theorem fr_setCellsI {w : World} (g : Nat) : ∀ (vs : List Value) (o : Nat), Fr (fun q => q = g) w (w.setCells g o vs)
  | [], _ => Fr.refl _ _
  | v :: r, o => by
    show Fr _ w ((w.setCell ⟨g, o, none⟩ v).setCells g (o + 1) r)
    exact ((Fr.refl (fun q => q = g) w).setCell (p := ⟨g, o, none⟩) (.inl rfl) v).trans (fr_setCellsI g r (o + 1))
/-- Where the strings of a slice lie. -/
def StrsAt (w : World) (b : Nat) (xs : List Value) : Prop := b < w.heap.size ∧ ∀ (j : Nat) u, xs[j]? = some u → w.cell? ⟨b, j, none⟩ = some u
theorem ins_list {α : Type} {cs vs : List α} {i : Nat} (hi : i ≤ cs.length) (j : Nat) (u : α) (h : (cs.take i ++ (vs ++ cs.drop i))[j]? = some u) :
    (j < i ∧ cs[j]? = some u) ∨ (∃ q, j = i + q ∧ q < vs.length ∧ vs[q]? = some u) ∨ (∃ q, j = i + vs.length + q ∧ (cs.drop i)[q]? = some u) := by
  have hl : (cs.take i).length = i := by rw [List.length_take]; omega
  rcases Nat.lt_or_ge j i with h1 | h1
  · rw [List.getElem?_append_left (by omega), List.getElem?_take, if_pos h1] at h
    exact .inl ⟨h1, h⟩
  · rw [List.getElem?_append_right (by omega), hl] at h
    rcases Nat.lt_or_ge (j - i) vs.length with h2 | h2
    · rw [List.getElem?_append_left h2] at h
      exact .inr (.inl ⟨j - i, by omega, h2, h⟩)
    · rw [List.getElem?_append_right h2] at h
      exact .inr (.inr ⟨j - i - vs.length, by omega, h⟩)
set_option maxHeartbeats 1000000 in
set_option maxRecDepth 100000 in
theorem insertC (B b n c i vb m : Nat) (cs : List Value) (va : Array Value) (w : World) (hB : B ≤ w.heap.size) (ho : Hid (w.ownsRow B 9 1 (.slice (some ⟨b, 0, none⟩) n c) n cs)) (hv : Hid (Bk w vb 9 va)) (hvb : vb ≠ b) (hvm : va.size = m) (hi : i < n) (hm : 0 < m) (hn : n + m ≤ 1000000)
    (h1c : Hid (∀ v ∈ cs, v.oneCell' = true)) (h1v : Hid (∀ v ∈ va.toList, v.oneCell' = true)) :
    Calls Tryd.prog 23 #[.slice (some ⟨b, 0, none⟩) n c, .int .i64 i, .slice (some ⟨vb, 0, none⟩) m m] w fun e w' => ∃ b' c', e = .returned (.slice (some ⟨b', 0, none⟩) (n + m) c') ∧ Hid (StrsAt w' b' (cs.take i ++ (va.toList ++ cs.drop i))) ∧ n + m ≤ c' ∧ Below B w w' := by
  obtain ⟨hcl, hr⟩ := ho.out
  have hcl' : cs.length = n := by omega
  rcases hr with ⟨h0, _⟩ | ⟨g, cap, cur, h0, hbg, hh, hnc, hcm, hsz, htk⟩
  · cases h0
  · injection h0 with h0 _ hcc
    injection h0 with h0
    injection h0 with h0
    subst h0; subst hcc
    have hbk : Bk w b 9 cur := hh
    have hcs : ∀ (j : Nat) v, cs[j]? = some v → w.cell? ⟨b, 0 + j, none⟩ = some v := fun j v hj => by
      rw [Nat.zero_add, hbk.cell, ← Array.getElem?_toList]
      rw [← htk, List.getElem?_take] at hj
      split at hj
      · exact hj
      · cases hj
    have hvs : ∀ (j : Nat) v, va.toList[j]? = some v → w.cell? ⟨vb, 0 + j, none⟩ = some v := fun j v hj => by
      rw [Nat.zero_add, hv.out.cell, ← Array.getElem?_toList]
      exact hj
    have hvl : va.toList.length = m := by simpa using hvm
    by_cases hroom : n + m ≤ c
    · have hsp : ∀ j, j < n + m → (w.cell? ⟨b, 0 + j, none⟩).isSome = true := fun j hj => by
        rw [Nat.zero_add, hbk.cell, Array.getElem?_eq_getElem (by omega)]
        rfl
      have hfz : ∀ j, j < n + m → w.frozen? ⟨b, 0 + j, none⟩ = false := fun j hj => hbk.frozen _
      have hcm' : c ≤ 9223372036854775807 := by
        unfold maxLen at hcm
        omega
      refine (Any2.slices_Insert_string_shift insLays b 0 n c i vb 0 m m cs va.toList w hi hm hroom hcm' hvb hcl' hvl hcs hsp hfz hvs h1c.out h1v.out 9 9 va.size cur.size (by simp [World.shape?, show w.heap[vb]? = _ from hv.out]) (by simp [World.shape?, show w.heap[b]? = _ from hbk]) (by omega) (hv.out.frozen _) (hv.out.frozen _)).mono ?_
      rintro e w' ⟨rfl, rfl⟩
      have hfr : Fr (fun q => q = b) w ((w.drew.setCells b (0 + (i + m)) (cs.drop i)).setCells b (0 + i) va.toList) := ((Fr.refl (fun q => q = b) w).drew.trans (fr_setCellsI b _ _)).trans (fr_setCellsI b _ _)
      refine ⟨b, c, rfl, ?_, hroom, hfr.below B hB (fun q hq e => by omega)⟩
      have hs1 : ∀ (j : Nat), j < (cs.drop i).length → (w.drew.cell? ⟨b, 0 + (i + m) + j, none⟩).isSome = true := fun j hj => by
        rw [List.length_drop] at hj
        have := hsp (i + m + j) (by omega)
        rw [show 0 + (i + m) + j = 0 + (i + m + j) by omega]
        exact this
      have hs2 : ∀ (j : Nat), j < va.toList.length → ((w.drew.setCells b (0 + (i + m)) (cs.drop i)).cell? ⟨b, 0 + i + j, none⟩).isSome = true := fun j hj =>
        isSome_setCells b (cs.drop i) (0 + (i + m)) w.drew hs1 (0 + i + j) (by
          have := hsp (i + j) (by omega)
          rw [show 0 + i + j = 0 + (i + j) by omega]
          exact this)
      refine ⟨Nat.lt_of_lt_of_le hbk.lt hfr.size, fun j u hj => ?_⟩
      rcases ins_list (by omega) j u hj with ⟨h1, h2⟩ | ⟨q, rfl, h1, h2⟩ | ⟨q, rfl, h2⟩
      · rw [World.cell?_setCells_out b va.toList (0 + i) _ ⟨b, j, none⟩ (fun _ _ => by show j < 0 + i ∨ _; omega), World.cell?_setCells_out b (cs.drop i) (0 + (i + m)) _ ⟨b, j, none⟩ (fun _ _ => by show j < 0 + (i + m) ∨ _; omega)]
        have := hcs j u h2
        rw [Nat.zero_add] at this
        exact this
      · have := World.cell?_setCells_in b va.toList (0 + i) _ hs2 q h1
        rw [show 0 + i + q = i + q by omega] at this
        rw [this]
        exact (List.getElem?_eq_getElem h1).symm.trans h2
      · have hq : q < (cs.drop i).length := (List.getElem?_eq_some_iff.1 h2).1
        rw [World.cell?_setCells_out b va.toList (0 + i) _ _ (fun _ _ => by show _ ∨ 0 + i + va.toList.length ≤ i + va.toList.length + q; omega)]
        have := World.cell?_setCells_in b (cs.drop i) (0 + (i + m)) _ hs1 q hq
        rw [show 0 + (i + m) + q = i + va.toList.length + q by rw [hvl]; omega] at this
        rw [this]
        exact (List.getElem?_eq_getElem hq).symm.trans h2
    · refine (Any2.slices_Insert_string_grow insLays b 0 n c i vb 0 m m cs va.toList w hi hm hnc (by omega) (by omega) hcl' hvl hcs hvs h1c.out h1v.out).mono ?_
      rintro e w' ⟨rfl, rfl⟩
      have hge : n + m ≤ grownCap w (n + m) c 9 := grownCap_ge w (n + m) c 9
      obtain ⟨arr, harr⟩ : ∃ arr, ((cs.take i).toArray ++ Builtin.zeroCells (Value.string ⟨#[]⟩).cells (n + m - i) ++ Builtin.zeroCells (Value.string ⟨#[]⟩).cells (grownCap w (n + m) c 9 - (n + m))) = arr := ⟨_, rfl⟩
      have hz1 : (Value.string ⟨#[]⟩).cells.size = 1 := rfl
      have hti : (cs.take i).length = i := by rw [List.length_take]; omega
      have hasz : n + m ≤ arr.size := by
        rw [← harr]
        simp only [Array.size_append, List.size_toArray, size_zeroCells, hz1, Nat.mul_one, hti]
        omega
      have hpre : ∀ (j : Nat) v, (cs.take i)[j]? = some v → arr[j]? = some v := fun j v hj => by
        have hjl : j < (cs.take i).length := (List.getElem?_eq_some_iff.1 hj).1
        rw [← harr, Array.getElem?_append_left (by simp only [Array.size_append, List.size_toArray]; omega), Array.getElem?_append_left (by simp only [List.size_toArray]; exact hjl)]
        simpa using hj
      have e9 : insRen.t 9 = 9 := rfl
      rw [e9]
      rw [harr]
      have hnk := Bk.new w 9 arr
      have hN : w.heap.size < (w.alloc (.cells arr 9)).heap.size := by simp
      obtain ⟨N, hNe⟩ : ∃ N, w.heap.size = N := ⟨_, rfl⟩
      have hba : Below w.heap.size w (w.alloc (.cells arr 9)) := balloc (Below.refl _ _) _
      rw [hNe] at hnk hN ⊢
      generalize (w.alloc (.cells arr 9)) = W1 at *
      have hfr : Fr (fun q => q = N) W1 ((W1.drew.setCells N i va.toList).drew.setCells N (i + m) (cs.drop i)) := (((Fr.refl (fun q => q = N) W1).drew.trans (fr_setCellsI N _ _)).drew.trans (fr_setCellsI N _ _))
      have hsp : ∀ j, j < n + m → (W1.drew.cell? ⟨N, j, none⟩).isSome = true := fun j hj => by
        show (W1.cell? ⟨N, j, none⟩).isSome = true
        rw [hnk.cell, Array.getElem?_eq_getElem (by omega)]
        rfl
      have hs1 : ∀ (j : Nat), j < va.toList.length → (W1.drew.cell? ⟨N, i + j, none⟩).isSome = true := fun j hj => hsp _ (by omega)
      have hs2 : ∀ (j : Nat), j < (cs.drop i).length → ((W1.drew.setCells N i va.toList).drew.cell? ⟨N, i + m + j, none⟩).isSome = true := fun j hj => by
        rw [List.length_drop] at hj
        exact isSome_setCells N va.toList i W1.drew hs1 (i + m + j) (hsp _ (by omega))
      refine ⟨N, _, rfl, ?_, hge, (hba.mono hB).trans (hfr.below B (by omega) (fun q hq e => by omega))⟩
      refine ⟨Nat.lt_of_lt_of_le hN hfr.size, fun j u hj => ?_⟩
      rcases ins_list (by omega) j u hj with ⟨h1, h2⟩ | ⟨q, rfl, h1, h2⟩ | ⟨q, rfl, h2⟩
      · rw [World.cell?_setCells_out N (cs.drop i) (i + m) _ ⟨N, j, none⟩ (fun _ _ => by show j < i + m ∨ _; omega)]
        show (W1.drew.setCells N i va.toList).cell? ⟨N, j, none⟩ = _
        rw [World.cell?_setCells_out N va.toList i _ ⟨N, j, none⟩ (fun _ _ => by show j < i ∨ _; omega)]
        show W1.cell? ⟨N, j, none⟩ = _
        rw [hnk.cell]
        exact hpre j u (by rw [List.getElem?_take, if_pos h1]; exact h2)
      · rw [World.cell?_setCells_out N (cs.drop i) (i + m) _ _ (fun _ _ => by show i + q < i + m ∨ _; omega)]
        have := World.cell?_setCells_in N va.toList i _ hs1 q h1
        exact this.trans ((List.getElem?_eq_getElem h1).symm.trans h2)
      · have hq : q < (cs.drop i).length := (List.getElem?_eq_some_iff.1 h2).1
        have := World.cell?_setCells_in N (cs.drop i) (i + m) _ hs2 q hq
        rw [hvl]
        exact this.trans ((List.getElem?_eq_getElem hq).symm.trans h2)
end Go.Proofs.YteglgcfbmjlnkaaDoor
