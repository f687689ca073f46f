/-
  slices.Delete(words, 1, 2).
-/
import Derived.Test.YteglgcfbmjlnkaaGreatDoorFold
set_option linter.unusedVariables false
set_option linter.unusedSimpArgs false
namespace Go.Proofs.YteglgcfbmjlnkaaGreatDoor
open Go.RowKit

theorem fr_setCells (b : Nat) {a : World} : ∀ (vs : List Value) (o : Nat) (w : World), Fr (fun k => k = b) a w → Fr (fun k => k = b) a (w.setCells b o vs)
  | [], _, _, h => h
  | v :: r, o, w, h => fr_setCells b r (o + 1) _ (h.setCell (p := ⟨b, o, none⟩) (.inl rfl) v)
def delB (Ws : List ByteArray) : Bool := match Ws with
  | _ :: x :: _ => decide (x.data.toList = [100])
  | _ => false
def dropB (Ws : List ByteArray) : List ByteArray := if delB Ws then Ws.take 1 ++ Ws.drop 2 else Ws
theorem delB_map (Ws : List ByteArray) : delW (Ws.map (·.data.toList)) = delB Ws := by
  match Ws with
  | [] => rfl
  | [_] => rfl
  | _ :: _ :: _ => rfl
theorem dropB_map (Ws : List ByteArray) : dropW (Ws.map (·.data.toList)) = (dropB Ws).map (·.data.toList) := by
  unfold dropW dropB
  rw [delB_map]
  split
  · rw [List.map_append, List.map_take, List.map_drop]
  · rfl
theorem getD_str (Ws : List ByteArray) (i : Nat) (s : ByteArray) (h : Ws[i]? = some s) : (fun i => Ws.getD i ByteArray.empty) i = s := by
  show Ws.getD i ByteArray.empty = s
  rw [List.getD_eq_getElem?_getD, h]
  rfl
set_option maxRecDepth 100000 in
theorem deleteC (b : Nat) (Ws : List ByteArray) (w : World) (h : Hid (Bk w b 9 (Ws.map Value.string).toArray)) (h2 : 2 ≤ Ws.length) (h3 : Ws.length ≤ 100000000) :
    Calls Tryz.prog 54 #[.slice (some ⟨b, 0, none⟩) Ws.length Ws.length, .int .i64 1, .int .i64 2] w fun e w' => e = .returned (.slice (some ⟨b, 0, none⟩) (Ws.length - 1) Ws.length) ∧ (∀ (i : Nat) (s : ByteArray), (Ws.take 1 ++ Ws.drop 2)[i]? = some s → w'.cell? ⟨b, i, none⟩ = some (.string s)) ∧ Fr (fun k => k = b) w w' := by
  have hc : ∀ i, i < Ws.length → w.cell? ⟨b, 0 + i, none⟩ = some (.string ((fun i => Ws.getD i ByteArray.empty) i)) := by
    intro i hi
    have hx : Ws[i]? = some (Ws[i]'hi) := List.getElem?_eq_getElem _
    rw [getD_str Ws i _ hx, Nat.zero_add, h.out.cell i]
    simp
  have hf : ∀ j, j < Ws.length → w.frozen? ⟨b, 0 + j, none⟩ = false := fun j _ => h.out.frozen _
  refine (Tryz.slices_Delete_string_cells b 0 Ws.length Ws.length 1 2 (fun i => Ws.getD i ByteArray.empty) w (Nat.le_refl _) (by omega) (by omega) h2 hc hf).mono ?_
  rintro e w' ⟨rfl, q, rfl⟩
  refine ⟨rfl, fun i s hi => ?_, fr_setCells b _ _ _ ((Fr.refl _ _).drewN q)⟩
  have hl : (Ws.take 1 ++ Ws.drop 2).length = Ws.length - 1 := by simp; omega
  have hi' : i < Ws.length - 1 := by
    have := (List.getElem?_eq_some_iff.1 hi).1
    omega
  have hst : Lib.strsOf (fun i => Ws.getD i ByteArray.empty) Ws.length = Ws.map (·.data.toList) := by
    unfold Lib.strsOf
    apply List.ext_getElem?
    intro j
    by_cases hj : j < Ws.length
    · have hx : Ws[j]? = some (Ws[j]'hj) := List.getElem?_eq_getElem _
      rw [List.getElem?_map, List.getElem?_range hj, List.getElem?_map, hx]
      simp only [Option.map_some]
      have hg : Ws.getD j ByteArray.empty = Ws[j]'hj := getD_str Ws j _ hx
      rw [hg]
    · rw [List.getElem?_eq_none (by simp; omega), List.getElem?_eq_none (by simp; omega)]
  rw [hst]
  have hin := World.cell?_setCells_in b ((((Ws.map fun (x : ByteArray) => x.data.toList).take 1 ++ (Ws.map fun (x : ByteArray) => x.data.toList).drop 2 ++ List.replicate (2 - 1) []).map encStr)) 0 (w.drewN q) (fun j hj => by
    have hj' : j < Ws.length := by simp at hj; omega
    have := hc j hj'
    show (w.cell? ⟨b, 0 + j, none⟩).isSome = true
    rw [this]
    rfl) i (by simp; omega)
  rw [Nat.zero_add] at hin
  rw [hin]
  congr 1
  have hx : ((((Ws.map fun (x : ByteArray) => x.data.toList).take 1 ++ (Ws.map fun (x : ByteArray) => x.data.toList).drop 2 ++ List.replicate (2 - 1) []).map encStr))[i]? = some (.string s) := by
    rw [← List.map_take, ← List.map_drop, ← List.map_append, List.map_append, List.getElem?_append_left (by simp; omega), List.getElem?_map, List.getElem?_map, hi]
    show some (encStr s.data.toList) = _
    congr 1
  exact Option.some.inj ((List.getElem?_eq_getElem _).symm.trans hx)
end Go.Proofs.YteglgcfbmjlnkaaGreatDoor
