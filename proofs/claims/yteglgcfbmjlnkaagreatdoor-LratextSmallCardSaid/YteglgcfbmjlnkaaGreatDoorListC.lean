/-
  salvorref07.list.
-/
import Derived.Test.YteglgcfbmjlnkaaGreatDoorNumC
import Derived.Test.YteglgcfbmjlnkaaGreatDoorReadC
set_option linter.unusedVariables false
set_option linter.unusedSimpArgs false
namespace Go.Proofs.YteglgcfbmjlnkaaGreatDoor
open Go.RowKit Go.PlainAid

theorem ext_data (s : ByteArray) (i : Nat) : (s.extract i s.size).data.toList = s.data.toList.drop i := by
  simp [ByteArray.data_extract, Array.toList_extract, List.extract_eq_take_drop]
  rw [List.take_of_length_le]
  simp
theorem ext_size (s : ByteArray) (i : Nat) : (s.extract i s.size).size = s.size - i := by simp
theorem valD_lt : ∀ (ds : List UInt8) (acc : Nat), (∀ c ∈ ds, DigB c) → valD acc ds < (acc + 1) * 10 ^ ds.length
  | [], acc, _ => by simp [valD_nil]
  | c :: ds, acc, h => by
    have hc : DigB c := h c (by simp)
    unfold DigB at hc
    rw [valD_cons]
    have h1 := valD_lt ds (acc * 10 + (c.toNat - 48)) (fun x hx => h x (by simp [hx]))
    have h2 : acc * 10 + (c.toNat - 48) + 1 ≤ (acc + 1) * 10 := by omega
    have h3 := Nat.mul_le_mul_right (10 ^ ds.length) h2
    rw [List.length_cons, Nat.pow_succ]
    rw [Nat.mul_assoc] at h3
    rw [Nat.mul_comm (10 ^ ds.length) 10]
    omega
theorem numQ_i64 (s : List UInt8) : I64 (numQ s).1 := by
  obtain ⟨ds, rest, h1, h2, h3, h4, h5⟩ := numL_spec 11 0 (tailQ s)
  have h6 := valD_lt ds 0 h2
  have h7 : 10 ^ ds.length ≤ 10 ^ 11 := Nat.pow_le_pow_right (by omega) h4
  have h8 : (numL 11 0 (tailQ s)).1 < 100000000000 := by
    rw [h3]
    dsimp only
    omega
  unfold numQ
  split
  · exact ⟨by decide, by decide⟩
  · split
    · exact ⟨by dsimp only; omega, by dsimp only; omega⟩
    · exact ⟨by dsimp only; omega, by dsimp only; omega⟩
theorem own_step {W w w1 : World} {t : TypeId} {n : Nat} {v : Value} {xs : List Value} {o : Obj} (hb : Below W.heap.size W w) (ho : w.ownsRow W.heap.size t 1 v n xs) (hg : (w.alloc o).grownBy w1 v.ownBlock) : Below W.heap.size W w1 :=
  (balloc hb o).grown hg (by have := hb.size; simp; omega) (fun k hk => (ho.lt k hk).1)
def ListPost (w : World) (p : List Int × Nat) (e : Ending) (w' : World) : Prop :=
  ∃ A n c, e = .returned (.tuple #[.slice A n c, .int .i64 p.2]) ∧ w'.ownsRow w.heap.size 3 1 (.slice A n c) n (p.1.map (Value.int .i64)) ∧ p.1.length = n ∧ (∀ u ∈ p.1, I64 u) ∧ n ≤ 100000000 ∧ Below w.heap.size w w'
theorem list_no {w w' : World} {p : List Int × Nat} (h : ([], 0) = p) (hb : Below w.heap.size w w') : ListPost w p (.returned (.tuple #[.slice none 0 0, .int .i64 0])) w' := by
  subst h
  exact ⟨none, 0, 0, rfl, World.ownsRow_nil _ _ _ _, rfl, fun u hu => (by cases hu), by omega, hb⟩
set_option maxRecDepth 100000 in
set_option maxHeartbeats 1000000 in
theorem listC (s : ByteArray) (w : World) (hs : s.size ≤ 20000000) : Calls Tryz.prog 57 #[.string s] w (ListPost w (listQ s.data.toList)) := by
  obtain ⟨P, hP⟩ : ∃ P, listQ s.data.toList = P := ⟨_, rfl⟩
  have HP0 : Hid (listF (s.size + 1) [] 0 (s.data.toList.drop 0) = P) := by
    show _ = _
    rw [List.drop_zero, ← hP]
    unfold listQ
    rw [data_len]
  rw [hP]
  clear hP
  go_enter Tryz.func57, Tryz.ntmps57
  go_wp2_with fail
  go_loopw [4, 5] (fun v4 v5 wr => ∃ (f i n c : Nat) (acc : List Int) (A : Option Addr), v4 = .slice A n c ∧ v5 = .int .i64 i ∧ i ≤ s.size + 1 ∧ s.size + 1 ≤ f + i ∧ 1 ≤ f ∧ n ≤ i ∧ Hid (acc.length = n) ∧ Hid (∀ u ∈ acc, I64 u) ∧ Hid (listF f acc i (s.data.toList.drop i) = P) ∧ Hid (wr.ownsRow w.heap.size 3 1 (.slice A n c) n (acc.map (Value.int .i64))) ∧ Hid (Below w.heap.size w wr)) (fun _ v5 _ => s.size + 1 - (intOf v5).toNat)
  case atStart => exact ⟨s.size + 1, 0, 0, 0, [], none, rfl, rfl, by omega, by omega, by omega, by omega, rfl, fun u hu => (by cases hu), HP0, World.ownsRow_nil _ _ _ _, Below.refl _ _⟩
  case round =>
    obtain ⟨f, i, n, c, acc, A, rfl, rfl, hi, hf, hf1, hni, HL, H64, HE, HO, HB⟩ := hrel
    obtain ⟨g, rfl⟩ : ∃ g, f = g + 1 := ⟨f - 1, by omega⟩
    have hE := HE.out
    unfold listF at hE
    clear HE
    by_cases hlt : i < s.size
    · have e1 : decide ((i : Int) < (s.size : Int)) = true := by simp; omega
      have hne : ¬ s.data.toList.drop i = [] := by
        rw [List.drop_eq_nil_iff, data_len]
        omega
      rw [if_neg hne] at hE
      have hnum := numberC (s.extract i s.size) wr (by rw [ext_size]; omega)
      rw [ext_data] at hnum
      have hkl := numQ_le (s.data.toList.drop i)
      rw [List.length_drop, data_len] at hkl
      have hi64 := numQ_i64 (s.data.toList.drop i)
      have hk1 : (s.data.toList.drop i).drop ((numQ (s.data.toList.drop i)).2 + 1) = s.data.toList.drop (i + ((numQ (s.data.toList.drop i)).2 + 1)) := by rw [List.drop_drop]
      rw [hk1] at hE
      generalize (numQ (s.data.toList.drop i)).1 = nn at *
      generalize (numQ (s.data.toList.drop i)).2 = k at *
      clear hne hk1
      have HNUM := Lib.hid hnum
      have H6 := Lib.hid hi64
      clear hnum hi64
      by_cases hk : k = 0
      · rw [if_pos hk] at hE
        have e2 : ((k : Int) == 0) = true := by simp; omega
        have HE := Lib.hid hE
        clear hE hk
        go_wp2_with fail
        refine HNUM.out.mono ?_
        rintro e w1 ⟨rfl, rfl⟩
        go_wp2
        go_ret2
        exact list_no HE.out HB.out
      · rw [if_neg hk] at hE
        have e2 : ((k : Int) == 0) = false := by simp; omega
        by_cases hn : nn = 0
        · rw [if_pos hn] at hE
          have e3 : (nn == 0) = true := by simpa using hn
          have HE := Lib.hid hE
          clear hE hn
          go_wp2_with fail
          refine HNUM.out.mono ?_
          rintro e w1 ⟨rfl, rfl⟩
          go_wp2
          go_ret2
          have hh := HE.out
          subst hh
          exact ⟨A, n, c, rfl, HO.out, HL.out, H64.out, by omega, HB.out⟩
        · rw [if_neg hn] at hE
          have e3 : (nn == 0) = false := by simpa using hn
          have HE := Lib.hid hE
          have hws : w.heap.size ≤ wr.heap.size := HB.out.size
          clear hE hn
          go_wp2_with fail
          refine HNUM.out.mono ?_
          rintro e w1 ⟨rfl, rfl⟩
          go_wp2_with (at_builtin; refine wpList_app el_int rfl (.tmp 28) (.tmp 30) rfl w.heap.size (.slice A n c) n _ rfl (HO.out.alloc _) (some ⟨wr.heap.size, 0, none⟩) 1 1 [.int .i64 nn] rfl (Rd.new _ #[_] _) rfl (by simp [Value.oneCell']) (by omega) (by simp; omega) ?_; intro A2 c2 w5 hown1 hgr1 hat1; have Ho1 := Lib.hid hown1; have Hg1 := Lib.hid hgr1; clear hown1 hgr1 hat1)
          go_roundw
          case rel =>
            refine ⟨g, i + k + 1, n + 1, c2, acc ++ [nn], A2, rfl, by go_num, by omega, by omega, by omega, by omega, ?_, ?_, ?_, ?_, own_step HB.out HO.out Hg1.out⟩
            · show _ = _
              rw [List.length_append, HL.out]; rfl
            · intro u hu
              rcases List.mem_append.1 hu with hu | hu
              · exact H64.out u hu
              · obtain rfl := List.mem_singleton.1 hu
                exact H6.out
            · show _ = _
              rw [show i + k + 1 = i + (k + 1) by omega]
              exact HE.out
            · show World.ownsRow _ _ _ _ _ _ _
              rw [List.map_append]
              exact Ho1.out
          case measure => simp [intOf]; omega
    · have e1 : decide ((i : Int) < (s.size : Int)) = false := by simp; omega
      have hne : s.data.toList.drop i = [] := by
        rw [List.drop_eq_nil_iff, data_len]
        omega
      rw [if_pos hne] at hE
      have HE := Lib.hid hE
      clear hE hne
      go_wp2
      go_ret2
      exact list_no HE.out HB.out
end Go.Proofs.YteglgcfbmjlnkaaGreatDoor
