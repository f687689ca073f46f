/-
  salvorlaw02.Made, Clause; salvorlaw05.Made, Of.
-/
import Derived.Test.YtkpcpclaadgnbaaGreatDoorRead6
set_option linter.unusedVariables false
set_option linter.unusedSimpArgs false
namespace Go.Proofs.YtkpcpclaadgnbaaGreatDoor
open Go.RowKit

theorem own_stepA {W w w1 : World} {t : TypeId} {n : Nat} {v : Value} {xs : List Value} {o : Obj} (hb : Below W.heap.size W w) (ho : w.ownsRow W.heap.size t 1 v n xs) (hg : (w.alloc o).grownBy w1 v.ownBlock) : Below W.heap.size W w1 :=
  (balloc hb o).grown hg (by have := hb.size; simp; omega) (fun k hk => (ho.lt k hk).1)
def litM (n : Nat) : Int := if n % 2 = 1 then -(1 + (n / 2 % 8 : Nat) : Int) else 1 + (n / 2 % 8 : Nat)
theorem litM_right (n : Nat) : litB (litM n) = true := by
  have h : n / 2 % 8 < 8 := Nat.mod_lt _ (by omega)
  generalize hk : n / 2 % 8 = k at h
  unfold litM litB
  rw [hk]
  split
  · simp; omega
  · simp; omega
/-- The bytes that the program reckons a literal with. -/
theorem litM_steps (m : Nat) (hm : m ≤ 255) : ∃ r : Nat, r ≤ 7 ∧ m / 2 % 8 = r ∧ ∃ q : Nat, q ≤ 127 ∧ m / 2 = q ∧ q % 8 = r := ⟨m / 2 % 8, by omega, rfl, m / 2, by omega, rfl, rfl⟩
theorem litM_i64 (m : Nat) : I64 (litM m) := by
  unfold litM
  split
  · exact ⟨by omega, by omega⟩
  · exact ⟨by omega, by omega⟩
set_option maxRecDepth 100000 in
set_option maxHeartbeats 1000000 in
theorem made2C (A : Option Addr) (n c : Nat) (l : List Nat) (w : World) (h : Hid (Rd w A (l.map fun (m : Nat) => Value.int .u8 (m : Int)))) (hl : Hid (l.length = n)) (hb : Hid (∀ m ∈ l, m ≤ 255)) (hn : n ≤ 9223372036854775807) (hc : n ≤ c) :
    Calls Tryz.prog 46 #[.slice A n c] w fun e w' => ∃ A' n' c', e = .returned (.slice A' n' c') ∧ ((l.take 20).map litM).length = n' ∧ w'.ownsRow w.heap.size 53 1 (.slice A' n' c') n' (((l.take 20).map litM).map (Value.int .i64)) ∧ Below w.heap.size w w' := by
  obtain ⟨k0, hk0⟩ : ∃ k0, min n 20 = k0 := ⟨_, rfl⟩
  have hk20 : k0 ≤ 20 ∧ k0 ≤ n := by omega
  have hmin : min (n : Int) 20 = (k0 : Int) := by omega
  have HT : Hid (l.take 20 = l.take k0) := by
    show _ = _
    rcases Nat.lt_or_ge n 20 with h1 | h1
    · rw [List.take_of_length_le (by rw [hl.out]; omega), List.take_of_length_le (by rw [hl.out]; omega)]
    · rw [show k0 = 20 by omega]
  have hkc : (k0 : Int) ≤ (c : Int) := by omega
  have hkz : (0 : Int) ≤ (k0 : Int) := by omega
  go_enter Tryz.func46, Tryz.ntmps46
  go_wp2_with fail
  go_loopw [3, 13] (fun v3 v13 wr => ∃ (k : Nat) (A' : Option Addr) (c' : Nat), k ≤ k0 ∧ v13 = .int .i64 k ∧ v3 = .slice A' k c' ∧ Hid (wr.ownsRow w.heap.size 53 1 (.slice A' k c') k (((l.take k).map litM).map (Value.int .i64))) ∧ Hid (Below w.heap.size w wr)) (fun _ v13 _ => k0 - (intOf v13).toNat)
  case atStart => exact ⟨0, none, 0, Nat.zero_le _, rfl, rfl, World.ownsRow_nil _ _ _ _, Below.refl _ _⟩
  case round =>
    obtain ⟨k, A', c', hk, rfl, rfl, HO, HB⟩ := hrel
    have hki : ∀ b : Bool, decide (k < k0) = b → decide ((k : Int) < (k0 : Int)) = b := fun b hb => by rw [← hb]; exact decide_eq_decide.2 (by omega)
    by_cases hlt : k < k0
    · have e1 := hki true (decide_eq_true hlt)
      clear hki
      obtain ⟨b, off, m, rfl, hx, hcell⟩ := (h.out.below HB.out).getm hl.out (show k < n by omega)
      have hm := hb.out m (List.mem_of_getElem? hx)
      have HX := Lib.hid hx
      have hws : w.heap.size ≤ wr.heap.size := HB.out.size
      clear hx
      obtain ⟨r, hr7, hr1, q, hq, hq1, hqr⟩ := litM_steps m hm
      have d1 : (m : Int) / 2 = (q : Int) := by omega
      have d2 : (m : Int).tdiv 2 = (q : Int) := by rw [Int.tdiv_eq_ediv_of_nonneg (by omega)]; omega
      have w1 : IntKind.u8.wrap (q : Int) = (q : Int) := by rw [IntKind.wrap_u8]; omega
      have d3 : (q : Int) % 8 = (r : Int) := by omega
      have d4 : (q : Int).tmod 8 = (r : Int) := by rw [Int.tmod_eq_emod_of_nonneg (by omega)]; omega
      have w2 : IntKind.u8.wrap (1 + (r : Int)) = 1 + (r : Int) := by rw [IntKind.wrap_u8]; omega
      have w3 : IntKind.i64.wrap (1 + (r : Int)) = 1 + (r : Int) := by rw [IntKind.wrap_i64]; omega
      have w4 : IntKind.i64.wrap (-(1 + (r : Int))) = -(1 + (r : Int)) := by rw [IntKind.wrap_i64]; omega
      clear hq1 hqr
      rcases (by omega : m % 2 = 1 ∨ m % 2 = 0) with hpm | hpm
      · have hp1 : (m : Int).tmod 2 = 1 := by rw [Int.tmod_eq_emod_of_nonneg (by omega)]; omega
        have hp2 : (m : Int) % 2 = 1 := by omega
        have HV : Hid (litM m = -(1 + (r : Int))) := by show _ = _; unfold litM; rw [hr1, if_pos (by omega)]
        clear hr1 hpm
        go_wp2_with (at_builtin; refine wpList_app el_lit rfl (.tmp 27) (.tmp 29) rfl w.heap.size (.slice A' k c') k _ rfl (HO.out.alloc _) (some ⟨wr.heap.size, 0, none⟩) 1 1 [.int .i64 _] rfl (Rd.new _ #[_] _) rfl (by simp [Value.oneCell']) (by omega) (by simp; omega) ?_; intro A2 c2 w5 hown1 hgr1 hat1; have Ho1 := Lib.hid hown1; have Hg1 := Lib.hid hgr1; clear hown1 hgr1 hat1)
        go_roundw
        case rel =>
          refine ⟨k + 1, A2, c2, by omega, by go_num, rfl, ?_, own_stepA HB.out HO.out Hg1.out⟩
          show World.ownsRow _ _ _ _ _ _ _
          rw [take_snoc HX.out, List.map_append, List.map_append]
          simp only [List.map_cons, List.map_nil]
          rw [HV.out]
          first | exact Ho1.out | (have h9 := Ho1.out; exact 5)
        case measure => simp [intOf]; omega
      · have hp1 : (m : Int).tmod 2 = 0 := by rw [Int.tmod_eq_emod_of_nonneg (by omega)]; omega
        have hp2 : (m : Int) % 2 = 0 := by omega
        have HV : Hid (litM m = 1 + (r : Int)) := by show _ = _; unfold litM; rw [hr1, if_neg (by omega)]
        clear hr1 hpm
        go_wp2_with (at_builtin; refine wpList_app el_lit rfl (.tmp 27) (.tmp 29) rfl w.heap.size (.slice A' k c') k _ rfl (HO.out.alloc _) (some ⟨wr.heap.size, 0, none⟩) 1 1 [.int .i64 _] rfl (Rd.new _ #[_] _) rfl (by simp [Value.oneCell']) (by omega) (by simp; omega) ?_; intro A2 c2 w5 hown1 hgr1 hat1; have Ho1 := Lib.hid hown1; have Hg1 := Lib.hid hgr1; clear hown1 hgr1 hat1)
        go_roundw
        case rel =>
          refine ⟨k + 1, A2, c2, by omega, by go_num, rfl, ?_, own_stepA HB.out HO.out Hg1.out⟩
          show World.ownsRow _ _ _ _ _ _ _
          rw [take_snoc HX.out, List.map_append, List.map_append]
          simp only [List.map_cons, List.map_nil]
          rw [HV.out]
          first | exact Ho1.out | (have h9 := Ho1.out; exact 5)
        case measure => simp [intOf]; omega
    · obtain rfl : k = k0 := by omega
      have e1 := hki false (decide_eq_false hlt)
      clear hki
      have HO' := HO
      rw [← HT.out] at HO'
      go_wp2
      go_ret
      refine ⟨A', k, c', rfl, ?_, HO'.out, HB.out⟩
      rw [List.length_map, HT.out, List.length_take, hl.out]
      omega

set_option maxRecDepth 100000 in
set_option maxHeartbeats 1000000 in
theorem clauseMk (A : Option Addr) (n c : Nat) (l : List Int) (w : World) (h : Hid (IntsAt w ⟨A, n, c⟩ l)) :
    Calls Tryz.prog 39 #[.slice A n c] w fun e w' => ∃ A' c', e = .returned (.slice A' n c') ∧ w'.ownsRow w.heap.size 53 1 (.slice A' n c') n (l.map (Value.int .i64)) ∧ Below w.heap.size w w' := by
  have hn := h.out.2.2.2
  have hl := h.out.2.1
  dsimp only at hn hl
  have HL := Lib.hid hl
  clear hl
  go_enter Tryz.func39, Tryz.ntmps39
  go_wp2_with fail
  go_loopw [3, 8] (fun v3 v8 wr => ∃ (k : Nat) (A' : Option Addr) (c' : Nat), k ≤ n ∧ v8 = .int .i64 k ∧ v3 = .slice A' k c' ∧ Hid (wr.ownsRow w.heap.size 53 1 (.slice A' k c') k ((l.take k).map (Value.int .i64))) ∧ Hid (Below w.heap.size w wr)) (fun _ v8 _ => n - (intOf v8).toNat)
  case atStart => exact ⟨0, none, 0, Nat.zero_le _, rfl, rfl, World.ownsRow_nil _ _ _ _, Below.refl _ _⟩
  case round =>
    obtain ⟨k, A', c', hk, rfl, rfl, HO, HB⟩ := hrel
    by_cases hlt : k < n
    · have e1 : decide ((k : Int) < (n : Int)) = true := by simp; omega
      have hki : (k : Int) < (n : Int) := by omega
      obtain ⟨b, off, x, rfl, hx, c0⟩ := (h.out.below HB.out).at hlt
      have hi := h.out.2.2.1 x (List.mem_of_getElem? hx)
      have HX := Lib.hid hx
      have hws : w.heap.size ≤ wr.heap.size := HB.out.size
      have wx : IntKind.i64.wrap x = x := by rw [IntKind.wrap_i64]; have := hi.1; have := hi.2; omega
      clear hx hi
      go_wp2_with (at_builtin; refine wpList_app el_lit rfl (.tmp 12) (.tmp 14) rfl w.heap.size (.slice A' k c') k _ rfl (HO.out.alloc _) (some ⟨wr.heap.size, 0, none⟩) 1 1 [.int .i64 x] rfl (Rd.new _ #[_] _) rfl (by simp [Value.oneCell']) (by omega) (by simp; omega) ?_; intro A2 c2 w5 hown1 hgr1 hat1; have Ho1 := Lib.hid hown1; have Hg1 := Lib.hid hgr1; clear hown1 hgr1 hat1)
      go_roundw
      case rel =>
        refine ⟨k + 1, A2, c2, by omega, by go_num, rfl, ?_, own_stepA HB.out HO.out Hg1.out⟩
        show World.ownsRow _ _ _ _ _ _ _
        rw [take_snoc HX.out, List.map_append]
        exact Ho1.out
      case measure => simp [intOf]; omega
    · obtain rfl : k = n := by omega
      have e1 : decide ((k : Int) < (k : Int)) = false := by simp
      have HO' := HO.out
      rw [List.take_of_length_le (by rw [HL.out]; exact Nat.le_refl _)] at HO'
      have HO2 := Lib.hid HO'
      clear HO'
      go_wp2_with fail
      go_ret
      exact ⟨A', c', rfl, HO2.out, HB.out⟩
/-- A formula under way: its box, its row. -/
structure FmB (w0 : World) (p : Nat) (v : Int) (A : Option Addr) (c : Nat) (Q : List (SV × List Int)) (C : List (List Int)) (W : World) : Prop where
  box : Bk W p 24 #[.int .i64 v, .slice A C.length c]
  own : W.ownsRow (p + 1) 55 1 (.slice A C.length c) C.length (Q.map slV)
  cls : clsOf Q = C
  rows : ∀ q ∈ Q, RowT W W.heap.size q
  bel : Below w0.heap.size w0 W
theorem FmB.push {w0 W W1 W3 : World} {p : Nat} {v : Int} {A : Option Addr} {c : Nat} {Q : List (SV × List Int)} {C : List (List Int)} {l : List Int} {A2 : Option Addr} {n2 c2 : Nat} {A' : Option Addr} {c' : Nat} (h : FmB w0 p v A c Q C W) (hp : w0.heap.size ≤ p) (hb : Below W.heap.size W W1)
    (hl : l.length = n2) (hn : n2 ≤ 100000000) (hi : ∀ u ∈ l, I64 u) {B : Nat} (ho : W1.ownsRow B 53 1 (.slice A2 n2 c2) n2 (l.map (Value.int .i64)))
    (hg : (W1.alloc (.cells #[.slice A2 n2 c2] 55)).grownBy W3 (Value.slice A C.length c).ownBlock) (hw : W3.ownsRow (p + 1) 55 1 (.slice A' (C.length + 1) c') (C.length + 1) (Q.map slV ++ [.slice A2 n2 c2])) :
    FmB w0 p v A' c' (Q ++ [(⟨A2, n2, c2⟩, l)]) (C ++ [l]) (W3.setCell ⟨p, 1, none⟩ (.slice A' (C.length + 1) c')) := by
  have hba : Below W.heap.size W (W1.alloc (.cells #[.slice A2 n2 c2] 55)) := balloc hb _
  have own' : (W1.alloc (.cells #[.slice A2 n2 c2] 55)).ownsRow (p + 1) 55 1 (.slice A C.length c) C.length (Q.map slV) := own_fr (F := fun _ => False) h.own (Fr.of_below hba) (fun _ _ h => h)
  have hs : ∀ {k : Nat}, (Value.slice A C.length c).ownBlock = some k → p + 1 ≤ k := fun hk => (own_typed h.own _ hk).1
  have hx4 : Bk W3 p 24 #[.int .i64 v, .slice A C.length c] := (bkbel h.box hba).grown hg (fun e => by have := hs e.symm; omega)
  have hf : Fr (fun k => k = p ∨ (Value.slice A C.length c).ownBlock = some k) (W1.alloc (.cells #[.slice A2 n2 c2] 55)) (W3.setCell ⟨p, 1, none⟩ (.slice A' (C.length + 1) c')) :=
    ((Fr.refl (fun k => k = p ∨ (Value.slice A C.length c).ownBlock = some k) _).grown hg (fun k hk => .inl (.inr hk))).setCell (p := ⟨p, 1, none⟩) (.inl (.inl rfl)) _
  have nl : ∀ {k : Nat} {cs : Array Value} {fr : Nat × Nat}, (W1.alloc (.cells #[.slice A2 n2 c2] 55)).heap[k]? = some (.cells cs 53 fr) → ¬ (k = p ∨ (Value.slice A C.length c).ownBlock = some k) := fun hk hq => by
    rcases hq with rfl | hq
    · have h1 : (W1.alloc (.cells #[.slice A2 n2 c2] 55)).heap[_]? = _ := bkbel h.box hba
      rw [h1] at hk
      injection hk with hk
      injection hk with _ ht
      exact absurd ht (by decide)
    · obtain ⟨_, cs', h2⟩ := own_typed own' _ hq
      have h1 : (W1.alloc (.cells #[.slice A2 n2 c2] 55)).heap[_]? = _ := h2
      rw [h1] at hk
      injection hk with hk
      injection hk with _ ht
      exact absurd ht (by decide)
  refine ⟨?_, ?_, ?_, fun q hq => ?_, ?_⟩
  · rw [List.length_append]
    exact hx4.put 1 _
  · rw [List.length_append, List.map_append]
    exact own_fr hw ((Fr.refl (fun k => k = p) W3).setCell (p := ⟨p, 1, none⟩) (.inl rfl) _) (fun k hk e => by have := (own_typed hw k hk).1; omega)
  · have h1 := h.cls
    unfold clsOf at h1 ⊢
    rw [List.map_append, h1]
    rfl
  · rcases List.mem_append.1 hq with hq | hq
    · exact ((((h.rows q hq).fr (Fr.of_below (F := fun _ => False) hba) (fun _ _ _ _ _ h => h)).fr hf (fun k cs fr _ hk => nl hk)).up (Nat.le_trans hba.size hf.size))
    · obtain rfl := List.mem_singleton.1 hq
      have ho1 := ho.alloc (.cells #[.slice A2 n2 c2] 55)
      have hr : RowT (W1.alloc (.cells #[.slice A2 n2 c2] 55)) (W1.alloc (.cells #[.slice A2 n2 c2] 55)).heap.size (⟨A2, n2, c2⟩, l) := ⟨⟨Rd.of_own ho1, hl, hi, hn⟩, fun b' off he => by
        obtain ⟨_, cs, fr, h2⟩ := rd_own ho1 b' off he
        exact ⟨lt_of_heap h2, cs, fr, h2⟩⟩
      exact (hr.fr hf (fun k cs fr _ hk => nl hk)).up hf.size
  · exact (bthen h.bel hba).trans (hf.below w0.heap.size (by have := h.bel.size; have := hba.size; omega) (fun k hk e => by
      rcases e with rfl | e
      · omega
      · have := hs e; omega))
theorem FmB.out {w0 W : World} {p : Nat} {v : Int} {A : Option Addr} {c : Nat} {Q : List (SV × List Int)} {C : List (List Int)} (h : FmB w0 p v A c Q C W) (hl : C.length ≤ 100000000) : ClsAt W A C.length Q :=
  ⟨Rd.of_own h.own, by rw [← clsOf_len, h.cls], fun i q hq => (h.rows q (List.mem_of_getElem? hq)).at', hl⟩
end Go.Proofs.YtkpcpclaadgnbaaGreatDoor
