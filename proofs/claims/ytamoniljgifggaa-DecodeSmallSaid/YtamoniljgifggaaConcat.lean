/-
  Contracts of slices.Grow and slices.Concat at references.
-/
import Derived.Test.YtamoniljgifggaaRes
import Derived.Lib.AppendZeros
set_option linter.unusedVariables false
set_option linter.unusedSimpArgs false
namespace Go.Proofs.Ytamoniljgifggaa
open Go.RowKit

theorem grow_none (w : World) :
    Calls Try.prog 84 #[.slice none 0 0, .int .i64 0] w fun e w' => ∃ A c, e = .returned (.slice A 0 c) ∧ w'.ownsRow w.heap.size 35 1 (.slice A 0 c) 0 [] ∧ Below w.heap.size w w' := by
  go_enter Try.func84, Try.ntmps84
  go_wp2
  go_ret
  exact ⟨none, 0, rfl, World.ownsRow_nil _ _ _ _, Below.refl _ _⟩

theorem ref_info : (Try.prog.info? 35).map (fun i => (i.zero, i.size, i.bytes)) = some (some (.int .i64 0), 1, 8) := by kernel_rfl

set_option maxRecDepth 100000 in
theorem grow_some (n : Nat) (w : World) (h0 : 0 < n) (hn : n ≤ 100000000) :
    Calls Try.prog 84 #[.slice none 0 0, .int .i64 n] w fun e w' => ∃ A c, e = .returned (.slice A 0 c) ∧ w'.ownsRow w.heap.size 35 1 (.slice A 0 c) 0 [] ∧ Below w.heap.size w w' := by
  obtain ⟨i, hi, hz, hs, hb⟩ := info_parts ref_info
  have hrun := Lib.run_append_nil_zeros (P := Try.prog) w 43 3 43 35 i (.int .i64 0) .i64 .i64 Try.underlying43 Try.underlying3 hi hz n h0 (by omega) (by omega) (by rw [hb]; omega)
  have hg1 := grownCap_ge w n 0 35
  have hg2 := grownCap_le_maxLen w n 0 35 (by simp [maxLen]; omega)
  generalize hcap : grownCap w n 0 35 = cap at *
  unfold maxLen at hg2
  have HR := Lib.hid hrun
  clear hrun hcap
  go_enter Try.func84, Try.ntmps84
  go_wp2_with (at_builtin; refine Lib.wpList_append_run _ rfl _ _ _ _ rfl _ _ rfl rfl _ _ HR.out ?_)
  go_ret
  have hown : (w.drew.alloc (.cells (Builtin.zeroCells (Value.int .i64 0).cells n ++ Builtin.zeroCells (Value.int .i64 0).cells (cap - n)) 35)).ownsRow w.heap.size 35 1 (.slice (some ⟨w.heap.size, 0, none⟩) 0 cap) 0 [] := by
    refine ⟨rfl, .inr ⟨w.heap.size, cap, _, rfl, Nat.le_refl _, heap_alloc_new w.drew _, Nat.zero_le _, hg2, ?_, by simp⟩⟩
    simp only [Array.size_append, size_zeroCells, Value.cells]
    simp
    omega
  have hbl : Below w.heap.size w (w.drew.alloc (.cells (Builtin.zeroCells (Value.int .i64 0).cells n ++ Builtin.zeroCells (Value.int .i64 0).cells (cap - n)) 35)) := ((Below.refl _ w).drew).alloc (Nat.le_refl _) _
  refine ⟨_, _, rfl, ?_, hbl⟩
  first | exact hown | simpa using hown

/-- Slices with lists of numbers. -/
structure ListsAt (w : World) (A : Option Addr) (n : Nat) (S : List SV) (L : List (List Int)) : Prop where
  rd : Rd w A (S.map SV.val)
  sn : S.length = n
  len : S.length = L.length
  inner : ∀ (i : Nat) (s : SV) (l : List Int), S[i]? = some s → L[i]? = some l → IntsAt w s l ∧ l.length ≤ 100000
theorem ListsAt.below {w w' : World} {A : Option Addr} {n : Nat} {S : List SV} {L : List (List Int)} (h : ListsAt w A n S L) (hb : Below w.heap.size w w') : ListsAt w' A n S L :=
  ⟨h.rd.below hb, h.sn, h.len, fun i s l hs hl => ⟨(h.inner i s l hs hl).1.below hb, (h.inner i s l hs hl).2⟩⟩
theorem ListsAt.at {w : World} {A : Option Addr} {n : Nat} {S : List SV} {L : List (List Int)} (h : ListsAt w A n S L) {k : Nat} (hk : k < n) :
    ∃ (b off : Nat) (s : SV) (l : List Int), A = some ⟨b, off, none⟩ ∧ L[k]? = some l ∧ w.cell? ⟨b, off + k, none⟩ = some (.slice s.A s.n s.c) ∧ Rd w s.A (l.map (Value.int .i64)) ∧ l.length = s.n ∧ s.n ≤ 100000 ∧ (∀ u ∈ l, I64 u) := by
  obtain ⟨b, off, s, rfl, hs, hc⟩ := h.rd.getm h.sn hk
  have hl : k < L.length := by rw [← h.len, h.sn]; exact hk
  obtain ⟨h1, h2⟩ := h.inner k s _ hs (List.getElem?_eq_getElem hl)
  exact ⟨b, off, s, _, rfl, List.getElem?_eq_getElem hl, hc, h1.1, h1.2.1, by rw [← h1.2.1]; exact h2, h1.2.2⟩
theorem flat_snoc {α : Type} {L : List (List α)} {k : Nat} {l : List α} (h : L[k]? = some l) : (L.take (k + 1)).flatten = (L.take k).flatten ++ l := by
  rw [take_snoc h]
  simp

set_option maxHeartbeats 1000000 in
set_option maxRecDepth 100000 in
theorem concat_ref (A : Option Addr) (n c : Nat) (S : List SV) (L : List (List Int)) (w : World) (h : Hid (ListsAt w A n S L)) (hn : n ≤ 100) :
    Calls Try.prog 51 #[.slice A n c] w fun e w' => ∃ A' m c', e = .returned (.slice A' m c') ∧ L.flatten.length = m ∧ w'.ownsRow w.heap.size 35 1 (.slice A' m c') m (L.flatten.map (Value.int .i64)) ∧ Below w.heap.size w w' := by
  go_enter Try.func51, Try.ntmps51
  go_wp2
  go_loop [3, 11] (fun sz i => ∃ (k m : Nat), k ≤ n ∧ i = .int .i64 k ∧ sz = .int .i64 m ∧ m ≤ 100000 * k ∧ Hid ((L.take k).flatten.length = m)) (fun _ i => n - (intOf i).toNat)
  case atStart => exact ⟨0, 0, Nat.zero_le _, rfl, rfl, by omega, rfl⟩
  case round =>
    obtain ⟨k, m, hk, rfl, rfl, hm, Hm⟩ := hrel
    by_cases hlt : k < n
    · obtain ⟨b, off, s, l, rfl, hl, hc, hr, hln, hsn, _⟩ := h.out.at hlt
      obtain ⟨sA, sn, sc⟩ := s
      dsimp only at hc hr hln hsn
      have HL := Lib.hid hl; have HLN := Lib.hid hln
      clear hl hln hr
      go_wp2
      go_round
      case rel => exact ⟨k + 1, m + sn, by omega, by go_num, by go_num, by omega, by show ((L.take (k + 1)).flatten).length = _; rw [flat_snoc HL.out, List.length_append, Hm.out, HLN.out]⟩
      case measure => simp [intOf]; omega
    · obtain rfl : k = n := by omega
      have hgrow : Hid (Calls Try.prog 84 #[.slice none 0 0, .int .i64 m] w fun e w' => ∃ A c, e = .returned (.slice A 0 c) ∧ w'.ownsRow w.heap.size 35 1 (.slice A 0 c) 0 [] ∧ Below w.heap.size w w') := by
        by_cases h0 : m = 0
        · subst h0; exact grow_none w
        · exact grow_some m w (by omega) (by omega)
      go_wp2_with fail
      refine hgrow.out.mono ?_
      rintro e w1 ⟨A1, c1, rfl, ho1, hb1⟩
      have HO1 := Lib.hid ho1; have HB1 := Lib.hid hb1
      clear ho1 hb1 hgrow
      go_wp2
      go_loopw [6, 27] (fun v i wr => ∃ (j m' : Nat) (A' : Option Addr) (c' : Nat), j ≤ k ∧ i = .int .i64 j ∧ v = .slice A' m' c' ∧ m' ≤ 100000 * j ∧ Hid ((L.take j).flatten.length = m') ∧ Hid (wr.ownsRow w.heap.size 35 1 (.slice A' m' c') m' ((L.take j).flatten.map (Value.int .i64))) ∧ Hid (Below w.heap.size w wr)) (fun _ i _ => k - (intOf i).toNat)
      case atStart => exact ⟨0, 0, A1, c1, Nat.zero_le _, rfl, rfl, by omega, rfl, HO1, HB1⟩
      case round =>
        obtain ⟨j, m', A', c', hj, rfl, rfl, hm', Hm', Ho, Hb⟩ := hrel
        clear HO1 HB1
        have hsz : w.heap.size ≤ wr.heap.size := Hb.out.size
        by_cases hlt2 : j < k
        · obtain ⟨b, off, s, l, rfl, hl, hc, hr, hln, hsn, _⟩ := (h.out.below Hb.out).at hlt2
          obtain ⟨sA, sn, sc⟩ := s
          dsimp only at hc hr hln hsn
          have HL := Lib.hid hl; have HLN := Lib.hid hln; have HR := Lib.hid hr
          clear hl hln hr
          go_wp2_with (at_builtin; refine wpList_app el_ref rfl (.tmp 31) (.tmp 32) rfl w.heap.size (.slice A' m' c') m' _ rfl Ho.out sA sn sc (l.map (Value.int .i64)) rfl HR.out (by simp [HLN.out]) (one_ints _ _) (by omega) hsz ?_; intro A2 c2 w2 ho2 hg2 hat2; have Ho2 := Lib.hid ho2; have Hg2 := Lib.hid hg2; clear ho2 hg2 hat2)
          go_roundw
          case rel => exact ⟨j + 1, m' + sn, A2, c2, by omega, by go_num, rfl, by omega, by show ((L.take (j + 1)).flatten).length = _; rw [flat_snoc HL.out, List.length_append, Hm'.out, HLN.out], by show w2.ownsRow _ _ _ _ _ _; rw [flat_snoc HL.out, List.map_append]; exact Ho2.out, (Hb.out).grown Hg2.out hsz (fun q hq => (Ho.out.lt q hq).1)⟩
          case measure => simp [intOf]; omega
        · obtain rfl : j = k := by omega
          go_wp2
          go_ret
          have ht : L.take j = L := List.take_of_length_le (by rw [← h.out.len, h.out.sn]; omega)
          refine ⟨A', m', c', rfl, ?_, ?_, Hb.out⟩
          · have h1 := Hm'.out
            rwa [ht] at h1
          · have h1 := Ho.out
            rwa [ht] at h1
end Go.Proofs.Ytamoniljgifggaa
