/-
  Contract of lratext.Parse.
-/
import Derived.Test.YteglgcfbmjlnkaaGreatDoorRng
import Derived.Deep.DeepCutAuto
import Derived.Deep.CutRange
set_option linter.unusedVariables false
set_option linter.unusedSimpArgs false
namespace Go.Proofs.YteglgcfbmjlnkaaGreatDoor
open Go.RowKit Go.Shelf
attribute [local go_sem] Oper.semAt_some

def ParsePost (s : ByteArray) (w : World) (e : Ending) (w' : World) : Prop := Below w.heap.size w w' ∧ match parseS s.data.toList with
  | some st => ∃ LA Ln Lc HA Hn Hc, e = .returned (.tuple #[.agg #[.bool st.del, .int .i64 st.id, .slice LA Ln Lc, .slice HA Hn Hc], .int .i64 0]) ∧ StpAt w' ⟨⟨LA, Ln, Lc⟩, ⟨HA, Hn, Hc⟩⟩ st ∧ ∃ B, w.heap.size ≤ B ∧ w'.ownsRow B 34 1 (.slice LA Ln Lc) Ln (st.lits.map (Value.int .i64)) ∧ w'.ownsRow B 3 1 (.slice HA Hn Hc) Hn (st.hints.map (Value.int .i64))
  | none => e = .returned (.tuple #[.agg #[.bool false, .int .i64 0, .slice none 0 0, .slice none 0 0], .int .i64 71])
def Z4 : Array Value := #[.bool false, .int .i64 0, .slice none 0 0, .slice none 0 0]
theorem mem_joinB (c : UInt8) : ∀ (l : List (List UInt8)) (w : List UInt8), w ∈ l → w.length ≤ (joinB c l).length
  | [], w, h => by cases h
  | [v], w, h => by obtain rfl := List.mem_singleton.1 h; exact Nat.le_refl _
  | v :: u :: r, w, h => by
    rw [joinB_cons c v _ (by simp)]
    rcases List.mem_cons.1 h with rfl | h
    · simp
    · have := mem_joinB c (u :: r) w h
      simp only [List.length_append, List.length_cons]
      omega
theorem pieces_small (s : ByteArray) (c : UInt8) (hs : s.size ≤ 20000000) : (pieces s c).length ≤ 20000002 ∧ ∀ x ∈ pieces s c, x.size ≤ 100000000 := by
  constructor
  · rw [pieces_len]
    have h1 : Lib.countB s (str [c]) ≤ s.data.toList.length + 1 := Lib.count_le _ _
    rw [data_len] at h1
    omega
  · intro x hx
    have h1 : x.data.toList ∈ Lib.split s.data.toList [c] := by
      rw [← pieces_data]
      exact List.mem_map.2 ⟨x, hx, rfl⟩
    have h2 := mem_joinB c _ _ h1
    rw [(split_spec c s.data.toList).2.2, data_len, data_len] at h2
    omega
theorem pieces_ne (s : ByteArray) (c : UInt8) : pieces s c ≠ [] := by
  intro h
  have := pieces_len s c
  rw [h] at this
  simp at this
theorem dropB_le (Ws : List ByteArray) : (dropB Ws).length ≤ Ws.length := by
  unfold dropB
  split
  · simp; omega
  · exact Nat.le_refl _
theorem dropB_mem {Ws : List ByteArray} {x : ByteArray} (h : x ∈ dropB Ws) : x ∈ Ws := by
  unfold dropB at h
  split at h
  · rcases List.mem_append.1 h with h | h
    · exact List.mem_of_mem_take h
    · exact List.mem_of_mem_drop h
  · exact h

/-- A row of strings from the beginning of a block. -/
def WdAt (W : World) (b : Nat) (L : List ByteArray) : Prop := b < W.heap.size ∧ ∀ (i : Nat) (x : ByteArray), L[i]? = some x → W.cell? ⟨b, i, none⟩ = some (.string x)
theorem WdAt.below {W W' : World} {b : Nat} {L : List ByteArray} (h : WdAt W b L) (hb : Below W.heap.size W W') : WdAt W' b L := ⟨Nat.lt_of_lt_of_le h.1 hb.size, fun i x hx => (hb.cell (p := ⟨b, i, none⟩) h.1).trans (h.2 i x hx)⟩
theorem WdAt.far {W : World} {b : Nat} {L : List ByteArray} (h : WdAt W b L) {p : Addr} (hp : b ≠ p.block) (u : Value) : WdAt (W.setCell p u) b L :=
  ⟨by simpa [World.setCell] using h.1, fun i x hx => (World.cell?_of_block (w := W) (Below.heap_setCell W p u b hp)).trans (h.2 i x hx)⟩
theorem WdAt.kps {S : Nat → Prop} {W W' : World} {b : Nat} {L : List ByteArray} (h : WdAt W b L) (hk : KpS S W W') (hb : S b) : WdAt W' b L := ⟨Nat.lt_of_lt_of_le h.1 hk.1, fun i x hx => (hk.cell (p := ⟨b, i, none⟩) hb).trans (h.2 i x hx)⟩
theorem Vars.blocks {w W : World} (h : Vars w) (hs : w.heap.size ≤ W.heap.size) (hb : ∀ k, k < w.heap.size → W.heap[k]? = w.heap[k]?) : Vars W := by
  have h2 : Vars { w with heap := W.heap } := h.below ⟨rfl, rfl, rfl, hs, hb⟩
  exact ⟨h2.pow, h2.syn, h2.rng, h2.max⟩
theorem own_set {W : World} {B : Nat} {e : TypeId} {n : Nat} {v : Value} {xs : List Value} (h : W.ownsRow B e 1 v n xs) {p : Addr} (hp : p.block < B) (u : Value) : (W.setCell p u).ownsRow B e 1 v n xs :=
  ownsRow_setCell_other h (by intro e; have := (h.lt _ e).1; omega) u
theorem own_two {W W' : World} {B : Nat} {e e' : TypeId} {n n' : Nat} {v v' : Value} {xs xs' : List Value} (h : W.ownsRow B e 1 v n xs) (h' : W.ownsRow B e' 1 v' n' xs') (hne : e ≠ e') (hg : W.grownBy W' v'.ownBlock) : W'.ownsRow B e 1 v n xs := by
  refine ⟨h.1, ?_⟩
  rcases h.2 with h0 | ⟨g', cap, cur, rfl, hbs, hh, rest⟩
  · exact .inl h0
  · refine .inr ⟨g', cap, cur, rfl, hbs, Bk.grown (t := e) hh hg ?_, rest⟩
    exact own_ne h' (t := e) hh (fun e => hne e.symm)
theorem bk_grown {W W' : World} {B g : Nat} {t e : TypeId} {cs : Array Value} {n : Nat} {v : Value} {xs : List Value} (hb : Bk W g t cs) (h : W.ownsRow B e 1 v n xs) (hg : W.grownBy W' v.ownBlock) (hB : g < B) : Bk W' g t cs := by
  refine hb.grown hg ?_
  intro e
  have := (h.lt g e.symm).1
  omega
theorem slice_of_own {W : World} {B : Nat} {e : TypeId} {n : Nat} {v : Value} {xs : List Value} (h : W.ownsRow B e 1 v n xs) : ∃ A c, v = .slice A n c := by
  rcases h.2 with ⟨rfl, h0⟩ | ⟨g, cap, cur, rfl, _⟩
  · exact ⟨none, 0, by rw [h0]⟩
  · exact ⟨_, _, rfl⟩
theorem slice_own_bk {W : World} {B : Nat} {e : TypeId} {n : Nat} {v : Value} {xs : List Value} (h : W.ownsRow B e 1 v n xs) : ∀ j, v.ownBlock = some j → ∃ cur, Bk W j e cur := by
  intro j hj
  rcases h.2 with ⟨rfl, _⟩ | ⟨g, cap, cur, rfl, _, hh, _⟩
  · simp [Value.ownBlock] at hj
  · obtain rfl : g = j := by simpa [Value.ownBlock] using hj
    exact ⟨cur, hh⟩
theorem putN0 (pt : Nat) (s : Stp) (n : Int) : putN ⟨pt, 0, s⟩ n = (⟨pt, 1, { s with id := n }⟩, false) := by unfold putN; rw [if_pos rfl]
theorem putNz (pt ct : Nat) (s : Stp) (h : ct ≠ 0) : putN ⟨pt, ct, s⟩ 0 = (⟨pt + 1, ct + 1, s⟩, decide (pt + 1 = 2)) := by unfold putN; rw [if_neg h, if_pos rfl]
theorem putNl (ct : Nat) (s : Stp) (n : Int) (h : ct ≠ 0) (hn : n ≠ 0) : putN ⟨0, ct, s⟩ n = (⟨0, ct + 1, { s with lits := s.lits ++ [n] }⟩, false) := by unfold putN; rw [if_neg h, if_neg hn, if_pos rfl]
theorem putNh (pt ct : Nat) (s : Stp) (n : Int) (h : ct ≠ 0) (hn : n ≠ 0) (hp : pt ≠ 0) : putN ⟨pt, ct, s⟩ n = (⟨pt, ct + 1, { s with hints := s.hints ++ [n] }⟩, false) := by unfold putN; rw [if_neg h, if_neg hn, if_neg hp]
theorem kps_set {S : Nat → Prop} {U W : World} (h : KpS S U W) {p : Addr} (hp : ¬ S p.block) (u : Value) : KpS S U (W.setCell p u) := h.trans (KpS.set W hp u)
theorem info_lit : (Tryz.prog.info? 34).map (fun i => (i.zero, i.size, i.bytes)) = some (some (.int .i64 0), 1, 8) := by kernel_rfl
theorem info_int : (Tryz.prog.info? 3).map (fun i => (i.zero, i.size, i.bytes)) = some (some (.int .i64 0), 1, 8) := by kernel_rfl
theorem bk_put4 {w : World} {a : Nat} {t : TypeId} {z0 z1 z2 z3 v0 v1 v2 v3 : Value} (h : Bk w a t #[z0, z1, z2, z3]) : Bk ((((w.setCell ⟨a, 0, none⟩ v0).setCell ⟨a, 1, none⟩ v1).setCell ⟨a, 2, none⟩ v2).setCell ⟨a, 3, none⟩ v3) a t #[v0, v1, v2, v3] := by
  have h1 := (((h.put 0 v0).put 1 v1).put 2 v2).put 3 v3
  simp only [List.setIfInBounds_toArray, List.set_cons_succ, List.set_cons_zero] at h1
  exact h1
theorem fr_put4 {w : World} {a : Nat} {v0 v1 v2 v3 : Value} : Fr (fun k => k = a) w ((((w.setCell ⟨a, 0, none⟩ v0).setCell ⟨a, 1, none⟩ v1).setCell ⟨a, 2, none⟩ v2).setCell ⟨a, 3, none⟩ v3) :=
  ((((Fr.refl (fun k => k = a) w).setCell (p := ⟨a, 0, none⟩) (.inl rfl) v0).setCell (p := ⟨a, 1, none⟩) (.inl rfl) v1).setCell (p := ⟨a, 2, none⟩) (.inl rfl) v2).setCell (p := ⟨a, 3, none⟩) (.inl rfl) v3
theorem fr_putObj (W : World) (D : Nat) (o : Obj) : Fr (fun q => q = D) W (W.putObj D o) := by
  refine ⟨rfl, rfl, rfl, by simp [World.putObj], fun k _ hk => ?_⟩
  simp [World.putObj, Array.getElem?_setIfInBounds]
  omega
theorem own_frB {W W' : World} {B a : Nat} {e : TypeId} {n : Nat} {v : Value} {xs : List Value} (h : W.ownsRow B e 1 v n xs) (hf : Fr (fun k => k = a) W W') (ha : a < B) : W'.ownsRow B e 1 v n xs :=
  own_fr h hf (fun k hk he => by have := (h.lt k hk).1; omega)
theorem own_put {W : World} {B D : Nat} {e : TypeId} {n : Nat} {v : Value} {xs : List Value} {o o' : Obj} (h : W.ownsRow B e 1 v n xs) (hK : W.heap[D]? = some o) (ho : o.isCells = false) : (W.putObj D o').ownsRow B e 1 v n xs :=
  own_ownG (B := D) h (grownBy_putObj' W D o') (fun r e => by cases e; exact ⟨Nat.le_refl _, o, hK, ho⟩)
theorem stp_own {W : World} {B : Nat} {A1 A2 : Option Addr} {c1 c2 : Nat} {dl : Bool} {id : Int} {lits hints : List Int} (h1 : W.ownsRow B 34 1 (.slice A1 lits.length c1) lits.length (lits.map (Value.int .i64))) (h2 : W.ownsRow B 3 1 (.slice A2 hints.length c2) hints.length (hints.map (Value.int .i64))) {k : Nat} {p c : Nat} (hok : PSok k ⟨p, c, ⟨dl, id, lits, hints⟩⟩) (hk : k ≤ 30000000) : StpAt W ⟨⟨A1, lits.length, c1⟩, ⟨A2, hints.length, c2⟩⟩ ⟨dl, id, lits, hints⟩ :=
  ⟨hok.id, ⟨Rd.of_own h1, rfl, hok.lits, by have := hok.ll; dsimp only at this ⊢; omega⟩, ⟨Rd.of_own h2, rfl, hok.hints, by have := hok.hl; dsimp only at this ⊢; omega⟩⟩
theorem parse_err {s : ByteArray} {w W : World} {D : Nat} {o' : Obj} (hp : parseS s.data.toList = none) (hb : Below w.heap.size w W) (hD : w.heap.size ≤ D) : ParsePost s w (.returned (.tuple #[.agg #[.bool false, .int .i64 0, .slice none 0 0, .slice none 0 0], .int .i64 71])) (W.putObj D o') := by
  refine ⟨hb.trans ((fr_putObj W D o').below w.heap.size hb.size (fun k hk e => by omega)), ?_⟩
  rw [hp]
theorem parse_ok {s : ByteArray} {w W : World} {B D : Nat} {o o' : Obj} {A1 A2 : Option Addr} {c1 c2 : Nat} {dl : Bool} {id : Int} {lits hints : List Int} {k p c : Nat} (hp : parseS s.data.toList = some ⟨dl, id, lits, hints⟩) (hb : Below w.heap.size w W) (hD : w.heap.size ≤ D)
    (hK : W.heap[D]? = some o) (ho : o.isCells = false) (h1 : W.ownsRow B 34 1 (.slice A1 lits.length c1) lits.length (lits.map (Value.int .i64))) (h2 : W.ownsRow B 3 1 (.slice A2 hints.length c2) hints.length (hints.map (Value.int .i64))) (hok : PSok k ⟨p, c, ⟨dl, id, lits, hints⟩⟩) (hk : k ≤ 30000000) (hB : w.heap.size ≤ B) :
    ParsePost s w (.returned (.tuple #[.agg #[.bool dl, .int .i64 id, .slice A1 lits.length c1, .slice A2 hints.length c2], .int .i64 0])) (W.putObj D o') := by
  refine ⟨hb.trans ((fr_putObj W D o').below w.heap.size hb.size (fun k hk e => by omega)), ?_⟩
  rw [hp]
  exact ⟨A1, lits.length, c1, A2, hints.length, c2, rfl, stp_own (own_put h1 hK ho) (own_put h2 hK ho) hok hk, B, hB, own_put h1 hK ho, own_put h2 hK ho⟩
theorem parse_val {text : List UInt8} {st : PS} {n : Nat} (he : endP text = st) (hn : (dropW (Lib.split text [32])).length = n) : parseS text = if st.count = n ∧ st.part = 2 ∧ rightS st.s = true ∧ lineS st.s = text then some st.s else none := by
  unfold parseS
  rw [he, hn]
set_option maxRecDepth 100000 in
set_option maxHeartbeats 2000000 in
theorem parseC (s : ByteArray) (w : World) (hv : Hid (Vars w)) (hs : s.size ≤ 20000000) :
    Calls Tryz.prog 27 #[.string s] w (ParsePost s w) := by
  obtain ⟨Ws, hWs⟩ : ∃ Ws, pieces s 32 = Ws := ⟨_, rfl⟩
  have hsm := pieces_small s 32 hs
  have hne := pieces_ne s 32
  have hpd := pieces_data s 32
  rw [hWs] at hsm hne hpd
  have HSM := Lib.hid hsm.2
  have hln := hsm.1
  have HNE := Lib.hid hne
  have HPD := Lib.hid hpd
  have HWS := Lib.hid hWs
  clear hsm hne hpd hWs
  have HB0 : Hid (Below w.heap.size w ((w.alloc (.cells Z4 33)).alloc (.cells (Ws.map Value.string).toArray 9))) := balloc (balloc (Below.refl _ _) _) _
  have HR0 : Hid (Bk ((w.alloc (.cells Z4 33)).alloc (.cells (Ws.map Value.string).toArray 9)) w.heap.size 33 Z4) := (Bk.new _ _ _).alloc _
  have hw0 := Bk.new (w.alloc (.cells Z4 33)) 9 (Ws.map Value.string).toArray
  rw [World.size_alloc] at hw0
  have HW0 := Lib.hid hw0
  clear hw0
  refine (callsIn_wide (n := 6)).1 ?_
  refine callsIn_of_wp_marks Tryz.func27 rfl trivial ?_ rfl
  simp only [Tryz.ntmps27, List.size_toArray, List.length_cons, List.length_nil, Nat.reduceAdd, Nat.reduceSub, Array.replicate_succ, Array.replicate_zero, List.push_toArray, List.append_toArray, List.nil_append, List.cons_append]
  refine wpIn_wide.2 ?_
  go_wp2_with fail
  go_step3
  go_wp2_with fail
  refine (splitC s 32 _ (by omega) (Lib.hid (hv.out.alloc _))).mono ?_
  rintro e w1 ⟨rfl, rfl⟩
  rw [HWS.out]
  have hsz : w.heap.size + 1 < ((w.alloc (.cells Z4 33)).alloc (.cells (Ws.map Value.string).toArray 9)).heap.size := by simp
  show _
  rw [World.size_alloc]
  obtain ⟨p, hp⟩ : ∃ p, p = w.heap.size := ⟨_, rfl⟩
  change Hid (Below w.heap.size w ((w.alloc (.cells #[.bool false, .int .i64 0, .slice none 0 0, .slice none 0 0] 33)).alloc (.cells (Ws.map Value.string).toArray 9))) at HB0
  change Hid (Bk ((w.alloc (.cells #[.bool false, .int .i64 0, .slice none 0 0, .slice none 0 0] 33)).alloc (.cells (Ws.map Value.string).toArray 9)) w.heap.size 33 Z4) at HR0
  change Hid (Bk ((w.alloc (.cells #[.bool false, .int .i64 0, .slice none 0 0, .slice none 0 0] 33)).alloc (.cells (Ws.map Value.string).toArray 9)) (w.heap.size + 1) 9 (Ws.map Value.string).toArray) at HW0
  change w.heap.size + 1 < ((w.alloc (.cells #[.bool false, .int .i64 0, .slice none 0 0, .slice none 0 0] 33)).alloc (.cells (Ws.map Value.string).toArray 9)).heap.size at hsz
  generalize ((w.alloc (.cells #[.bool false, .int .i64 0, .slice none 0 0, .slice none 0 0] 33)).alloc (.cells (Ws.map Value.string).toArray 9)) = W1 at *
  rw [← hp] at HR0 HW0 hsz
  rw [← hp]
  have HP := Lib.hid hp
  clear hp
  have HBs : Hid (Below W1.heap.size W1 (W1.alloc (.cells Z4 33))) := balloc (Below.refl _ _) _
  have HS0 := Lib.hid (Bk.new W1 33 Z4)
  go_upto_region 3 with fail
  change Hid (Below W1.heap.size W1 (W1.alloc (.cells #[.bool false, .int .i64 0, .slice none 0 0, .slice none 0 0] 33))) at HBs
  change Hid (Bk (W1.alloc (.cells #[.bool false, .int .i64 0, .slice none 0 0, .slice none 0 0] 33)) W1.heap.size 33 Z4) at HS0
  generalize (W1.alloc (.cells #[.bool false, .int .i64 0, .slice none 0 0, .slice none 0 0] 33)) = W2 at *
  obtain ⟨sb, hsb⟩ : ∃ sb, sb = W1.heap.size := ⟨_, rfl⟩
  rw [← hsb] at HS0 hsz
  rw [← hsb]
  have HB2 := Lib.hid (bthen HB0.out HBs.out)
  have HR2 := Lib.hid (bkbel HR0.out HBs.out)
  have HW2 := Lib.hid (bkbel HW0.out HBs.out)
  clear HB0 HBs HR0 HW0 hsb
  have hsl := HS0.out.lt
  have hw1 := HW2.out.lt
  go_cut [19] from 9 to 77 (fun v19 wx => v19 = .bool (delB Ws) ∧ wx = W2)
  case first =>
    by_cases h1 : 1 < Ws.length
    · have hd1 : decide ((1 : Int) < (Ws.length : Int)) = true := by simp; omega
      obtain ⟨a, x, r, hax⟩ : ∃ a x r, Ws = a :: x :: r := by
        match Ws, h1 with
        | a :: x :: r, _ => exact ⟨a, x, r, rfl⟩
      have hc := HW2.out.cell 1
      rw [hax] at hc
      have hc1 : W2.cell? ⟨p + 1, 1, none⟩ = some (.string x) := by rw [hc]; rfl
      have hi1 : (1 : Int) < (Ws.length : Int) := by omega
      by_cases hx : x.data.toList = [100]
      · have e1 : (x.toList == [100]) = true := by rw [toList_data]; simpa using hx
        have E : Hid (delB Ws = true) := by show delB Ws = true; rw [hax]; simpa [delB] using hx
        clear hc hax hx h1
        go_wp2_with fail
        go_meet
        exact ⟨by rw [E.out], rfl⟩
      · have e1 : (x.toList == [100]) = false := by rw [toList_data]; simpa using hx
        have E : Hid (delB Ws = false) := by show delB Ws = false; rw [hax]; simpa [delB] using hx
        clear hc hax hx h1
        go_wp2_with fail
        go_meet
        exact ⟨by rw [E.out], rfl⟩
    · have hd1 : decide ((1 : Int) < (Ws.length : Int)) = false := by simp; omega
      have E : Hid (delB Ws = false) := by
        show delB Ws = false
        match Ws, h1 with
        | [], _ => rfl
        | [_], _ => rfl
        | _ :: _ :: _, h => exact absurd (by simp) h
      clear h1
      go_wp2_with fail
      go_meet
      exact ⟨by rw [E.out], rfl⟩
  case rest =>
    obtain ⟨rfl, rfl⟩ := hcut
    go_upto_if 19 with fail
    go_cut [4] from 9 to 77 (fun v4 wx => v4 = .slice (some ⟨p + 1, 0, none⟩) (dropB Ws).length Ws.length ∧ Hid (∀ (i : Nat) (x : ByteArray), (dropB Ws)[i]? = some x → wx.cell? ⟨p + 1, i, none⟩ = some (.string x)) ∧ Hid (Bk wx sb 33 #[.bool (delB Ws), .int .i64 0, .slice none 0 0, .slice none 0 0]) ∧ Hid (Bk wx p 33 Z4) ∧ Hid (Below w.heap.size w wx) ∧ sb < wx.heap.size)
    case first =>
      obtain ⟨d, hd⟩ : ∃ d, delB Ws = d := ⟨_, rfl⟩
      rw [hd]
      have HD := Lib.hid hd
      clear hd
      cases d with
      | true =>
        have h2 : 2 ≤ Ws.length := by
          have := HD.out
          match Ws, this with
          | _ :: _ :: _, _ => simp
        have s0 := HS0.out.cell 0
        have s1 := HS0.out.frozen 0
        have HS1 : Hid (Bk (wc.setCell ⟨sb, 0, none⟩ (.bool true)) sb 33 #[.bool true, .int .i64 0, .slice none 0 0, .slice none 0 0]) := HS0.out.put 0 (.bool true)
        have HW3 := Lib.hid (HW2.out.far (p := ⟨sb, 0, none⟩) (by show p + 1 ≠ sb; omega) (.bool true))
        have HR3 := Lib.hid (HR2.out.far (p := ⟨sb, 0, none⟩) (by show p ≠ sb; omega) (.bool true))
        have HB3 := Lib.hid (HB2.out.setCell (p := ⟨sb, 0, none⟩) (by show w.heap.size ≤ sb; have := HP.out; omega) (.bool true))
        go_wp2_with fail
        refine (deleteC (p + 1) Ws _ HW3 h2 (by omega)).mono ?_
        rintro e w3 ⟨rfl, hx, hf⟩
        have HX := Lib.hid hx
        have HF := Lib.hid hf
        clear hx hf s0 s1
        go_wp2
        go_meet
        have hdl : (dropB Ws) = Ws.take 1 ++ Ws.drop 2 := by unfold dropB; rw [if_pos HD.out]
        refine ⟨?_, ?_, ?_, ?_, ?_, ?_⟩
        · rw [hdl]
          congr 1
          simp
          omega
        · rw [hdl]
          exact HX.out
        · show Bk w3 sb 33 #[.bool (delB Ws), .int .i64 0, .slice none 0 0, .slice none 0 0]
          rw [HD.out]
          exact HS1.out.fr HF.out (by show ¬ sb = p + 1; omega)
        · exact HR3.out.fr HF.out (by show ¬ p = p + 1; omega)
        · exact HB3.out.trans (HF.out.below _ (by have := HB3.out.size; exact this) (fun k hk he => by have := HP.out; omega))
        · exact Nat.lt_of_lt_of_le HS1.out.lt HF.out.size
      | false =>
        go_wp2_with fail
        go_meet
        have hdl : (dropB Ws) = Ws := by unfold dropB; rw [if_neg (by rw [HD.out]; simp)]
        refine ⟨by rw [hdl], ?_, ?_, HR2, HB2, hsl⟩
        · show ∀ _, _
          rw [hdl]
          intro i x hx
          rw [HW2.out.cell i]
          simp [hx]
        · show Bk wc sb 33 #[.bool (delB Ws), .int .i64 0, .slice none 0 0, .slice none 0 0]
          rw [HD.out]
          exact HS0.out
    case rest =>
      obtain ⟨rfl, HXW, HSB, HRB, HBW, hsbl⟩ := hcut
      clear HS0 HR2 HW2 HB2 hsl hw1
      have HWA : Hid (WdAt wc (p + 1) (dropB Ws)) := ⟨by omega, HXW.out⟩
      clear HXW
      generalize wc = W5 at *
      obtain ⟨pb, hpb⟩ : ∃ pb, pb = W5.heap.size := ⟨_, rfl⟩
      have HB6 : Hid (Below W5.heap.size W5 ((W5.alloc (.cells #[.int .i64 0] 3)).alloc (.cells #[.int .i64 0] 3))) := balloc (balloc (Below.refl _ _) _) _
      have hq6 := (Bk.new W5 3 #[.int .i64 0]).alloc (.cells #[.int .i64 0] 3)
      have hc6 := Bk.new (W5.alloc (.cells #[.int .i64 0] 3)) 3 #[.int .i64 0]
      rw [World.size_alloc, ← hpb] at hc6
      rw [← hpb] at hq6
      have HQ6 := Lib.hid hq6
      have HC6 := Lib.hid hc6
      have HS6 := Lib.hid (bkbel HSB.out HB6.out)
      have s6 := HS6.out.cell 0
      clear hq6 hc6
      obtain ⟨d, hd⟩ : ∃ d, delB Ws = d := ⟨_, rfl⟩
      rw [hd] at s6 HS6
      go_upto_if 24 with fail
      have hsz6 : pb + 1 < ((W5.alloc (.cells #[.int .i64 0] 3)).alloc (.cells #[.int .i64 0] 3)).heap.size := HC6.out.lt
      generalize ((W5.alloc (.cells #[.int .i64 0] 3)).alloc (.cells #[.int .i64 0] 3)) = W6 at *
      rw [← hpb]
      have hsp : sb < pb := by omega
      have HWA6 := Lib.hid (HWA.out.below HB6.out)
      have HR6 := Lib.hid (bkbel HRB.out HB6.out)
      have HBW6 := Lib.hid (bthen HBW.out HB6.out)
      clear HWA HRB HBW HSB HB6 hpb s6 hsbl
      have HD := Lib.hid hd
      clear hd
      go_cut [] from 9 to 77 (fun wx => Hid (WdAt wx (p + 1) (dropB Ws)) ∧ Hid (Bk wx sb 33 #[.bool d, .int .i64 0, .slice none 0 0, .slice none 0 0]) ∧ Hid (Bk wx p 33 Z4) ∧ Hid (Bk wx pb 3 #[.int .i64 (startP d).part]) ∧ Hid (Bk wx (pb + 1) 3 #[.int .i64 0]) ∧ Hid (Below w.heap.size w wx))
      case first =>
        cases d with
        | true =>
          have q6 := HQ6.out.cell 0
          have f6 := HQ6.out.frozen 0
          have HWA7 := Lib.hid (HWA6.out.far (p := ⟨pb, 0, none⟩) (by show p + 1 ≠ pb; omega) (.int .i64 1))
          have HB7 := Lib.hid (HBW6.out.setCell (p := ⟨pb, 0, none⟩) (by show w.heap.size ≤ pb; have := HP.out; omega) (.int .i64 1))
          go_wp2_with fail
          go_meet
          exact ⟨HWA7, HS6.out.far (by show sb ≠ pb; omega) _, HR6.out.far (by show p ≠ pb; omega) _, HQ6.out.put 0 (.int .i64 1), HC6.out.far (by show pb + 1 ≠ pb; omega) _, HB7⟩
        | false =>
          go_wp2_with fail
          go_meet
          exact ⟨HWA6, HS6, HR6, HQ6, HC6, HBW6⟩
      case rest =>
        obtain ⟨HW7, HS7, HR7, HQ7, HC7, HB7⟩ := hcut
        clear HWA6 HS6 HR6 HQ6 HC6 HBW6 hsz6
        generalize wc = W7 at *
        have HBi : Hid (Below W7.heap.size W7 (W7.alloc (.cells #[.slice (some ⟨p + 1, 0, none⟩) (dropB Ws).length Ws.length] 25))) := balloc (Below.refl _ _) _
        have HIB := Lib.hid (Bk.new W7 25 #[.slice (some ⟨p + 1, 0, none⟩) (dropB Ws).length Ws.length])
        go_wp2_with fail
        go_step3
        go_wp2_with fail
        refine (numbersC _ _ _ _).mono ?_
        rintro e w8 ⟨rfl, rfl⟩
        go_wp2_with fail
        have HW8 := Lib.hid (HW7.out.below HBi.out)
        have HS8 := Lib.hid (bkbel HS7.out HBi.out)
        have HR8 := Lib.hid (bkbel HR7.out HBi.out)
        have HQ8 := Lib.hid (bkbel HQ7.out HBi.out)
        have HC8 := Lib.hid (bkbel HC7.out HBi.out)
        have HB8 := Lib.hid (bthen HB7.out HBi.out)
        generalize (W7.alloc (.cells #[.slice (some ⟨p + 1, 0, none⟩) (dropB Ws).length Ws.length] 25)) = U at *
        obtain ⟨ib, hib⟩ : ∃ ib, ib = W7.heap.size := ⟨_, rfl⟩
        rw [← hib] at HIB
        rw [← hib]
        have hcbi : pb + 1 < ib := by have := HC7.out.lt; omega
        have hiU := HIB.out.lt
        clear HBi HW7 HS7 HR7 HQ7 HC7 HB7 hib
        have hpw1 : p ≤ w.heap.size := by rw [HP.out]; exact Nat.le_refl _
        have hpw2 : w.heap.size ≤ p := by rw [HP.out]; exact Nat.le_refl _
        have HSS : Hid (∀ k, (k ≤ p + 1 ∨ k = ib) → k < U.heap.size) := fun k hk => by omega
        refine (wpIn_wide (n := 6)).1 ?_
        refine range_num 0 6 ib (p + 1) sb pb (pb + 1) (dropB Ws) Ws.length d (fun k => k ≤ p + 1 ∨ k = ib) w U rfl (by omega) HSS.out ?hIt (Nat.le_trans (dropB_le Ws) (by omega)) (fun x hx => HSM.out x (dropB_mem hx)) HB8.out.size ?hI0 ?hassign ?hbody ?hdone ?hstop
        case hIt =>
          intro W hk
          have h1 := HIB.out.kps hk (.inr rfl)
          exact ⟨h1.cell 0, h1.lt, (HW8.out.kps hk (.inl (Nat.le_refl _))).2, hv.out.blocks (Nat.le_trans HB8.out.size hk.1) (fun k hkw => (hk.2 k (.inl (by omega))).trans (HB8.out.block k hkw))⟩
        case hI0 =>
          refine ⟨⟨none, 0, none, 0, ?_, World.ownsRow_nil _ _ _ _, World.ownsRow_nil _ _ _ _⟩, HQ8.out, HC8.out, KpS.refl _ _, HB8.out⟩
          exact HS8.out
        case hassign =>
          intro l i W K hK
          go_frame
          unfold rFr at hK
          simp only [List.setIfInBounds_toArray, List.set_cons_succ, List.set_cons_zero] at hK
          gi_wp2
          exact hK
        case hbody =>
          intro l pre x W hi hlt
          obtain ⟨hpm, hon⟩ := hi
          have hlt2 : pre.length < 20000003 := Nat.lt_of_lt_of_le hlt (Nat.le_trans (dropB_le Ws) (by omega))
          have hput := stOf_snoc d pre x
          have hok := psok d pre
          obtain ⟨st, hst⟩ : ∃ st, stOf d pre = st := ⟨_, rfl⟩
          obtain ⟨n, hn⟩ : ∃ n, x.1.2 = n := ⟨_, rfl⟩
          rw [hst, hn] at hput
          rw [hst] at hpm hok
          have hon2 : (putN st n).2 = false → onW d (pre ++ [x]) := fun h => onW_snoc hon (by rw [hst, hn]; exact h)
          have hoff : (putN st n).2 = true → ∃ pre' y, pre ++ [x] = pre' ++ [y] ∧ onW d pre' ∧ (putN (stOf d pre') y.1.2).2 = true := fun h => ⟨pre, x, rfl, hon, by rw [hst, hn]; exact h⟩
          rw [hn]
          have HPUT := Lib.hid hput
          have HON2 := Lib.hid hon2
          have HOFF := Lib.hid hoff
          clear hput hon2 hoff hst hn hon
          obtain ⟨pt, ct, ⟨dl, id, lits, hints⟩⟩ := st
          obtain ⟨⟨A1, c1, A2, c2, hsl, ho1, ho2⟩, hpt, hct, hkp, hbl⟩ := hpm
          have hll := hok.ll
          have hhl := hok.hl
          have hptl := hok.part
          have hctl := hok.count
          clear hok
          dsimp only at hsl ho1 ho2 hpt hct hll hhl hptl hctl
          have HSL := Lib.hid hsl
          have HO1 := Lib.hid ho1
          have HO2 := Lib.hid ho2
          have HPT := Lib.hid hpt
          have HCT := Lib.hid hct
          have HKP := Lib.hid hkp
          have HBL := Lib.hid hbl
          have hUW := hkp.1
          have k0 := hct.cell 0
          have f0 := hct.frozen 0
          clear hsl ho1 ho2 hpt hct hkp hbl
          have hwp : w.heap.size ≤ pb + 1 := by omega
          by_cases hc0 : ct = 0
          · subst hc0
            have k0' : W.cell? ⟨pb + 1, 0, none⟩ = some (.int .i64 0) := k0
            clear k0
            have f1 := HSL.out.frozen 1
            have s1 := HSL.out.cell 1
            have s1' : (W.setCell ⟨pb + 1, 0, none⟩ (.int .i64 1)).cell? ⟨sb, 1, none⟩ = some (.int .i64 id) := (HSL.out.far (p := ⟨pb + 1, 0, none⟩) (by show sb ≠ pb + 1; omega) _).cell 1
            have HF : Hid (PI w U sb pb (pb + 1) (fun k => k ≤ p + 1 ∨ k = ib) d (pre ++ [x]) ((W.setCell ⟨pb + 1, 0, none⟩ (.int .i64 1)).setCell ⟨sb, 1, none⟩ (.int .i64 n))) := by
              refine ⟨?_, HON2.out (by rw [putN0])⟩
              rw [HPUT.out, putN0]
              refine ⟨⟨A1, c1, A2, c2, ?_, own_set (own_set HO1.out (by show pb + 1 < _; omega) _) (by show sb < _; omega) _, own_set (own_set HO2.out (by show pb + 1 < _; omega) _) (by show sb < _; omega) _⟩, (HPT.out.far (by show pb ≠ pb + 1; omega) _).far (by show pb ≠ sb; omega) _, ?_, kps_set (kps_set HKP.out (p := ⟨pb + 1, 0, none⟩) (fun h => by rcases h with h | h <;> (dsimp only at h; omega)) _) (p := ⟨sb, 1, none⟩) (fun h => by rcases h with h | h <;> (dsimp only at h; omega)) _, (HBL.out.setCell (p := ⟨pb + 1, 0, none⟩) (by show w.heap.size ≤ pb + 1; omega) _).setCell (p := ⟨sb, 1, none⟩) (by show w.heap.size ≤ sb; omega) _⟩
              · exact (HSL.out.far (by show sb ≠ pb + 1; omega) _).put 1 (.int .i64 n)
              · exact (HCT.out.put 0 (.int .i64 1)).far (by show pb + 1 ≠ sb; omega) _
            unfold rFr
            simp only [List.setIfInBounds_toArray, List.set_cons_succ, List.set_cons_zero]
            gi_wp2
            exact ⟨((KeepsOthers.setCell _ _ _).trans (KeepsOthers.setCell _ _ _)).from _, (KpS.set W (p := ⟨pb + 1, 0, none⟩) (fun h => by rcases h with h | h <;> (dsimp only at h; omega)) _).trans (KpS.set _ (p := ⟨sb, 1, none⟩) (fun h => by rcases h with h | h <;> (dsimp only at h; omega)) _), HF.out⟩
          have hct9 : ct < 20000003 := by omega
          have hpt9 : pt < 20000005 := by omega
          have e1 : (((ct : Int) + 1) == 1) = false := by simp; omega
          by_cases hn0 : n = 0
          · subst hn0
            have q1 : (W.setCell ⟨pb + 1, 0, none⟩ (.int .i64 ((ct : Int) + 1))).cell? ⟨pb, 0, none⟩ = some (.int .i64 (pt : Int)) := (HPT.out.far (p := ⟨pb + 1, 0, none⟩) (by show pb ≠ pb + 1; omega) _).cell 0
            have f1 := HPT.out.frozen 0
            have HM : Hid (PM w U sb pb (pb + 1) (fun k => k ≤ p + 1 ∨ k = ib) (stOf d (pre ++ [x])) ((W.setCell ⟨pb + 1, 0, none⟩ (.int .i64 ((ct : Int) + 1))).setCell ⟨pb, 0, none⟩ (.int .i64 ((pt : Int) + 1)))) := by
              show PM w U sb pb (pb + 1) (fun k => k ≤ p + 1 ∨ k = ib) (stOf d (pre ++ [x])) ((W.setCell ⟨pb + 1, 0, none⟩ (.int .i64 ((ct : Int) + 1))).setCell ⟨pb, 0, none⟩ (.int .i64 ((pt : Int) + 1)))
              rw [HPUT.out, putNz _ _ _ hc0]
              refine ⟨⟨A1, c1, A2, c2, ?_, own_set (own_set HO1.out (by show pb + 1 < _; omega) _) (by show pb < _; omega) _, own_set (own_set HO2.out (by show pb + 1 < _; omega) _) (by show pb < _; omega) _⟩, ?_, ?_, kps_set (kps_set HKP.out (p := ⟨pb + 1, 0, none⟩) (fun h => by rcases h with h | h <;> (dsimp only at h; omega)) _) (p := ⟨pb, 0, none⟩) (fun h => by rcases h with h | h <;> (dsimp only at h; omega)) _, (HBL.out.setCell (p := ⟨pb + 1, 0, none⟩) (by show w.heap.size ≤ pb + 1; omega) _).setCell (p := ⟨pb, 0, none⟩) (by show w.heap.size ≤ pb; omega) _⟩
              · exact (HSL.out.far (by show sb ≠ pb + 1; omega) _).far (by show sb ≠ pb; omega) _
              · have h1 := (HPT.out.far (p := ⟨pb + 1, 0, none⟩) (by show pb ≠ pb + 1; omega) (.int .i64 ((ct : Int) + 1))).put 0 (.int .i64 ((pt : Int) + 1))
                exact h1
              · have h1 := (HCT.out.put 0 (.int .i64 ((ct : Int) + 1))).far (p := ⟨pb, 0, none⟩) (by show pb + 1 ≠ pb; omega) (.int .i64 ((pt : Int) + 1))
                exact h1
            have hz := putNz pt ct ⟨dl, id, lits, hints⟩ hc0
            by_cases hp2 : pt + 1 = 2
            · have e3 : (((pt : Int) + 1) == 2) = true := by simp; omega
              have HX := Lib.hid (HOFF.out (by rw [hz]; simpa using hp2))
              clear hz hp2 hc0
              unfold rFr
              simp only [List.setIfInBounds_toArray, List.set_cons_succ, List.set_cons_zero]
              gi_wp2
              exact ⟨((KeepsOthers.setCell _ _ _).trans (KeepsOthers.setCell _ _ _)).from _, rfl, HM.out, HX.out⟩
            · have e3 : (((pt : Int) + 1) == 2) = false := by simp; omega
              have HX := Lib.hid (HON2.out (by rw [hz]; simpa using hp2))
              clear hz hp2 hc0
              unfold rFr
              simp only [List.setIfInBounds_toArray, List.set_cons_succ, List.set_cons_zero]
              gi_wp2
              exact ⟨((KeepsOthers.setCell _ _ _).trans (KeepsOthers.setCell _ _ _)).from _, (KpS.set W (p := ⟨pb + 1, 0, none⟩) (fun h => by rcases h with h | h <;> (dsimp only at h; omega)) _).trans (KpS.set _ (p := ⟨pb, 0, none⟩) (fun h => by rcases h with h | h <;> (dsimp only at h; omega)) _), HM.out, HX.out⟩
          have e2 : (n == 0) = false := by simpa using hn0
          by_cases hp0 : pt = 0
          · subst hp0
            obtain ⟨i0, hi0, hz0, hz1, hz2⟩ := info_parts info_lit
            have HSL1 := Lib.hid ((HSL.out.far (p := ⟨pb + 1, 0, none⟩) (by show sb ≠ pb + 1; omega) (.int .i64 ((ct : Int) + 1))).alloc (.cells #[.int .i64 n] 34))
            have HPT1 := Lib.hid ((HPT.out.far (p := ⟨pb + 1, 0, none⟩) (by show pb ≠ pb + 1; omega) (.int .i64 ((ct : Int) + 1))).alloc (.cells #[.int .i64 n] 34))
            have HCT1 : Hid (Bk ((W.setCell ⟨pb + 1, 0, none⟩ (.int .i64 ((ct : Int) + 1))).alloc (.cells #[.int .i64 n] 34)) (pb + 1) 3 #[.int .i64 ((ct : Int) + 1)]) := (HCT.out.put 0 (.int .i64 ((ct : Int) + 1))).alloc _
            have HOA := Lib.hid ((own_set HO1.out (p := ⟨pb + 1, 0, none⟩) (by show pb + 1 < _; omega) (.int .i64 ((ct : Int) + 1))).alloc (.cells #[.int .i64 n] 34))
            have HOB := Lib.hid ((own_set HO2.out (p := ⟨pb + 1, 0, none⟩) (by show pb + 1 < _; omega) (.int .i64 ((ct : Int) + 1))).alloc (.cells #[.int .i64 n] 34))
            have HK1 := Lib.hid ((kps_set HKP.out (p := ⟨pb + 1, 0, none⟩) (fun h => by rcases h with h | h <;> (dsimp only at h; omega)) (.int .i64 ((ct : Int) + 1))).trans (KpS.of_below (balloc (Below.refl _ _) (.cells #[.int .i64 n] 34)) (fun k hk => Nat.lt_of_lt_of_le (HSS.out k hk) (by simpa [World.setCell] using hUW))))
            have HBL1 := Lib.hid ((HBL.out.setCell (p := ⟨pb + 1, 0, none⟩) (by show w.heap.size ≤ pb + 1; omega) (.int .i64 ((ct : Int) + 1))).alloc (by simp [World.setCell]; have := HBL.out.size; omega) (.cells #[.int .i64 n] 34))
            have t2 : (W.setCell ⟨pb + 1, 0, none⟩ (.int .i64 ((ct : Int) + 1))).cell? ⟨sb, 2, none⟩ = some (.slice A1 lits.length c1) := (HSL.out.far (p := ⟨pb + 1, 0, none⟩) (by show sb ≠ pb + 1; omega) _).cell 2
            have tp : (W.setCell ⟨pb + 1, 0, none⟩ (.int .i64 ((ct : Int) + 1))).cell? ⟨pb, 0, none⟩ = some (.int .i64 0) := (HPT.out.far (p := ⟨pb + 1, 0, none⟩) (by show pb ≠ pb + 1; omega) _).cell 0
            have hput := putNl ct ⟨dl, id, lits, hints⟩ n hc0 hn0
            have HPT2 := Lib.hid hput
            clear hput hc0 hn0
            unfold rFr
            simp only [List.setIfInBounds_toArray, List.set_cons_succ, List.set_cons_zero]
            gi_wp2_with (gi_at_builtin; refine wpListIn_append_own_at _ rfl (.tmp 52) (.tmp 54) 31 rfl U.heap.size 34 i0 (.int .i64 0) 1 8 Tryz.underlying31 hi0 hz0 hz1 hz2 rfl (by decide) (.slice A1 lits.length c1) lits.length _ rfl HOA.out ⟨W.heap.size, 0, none⟩ 1 1 [.int .i64 n] rfl rfl ?c1 ?c2 ?c3 ?c4 ?c5 ?_)
            case c2 => first | rfl | (intro u hu; obtain rfl := List.mem_singleton.1 hu; rfl) | simp [Value.oneCell']
            case c3 => first | (unfold maxLen; omega) | (simp [maxLen]; omega)
            case c4 => first | omega | (simp; omega)
            case c5 => first | omega | (simp [World.setCell]; omega)
            intro v' w2 hown hgr _ _
            obtain ⟨A', c', rfl⟩ := slice_of_own hown
            have HSL2 := Lib.hid (bk_grown HSL1.out HOA.out hgr (by omega))
            have HPT3 := Lib.hid (bk_grown HPT1.out HOA.out hgr (by omega))
            have HCT2 := Lib.hid (bk_grown HCT1.out HOA.out hgr (by omega))
            have HOB2 := Lib.hid (own_two HOB.out HOA.out (by decide) hgr)
            have HOA2 := Lib.hid hown
            have HKG := Lib.hid (KpS.grown (S := fun k => k ≤ p + 1 ∨ k = ib) hgr (fun k hk => Nat.lt_of_lt_of_le (HSS.out k hk) (by simp [World.setCell]; omega)) (fun k hk hs => by have h1 := (HOA.out.lt k hk).1; have h2 := HSS.out k hs; omega))
            have HBL2 := Lib.hid (HBL1.out.grown hgr (by simp [World.setCell]; have := HBL.out.size; omega) (fun k hk => by have h1 := (HOA.out.lt k hk).1; have := HBL.out.size; have := HB8.out.size; omega))
            have HKO := Lib.hid (KeepsOthers.of_grownBy hgr (fun j o hj ho => by
              obtain ⟨cur, hcur⟩ : ∃ cur, Bk ((W.setCell ⟨pb + 1, 0, none⟩ (.int .i64 ((ct : Int) + 1))).alloc (.cells #[.int .i64 n] 34)) j 34 cur := by
                rcases slice_own_bk HOA.out j hj with ⟨cur, hcur⟩
                exact ⟨cur, hcur⟩
              unfold Bk at hcur
              rw [hcur] at ho
              injection ho with ho
              subst ho
              rfl))
            have g2 := HSL2.out.frozen 2
            have gc := HSL2.out.cell 2
            clear hown hgr
            gi_wp2
            refine ⟨((((KeepsOthers.setCell _ _ _).trans (KeepsOthers.alloc _ _)).trans HKO.out).trans (KeepsOthers.setCell _ _ _)).from _, (((KpS.set W (p := ⟨pb + 1, 0, none⟩) (fun h => by rcases h with h | h <;> (dsimp only at h; omega)) _).trans (KpS.of_below (balloc (Below.refl _ _) _) (fun k hk => Nat.lt_of_lt_of_le (HSS.out k hk) (by simpa [World.setCell] using hUW)))).trans HKG.out).trans (KpS.set _ (p := ⟨sb, 2, none⟩) (fun h => by rcases h with h | h <;> (dsimp only at h; omega)) _), ?_, HON2.out (by rw [HPT2.out])⟩
            rw [HPUT.out, HPT2.out]
            refine ⟨⟨A', c', A2, c2, ?_, by have h1 := own_set HOA2.out (p := ⟨sb, 2, none⟩) (by show sb < _; omega) (.slice A' (lits.length + 1) c'); simpa using h1, own_set HOB2.out (by show sb < _; omega) _⟩, HPT3.out.far (by show pb ≠ sb; omega) _, ?_, kps_set (HK1.out.trans HKG.out) (p := ⟨sb, 2, none⟩) (fun h => by rcases h with h | h <;> (dsimp only at h; omega)) _, HBL2.out.setCell (p := ⟨sb, 2, none⟩) (by show w.heap.size ≤ sb; omega) _⟩
            · have h1 := HSL2.out.put 2 (.slice A' (lits.length + 1) c')
              simpa using h1
            · exact HCT2.out.far (by show pb + 1 ≠ sb; omega) _
          · have e4 : ((pt : Int) == 0) = false := by simp; omega
            obtain ⟨i0, hi0, hz0, hz1, hz2⟩ := info_parts info_int
            have HSL1 := Lib.hid ((HSL.out.far (p := ⟨pb + 1, 0, none⟩) (by show sb ≠ pb + 1; omega) (.int .i64 ((ct : Int) + 1))).alloc (.cells #[.int .i64 n] 3))
            have HPT1 := Lib.hid ((HPT.out.far (p := ⟨pb + 1, 0, none⟩) (by show pb ≠ pb + 1; omega) (.int .i64 ((ct : Int) + 1))).alloc (.cells #[.int .i64 n] 3))
            have HCT1 : Hid (Bk ((W.setCell ⟨pb + 1, 0, none⟩ (.int .i64 ((ct : Int) + 1))).alloc (.cells #[.int .i64 n] 3)) (pb + 1) 3 #[.int .i64 ((ct : Int) + 1)]) := (HCT.out.put 0 (.int .i64 ((ct : Int) + 1))).alloc _
            have HOA := Lib.hid ((own_set HO2.out (p := ⟨pb + 1, 0, none⟩) (by show pb + 1 < _; omega) (.int .i64 ((ct : Int) + 1))).alloc (.cells #[.int .i64 n] 3))
            have HOB := Lib.hid ((own_set HO1.out (p := ⟨pb + 1, 0, none⟩) (by show pb + 1 < _; omega) (.int .i64 ((ct : Int) + 1))).alloc (.cells #[.int .i64 n] 3))
            have HK1 := Lib.hid ((kps_set HKP.out (p := ⟨pb + 1, 0, none⟩) (fun h => by rcases h with h | h <;> (dsimp only at h; omega)) (.int .i64 ((ct : Int) + 1))).trans (KpS.of_below (balloc (Below.refl _ _) (.cells #[.int .i64 n] 3)) (fun k hk => Nat.lt_of_lt_of_le (HSS.out k hk) (by simpa [World.setCell] using hUW))))
            have HBL1 := Lib.hid ((HBL.out.setCell (p := ⟨pb + 1, 0, none⟩) (by show w.heap.size ≤ pb + 1; omega) (.int .i64 ((ct : Int) + 1))).alloc (by simp [World.setCell]; have := HBL.out.size; omega) (.cells #[.int .i64 n] 3))
            have t3 : (W.setCell ⟨pb + 1, 0, none⟩ (.int .i64 ((ct : Int) + 1))).cell? ⟨sb, 3, none⟩ = some (.slice A2 hints.length c2) := (HSL.out.far (p := ⟨pb + 1, 0, none⟩) (by show sb ≠ pb + 1; omega) _).cell 3
            have tp : (W.setCell ⟨pb + 1, 0, none⟩ (.int .i64 ((ct : Int) + 1))).cell? ⟨pb, 0, none⟩ = some (.int .i64 (pt : Int)) := (HPT.out.far (p := ⟨pb + 1, 0, none⟩) (by show pb ≠ pb + 1; omega) _).cell 0
            have hput := putNh pt ct ⟨dl, id, lits, hints⟩ n hc0 hn0 hp0
            have HPT2 := Lib.hid hput
            clear hput hc0 hn0 hp0
            unfold rFr
            simp only [List.setIfInBounds_toArray, List.set_cons_succ, List.set_cons_zero]
            gi_wp2_with (gi_at_builtin; refine wpListIn_append_own_at _ rfl (.tmp 31) (.tmp 33) 28 rfl U.heap.size 3 i0 (.int .i64 0) 1 8 Tryz.underlying28 hi0 hz0 hz1 hz2 rfl (by decide) (.slice A2 hints.length c2) hints.length _ rfl HOA.out ⟨W.heap.size, 0, none⟩ 1 1 [.int .i64 n] rfl rfl ?d1 ?d2 ?d3 ?d4 ?d5 ?_)
            case d2 => first | rfl | (intro u hu; obtain rfl := List.mem_singleton.1 hu; rfl) | simp [Value.oneCell']
            case d3 => first | (unfold maxLen; omega) | (simp [maxLen]; omega)
            case d4 => first | omega | (simp; omega)
            case d5 => first | omega | (simp [World.setCell]; omega)
            intro v' w2 hown hgr _ _
            obtain ⟨A', c', rfl⟩ := slice_of_own hown
            have HSL2 := Lib.hid (bk_grown HSL1.out HOA.out hgr (by omega))
            have HPT3 := Lib.hid (bk_grown HPT1.out HOA.out hgr (by omega))
            have HCT2 := Lib.hid (bk_grown HCT1.out HOA.out hgr (by omega))
            have HOB2 := Lib.hid (own_two HOB.out HOA.out (by decide) hgr)
            have HOA2 := Lib.hid hown
            have HKG := Lib.hid (KpS.grown (S := fun k => k ≤ p + 1 ∨ k = ib) hgr (fun k hk => Nat.lt_of_lt_of_le (HSS.out k hk) (by simp [World.setCell]; omega)) (fun k hk hs => by have h1 := (HOA.out.lt k hk).1; have h2 := HSS.out k hs; omega))
            have HBL2 := Lib.hid (HBL1.out.grown hgr (by simp [World.setCell]; have := HBL.out.size; omega) (fun k hk => by have h1 := (HOA.out.lt k hk).1; have := HBL.out.size; have := HB8.out.size; omega))
            have HKO := Lib.hid (KeepsOthers.of_grownBy hgr (fun j o hj ho => by
              obtain ⟨cur, hcur⟩ : ∃ cur, Bk ((W.setCell ⟨pb + 1, 0, none⟩ (.int .i64 ((ct : Int) + 1))).alloc (.cells #[.int .i64 n] 3)) j 3 cur := by
                rcases slice_own_bk HOA.out j hj with ⟨cur, hcur⟩
                exact ⟨cur, hcur⟩
              unfold Bk at hcur
              rw [hcur] at ho
              injection ho with ho
              subst ho
              rfl))
            have g3 := HSL2.out.frozen 3
            have gc := HSL2.out.cell 3
            clear hown hgr
            gi_wp2
            refine ⟨((((KeepsOthers.setCell _ _ _).trans (KeepsOthers.alloc _ _)).trans HKO.out).trans (KeepsOthers.setCell _ _ _)).from _, (((KpS.set W (p := ⟨pb + 1, 0, none⟩) (fun h => by rcases h with h | h <;> (dsimp only at h; omega)) _).trans (KpS.of_below (balloc (Below.refl _ _) _) (fun k hk => Nat.lt_of_lt_of_le (HSS.out k hk) (by simpa [World.setCell] using hUW)))).trans HKG.out).trans (KpS.set _ (p := ⟨sb, 3, none⟩) (fun h => by rcases h with h | h <;> (dsimp only at h; omega)) _), ?_, HON2.out (by rw [HPT2.out])⟩
            rw [HPUT.out, HPT2.out]
            refine ⟨⟨A1, c1, A', c', ?_, own_set HOB2.out (by show sb < _; omega) _, by have h1 := own_set HOA2.out (p := ⟨sb, 3, none⟩) (by show sb < _; omega) (.slice A' (hints.length + 1) c'); simpa using h1⟩, HPT3.out.far (by show pb ≠ sb; omega) _, ?_, kps_set (HK1.out.trans HKG.out) (p := ⟨sb, 3, none⟩) (fun h => by rcases h with h | h <;> (dsimp only at h; omega)) _, HBL2.out.setCell (p := ⟨sb, 3, none⟩) (by show w.heap.size ≤ sb; omega) _⟩
            · have h1 := HSL2.out.put 3 (.slice A' (hints.length + 1) c')
              simpa using h1
            · exact HCT2.out.far (by show pb + 1 ≠ sb; omega) _
        case hdone =>
          intro D xs W hD hall hi hK
          obtain ⟨hM, hon⟩ := hi
          have hxl : xs.length ≤ 30000000 := by
            have h1 := hall.2
            have h2 := dropB_le Ws
            rcases h1 with h1 | ⟨x, h1, _⟩
            · omega
            · have := (List.getElem?_eq_some_iff.1 h1).1
              omega
          have hok := psok d xs
          have hend : endP s.data.toList = stOf d xs := by
            have h1 := run_all (del := d) hall hon
            unfold endP
            rw [← HPD.out, delB_map, dropB_map, HD.out]
            exact h1
          obtain ⟨kx, hkx⟩ : ∃ kx, xs.length = kx := ⟨_, rfl⟩
          rw [hkx] at hok hxl
          obtain ⟨st, hst⟩ : ∃ st, stOf d xs = st := ⟨_, rfl⟩
          rw [hst] at hM hok hend
          have HEND := Lib.hid hend
          clear hend hst hall hon hkx
          have HLEN : Hid ((dropW (Lib.split s.data.toList [32])).length = (dropB Ws).length) := by
            show _ = _
            rw [← HPD.out, dropB_map, List.length_map]
          obtain ⟨pt, ct, ⟨dl, id, lits, hints⟩⟩ := st
          obtain ⟨⟨A1, c1, A2, c2, hsl, ho1, ho2⟩, hpt, hct, hkp, hbl⟩ := hM
          dsimp only at hsl ho1 ho2 hpt hct
          have HOK := Lib.hid hok
          have HV := Lib.hid (parse_val HEND.out HLEN.out)
          dsimp only at HV
          have hpt9 := hok.part
          have hct9 := hok.count
          dsimp only at hpt9 hct9
          have hRx := HR8.out.kps hkp (.inl (Nat.le_succ p))
          have HRx : Hid (Bk W p 33 #[.bool false, .int .i64 0, .slice none 0 0, .slice none 0 0]) := hRx
          have HVW := Lib.hid (hv.out.blocks (Nat.le_trans HB8.out.size hkp.1) (fun k hkw => (hkp.2 k (.inl (by omega))).trans (HB8.out.block k hkw)))
          have HSx := Lib.hid hsl
          have HO1 := Lib.hid ho1
          have HO2 := Lib.hid ho2
          have HBx := Lib.hid hbl
          have HDx := Lib.hid hK
          have hUW := hkp.1
          have k0 := hct.cell 0
          have q0 := hpt.cell 0
          obtain ⟨x0, x1, x2, x3⟩ := cells4 hsl
          obtain ⟨r0, r1, r2, r3⟩ := cells4 hRx
          have g0 := hRx.frozen 0
          have g1 := hRx.frozen 1
          have g2 := hRx.frozen 2
          have g3 := hRx.frozen 3
          have hDW := lt_of_heap hK
          have hpD : p ≠ D := by omega
          have hwD : w.heap.size ≤ D := by omega
          clear hsl ho1 ho2 hbl hK hkp hpt hct hRx hok
          by_cases hb1 : ct = (dropB Ws).length
          rotate_left
          · have e1 : ((ct : Int) != ((dropB Ws).length : Int)) = true := by simp; omega
            have HNO : Hid (parseS s.data.toList = none) := by show _ = _; rw [HV.out, if_neg (fun h => hb1 h.1)]
            clear hb1
            have HF := Lib.hid (bk_put4 (v0 := .bool false) (v1 := .int .i64 0) (v2 := .slice none 0 0) (v3 := .slice none 0 0) HRx.out)
            have HFB := Lib.hid (HBx.out.trans ((fr_put4 (w := W) (a := p) (v0 := .bool false) (v1 := .int .i64 0) (v2 := .slice none 0 0) (v3 := .slice none 0 0)).below w.heap.size HBx.out.size (fun k hk e => by have := HP.out; omega)))
            have HDF := Lib.hid (((fr_put4 (w := W) (a := p) (v0 := .bool false) (v1 := .int .i64 0) (v2 := .slice none 0 0) (v3 := .slice none 0 0)).block D (lt_of_heap HDx.out) (by omega)).trans HDx.out)
            go_upto_region 21 with fail
            repeat (first | go_values | go_skip | go_guarded | go_step | go_upon)
            rw [Exit.noGoto_ret]
            generalize ((((W.setCell ⟨p, 0, none⟩ (.bool false)).setCell ⟨p, 1, none⟩ (.int .i64 0)).setCell ⟨p, 2, none⟩ (.slice none 0 0)).setCell ⟨p, 3, none⟩ (.slice none 0 0)) = WF at HF HFB HDF ⊢
            obtain ⟨y0, y1, y2, y3⟩ := cells4 (HF.out.fr (fr_putObj WF D (.deferred none)) (fun h => hpD h))
            exact ⟨by simp, .inl ⟨D, _, rfl, run_takeDeferred HDF.out, ⟨.tuple #[.agg #[.bool false, .int .i64 0, .slice none 0 0, .slice none 0 0], .int .i64 71], by simp [results, Tryz.results27, go_sem, y0, y1, y2, y3], parse_err HNO.out HFB.out (by omega)⟩⟩⟩
          have e1 : ((ct : Int) != ((dropB Ws).length : Int)) = false := by simp; omega
          by_cases hb2 : pt = 2
          rotate_left
          · have e2 : ((pt : Int) != 2) = true := by simp; omega
            have HNO : Hid (parseS s.data.toList = none) := by show _ = _; rw [HV.out, if_neg (fun h => hb2 h.2.1)]
            clear hb1 hb2
            have HF := Lib.hid (bk_put4 (v0 := .bool false) (v1 := .int .i64 0) (v2 := .slice none 0 0) (v3 := .slice none 0 0) HRx.out)
            have HFB := Lib.hid (HBx.out.trans ((fr_put4 (w := W) (a := p) (v0 := .bool false) (v1 := .int .i64 0) (v2 := .slice none 0 0) (v3 := .slice none 0 0)).below w.heap.size HBx.out.size (fun k hk e => by have := HP.out; omega)))
            have HDF := Lib.hid (((fr_put4 (w := W) (a := p) (v0 := .bool false) (v1 := .int .i64 0) (v2 := .slice none 0 0) (v3 := .slice none 0 0)).block D (lt_of_heap HDx.out) (by omega)).trans HDx.out)
            go_upto_region 21 with fail
            repeat (first | go_values | go_skip | go_guarded | go_step | go_upon)
            rw [Exit.noGoto_ret]
            generalize ((((W.setCell ⟨p, 0, none⟩ (.bool false)).setCell ⟨p, 1, none⟩ (.int .i64 0)).setCell ⟨p, 2, none⟩ (.slice none 0 0)).setCell ⟨p, 3, none⟩ (.slice none 0 0)) = WF at HF HFB HDF ⊢
            obtain ⟨y0, y1, y2, y3⟩ := cells4 (HF.out.fr (fr_putObj WF D (.deferred none)) (fun h => hpD h))
            exact ⟨by simp, .inl ⟨D, _, rfl, run_takeDeferred HDF.out, ⟨.tuple #[.agg #[.bool false, .int .i64 0, .slice none 0 0, .slice none 0 0], .int .i64 71], by simp [results, Tryz.results27, go_sem, y0, y1, y2, y3], parse_err HNO.out HFB.out (by omega)⟩⟩⟩
          have e2 : ((pt : Int) != 2) = false := by simp; omega
          have HB12 := Lib.hid (And.intro hb1 hb2)
          clear hb1 hb2
          have HSTP := Lib.hid (stp_own HO1.out HO2.out HOK.out (by omega))
          obtain ⟨rt, hrt⟩ : ∃ rt, rightS ⟨dl, id, lits, hints⟩ = rt := ⟨_, rfl⟩
          have HRT := Lib.hid hrt
          clear hrt
          go_wp2_with fail
          refine (stepRight dl id lits hints A1 A2 lits.length c1 hints.length c2 W HSTP).mono ?_
          rintro e W9 ⟨rfl, hb9⟩
          rw [HRT.out]
          have HR9 := Lib.hid (bkbel HRx.out hb9)
          have HS9 := Lib.hid (bkbel HSx.out hb9)
          have HB9 := Lib.hid (bthen HBx.out hb9)
          have HD9 := Lib.hid ((hb9.block D (lt_of_heap HDx.out)).trans HDx.out)
          have HO19 := Lib.hid (own_fr (F := fun _ => False) HO1.out (Fr.of_below hb9) (fun _ _ h => h))
          have HO29 := Lib.hid (own_fr (F := fun _ => False) HO2.out (Fr.of_below hb9) (fun _ _ h => h))
          have HV9 := Lib.hid (HVW.out.below hb9)
          clear hb9 HRx HSx HBx HDx HO1 HO2 HVW x0 x1 x2 x3 r0 r1 r2 r3 g0 g1 g2 g3 k0 q0 HSTP
          obtain ⟨x0, x1, x2, x3⟩ := cells4 HS9.out
          obtain ⟨r0, r1, r2, r3⟩ := cells4 HR9.out
          have g0 := HR9.out.frozen 0
          have g1 := HR9.out.frozen 1
          have g2 := HR9.out.frozen 2
          have g3 := HR9.out.frozen 3
          cases rt with
          | false =>
            have HNO : Hid (parseS s.data.toList = none) := by show _ = _; rw [HV.out, if_neg (fun h => by have h3 := h.2.2.1; rw [HRT.out] at h3; cases h3)]
            have HRx := HR9
            have HBx := HB9
            have HDx := HD9
            have HF := Lib.hid (bk_put4 (v0 := .bool false) (v1 := .int .i64 0) (v2 := .slice none 0 0) (v3 := .slice none 0 0) HRx.out)
            have HFB := Lib.hid (HBx.out.trans ((fr_put4 (w := W9) (a := p) (v0 := .bool false) (v1 := .int .i64 0) (v2 := .slice none 0 0) (v3 := .slice none 0 0)).below w.heap.size HBx.out.size (fun k hk e => by have := HP.out; omega)))
            have HDF := Lib.hid (((fr_put4 (w := W9) (a := p) (v0 := .bool false) (v1 := .int .i64 0) (v2 := .slice none 0 0) (v3 := .slice none 0 0)).block D (lt_of_heap HDx.out) (by omega)).trans HDx.out)
            go_upto_region 21 with fail
            repeat (first | go_values | go_skip | go_guarded | go_step | go_upon)
            rw [Exit.noGoto_ret]
            generalize ((((W9.setCell ⟨p, 0, none⟩ (.bool false)).setCell ⟨p, 1, none⟩ (.int .i64 0)).setCell ⟨p, 2, none⟩ (.slice none 0 0)).setCell ⟨p, 3, none⟩ (.slice none 0 0)) = WF at HF HFB HDF ⊢
            obtain ⟨y0, y1, y2, y3⟩ := cells4 (HF.out.fr (fr_putObj WF D (.deferred none)) (fun h => hpD h))
            exact ⟨by simp, .inl ⟨D, _, rfl, run_takeDeferred HDF.out, ⟨.tuple #[.agg #[.bool false, .int .i64 0, .slice none 0 0, .slice none 0 0], .int .i64 71], by simp [results, Tryz.results27, go_sem, y0, y1, y2, y3], parse_err HNO.out HFB.out (by omega)⟩⟩⟩
          | true =>
            have HSTP := Lib.hid (stp_own HO19.out HO29.out HOK.out (by omega))
            go_wp2_with fail
            refine (lineC dl id lits hints A1 A2 lits.length c1 hints.length c2 W9 HSTP HV9).mono ?_
            rintro e WA ⟨rfl, hbA⟩
            have HRx := Lib.hid (bkbel HR9.out hbA)
            have HSx := Lib.hid (bkbel HS9.out hbA)
            have HBx := Lib.hid (bthen HB9.out hbA)
            have HDx := Lib.hid ((hbA.block D (lt_of_heap HD9.out)).trans HD9.out)
            have HO1 := Lib.hid (own_fr (F := fun _ => False) HO19.out (Fr.of_below hbA) (fun _ _ h => h))
            have HO2 := Lib.hid (own_fr (F := fun _ => False) HO29.out (Fr.of_below hbA) (fun _ _ h => h))
            clear hbA HR9 HS9 HB9 HD9 HO19 HO29 HV9 x0 x1 x2 x3 r0 r1 r2 r3 g0 g1 g2 g3 HSTP
            obtain ⟨x0, x1, x2, x3⟩ := cells4 HSx.out
            obtain ⟨r0, r1, r2, r3⟩ := cells4 HRx.out
            have g0 := HRx.out.frozen 0
            have g1 := HRx.out.frozen 1
            have g2 := HRx.out.frozen 2
            have g3 := HRx.out.frozen 3
            by_cases hb3 : lineS ⟨dl, id, lits, hints⟩ = s.data.toList
            rotate_left
            · have e3 : ((str (lineS ⟨dl, id, lits, hints⟩)).toList != s.toList) = true := by rw [toList_data, toList_data, str_data]; simpa using hb3
              have e4 : ((str (lineS ⟨dl, id, lits, hints⟩)).toList == s.toList) = false := by rw [toList_data, toList_data, str_data]; simpa using hb3
              have HNO : Hid (parseS s.data.toList = none) := by show _ = _; rw [HV.out, if_neg (fun h => hb3 h.2.2.2)]
              clear hb3
              have HF := Lib.hid (bk_put4 (v0 := .bool false) (v1 := .int .i64 0) (v2 := .slice none 0 0) (v3 := .slice none 0 0) HRx.out)
              have HFB := Lib.hid (HBx.out.trans ((fr_put4 (w := WA) (a := p) (v0 := .bool false) (v1 := .int .i64 0) (v2 := .slice none 0 0) (v3 := .slice none 0 0)).below w.heap.size HBx.out.size (fun k hk e => by have := HP.out; omega)))
              have HDF := Lib.hid (((fr_put4 (w := WA) (a := p) (v0 := .bool false) (v1 := .int .i64 0) (v2 := .slice none 0 0) (v3 := .slice none 0 0)).block D (lt_of_heap HDx.out) (by omega)).trans HDx.out)
              go_upto_region 21 with fail
              repeat (first | go_values | go_skip | go_guarded | go_step | go_upon)
              rw [Exit.noGoto_ret]
              generalize ((((WA.setCell ⟨p, 0, none⟩ (.bool false)).setCell ⟨p, 1, none⟩ (.int .i64 0)).setCell ⟨p, 2, none⟩ (.slice none 0 0)).setCell ⟨p, 3, none⟩ (.slice none 0 0)) = WF at HF HFB HDF ⊢
              obtain ⟨y0, y1, y2, y3⟩ := cells4 (HF.out.fr (fr_putObj WF D (.deferred none)) (fun h => hpD h))
              exact ⟨by simp, .inl ⟨D, _, rfl, run_takeDeferred HDF.out, ⟨.tuple #[.agg #[.bool false, .int .i64 0, .slice none 0 0, .slice none 0 0], .int .i64 71], by simp [results, Tryz.results27, go_sem, y0, y1, y2, y3], parse_err HNO.out HFB.out (by omega)⟩⟩⟩
            · have e3 : ((str (lineS ⟨dl, id, lits, hints⟩)).toList != s.toList) = false := by rw [toList_data, toList_data, str_data, hb3]; simp
              have e4 : ((str (lineS ⟨dl, id, lits, hints⟩)).toList == s.toList) = true := by rw [toList_data, toList_data, str_data, hb3]; simp
              have HYE : Hid (parseS s.data.toList = some ⟨dl, id, lits, hints⟩) := by show _ = _; rw [HV.out, if_pos ⟨HB12.out.1, HB12.out.2, HRT.out, hb3⟩]
              clear hb3
              have HF := Lib.hid (bk_put4 (v0 := .bool dl) (v1 := .int .i64 id) (v2 := .slice A1 lits.length c1) (v3 := .slice A2 hints.length c2) HRx.out)
              have hfr := fr_put4 (w := WA) (a := p) (v0 := .bool dl) (v1 := .int .i64 id) (v2 := .slice A1 lits.length c1) (v3 := .slice A2 hints.length c2)
              have HFB := Lib.hid (HBx.out.trans (hfr.below w.heap.size HBx.out.size (fun k hk e => by have := HP.out; omega)))
              have HDF := Lib.hid ((hfr.block D (lt_of_heap HDx.out) (by omega)).trans HDx.out)
              have HO1F := Lib.hid (own_frB HO1.out hfr (by omega))
              have HO2F := Lib.hid (own_frB HO2.out hfr (by omega))
              clear hfr
              go_upto_region 22 with fail
              repeat (first | go_values | go_skip | go_guarded | go_step | go_upon)
              rw [Exit.noGoto_ret]
              generalize ((((WA.setCell ⟨p, 0, none⟩ (.bool dl)).setCell ⟨p, 1, none⟩ (.int .i64 id)).setCell ⟨p, 2, none⟩ (.slice A1 lits.length c1)).setCell ⟨p, 3, none⟩ (.slice A2 hints.length c2)) = WF at HF HFB HDF HO1F HO2F ⊢
              obtain ⟨y0, y1, y2, y3⟩ := cells4 (HF.out.fr (fr_putObj WF D (.deferred none)) (fun h => hpD h))
              exact ⟨by simp, .inl ⟨D, _, rfl, run_takeDeferred HDF.out, ⟨.tuple #[.agg #[.bool dl, .int .i64 id, .slice A1 lits.length c1, .slice A2 hints.length c2], .int .i64 0], by simp [results, Tryz.results27, go_sem, y0, y1, y2, y3], parse_ok HYE.out HFB.out (by omega) HDF.out rfl HO1F.out HO2F.out HOK.out (by omega) HB8.out.size⟩⟩⟩
        case hstop =>
          intro D xs W hD hidx hx hK
          obtain ⟨_, hM, pre', y, hpy, hon, hlast⟩ := hx
          have hxl : xs.length ≤ 30000000 := by
            rw [hpy] at hidx ⊢
            have h1 := hidx pre'.length y (by simp)
            obtain ⟨u, hu, _⟩ := y.2
            have h3 := (List.getElem?_eq_some_iff.1 hu).1
            have h2 := dropB_le Ws
            simp
            omega
          have hok := psok d xs
          have hend : endP s.data.toList = stOf d xs := by
            rw [hpy] at hidx ⊢
            have h1 := run_stop (del := d) hidx hon hlast
            unfold endP
            rw [← HPD.out, delB_map, dropB_map, HD.out]
            exact h1
          obtain ⟨kx, hkx⟩ : ∃ kx, xs.length = kx := ⟨_, rfl⟩
          rw [hkx] at hok hxl
          obtain ⟨st, hst⟩ : ∃ st, stOf d xs = st := ⟨_, rfl⟩
          rw [hst] at hM hok hend
          have HEND := Lib.hid hend
          clear hend hst hpy hon hlast hkx hidx
          gi_wp2
          have HLEN : Hid ((dropW (Lib.split s.data.toList [32])).length = (dropB Ws).length) := by
            show _ = _
            rw [← HPD.out, dropB_map, List.length_map]
          obtain ⟨pt, ct, ⟨dl, id, lits, hints⟩⟩ := st
          obtain ⟨⟨A1, c1, A2, c2, hsl, ho1, ho2⟩, hpt, hct, hkp, hbl⟩ := hM
          dsimp only at hsl ho1 ho2 hpt hct
          have HOK := Lib.hid hok
          have HV := Lib.hid (parse_val HEND.out HLEN.out)
          dsimp only at HV
          have hpt9 := hok.part
          have hct9 := hok.count
          dsimp only at hpt9 hct9
          have hRx := HR8.out.kps hkp (.inl (Nat.le_succ p))
          have HRx : Hid (Bk W p 33 #[.bool false, .int .i64 0, .slice none 0 0, .slice none 0 0]) := hRx
          have HVW := Lib.hid (hv.out.blocks (Nat.le_trans HB8.out.size hkp.1) (fun k hkw => (hkp.2 k (.inl (by omega))).trans (HB8.out.block k hkw)))
          have HSx := Lib.hid hsl
          have HO1 := Lib.hid ho1
          have HO2 := Lib.hid ho2
          have HBx := Lib.hid hbl
          have HDx := Lib.hid hK
          have hUW := hkp.1
          have k0 := hct.cell 0
          have q0 := hpt.cell 0
          obtain ⟨x0, x1, x2, x3⟩ := cells4 hsl
          obtain ⟨r0, r1, r2, r3⟩ := cells4 hRx
          have g0 := hRx.frozen 0
          have g1 := hRx.frozen 1
          have g2 := hRx.frozen 2
          have g3 := hRx.frozen 3
          have hDW := lt_of_heap hK
          have hpD : p ≠ D := by omega
          have hwD : w.heap.size ≤ D := by omega
          clear hsl ho1 ho2 hbl hK hkp hpt hct hRx hok
          by_cases hb1 : ct = (dropB Ws).length
          rotate_left
          · have e1 : ((ct : Int) != ((dropB Ws).length : Int)) = true := by simp; omega
            have HNO : Hid (parseS s.data.toList = none) := by show _ = _; rw [HV.out, if_neg (fun h => hb1 h.1)]
            clear hb1
            have HF := Lib.hid (bk_put4 (v0 := .bool false) (v1 := .int .i64 0) (v2 := .slice none 0 0) (v3 := .slice none 0 0) HRx.out)
            have HFB := Lib.hid (HBx.out.trans ((fr_put4 (w := W) (a := p) (v0 := .bool false) (v1 := .int .i64 0) (v2 := .slice none 0 0) (v3 := .slice none 0 0)).below w.heap.size HBx.out.size (fun k hk e => by have := HP.out; omega)))
            have HDF := Lib.hid (((fr_put4 (w := W) (a := p) (v0 := .bool false) (v1 := .int .i64 0) (v2 := .slice none 0 0) (v3 := .slice none 0 0)).block D (lt_of_heap HDx.out) (by omega)).trans HDx.out)
            go_upto_region 21 with fail
            repeat (first | go_values | go_skip | go_guarded | go_step | go_upon)
            rw [Exit.noGoto_ret]
            generalize ((((W.setCell ⟨p, 0, none⟩ (.bool false)).setCell ⟨p, 1, none⟩ (.int .i64 0)).setCell ⟨p, 2, none⟩ (.slice none 0 0)).setCell ⟨p, 3, none⟩ (.slice none 0 0)) = WF at HF HFB HDF ⊢
            obtain ⟨y0, y1, y2, y3⟩ := cells4 (HF.out.fr (fr_putObj WF D (.deferred none)) (fun h => hpD h))
            exact ⟨by simp, .inl ⟨D, _, rfl, run_takeDeferred HDF.out, ⟨.tuple #[.agg #[.bool false, .int .i64 0, .slice none 0 0, .slice none 0 0], .int .i64 71], by simp [results, Tryz.results27, go_sem, y0, y1, y2, y3], parse_err HNO.out HFB.out (by omega)⟩⟩⟩
          have e1 : ((ct : Int) != ((dropB Ws).length : Int)) = false := by simp; omega
          by_cases hb2 : pt = 2
          rotate_left
          · have e2 : ((pt : Int) != 2) = true := by simp; omega
            have HNO : Hid (parseS s.data.toList = none) := by show _ = _; rw [HV.out, if_neg (fun h => hb2 h.2.1)]
            clear hb1 hb2
            have HF := Lib.hid (bk_put4 (v0 := .bool false) (v1 := .int .i64 0) (v2 := .slice none 0 0) (v3 := .slice none 0 0) HRx.out)
            have HFB := Lib.hid (HBx.out.trans ((fr_put4 (w := W) (a := p) (v0 := .bool false) (v1 := .int .i64 0) (v2 := .slice none 0 0) (v3 := .slice none 0 0)).below w.heap.size HBx.out.size (fun k hk e => by have := HP.out; omega)))
            have HDF := Lib.hid (((fr_put4 (w := W) (a := p) (v0 := .bool false) (v1 := .int .i64 0) (v2 := .slice none 0 0) (v3 := .slice none 0 0)).block D (lt_of_heap HDx.out) (by omega)).trans HDx.out)
            go_upto_region 21 with fail
            repeat (first | go_values | go_skip | go_guarded | go_step | go_upon)
            rw [Exit.noGoto_ret]
            generalize ((((W.setCell ⟨p, 0, none⟩ (.bool false)).setCell ⟨p, 1, none⟩ (.int .i64 0)).setCell ⟨p, 2, none⟩ (.slice none 0 0)).setCell ⟨p, 3, none⟩ (.slice none 0 0)) = WF at HF HFB HDF ⊢
            obtain ⟨y0, y1, y2, y3⟩ := cells4 (HF.out.fr (fr_putObj WF D (.deferred none)) (fun h => hpD h))
            exact ⟨by simp, .inl ⟨D, _, rfl, run_takeDeferred HDF.out, ⟨.tuple #[.agg #[.bool false, .int .i64 0, .slice none 0 0, .slice none 0 0], .int .i64 71], by simp [results, Tryz.results27, go_sem, y0, y1, y2, y3], parse_err HNO.out HFB.out (by omega)⟩⟩⟩
          have e2 : ((pt : Int) != 2) = false := by simp; omega
          have HB12 := Lib.hid (And.intro hb1 hb2)
          clear hb1 hb2
          have HSTP := Lib.hid (stp_own HO1.out HO2.out HOK.out (by omega))
          obtain ⟨rt, hrt⟩ : ∃ rt, rightS ⟨dl, id, lits, hints⟩ = rt := ⟨_, rfl⟩
          have HRT := Lib.hid hrt
          clear hrt
          go_wp2_with fail
          refine (stepRight dl id lits hints A1 A2 lits.length c1 hints.length c2 W HSTP).mono ?_
          rintro e W9 ⟨rfl, hb9⟩
          rw [HRT.out]
          have HR9 := Lib.hid (bkbel HRx.out hb9)
          have HS9 := Lib.hid (bkbel HSx.out hb9)
          have HB9 := Lib.hid (bthen HBx.out hb9)
          have HD9 := Lib.hid ((hb9.block D (lt_of_heap HDx.out)).trans HDx.out)
          have HO19 := Lib.hid (own_fr (F := fun _ => False) HO1.out (Fr.of_below hb9) (fun _ _ h => h))
          have HO29 := Lib.hid (own_fr (F := fun _ => False) HO2.out (Fr.of_below hb9) (fun _ _ h => h))
          have HV9 := Lib.hid (HVW.out.below hb9)
          clear hb9 HRx HSx HBx HDx HO1 HO2 HVW x0 x1 x2 x3 r0 r1 r2 r3 g0 g1 g2 g3 k0 q0 HSTP
          obtain ⟨x0, x1, x2, x3⟩ := cells4 HS9.out
          obtain ⟨r0, r1, r2, r3⟩ := cells4 HR9.out
          have g0 := HR9.out.frozen 0
          have g1 := HR9.out.frozen 1
          have g2 := HR9.out.frozen 2
          have g3 := HR9.out.frozen 3
          cases rt with
          | false =>
            have HNO : Hid (parseS s.data.toList = none) := by show _ = _; rw [HV.out, if_neg (fun h => by have h3 := h.2.2.1; rw [HRT.out] at h3; cases h3)]
            have HRx := HR9
            have HBx := HB9
            have HDx := HD9
            have HF := Lib.hid (bk_put4 (v0 := .bool false) (v1 := .int .i64 0) (v2 := .slice none 0 0) (v3 := .slice none 0 0) HRx.out)
            have HFB := Lib.hid (HBx.out.trans ((fr_put4 (w := W9) (a := p) (v0 := .bool false) (v1 := .int .i64 0) (v2 := .slice none 0 0) (v3 := .slice none 0 0)).below w.heap.size HBx.out.size (fun k hk e => by have := HP.out; omega)))
            have HDF := Lib.hid (((fr_put4 (w := W9) (a := p) (v0 := .bool false) (v1 := .int .i64 0) (v2 := .slice none 0 0) (v3 := .slice none 0 0)).block D (lt_of_heap HDx.out) (by omega)).trans HDx.out)
            go_upto_region 21 with fail
            repeat (first | go_values | go_skip | go_guarded | go_step | go_upon)
            rw [Exit.noGoto_ret]
            generalize ((((W9.setCell ⟨p, 0, none⟩ (.bool false)).setCell ⟨p, 1, none⟩ (.int .i64 0)).setCell ⟨p, 2, none⟩ (.slice none 0 0)).setCell ⟨p, 3, none⟩ (.slice none 0 0)) = WF at HF HFB HDF ⊢
            obtain ⟨y0, y1, y2, y3⟩ := cells4 (HF.out.fr (fr_putObj WF D (.deferred none)) (fun h => hpD h))
            exact ⟨by simp, .inl ⟨D, _, rfl, run_takeDeferred HDF.out, ⟨.tuple #[.agg #[.bool false, .int .i64 0, .slice none 0 0, .slice none 0 0], .int .i64 71], by simp [results, Tryz.results27, go_sem, y0, y1, y2, y3], parse_err HNO.out HFB.out (by omega)⟩⟩⟩
          | true =>
            have HSTP := Lib.hid (stp_own HO19.out HO29.out HOK.out (by omega))
            go_wp2_with fail
            refine (lineC dl id lits hints A1 A2 lits.length c1 hints.length c2 W9 HSTP HV9).mono ?_
            rintro e WA ⟨rfl, hbA⟩
            have HRx := Lib.hid (bkbel HR9.out hbA)
            have HSx := Lib.hid (bkbel HS9.out hbA)
            have HBx := Lib.hid (bthen HB9.out hbA)
            have HDx := Lib.hid ((hbA.block D (lt_of_heap HD9.out)).trans HD9.out)
            have HO1 := Lib.hid (own_fr (F := fun _ => False) HO19.out (Fr.of_below hbA) (fun _ _ h => h))
            have HO2 := Lib.hid (own_fr (F := fun _ => False) HO29.out (Fr.of_below hbA) (fun _ _ h => h))
            clear hbA HR9 HS9 HB9 HD9 HO19 HO29 HV9 x0 x1 x2 x3 r0 r1 r2 r3 g0 g1 g2 g3 HSTP
            obtain ⟨x0, x1, x2, x3⟩ := cells4 HSx.out
            obtain ⟨r0, r1, r2, r3⟩ := cells4 HRx.out
            have g0 := HRx.out.frozen 0
            have g1 := HRx.out.frozen 1
            have g2 := HRx.out.frozen 2
            have g3 := HRx.out.frozen 3
            by_cases hb3 : lineS ⟨dl, id, lits, hints⟩ = s.data.toList
            rotate_left
            · have e3 : ((str (lineS ⟨dl, id, lits, hints⟩)).toList != s.toList) = true := by rw [toList_data, toList_data, str_data]; simpa using hb3
              have e4 : ((str (lineS ⟨dl, id, lits, hints⟩)).toList == s.toList) = false := by rw [toList_data, toList_data, str_data]; simpa using hb3
              have HNO : Hid (parseS s.data.toList = none) := by show _ = _; rw [HV.out, if_neg (fun h => hb3 h.2.2.2)]
              clear hb3
              have HF := Lib.hid (bk_put4 (v0 := .bool false) (v1 := .int .i64 0) (v2 := .slice none 0 0) (v3 := .slice none 0 0) HRx.out)
              have HFB := Lib.hid (HBx.out.trans ((fr_put4 (w := WA) (a := p) (v0 := .bool false) (v1 := .int .i64 0) (v2 := .slice none 0 0) (v3 := .slice none 0 0)).below w.heap.size HBx.out.size (fun k hk e => by have := HP.out; omega)))
              have HDF := Lib.hid (((fr_put4 (w := WA) (a := p) (v0 := .bool false) (v1 := .int .i64 0) (v2 := .slice none 0 0) (v3 := .slice none 0 0)).block D (lt_of_heap HDx.out) (by omega)).trans HDx.out)
              go_upto_region 21 with fail
              repeat (first | go_values | go_skip | go_guarded | go_step | go_upon)
              rw [Exit.noGoto_ret]
              generalize ((((WA.setCell ⟨p, 0, none⟩ (.bool false)).setCell ⟨p, 1, none⟩ (.int .i64 0)).setCell ⟨p, 2, none⟩ (.slice none 0 0)).setCell ⟨p, 3, none⟩ (.slice none 0 0)) = WF at HF HFB HDF ⊢
              obtain ⟨y0, y1, y2, y3⟩ := cells4 (HF.out.fr (fr_putObj WF D (.deferred none)) (fun h => hpD h))
              exact ⟨by simp, .inl ⟨D, _, rfl, run_takeDeferred HDF.out, ⟨.tuple #[.agg #[.bool false, .int .i64 0, .slice none 0 0, .slice none 0 0], .int .i64 71], by simp [results, Tryz.results27, go_sem, y0, y1, y2, y3], parse_err HNO.out HFB.out (by omega)⟩⟩⟩
            · have e3 : ((str (lineS ⟨dl, id, lits, hints⟩)).toList != s.toList) = false := by rw [toList_data, toList_data, str_data, hb3]; simp
              have e4 : ((str (lineS ⟨dl, id, lits, hints⟩)).toList == s.toList) = true := by rw [toList_data, toList_data, str_data, hb3]; simp
              have HYE : Hid (parseS s.data.toList = some ⟨dl, id, lits, hints⟩) := by show _ = _; rw [HV.out, if_pos ⟨HB12.out.1, HB12.out.2, HRT.out, hb3⟩]
              clear hb3
              have HF := Lib.hid (bk_put4 (v0 := .bool dl) (v1 := .int .i64 id) (v2 := .slice A1 lits.length c1) (v3 := .slice A2 hints.length c2) HRx.out)
              have hfr := fr_put4 (w := WA) (a := p) (v0 := .bool dl) (v1 := .int .i64 id) (v2 := .slice A1 lits.length c1) (v3 := .slice A2 hints.length c2)
              have HFB := Lib.hid (HBx.out.trans (hfr.below w.heap.size HBx.out.size (fun k hk e => by have := HP.out; omega)))
              have HDF := Lib.hid ((hfr.block D (lt_of_heap HDx.out) (by omega)).trans HDx.out)
              have HO1F := Lib.hid (own_frB HO1.out hfr (by omega))
              have HO2F := Lib.hid (own_frB HO2.out hfr (by omega))
              clear hfr
              go_upto_region 22 with fail
              repeat (first | go_values | go_skip | go_guarded | go_step | go_upon)
              rw [Exit.noGoto_ret]
              generalize ((((WA.setCell ⟨p, 0, none⟩ (.bool dl)).setCell ⟨p, 1, none⟩ (.int .i64 id)).setCell ⟨p, 2, none⟩ (.slice A1 lits.length c1)).setCell ⟨p, 3, none⟩ (.slice A2 hints.length c2)) = WF at HF HFB HDF HO1F HO2F ⊢
              obtain ⟨y0, y1, y2, y3⟩ := cells4 (HF.out.fr (fr_putObj WF D (.deferred none)) (fun h => hpD h))
              exact ⟨by simp, .inl ⟨D, _, rfl, run_takeDeferred HDF.out, ⟨.tuple #[.agg #[.bool dl, .int .i64 id, .slice A1 lits.length c1, .slice A2 hints.length c2], .int .i64 0], by simp [results, Tryz.results27, go_sem, y0, y1, y2, y3], parse_ok HYE.out HFB.out (by omega) HDF.out rfl HO1F.out HO2F.out HOK.out (by omega) HB8.out.size⟩⟩⟩
end Go.Proofs.YteglgcfbmjlnkaaGreatDoor
