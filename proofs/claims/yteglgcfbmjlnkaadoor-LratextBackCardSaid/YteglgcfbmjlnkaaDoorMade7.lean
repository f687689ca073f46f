/-
  salvorlaw07.Made.
-/
import Derived.Test.YteglgcfbmjlnkaaDoorMade
import Derived.Deep.DeepCutAuto
set_option linter.unusedVariables false
set_option linter.unusedSimpArgs false
namespace Go.Proofs.YteglgcfbmjlnkaaDoor
open Go.RowKit

theorem flat4_len {α : Type} (f : α → List Value) (hf : ∀ x, (f x).length = 4) (L : List α) : (L.flatMap f).length = L.length * 4 := by
  induction L with
  | nil => rfl
  | cons x D ih => rw [List.flatMap_cons, List.length_append, ih, hf]; simp; omega
theorem flat4_at {α : Type} (f : α → List Value) (hf : ∀ x, (f x).length = 4) (L : List α) (i : Nat) (x : α) (h : L[i]? = some x) (j : Nat) (hj : j < 4) : (L.flatMap f)[i * 4 + j]? = (f x)[j]? := by
  induction L generalizing i with
  | nil => simp at h
  | cons y D ih =>
    rw [List.flatMap_cons]
    cases i with
    | zero =>
      simp at h
      subst h
      rw [List.getElem?_append_left (by rw [hf]; omega)]
      simp
    | succ i =>
      simp at h
      rw [List.getElem?_append_right (by rw [hf]; omega), hf, ← ih i h]
      congr 1
      omega
theorem Rd.flat4 {α : Type} {f : α → List Value} (hf : ∀ x, (f x).length = 4) {w : World} {A : Option Addr} {L : List α} {i : Nat} (h : Rd w A (L.flatMap f)) (hi : i < L.length) :
    ∃ b off x, A = some ⟨b, off, none⟩ ∧ L[i]? = some x ∧ b < w.heap.size ∧ ∀ j u, j < 4 → (f x)[j]? = some u → w.cell? ⟨b, off + (i * 4 + j), none⟩ = some u := by
  have hne : L.flatMap f ≠ [] := by
    intro e
    have := flat4_len f hf L
    rw [e] at this
    simp at this
    omega
  obtain ⟨b, off, rfl, hb, hc⟩ := h.cells hne
  exact ⟨b, off, L[i], rfl, List.getElem?_eq_getElem hi, hb, fun j u hj hu => hc _ _ ((flat4_at f hf L i _ (List.getElem?_eq_getElem hi) j hj).trans hu)⟩
/-- A small step in memory. -/
def smcell (p : StV × Sml) : List Value := [.bool p.2.del, .int .u8 (p.2.more : Int), .slice p.1.L.A p.1.L.n p.1.L.c, .slice p.1.H.A p.1.H.n p.1.H.c]
def u8s (l : List Nat) : List Value := l.map fun (m : Nat) => Value.int .u8 (m : Int)
structure SmlAt (w : World) (v : StV) (x : Sml) : Prop where
  more : x.more ≤ 255
  lrd : Rd w v.L.A (u8s x.lits)
  llen : x.lits.length = v.L.n
  lall : ∀ m ∈ x.lits, m ≤ 255
  lbig : v.L.n ≤ 9223372036854775807
  lcap : v.L.n ≤ v.L.c
  hrd : Rd w v.H.A (x.hints.map (Value.int .i8))
  hlen : x.hints.length = v.H.n
  hall : ∀ h ∈ x.hints, -128 ≤ h ∧ h ≤ 127
  hbig : v.H.n ≤ 9223372036854775807
  hcap : v.H.n ≤ v.H.c
theorem SmlAt.below {w w' : World} {v : StV} {x : Sml} (h : SmlAt w v x) (hb : Below w.heap.size w w') : SmlAt w' v x :=
  ⟨h.more, h.lrd.below hb, h.llen, h.lall, h.lbig, h.lcap, h.hrd.below hb, h.hlen, h.hall, h.hbig, h.hcap⟩
structure SmlsAt (w : World) (A : Option Addr) (n : Nat) (L : List (StV × Sml)) : Prop where
  rd : Rd w A (L.flatMap smcell)
  len : L.length = n
  all : ∀ (i : Nat) (v : StV) (x : Sml), L[i]? = some (v, x) → SmlAt w v x
theorem SmlsAt.below {w w' : World} {A : Option Addr} {n : Nat} {L : List (StV × Sml)} (h : SmlsAt w A n L) (hb : Below w.heap.size w w') : SmlsAt w' A n L := ⟨h.rd.below hb, h.len, fun i v s hi => (h.all i v s hi).below hb⟩
theorem Rd.sml {w : World} {A : Option Addr} {L : List (StV × Sml)} {n i : Nat} (h : Rd w A (L.flatMap smcell)) (hl : L.length = n) (hi : i < n) :
    ∃ (b off : Nat) (LA HA : Option Addr) (Ln Lc Hn Hc : Nat) (del : Bool) (more : Nat) (lits : List Nat) (hints : List Int), A = some ⟨b, off, none⟩ ∧ L[i]? = some (⟨⟨LA, Ln, Lc⟩, ⟨HA, Hn, Hc⟩⟩, ⟨del, more, lits, hints⟩) ∧ b < w.heap.size ∧ w.cell? ⟨b, off + i * 4, none⟩ = some (.bool del) ∧ w.cell? ⟨b, off + i * 4 + 1, none⟩ = some (.int .u8 (more : Int)) ∧ w.cell? ⟨b, off + i * 4 + 2, none⟩ = some (.slice LA Ln Lc) ∧ w.cell? ⟨b, off + i * 4 + 3, none⟩ = some (.slice HA Hn Hc) := by
  obtain ⟨b, off, ⟨⟨⟨LA, Ln, Lc⟩, ⟨HA, Hn, Hc⟩⟩, ⟨del, more, lits, hints⟩⟩, rfl, hx, hb, hc⟩ := h.flat4 (fun x => rfl) (by rw [hl]; exact hi)
  exact ⟨b, off, LA, HA, Ln, Lc, Hn, Hc, del, more, lits, hints, rfl, hx, hb, by simpa [Nat.add_assoc] using hc 0 _ (by omega) rfl, by simpa [Nat.add_assoc] using hc 1 _ (by omega) rfl, by simpa [Nat.add_assoc] using hc 2 _ (by omega) rfl, by simpa [Nat.add_assoc] using hc 3 _ (by omega) rfl⟩
theorem madeF_snoc (x : Sml) : ∀ (xs : List Sml) (id : Int), madeF id (xs ++ [x]) = madeF id xs ++ [stpM x (lastM id xs)]
  | [], id => rfl
  | y :: ys, id => by simp [madeF, lastM, madeF_snoc x ys]
theorem lastM_snoc (x : Sml) : ∀ (xs : List Sml) (id : Int), lastM id (xs ++ [x]) = idM x (lastM id xs)
  | [], id => rfl
  | y :: ys, id => by simp [lastM, lastM_snoc x ys]
theorem rdt_frM {w w' : World} {A : Option Addr} {t t' : TypeId} {xs : List Value} {g : Nat} {cs : Array Value} (h : RdT w A t xs) (hk : Bk w g t' cs) (hne : t' ≠ t) (hf : Fr (fun q => q = g) w w') : RdT w' A t xs :=
  h.fr hf (fun b hb' ⟨off, he⟩ hq => by
    obtain ⟨cs, fr, hh⟩ := h.ty b off he
    subst hq
    unfold Bk at hk
    rw [hh] at hk
    injection hk with hk
    injection hk with _ hk
    exact hne hk.symm)
theorem StpT.frM {w w' : World} {v : StV} {s : Stp} {g : Nat} {cs : Array Value} (h : StpT w v s) (hk : Bk w g 31 cs) (hf : Fr (fun q => q = g) w w') : StpT w' v s :=
  have h1 := rdt_frM h.lt hk (by decide) hf
  have h2 := rdt_frM h.ht hk (by decide) hf
  ⟨⟨h.at'.id, ⟨h1.rd, h.at'.lits.2⟩, ⟨h2.rd, h.at'.hints.2⟩⟩, h1, h2⟩
theorem hintsM_i64 (del : Bool) (l : List Int) (h : ∀ x ∈ l, -128 ≤ x ∧ x ≤ 127) (k : Nat) : ∀ u ∈ ((l.take k).map (hintM del)).filter (· ≠ 0), I64 u := by
  intro u hu
  rw [List.mem_filter] at hu
  obtain ⟨y, hy, rfl⟩ := List.mem_map.1 hu.1
  have hb := h y (List.mem_of_mem_take hy)
  unfold hintM
  split
  · exact ⟨by omega, by omega⟩
  · exact ⟨by omega, by omega⟩
theorem hints_snoc {hints : List Int} {j : Nat} {hv z : Int} {del : Bool} (hx : hints[j]? = some hv) (hz : hintM del hv = z) : ((hints.take (j + 1)).map (hintM del)).filter (· ≠ 0) = ((hints.take j).map (hintM del)).filter (· ≠ 0) ++ (if z ≠ 0 then [z] else []) := by
  rw [take_snoc hx, List.map_append, List.filter_append]
  simp only [List.map_cons, List.map_nil, hz]
  congr 1
  by_cases h : z = 0
  · subst h; rfl
  · rw [if_pos h]
    simp [h]
theorem bk_app {w w5 : World} {g base n m c : Nat} {t e : TypeId} {cs : Array Value} {A : Option Addr} {xs : List Value} {o : Obj} (hb : Bk w g t cs) (ho : w.ownsRow base e 1 (.slice A m c) n xs) (hne : e ≠ t) (hg : (w.alloc o).grownBy w5 (Value.slice A m c).ownBlock) : Bk w5 g t cs :=
  (hb.alloc o).grown hg (own_ne (ho.alloc o) (hb.alloc o) hne)
def MadePost (w : World) (xs : List Sml) (e : Ending) (w' : World) : Prop :=
  ∃ A n c L, e = .returned (.slice A n c) ∧ w'.ownsRow w.heap.size 31 4 (.slice A n c) n (scells L) ∧ (∀ (i : Nat) (v : StV) (x : Stp), L[i]? = some (v, x) → StpT w' v x) ∧ L.map (·.2) = madeS xs ∧ L.length = n ∧ Below w.heap.size w w'
set_option maxRecDepth 100000 in
set_option maxHeartbeats 4000000 in
theorem made7C (A : Option Addr) (n c : Nat) (L : List (StV × Sml)) (w : World) (h : Hid (SmlsAt w A n L)) (hn : n ≤ 9223372036854775807) (hc : n ≤ c) :
    Calls Tryd.prog 11 #[.slice A n c] w (MadePost w (L.map (·.2))) := by
  obtain ⟨k0, hk0⟩ : ∃ k0, min n 40 = k0 := ⟨_, rfl⟩
  have hk40 : k0 ≤ 40 ∧ k0 ≤ n := by omega
  have hmin : min (n : Int) 40 = (k0 : Int) := by omega
  have HT : Hid ((L.map (·.2)).take 40 = (L.map (·.2)).take k0) := by
    show _ = _
    rcases Nat.lt_or_ge n 40 with h1 | h1
    · rw [List.take_of_length_le (by rw [List.length_map, h.out.len]; omega), List.take_of_length_le (by rw [List.length_map, h.out.len]; omega)]
    · rw [show k0 = 40 by omega]
  have hkc : (k0 : Int) ≤ (c : Int) := by omega
  have hkz : (0 : Int) ≤ (k0 : Int) := by omega
  go_enter Tryd.func11, Tryd.ntmps11
  go_wp2_with fail
  go_loopw [3, 4, 17] (fun v3 v4 v17 wr => ∃ (k : Nat) (id : Int) (L' : List (StV × Stp)) (A' : Option Addr) (c' : Nat), k ≤ k0 ∧ v17 = .int .i64 k ∧ v4 = .int .i64 id ∧ v3 = .slice A' k c' ∧ 0 ≤ id ∧ id ≤ 5 * (k : Int) ∧ Hid (id = lastM 0 ((L.map (·.2)).take k)) ∧ Hid (L'.length = k) ∧ Hid (L'.map (·.2) = madeF 0 ((L.map (·.2)).take k)) ∧ Hid (wr.ownsRow w.heap.size 31 4 (.slice A' k c') k (scells L')) ∧ Hid (∀ (i : Nat) (v : StV) (x : Stp), L'[i]? = some (v, x) → StpT wr v x) ∧ Hid (Below w.heap.size w wr)) (fun _ _ v17 _ => k0 - (intOf v17).toNat)
  case atStart => exact ⟨0, 0, [], none, 0, Nat.zero_le _, rfl, rfl, rfl, by omega, by omega, rfl, rfl, rfl, World.ownsRow_nil _ _ _ _, fun i v x h => (by simp at h), Below.refl _ _⟩
  case round =>
    obtain ⟨k, id, L', A', c', hk, rfl, rfl, rfl, hid0, hid1, HID, HL, HM, HO, HT2, HB⟩ := hrel
    have hki : ∀ b : Bool, decide (k < k0) = b → decide ((k : Int) < (k0 : Int)) = b := fun b hb => by rw [← hb]; exact decide_eq_decide.2 (by omega)
    by_cases hlt : k < k0
    · have e1 := hki true (decide_eq_true hlt)
      clear hki
      obtain ⟨b, off, LA, HA, Ln, Lc, Hn, Hc, del, more, lits, hints, rfl, hx, hbl, c0, c1, c2, c3⟩ := (h.out.rd.below HB.out).sml h.out.len (show k < n by omega)
      have HS := Lib.hid ((h.out.all k _ _ hx).below HB.out)
      have HX : Hid ((L.map (·.2))[k]? = some ⟨del, more, lits, hints⟩) := by show _ = _; rw [List.getElem?_map, hx]; rfl
      have HXI := Lib.hid hx
      clear hx
      have hmore : more ≤ 255 := HS.out.more
      have HX5 := Lib.hid ((Bk.new wr 71 #[.bool del, .int .u8 (more : Int), .slice LA Ln Lc, .slice HA Hn Hc]).alloc (.cells #[.bool del, .int .i64 0, .slice none 0 0, .slice none 0 0] 31))
      have hx6 := Bk.new (wr.alloc (.cells #[.bool del, .int .u8 (more : Int), .slice LA Ln Lc, .slice HA Hn Hc] 71)) 31 #[.bool del, .int .i64 0, .slice none 0 0, .slice none 0 0]
      rw [World.size_alloc] at hx6
      have HX6 := Lib.hid hx6
      have HB5 : Hid (Below wr.heap.size wr ((wr.alloc (.cells #[.bool del, .int .u8 (more : Int), .slice LA Ln Lc, .slice HA Hn Hc] 71)).alloc (.cells #[.bool del, .int .i64 0, .slice none 0 0, .slice none 0 0] 31))) := balloc (balloc (Below.refl _ _) _) _
      clear hx6
      have hsz5 : wr.heap.size + 1 < ((wr.alloc (.cells #[.bool del, .int .u8 (more : Int), .slice LA Ln Lc, .slice HA Hn Hc] 71)).alloc (.cells #[.bool del, .int .i64 0, .slice none 0 0, .slice none 0 0] 31)).heap.size := HX6.out.lt
      obtain ⟨r5, hr5, hr5'⟩ : ∃ r : Nat, more % 5 = r ∧ r ≤ 4 := ⟨more % 5, rfl, by omega⟩
      have d1 : (more : Int) % 5 = (r5 : Int) := by omega
      have d2 : (more : Int).tmod 5 = (r5 : Int) := by rw [Int.tmod_eq_emod_of_nonneg (by omega)]; omega
      have w1 : IntKind.i64.wrap (r5 : Int) = (r5 : Int) := by rw [IntKind.wrap_i64]; omega
      have w2 : IntKind.i64.wrap (id + (r5 : Int)) = id + (r5 : Int) := by rw [IntKind.wrap_i64]; omega
      have w3 : IntKind.i64.wrap (id + (r5 : Int) + 1) = id + (r5 : Int) + 1 := by rw [IntKind.wrap_i64]; omega
      go_upto_region 7 with fail
      have HO5 := Lib.hid ((HO.out.alloc (.cells #[.bool del, .int .u8 (more : Int), .slice LA Ln Lc, .slice HA Hn Hc] 71)).alloc (.cells #[.bool del, .int .i64 0, .slice none 0 0, .slice none 0 0] 31))
      have HT5 : Hid (∀ (i : Nat) (v : StV) (x : Stp), L'[i]? = some (v, x) → StpT ((wr.alloc (.cells #[.bool del, .int .u8 (more : Int), .slice LA Ln Lc, .slice HA Hn Hc] 71)).alloc (.cells #[.bool del, .int .i64 0, .slice none 0 0, .slice none 0 0] 31)) v x) := fun i v x h => (HT2.out i v x h).below HB5.out
      have HS5 := Lib.hid (HS.out.below HB5.out)
      have HB6 := Lib.hid (bthen HB.out HB5.out)
      have hrow : ∀ g, (Value.slice A' k c').ownBlock = some g → g < wr.heap.size + 1 := fun g hg => by have := (HO.out.lt g hg).2; omega
      have HROW := Lib.hid hrow
      have hwb : w.heap.size ≤ wr.heap.size + 1 := by have := HB.out.size; omega
      clear hrow HO HT2 HS HB HB5
      generalize ((wr.alloc (.cells #[.bool del, .int .u8 (more : Int), .slice LA Ln Lc, .slice HA Hn Hc] 71)).alloc (.cells #[.bool del, .int .i64 0, .slice none 0 0, .slice none 0 0] 31)) = W5 at *
      obtain ⟨bx, hbx⟩ : ∃ bx, bx = wr.heap.size := ⟨_, rfl⟩
      rw [← hbx] at HX5 HX6 HROW hwb hsz5
      rw [← hbx]
      clear hbx
      obtain ⟨x0, x1, x2, x3⟩ := cells4 HX5.out
      obtain ⟨y0, y1, y2, y3⟩ := cells4 HX6.out
      have g1 := HX6.out.frozen 1; have g2 := HX6.out.frozen 2
      have hidx : idM ⟨del, more, lits, hints⟩ id = id + (r5 : Int) + (if del then 0 else 1) := by unfold idM; dsimp only; rw [hr5]
      have HIDX := Lib.hid hidx
      clear hidx
      go_upto_if 32 with fail
      go_cut [4] (fun v4 wx => ∃ (LA2 : Option Addr) (Ln2 Lc2 : Nat), v4 = .int .i64 (idM ⟨del, more, lits, hints⟩ id) ∧ Hid (Bk wx (bx + 1) 31 #[.bool del, .int .i64 0, .slice LA2 Ln2 Lc2, .slice none 0 0]) ∧ Hid (RdT wx LA2 50 ((stpM ⟨del, more, lits, hints⟩ id).lits.map (Value.int .i64))) ∧ Hid ((stpM ⟨del, more, lits, hints⟩ id).lits.length = Ln2) ∧ Hid (Fr (fun q => q = bx + 1) W5 wx))
      case first =>
        cases del with
        | true =>
          go_wp2_with fail
          go_meet
          refine ⟨none, 0, 0, ?_, HX6, ⟨Rd.nil, fun b off he => by cases he⟩, rfl, Fr.refl _ _⟩
          rw [HIDX.out]
          simp
        | false =>
          have HM2 := made2C LA Ln Lc lits W5 (Lib.hid HS5.out.lrd) (Lib.hid HS5.out.llen) (Lib.hid HS5.out.lall) HS5.out.lbig HS5.out.lcap
          have HM2' := Lib.hid HM2
          clear HM2
          go_wp2_with fail
          refine HM2'.out.mono ?_
          rintro e w6 ⟨A6, n6, c6, rfl, hl6, ho6, hb6⟩
          have HX7 := Lib.hid (bkbel HX6.out hb6)
          have HR6 := Lib.hid (RdT.of_own ho6)
          have HL6 := Lib.hid hl6
          have HF6 : Hid (Fr (fun q => q = bx + 1) W5 w6) := Fr.of_below hb6
          obtain ⟨z0, z1, z2, z3⟩ := cells4 HX7.out
          have i2 := HX7.out.frozen 2
          clear ho6 hb6 hl6 x0 x1 x2 x3 y0 y1 y2 y3 g1 g2
          go_wp2_with fail
          go_meet
          refine ⟨A6, n6, c6, ?_, ?_, rdt_frM HR6.out HX7.out (by decide) ((Fr.refl (fun q => q = bx + 1) w6).setCell (p := ⟨bx + 1, 2, none⟩) (.inl rfl) _), HL6, HF6.out.setCell (p := ⟨bx + 1, 2, none⟩) (.inl rfl) _⟩
          · rw [HIDX.out]
            simp
          · have h := HX7.out.put 2 (.slice A6 n6 c6)
            simp only [List.setIfInBounds_toArray, List.set_cons_succ, List.set_cons_zero] at h
            exact h
      case rest =>
        obtain ⟨LA2, Ln2, Lc2, rfl, HX7, HRL, HLL, HF7⟩ := hcut
        have HX65 := HX6
        clear x0 x1 x2 x3 y0 y1 y2 y3 g1 g2 HX6
        obtain ⟨q1, q2, q3⟩ := idM_ge ⟨del, more, lits, hints⟩ id
        clear q3
        obtain ⟨idn, hidn⟩ : ∃ z, idM ⟨del, more, lits, hints⟩ id = z := ⟨_, rfl⟩
        rw [hidn] at q1 q2 ⊢
        have HIDN := Lib.hid hidn
        clear hidn HIDX
        have hf7 : wc.heap.size ≥ W5.heap.size := HF7.out.size
        obtain ⟨y0, y1, y2, y3⟩ := cells4 HX7.out
        have g1 := HX7.out.frozen 1
        have HX5c := Lib.hid (HX5.out.fr HF7.out (by show ¬ bx = bx + 1; omega))
        have HX8 : Hid (Bk (wc.setCell ⟨bx + 1, 1, none⟩ (.int .i64 idn)) (bx + 1) 31 #[.bool del, .int .i64 idn, .slice LA2 Ln2 Lc2, .slice none 0 0]) := by
          have h := HX7.out.put 1 (.int .i64 idn)
          simp only [List.setIfInBounds_toArray, List.set_cons_succ, List.set_cons_zero] at h
          exact h
        have HF8 : Hid (Fr (fun q => q = bx + 1) W5 (wc.setCell ⟨bx + 1, 1, none⟩ (.int .i64 idn))) := HF7.out.setCell (p := ⟨bx + 1, 1, none⟩) (.inl rfl) _
        have HRL8 := Lib.hid (rdt_frM HRL.out HX7.out (by decide) ((Fr.refl (fun q => q = bx + 1) wc).setCell (p := ⟨bx + 1, 1, none⟩) (.inl rfl) (.int .i64 idn)))
        have HX58 := Lib.hid (HX5c.out.far (p := ⟨bx + 1, 1, none⟩) (by show bx ≠ bx + 1; omega) (.int .i64 idn))
        obtain ⟨x0, x1, x2, x3⟩ := cells4 HX5c.out
        go_upto_region 12 with fail
        generalize (wc.setCell ⟨bx + 1, 1, none⟩ (.int .i64 idn)) = W7 at *
        clear y0 y1 y2 y3 g1 HX7 HF7 HRL HX5c x0 x1 x2 x3 hf7 HX5
        obtain ⟨y0, y1, y2, y3⟩ := cells4 HX8.out
        obtain ⟨x0, x1, x2, x3⟩ := cells4 HX58.out
        obtain ⟨j0, hj0⟩ : ∃ j0, min Hn 10 = j0 := ⟨_, rfl⟩
        have hj10 : j0 ≤ 10 ∧ j0 ≤ Hn := by omega
        have hjmin : min (Hn : Int) 10 = (j0 : Int) := by omega
        have hhc : Hn ≤ Hc := HS5.out.hcap
        have hjc : (j0 : Int) ≤ (Hc : Int) := by omega
        have hjz : (0 : Int) ≤ (j0 : Int) := by omega
        have HTH : Hid (hints.take 10 = hints.take j0) := by
          show _ = _
          have hl : hints.length = Hn := HS5.out.hlen
          rcases Nat.lt_or_ge Hn 10 with h1 | h1
          · rw [List.take_of_length_le (by omega), List.take_of_length_le (by omega)]
          · rw [show j0 = 10 by omega]
        go_wp2_with fail
        clear y0 y1 y2 y3 x0 x1 x2 x3 hj0 hjmin
        go_loopw [49] (fun v49 wr2 => ∃ (j hn : Nat) (HA2 : Option Addr) (hc2 : Nat), j ≤ j0 ∧ v49 = .int .i64 j ∧ hn ≤ j ∧ Hid ((((hints.take j).map (hintM del)).filter (· ≠ 0)).length = hn) ∧ Hid (Bk wr2 (bx + 1) 31 #[.bool del, .int .i64 idn, .slice LA2 Ln2 Lc2, .slice HA2 hn hc2]) ∧ Hid (wr2.ownsRow W7.heap.size 3 1 (.slice HA2 hn hc2) hn ((((hints.take j).map (hintM del)).filter (· ≠ 0)).map (Value.int .i64))) ∧ Hid (Fr (fun q => q = bx + 1) W7 wr2)) (fun v49 _ => j0 - (intOf v49).toNat)
        case atStart => exact ⟨0, 0, none, 0, Nat.zero_le _, rfl, Nat.le_refl _, rfl, HX8, World.ownsRow_nil _ _ _ _, Fr.refl _ _⟩
        case round =>
          obtain ⟨j, hn2, HA2, hc2, hj, rfl, hnj, HLH, HX9, HOH, HF9⟩ := hrel
          have hkj : ∀ b : Bool, decide (j < j0) = b → decide ((j : Int) < (j0 : Int)) = b := fun b hb => by rw [← hb]; exact decide_eq_decide.2 (by omega)
          have HFw : Hid (Fr (fun q => q = bx + 1) W5 wr) := HF8.out.trans HF9.out
          have HW2 : Hid (Below w.heap.size w wr) := HB6.out.trans (HFw.out.below w.heap.size HB6.out.size (fun q hq e => by omega))
          have HX59 := Lib.hid (HX58.out.fr HF9.out (by show ¬ bx = bx + 1; omega))
          obtain ⟨x0, x1, x2, x3⟩ := cells4 HX59.out
          obtain ⟨y0, y1, y2, y3⟩ := cells4 HX9.out
          have g3 := HX9.out.frozen 3
          have hws7 : W7.heap.size ≤ wr.heap.size := HF9.out.size
          by_cases hlj : j < j0
          · have e2 := hkj true (decide_eq_true hlj)
            clear hkj
            have HSI := Lib.hid ((h.out.all k _ _ HXI.out).below HW2.out)
            obtain ⟨b2, o2, hv, rfl, hhx, hcell⟩ := HSI.out.hrd.getm HSI.out.hlen (show j < Hn by omega)
            have hvb := HSI.out.hall hv (List.mem_of_getElem? hhx)
            have HHX := Lib.hid hhx
            clear hhx
            have w9 : IntKind.i64.wrap hv = hv := by rw [IntKind.wrap_i64]; omega
            cases del with
            | true =>
              have w8 : IntKind.i64.wrap (-hv) = -hv := by rw [IntKind.wrap_i64]; omega
              obtain ⟨z, hz⟩ : ∃ z, max hv (-hv) = z := ⟨_, rfl⟩
              have HZ : Hid (hintM true hv = z) := hz
              by_cases hz0 : z = 0
              · subst hz0
                have HSN := Lib.hid (hints_snoc HHX.out HZ.out)
                rw [if_neg (by simp)] at HSN
                rw [List.append_nil] at HSN
                go_wp2_with fail
                go_roundw
                case rel => exact ⟨j + 1, hn2, HA2, hc2, by omega, by go_num, by omega, by rw [HSN.out]; exact HLH, HX9, by rw [HSN.out]; exact HOH, HF9⟩
                case measure => simp [intOf]; omega
              · have e3 : (z != 0) = true := by simpa using hz0
                have HSN := Lib.hid (hints_snoc HHX.out HZ.out)
                rw [if_pos hz0] at HSN
                clear hz0
                go_wp2_with (at_builtin; refine wpList_app el_int rfl (.tmp 64) (.tmp 66) rfl W7.heap.size (.slice HA2 hn2 hc2) hn2 _ rfl (HOH.out.alloc _) (some ⟨wr.heap.size, 0, none⟩) 1 1 [.int .i64 _] rfl (Rd.new _ #[_] _) rfl (by simp [Value.oneCell']) (by omega) (by simp; omega) ?_; intro A2 c2 w5 hown1 hgr1 hat1; have HXg := Lib.hid (bk_app HX9.out HOH.out (by decide) hgr1); obtain ⟨z0, z1, z2, z3⟩ := cells4 HXg.out; have i3 := HXg.out.frozen 3; have Ho1 := Lib.hid hown1; have Hg1 := Lib.hid hgr1; clear hown1 hgr1 hat1)
                go_roundw
                case rel =>
                  refine ⟨j + 1, hn2 + 1, A2, c2, by omega, by go_num, by omega, ?_, ?_, ?_, ?_⟩
                  · show _ = _
                    rw [HSN.out, List.length_append, HLH.out]; rfl
                  · have h := HXg.out.put 3 (.slice A2 (hn2 + 1) c2)
                    simp only [List.setIfInBounds_toArray, List.set_cons_succ, List.set_cons_zero] at h
                    exact h
                  · show World.ownsRow _ _ _ _ _ _ _
                    rw [HSN.out, List.map_append]
                    exact ownsRow_setCell_other Ho1.out (a := ⟨bx + 1, 3, none⟩) (fun e => own_ne Ho1.out HXg.out (by decide) e.symm) _
                  · exact ((HF9.out.alloc _).grown Hg1.out (fun k hk => .inr (HOH.out.lt k hk).1)).setCell (p := ⟨bx + 1, 3, none⟩) (.inl rfl) _
                case measure => simp [intOf]; omega
            | false =>
              obtain ⟨z, hz⟩ : ∃ z, hv = z := ⟨_, rfl⟩
              subst hz
              have HZ : Hid (hintM false hv = hv) := rfl
              by_cases hz0 : hv = 0
              · subst hz0
                have HSN := Lib.hid (hints_snoc HHX.out HZ.out)
                rw [if_neg (by simp)] at HSN
                rw [List.append_nil] at HSN
                go_wp2_with fail
                go_roundw
                case rel => exact ⟨j + 1, hn2, HA2, hc2, by omega, by go_num, by omega, by rw [HSN.out]; exact HLH, HX9, by rw [HSN.out]; exact HOH, HF9⟩
                case measure => simp [intOf]; omega
              · have e3 : (hv != 0) = true := by simpa using hz0
                have HSN := Lib.hid (hints_snoc HHX.out HZ.out)
                rw [if_pos hz0] at HSN
                clear hz0
                go_wp2_with (at_builtin; refine wpList_app el_int rfl (.tmp 64) (.tmp 66) rfl W7.heap.size (.slice HA2 hn2 hc2) hn2 _ rfl (HOH.out.alloc _) (some ⟨wr.heap.size, 0, none⟩) 1 1 [.int .i64 _] rfl (Rd.new _ #[_] _) rfl (by simp [Value.oneCell']) (by omega) (by simp; omega) ?_; intro A2 c2 w5 hown1 hgr1 hat1; have HXg := Lib.hid (bk_app HX9.out HOH.out (by decide) hgr1); obtain ⟨z0, z1, z2, z3⟩ := cells4 HXg.out; have i3 := HXg.out.frozen 3; have Ho1 := Lib.hid hown1; have Hg1 := Lib.hid hgr1; clear hown1 hgr1 hat1)
                go_roundw
                case rel =>
                  refine ⟨j + 1, hn2 + 1, A2, c2, by omega, by go_num, by omega, ?_, ?_, ?_, ?_⟩
                  · show _ = _
                    rw [HSN.out, List.length_append, HLH.out]; rfl
                  · have h := HXg.out.put 3 (.slice A2 (hn2 + 1) c2)
                    simp only [List.setIfInBounds_toArray, List.set_cons_succ, List.set_cons_zero] at h
                    exact h
                  · show World.ownsRow _ _ _ _ _ _ _
                    rw [HSN.out, List.map_append]
                    exact ownsRow_setCell_other Ho1.out (a := ⟨bx + 1, 3, none⟩) (fun e => own_ne Ho1.out HXg.out (by decide) e.symm) _
                  · exact ((HF9.out.alloc _).grown Hg1.out (fun k hk => .inr (HOH.out.lt k hk).1)).setCell (p := ⟨bx + 1, 3, none⟩) (.inl rfl) _
                case measure => simp [intOf]; omega
          · have e2 := hkj false (decide_eq_false hlj)
            obtain rfl : j = j0 := by omega
            clear hkj
            have HOo := Lib.hid (own_fr HO5.out HFw.out (fun q hq e => by have := HROW.out q hq; omega))
            have HTo : Hid (∀ (i : Nat) (v : StV) (x : Stp), L'[i]? = some (v, x) → StpT wr v x) := fun i v x hi => (HT5.out i v x hi).frM HX65.out HFw.out
            have HRLo := Lib.hid (rdt_frM HRL8.out HX8.out (by decide) HF9.out)
            have HRHo := Lib.hid (RdT.of_own HOH.out)
            have hLn : Ln2 ≤ 20 := by
              have h1 := HLL.out
              rw [← h1]
              unfold stpM
              cases del <;> simp <;> omega
            have HIH : Hid ((stpM ⟨del, more, lits, hints⟩ id).hints = ((hints.take j).map (hintM del)).filter (· ≠ 0)) := by
              show hintsM del hints = _
              unfold hintsM
              rw [HTH.out]
            have hbn := (h.out.all k _ _ HXI.out).hall
            have HNEW : Hid (StpT wr ⟨⟨LA2, Ln2, Lc2⟩, ⟨HA2, hn2, hc2⟩⟩ (stpM ⟨del, more, lits, hints⟩ id)) := by
              refine ⟨⟨?_, ⟨HRLo.out.rd, HLL.out, ?_, by show Ln2 ≤ _; omega⟩, ⟨?_, ?_, ?_, by show hn2 ≤ _; omega⟩⟩, HRLo.out, ?_⟩
              · show I64 (idM ⟨del, more, lits, hints⟩ id)
                rw [HIDN.out]
                exact ⟨by omega, by omega⟩
              · intro u hu
                unfold stpM at hu
                cases del
                · simp only [Bool.false_eq_true, if_false] at hu
                  obtain ⟨m, _, rfl⟩ := List.mem_map.1 hu
                  exact litM_i64 m
                · simp at hu
              · rw [HIH.out]; exact HRHo.out.rd
              · rw [HIH.out]; exact HLH.out
              · rw [HIH.out]; exact hintsM_i64 del hints hbn j
              · rw [HIH.out]; exact HRHo.out
            have hcell : scell (⟨⟨LA2, Ln2, Lc2⟩, ⟨HA2, hn2, hc2⟩⟩, stpM ⟨del, more, lits, hints⟩ id) = [.bool del, .int .i64 idn, .slice LA2 Ln2 Lc2, .slice HA2 hn2 hc2] := by
              show [Value.bool del, .int .i64 (idM ⟨del, more, lits, hints⟩ id), .slice LA2 Ln2 Lc2, .slice HA2 hn2 hc2] = _
              rw [HIDN.out]
            have HCELL := Lib.hid hcell
            have hwsz : w.heap.size ≤ wr.heap.size := HW2.out.size
            clear hcell hbn HO5 HT5
            go_wp2_with (at_builtin; refine wpList_app el_step rfl (.tmp 70) (.tmp 72) rfl w.heap.size (.slice A' k c') k (scells L') rfl (HOo.out.alloc _) (some ⟨wr.heap.size, 0, none⟩) 1 1 [.bool del, .int .i64 idn, .slice LA2 Ln2 Lc2, .slice HA2 hn2 hc2] rfl (Rd.new _ #[_, _, _, _] _) rfl (by rw [← HCELL.out]; exact scell_one _) (by omega) (by simp; omega) ?_; intro A3 c3 w5 hown1 hgr1 hat1; have Ho1 := Lib.hid hown1; have Hg1 := Lib.hid hgr1; clear hown1 hgr1 hat1)
            have HNEW5 := Lib.hid ((HNEW.out.below (balloc (Below.refl _ _) _)).grown (HOo.out.alloc _) Hg1.out)
            have HTo5 : Hid (∀ (i : Nat) (v : StV) (x : Stp), L'[i]? = some (v, x) → StpT w5 v x) := fun i v x h => ((HTo.out i v x h).below (balloc (Below.refl _ _) _)).grown (HOo.out.alloc _) Hg1.out
            have HTK : Hid ((L.map (·.2)).take (k + 1) = (L.map (·.2)).take k ++ [⟨del, more, lits, hints⟩]) := take_snoc HX.out
            go_roundw
            case rel =>
              refine ⟨k + 1, idn, L' ++ ([(⟨⟨LA2, Ln2, Lc2⟩, ⟨HA2, hn2, hc2⟩⟩, stpM ⟨del, more, lits, hints⟩ id)] : List (StV × Stp)), A3, c3, by omega, by go_num, rfl, rfl, by omega, by omega, ?_, ?_, ?_, ?_, ?_, own_step4 HW2.out HOo.out Hg1.out⟩
              · show _ = _
                rw [HTK.out, lastM_snoc, ← HID.out, HIDN.out]
              · show _ = _
                rw [List.length_append, HL.out]; rfl
              · show _ = _
                rw [HTK.out, madeF_snoc, ← HID.out, List.map_append, HM.out]
                rfl
              · show World.ownsRow _ _ _ _ _ _ _
                rw [scells_snoc, HCELL.out]
                exact Ho1.out
              · intro i v x' hi
                rcases Nat.lt_or_ge i L'.length with h1 | h1
                · rw [List.getElem?_append_left h1] at hi
                  exact HTo5.out i v x' hi
                · rw [List.getElem?_append_right h1] at hi
                  rcases Nat.eq_zero_or_pos (i - L'.length) with h2 | h2
                  · rw [h2] at hi
                    injection hi with hi
                    obtain ⟨rfl, rfl⟩ := Prod.mk.inj hi
                    exact HNEW5.out
                  · rw [List.getElem?_eq_none (by simp; omega)] at hi
                    cases hi
            case measure => simp [intOf]; omega
    · have e1 := hki false (decide_eq_false hlt)
      obtain rfl : k = k0 := by omega
      clear hki
      have HM' := HM
      rw [← HT.out] at HM'
      go_wp2
      go_ret
      exact ⟨A', k, c', L', rfl, HO.out, HT2.out, HM'.out, HL.out, HB.out⟩
end Go.Proofs.YteglgcfbmjlnkaaDoor
