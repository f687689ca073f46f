/-
  Contracts of package aig, over graphs: New, Input, Inputs, Kind, Sides.
-/
import Derived.Test.YtamoniljgifggaaAig1
set_option linter.unusedVariables false
set_option linter.unusedSimpArgs false
namespace Go.Proofs.Ytamoniljgifggaa
open Go.RowKit

theorem gNew (M : Int) (w : World) (h1 : 1 ≤ M) (h2 : M ≤ 65536) :
    Calls Try.prog 28 #[.int .i64 M] w fun e w' => ∃ g, e = .returned (.tuple #[.pointer (some ⟨g, 0, none⟩), .int .i64 0]) ∧ GAt w' w.heap.size g M [⟨1, 0, 0⟩] ∧ Below w.heap.size w w' := by
  have hmm := @run_makeMap Try.prog
  go_enter Try.func28, Try.ntmps28
  go_wp2
  go_ret2
  have hb : Below w.heap.size w (((w.alloc (.cells #[.int .u8 1, .int .i64 0, .int .i64 0, .int .i64 0] 141)).alloc (.map #[] 0)).alloc (.cells #[.int .i64 M, .slice (some ⟨w.heap.size, 0, none⟩) 1 1, .map (some (w.heap.size + 1)), .slice none 0 0] 45)) :=
    (((Below.refl _ w).alloc (Nat.le_refl _) _).alloc (by simp) _).alloc (by simp; omega) _
  refine ⟨_, rfl, ⟨w.heap.size, w.heap.size + 1, 1, .slice none 0 0, [(⟨1, 0, 0⟩, 0)], rfl, by omega, by omega, by simp; omega, ?_, ?_, ?_, ?_⟩, hb⟩
  · have h := Bk.new ((w.alloc (.cells #[.int .u8 1, .int .i64 0, .int .i64 0, .int .i64 0] 141)).alloc (.map #[] 0)) 45 #[.int .i64 M, .slice (some ⟨w.heap.size, 0, none⟩) 1 1, .map (some (w.heap.size + 1)), .slice none 0 0]
    simp only [World.size_alloc] at h
    exact h
  · exact ((World.ownsRow_lit (base := w.heap.size) (e := 141) (size := 4) w #[.int .u8 1, .int .i64 0, .int .i64 0, .int .i64 0] 1 (Nat.le_refl _) (by simp [maxLen]) rfl).alloc _).alloc _
  · refine ⟨#[], 0, ?_, rfl⟩
    rw [Below.heap_alloc _ _ _ (by simp)]
    have := heap_alloc_new (w.alloc (.cells #[.int .u8 1, .int .i64 0, .int .i64 0, .int .i64 0] 141)) (.map #[] 0)
    simpa using this
  · exact World.ownsRow_nil _ _ _ _

def InputPost (B g : Nat) (M : Int) (G : List Nd) (w : World) (e : Ending) (w' : World) : Prop :=
  e = .returned (.tuple #[.int .i64 (2 * G.length), .int .i64 0]) ∧ GAt w' B g M (G ++ [⟨2, 0, 0⟩]) ∧ GFr B w w'

set_option maxHeartbeats 400000 in
set_option maxRecDepth 100000 in
theorem gInput (B g : Nat) (M : Int) (G : List Nd) (w : World) (h : Hid (GAt w B g M G)) (hM : M ≤ 65536) (hlt : (G.length : Int) < M) :
    Calls Try.prog 29 #[.pointer (some ⟨g, 0, none⟩)] w (InputPost B g M G w) := by
  obtain ⟨nb, mb, c, iv, D, hD, hBg, hBm, hBs, hg, hown, hm, hi⟩ := h.out
  obtain ⟨n, hn⟩ : ∃ n, G.length = n := ⟨_, rfl⟩
  obtain ⟨m, hml⟩ : ∃ m, (inputsOf G).length = m := ⟨_, rfl⟩
  have hmn : m ≤ n := by rw [← hn, ← hml]; exact inputsOf_len G
  have hiv : ∃ A3 c3, iv = .slice A3 m c3 := by
    rw [hml] at hi
    rcases hi.2 with ⟨rfl, h0⟩ | ⟨g', cap, cur, rfl, _⟩
    · exact ⟨none, 0, by rw [h0]⟩
    · exact ⟨_, _, rfl⟩
  obtain ⟨A3, c3, rfl⟩ := hiv
  rw [hn] at hlt hg hown
  rw [hml] at hi
  have HN := Lib.hid hn; have HM := Lib.hid hml
  have Hg := Lib.hid hg; have Ho := Lib.hid hown; have Hm := Lib.hid hm; have Hi := Lib.hid hi; have HD := Lib.hid hD
  have hG := h.out
  clear hn hml hg hown hm hi hD h
  have HG := Lib.hid hG
  clear hG
  go_enter Try.func29, Try.ntmps29
  go_wp2_with fail
  refine (gnone B g M G _ HG.out).mono ?_
  rintro e w' ⟨rfl, rfl⟩
  go_wp2_with fail
  refine (put_ok B g nb mb c n M _ (ncells D) 2 0 0 0 w Hg.out Ho.out hBs hlt hM).mono ?_
  rintro e w1 ⟨nb', c', rfl, h1, h2, h3, h4⟩
  have hs1 : w.heap.size ≤ w1.heap.size := h4.size
  have k3 : w1.cell? ⟨g, 3, none⟩ = some (.slice A3 m c3) := h1.cell 3
  have hgl : g < w1.heap.size := h1.lt
  have hgw : g < w.heap.size := Hg.out.lt
  have hib : ∀ k, (Value.slice A3 m c3).ownBlock = some k → k ≠ g ∧ k ≠ nb ∧ k ≠ mb ∧ B ≤ k ∧ k < w.heap.size := by
    intro k hk
    obtain ⟨hk1, hk2⟩ := own_lt Hi.out hk
    obtain ⟨cur, hcur⟩ := own_bk Ho.out
    refine ⟨fun e => ?_, fun e => ?_, fun e => ?_, hk1, hk2⟩
    · subst e; exact own_ne Hi.out Hg.out (by decide) hk.symm
    · subst e; exact own_ne Hi.out hcur (by decide) hk.symm
    · subst e
      rcases Hi.out.2 with ⟨he, _⟩ | ⟨g', cap, cur', he, _, hh, _⟩
      · rw [he] at hk; simp [Value.ownBlock] at hk
      · rw [he] at hk
        obtain rfl : g' = k := by simpa [Value.ownBlock] using hk
        exact Hm.out.ne (t := 35) (cs := cur') hh rfl
  have Hib := Lib.hid hib
  have hi1 : w1.ownsRow B 35 1 (.slice A3 m c3) m ((inputsOf G).map (Value.int .i64)) := own_fr Hi.out h4 (fun k hk => by have := hib k hk; omega)
  have hm1 : MapAt w1 mb (ents G) := Hm.out.fr h4 (by have h5 := Hm.out.ne Hg.out; obtain ⟨cur, hcur⟩ := own_bk Ho.out; have h6 := Hm.out.ne hcur; omega)
  have H1 := Lib.hid h1; have H2 := Lib.hid h2; have H3 := Lib.hid h3; have H4 := Lib.hid h4; have Hi1 := Lib.hid hi1; have Hm1 := Lib.hid hm1
  clear h1 h2 h3 h4 hi1 hm1 hib
  go_wp2_with (at_builtin; refine wpList_app el_ref rfl (.tmp 20) (.tmp 22) rfl B (.slice A3 m c3) m _ rfl (Hi1.out.alloc _) (some ⟨w1.heap.size, 0, none⟩) 1 1 [.int .i64 (2 * n)] rfl (Rd.new _ #[_] _) rfl (by simp [Value.oneCell']) (by omega) (by simp; omega) ?_; intro A4 c4 w2 ho2 hg2 hat2; have hb2 := (H1.out.alloc _).grown hg2 (own_ne Hi1.out H1.out (by decide)); have q3 := hb2.cell 3; have p3 := hb2.frozen 3; have Ho2 := Lib.hid ho2; have Hg2 := Lib.hid hg2; have Hat := Lib.hid hat2; have Hb2 := Lib.hid hb2; clear ho2 hg2 hat2 hb2)
  go_ret2
  have hin : inputsOf (G ++ [⟨2, 0, 0⟩]) = inputsOf G ++ [(2 * G.length : Int)] := by rw [inputsOf_snoc, if_pos rfl]
  have hv4 : some g ≠ (Value.slice A4 (m + 1) c4).ownBlock := own_ne Ho2.out Hb2.out (by decide)
  have f1 : Fr (fun k => k = g ∨ (Value.slice A3 m c3).ownBlock = some k) w1 (w2.setCell ⟨g, 3, none⟩ (.slice A4 (m + 1) c4)) :=
    (((Fr.refl _ w1).alloc _).grown Hg2.out (fun k hk => .inl (.inr hk))).setCell (p := ⟨g, 3, none⟩) (.inl (.inl rfl)) _
  have f2 : Fr (fun k => k = g) w2 (w2.setCell ⟨g, 3, none⟩ (.slice A4 (m + 1) c4)) := (Fr.refl (fun k => k = g) w2).setCell (p := ⟨g, 3, none⟩) (.inl rfl) _
  have h3 := H3.out
  have hgnb' : g ≠ nb' := by obtain ⟨cur, hcur⟩ := own_bk H2.out; exact H1.out.ne hcur (by decide)
  have hgmb : g ≠ mb := Hm1.out.ne H1.out
  refine ⟨by rw [HN.out]; rfl, ⟨nb', mb, c', .slice A4 (m + 1) c4, D ++ [(⟨2, 0, 0⟩, 0)], by simp [HD.out], hBg, hBm, Nat.le_trans hBs (Nat.le_trans hs1 f1.size), ?_, ?_, ?_, ?_⟩, ?_⟩
  · have := Hb2.out.put 3 (.slice A4 (m + 1) c4)
    simpa [HN.out] using this
  · have hc : ncells (D ++ [(⟨2, 0, 0⟩, 0)]) = ncells D ++ [.int .u8 2, .int .i64 0, .int .i64 0, .int .i64 0] := by simp [ncells, ncell]
    have hl : (G ++ [(⟨2, 0, 0⟩ : Nd)]).length = n + 1 := by simp [HN.out]
    rw [hc, hl]
    refine own_fr H2.out f1 (fun k hk => ?_)
    simp [Value.ownBlock] at hk
    subst hk
    rintro (e | e)
    · exact hgnb' e.symm
    · have := Hib.out _ e
      omega
  · rw [ents_snoc, if_neg (by simp)]
    refine Hm1.out.fr f1 ?_
    rintro (e | e)
    · exact hgmb e.symm
    · have := Hib.out _ e
      omega
  · rw [hin, List.length_append, HM.out, List.map_append]
    rw [HN.out]
    exact own_fr Ho2.out f2 (fun k hk e => by subst e; exact hv4 hk.symm)
  · have f3 : Fr (fun k => k = g ∨ k = nb ∨ (Value.slice A3 m c3).ownBlock = some k) w (w2.setCell ⟨g, 3, none⟩ (.slice A4 (m + 1) c4)) :=
      (H4.out.mono (fun k _ h => by rcases h with h | h; exact .inl h; exact .inr (.inl h))).then f1 (fun k _ h => by rcases h with h | h; exact .inl h; exact .inr (.inr h))
    refine f3.mono (fun k hk hF => ?_)
    rcases hF with rfl | rfl | h
    · exact ⟨hBg, fun ⟨cs, t, fr, h, ht⟩ => by have hg := Hg.out; unfold Bk at hg; rw [hg] at h; injection h with h; injection h with _ h _; subst h; exact ht (.inl rfl)⟩
    · obtain ⟨cur, hno⟩ := own_bk Ho.out
      exact ⟨(own_lt Ho.out rfl).1, fun ⟨cs, t, fr, h, ht⟩ => by unfold Bk at hno; rw [hno] at h; injection h with h; injection h with _ h _; subst h; exact ht (.inr (.inl rfl))⟩
    · refine ⟨(Hib.out k h).2.2.2.1, fun ⟨cs, t, fr, h', ht⟩ => ?_⟩
      rcases Hi.out.2 with ⟨he, _⟩ | ⟨g', cap, cur', he, _, hh, _⟩
      · rw [he] at h; simp [Value.ownBlock] at h
      · rw [he] at h
        obtain rfl : g' = k := by simpa [Value.ownBlock] using h
        rw [hh] at h'
        injection h' with h'
        injection h' with _ h' _
        subst h'
        exact ht (.inr (.inr rfl))

/-- The inputs of a graph, as a slice of their own. -/
theorem gInputs (B g : Nat) (M : Int) (G : List Nd) (w : World) (h : Hid (GAt w B g M G)) (hl : G.length ≤ 65536) :
    Calls Try.prog 41 #[.pointer (some ⟨g, 0, none⟩)] w fun e w' => ∃ A' m c', e = .returned (.slice A' m c') ∧ (inputsOf G).length = m ∧ w'.ownsRow w.heap.size 35 1 (.slice A' m c') m ((inputsOf G).map (Value.int .i64)) ∧ Below w.heap.size w w' := by
  obtain ⟨nb, mb, c, iv, D, hD, hBg, hBm, hBs, hg, hown, hm, hi⟩ := h.out
  obtain ⟨m, hml⟩ : ∃ m, (inputsOf G).length = m := ⟨_, rfl⟩
  have hmn : m ≤ 65536 := by rw [← hml]; exact Nat.le_trans (inputsOf_len G) hl
  have hiv : ∃ A3 c3, iv = .slice A3 m c3 := by
    rw [hml] at hi
    rcases hi.2 with ⟨rfl, h0⟩ | ⟨g', cap, cur, rfl, _⟩
    · exact ⟨none, 0, by rw [h0]⟩
    · exact ⟨_, _, rfl⟩
  obtain ⟨A3, c3, rfl⟩ := hiv
  rw [hml] at hi
  have HM := Lib.hid hml; have Hi := Lib.hid hi
  have k3 : w.cell? ⟨g, 3, none⟩ = some (.slice A3 m c3) := hg.cell 3
  clear hml hg hown hm hi hD
  go_enter Try.func41, Try.ntmps41
  go_wp2_with fail
  refine (gnone B g M G _ h.out).mono ?_
  rintro e w' ⟨rfl, rfl⟩
  go_wp2_with fail
  refine (clone_ref A3 m c3 ((inputsOf G).map (Value.int .i64)) w (Rd.of_own Hi.out) (by show List.length _ = _; simp; exact HM.out) (one_ints _ _) (by omega)).mono ?_
  rintro e w' ⟨A', c', rfl, h1, h2⟩
  have H1 := Lib.hid h1; have H2 := Lib.hid h2
  clear h1 h2
  go_wp2
  go_ret
  exact ⟨A', m, c', rfl, HM.out, H1.out, H2.out⟩

theorem gnode {w : World} {B g : Nat} {M : Int} {G : List Nd} (h : GAt w B g M G) {i : Nat} {x : Nd} (hx : G[i]? = some x) : ∃ nb mb c d, g < w.heap.size ∧ nb < w.heap.size ∧ i < G.length ∧ w.cell? ⟨g, 2, none⟩ = some (.map (some mb)) ∧ w.cell? ⟨g, 1, none⟩ = some (.slice (some ⟨nb, 0, none⟩) G.length c) ∧
    w.cell? ⟨nb, i * 4, none⟩ = some (.int .u8 x.k) ∧ w.cell? ⟨nb, i * 4 + 1, none⟩ = some (.int .i64 x.l) ∧ w.cell? ⟨nb, i * 4 + 2, none⟩ = some (.int .i64 x.r) ∧ w.cell? ⟨nb, i * 4 + 3, none⟩ = some (.int .i64 d) := by
  obtain ⟨nb, mb, c, iv, D, hD, hBg, hBm, hBs, hg, hown, hm, hi⟩ := h
  have hlen : D.length = G.length := by rw [← hD]; simp
  have hil : i < G.length := (List.getElem?_eq_some_iff.1 hx).1
  have hd : D[i]? = some (x, (D[i]'(by omega)).2) := by
    rw [List.getElem?_eq_getElem (by omega)]
    congr 1
    have : (D.map (·.1))[i]? = some x := by rw [hD]; exact hx
    simp [List.getElem?_map, List.getElem?_eq_getElem (show i < D.length by omega)] at this
    exact Prod.ext this rfl
  obtain ⟨h1, h2, h3, h4⟩ := ncells_at D i _ hd
  obtain ⟨cur, hcur⟩ := own_bk hown
  exact ⟨nb, mb, c, _, hg.lt, hcur.lt, hil, hg.cell 2, hg.cell 1, (hown.cellAt _ (by omega)).trans h1, (hown.cellAt _ (by omega)).trans h2, (hown.cellAt _ (by omega)).trans h3, (hown.cellAt _ (by omega)).trans h4⟩

theorem gkind (B g : Nat) (M : Int) (G : List Nd) (r : Int) (x : Nd) (w : World) (h : GAt w B g M G) (h0 : 0 ≤ r) (h2 : r ≤ 1000000000) (hx : G[(r / 2).toNat]? = some x) :
    Calls Try.prog 52 #[.pointer (some ⟨g, 0, none⟩), .int .i64 r] w fun e w' => e = .returned (.int .u8 x.k) ∧ w = w' := by
  obtain ⟨nb, mb, c, d, hgl, hnl, hil, c2, c1, k0, _⟩ := gnode h hx
  exact kind_some g mb nb _ c r x.k w c2 c1 h0 (by omega) (by omega) k0

theorem gkind_no (B g : Nat) (M : Int) (G : List Nd) (r : Int) (w : World) (h : Hid (GAt w B g M G)) (h1 : -9223372036854775808 ≤ r) (h2 : r ≤ 9223372036854775807) (hr : decide (0 ≤ r ∧ r < 2 * (G.length : Int)) = false) :
    Calls Try.prog 52 #[.pointer (some ⟨g, 0, none⟩), .int .i64 r] w fun e w' => e = .returned (.int .u8 0) ∧ w = w' := by
  have hc := gright B g M G r w h.out h1 h2
  rw [hr] at hc
  have Hc := Lib.hid hc
  clear hc hr
  go_enter Try.func52, Try.ntmps52
  go_wp2_with fail
  refine Hc.out.mono ?_
  rintro e w' ⟨rfl, rfl⟩
  go_wp2
  go_ret
  exact ⟨rfl, rfl⟩

set_option maxRecDepth 100000 in
theorem gsides_and (B g : Nat) (M : Int) (G : List Nd) (r : Int) (x : Nd) (w : World) (h : Hid (GAt w B g M G)) (h0 : 0 ≤ r) (h2 : r ≤ 1000000) (hx : Hid (G[(r / 2).toNat]? = some x)) (hk : Hid (x.k = 3)) :
    Calls Try.prog 96 #[.pointer (some ⟨g, 0, none⟩), .int .i64 r] w fun e w' => e = .returned (.tuple #[.int .i64 x.l, .int .i64 x.r, .bool true]) ∧ Below w.heap.size w w' := by
  obtain ⟨nb, mb, c, d, hgl, hnl, hil, c2, c1, k0, k1, k2, k3⟩ := gnode h.out hx.out
  have hkind := Lib.hid (gkind B g M G r x w h.out h0 (by omega) hx.out)
  have hlt : r / 2 < (G.length : Int) := by omega
  have hkk := hk.out
  rw [hkk] at hkind k0
  clear hkk
  go_enter Try.func96, Try.ntmps96
  go_wp2_with fail
  refine hkind.out.mono ?_
  rintro e w' ⟨rfl, rfl⟩
  clear hkind
  go_wp2
  go_quiet (fail)
  go_wp2
  go_ret3
  exact ⟨rfl, bdrewN ((Below.refl _ w).alloc (Nat.le_refl _) _) _⟩

theorem gsides_no (B g : Nat) (M : Int) (G : List Nd) (r : Int) (x : Nd) (w : World) (h : Hid (GAt w B g M G)) (h0 : 0 ≤ r) (h2 : r ≤ 1000000) (hx : Hid (G[(r / 2).toNat]? = some x)) (hk : (x.k != 3) = true) :
    Calls Try.prog 96 #[.pointer (some ⟨g, 0, none⟩), .int .i64 r] w fun e w' => e = .returned (.tuple #[.int .i64 0, .int .i64 0, .bool false]) ∧ Below w.heap.size w w' := by
  have hkind := Lib.hid (gkind B g M G r x w h.out h0 (by omega) hx.out)
  go_enter Try.func96, Try.ntmps96
  go_wp2_with fail
  refine hkind.out.mono ?_
  rintro e w' ⟨rfl, rfl⟩
  clear hkind
  go_wp2
  go_ret3
  exact ⟨rfl, Below.refl _ _⟩
end Go.Proofs.Ytamoniljgifggaa
