/-
  Contracts of package sim.
-/
import Derived.Test.YtamoniljgifggaaAig2
import Derived.Test.YtamoniljgifggaaBits
set_option linter.unusedVariables false
set_option linter.unusedSimpArgs false
namespace Go.Proofs.Ytamoniljgifggaa
open Go.RowKit

theorem simOf (A : Option Addr) (n c : Nat) (w : World) :
    Calls Try.prog 104 #[.slice A n c] w fun e w' => e = .returned (.func (.func 107) #[] #[.pointer (some ⟨w.heap.size, 0, none⟩)]) ∧ w.alloc (.cells #[.slice A n c] 150) = w' := by
  go_enter Try.func104, Try.ntmps104
  go_wp2
  go_ret
  exact ⟨rfl, rfl⟩

theorem ofClo (pb ob n c : Nat) (r u : Int) (w : World) (cb : w.cell? ⟨pb, 0, none⟩ = some (.slice (some ⟨ob, 0, none⟩) n c)) (h0 : 0 ≤ r) (h1 : r < 2 * n) (hn : n ≤ 1000000) (hu : w.cell? ⟨ob, (r / 2).toNat, none⟩ = some (.int .u64 u)) :
    Calls Try.prog 107 #[.int .i64 r, .pointer (some ⟨pb, 0, none⟩)] w fun e w' => e = .returned (.int .u64 (wordR u r)) ∧ w = w' := by
  have hi : r / 2 < (n : Int) := by omega
  unfold wordR
  by_cases hr : r % 2 = 1
  · rw [if_pos hr]
    have hb : (r % 2 == 1) = true := by simpa using hr
    clear hr
    go_enter Try.func107, Try.ntmps107
    go_wp2
    go_ret
    exact ⟨rfl, rfl⟩
  · rw [if_neg hr]
    have hb : (r % 2 == 1) = false := by simpa using hr
    clear hr
    go_enter Try.func107, Try.ntmps107
    go_wp2
    go_ret
    exact ⟨rfl, rfl⟩

/-- The cells of the words so far, and zeros. -/
def wcells (n : Nat) (ws : List Int) : Array Value := (ws.map (Value.int .u64) ++ List.replicate (n - ws.length) (Value.int .u64 0)).toArray
theorem wcells_at {n : Nat} {ws : List Int} {i : Nat} {u : Int} (h : ws[i]? = some u) : (wcells n ws)[i]? = some (.int .u64 u) := by
  have hi : i < ws.length := (List.getElem?_eq_some_iff.1 h).1
  simp only [wcells, List.getElem?_toArray]
  rw [List.getElem?_append_left (by simpa using hi), List.getElem?_map, h]
  rfl
theorem wcells_next {n : Nat} {ws : List Int} (h : ws.length < n) (u : Int) : (wcells n ws).setIfInBounds ws.length (.int .u64 u) = wcells n (ws ++ [u]) := by
  obtain ⟨m, hm⟩ : ∃ m, n - ws.length = m + 1 := ⟨n - ws.length - 1, by omega⟩
  have hm' : n - (ws ++ [u]).length = m := by simp; omega
  simp only [wcells, hm, hm']
  apply Array.ext'
  simp only [Array.toList_setIfInBounds, List.map_append, List.map_cons, List.map_nil]
  rw [List.set_append_right _ _ (by simp)]
  simp [List.replicate_succ]
theorem wcells_zero {n : Nat} {ws : List Int} (h : ws.length < n) : wcells n (ws ++ [0]) = wcells n ws := by
  obtain ⟨m, hm⟩ : ∃ m, n - ws.length = m + 1 := ⟨n - ws.length - 1, by omega⟩
  have hm' : n - (ws ++ [0]).length = m := by simp; omega
  simp only [wcells, hm, hm']
  simp [List.replicate_succ]
theorem wcells_in {n : Nat} {ws : List Int} (h : ws.length < n) : ∃ v, (wcells n ws)[ws.length]? = some v := by
  have : ws.length < (wcells n ws).size := by simp [wcells]; omega
  exact ⟨_, Array.getElem?_eq_getElem this⟩
theorem made_words (n : Nat) : madeCells #[.int .u64 0] n = wcells n [] := by
  apply Array.ext
  · simp [madeCells, wcells]
  · intro i h1 h2
    simp [madeCells, wcells, Nat.mod_one]

/-- The rest of a slice behind its first element. -/
theorem Rd.tail {w : World} {A : Option Addr} {x : Value} {xs : List Value} (h : Rd w A (x :: xs)) {c : Nat} (hc : xs.length + 1 ≤ c) : Rd w (if c = 1 then A else A.map (·.add 1)) xs := by
  intro hx
  have h1 : c ≠ 1 := by rintro rfl; cases xs with | nil => exact hx rfl | cons y ys => simp at hc
  rw [if_neg h1]
  obtain ⟨b, off, cs, t, fr, rfl, hb, hcs⟩ := h (by simp)
  refine ⟨b, off + 1, cs, t, fr, rfl, hb, fun j u hu => ?_⟩
  have := hcs (j + 1) u (by simpa using hu)
  rw [← this]
  congr 1
  omega

theorem word_info : (Try.prog.info? 151).map (fun i => (i.zero, i.size, i.bytes)) = some (some (.int .u64 0), 1, 8) := by kernel_rfl

/-- What holds of the words when k nodes are done. -/
structure NodesAt (w : World) (G : List Nd) (inp : List Bool) (ob pb n k : Nat) (ws rem : List Int) (A' : Option Addr) (m' : Nat) (wr : World) : Prop where
  len : ws.length = k
  wok : ∀ u ∈ ws, U64 u
  val : ws.map bit0 = (evalTo (G.take k) inp).1
  out : Bk wr ob 151 (wcells n ws)
  box : Bk wr pb 150 #[.slice (some ⟨ob, 0, none⟩) n n]
  rd : Rd w A' (rem.map (Value.int .u64))
  rok : ∀ u ∈ rem, U64 u
  rval : rem.map bit0 = (evalTo (G.take k) inp).2
  rlen : rem.length = m'
  rcount : m' = (inputsOf G).length - (inputsOf (G.take k)).length
  bel : Below w.heap.size w wr
  nob : ob ≠ pb ∧ w.heap.size ≤ ob ∧ w.heap.size ≤ pb

theorem NodesAt.below {w : World} {G : List Nd} {inp : List Bool} {ob pb n k : Nat} {ws rem : List Int} {A' : Option Addr} {m' : Nat} {wr w1 : World} (h : NodesAt w G inp ob pb n k ws rem A' m' wr) (hb : Below wr.heap.size wr w1) : NodesAt w G inp ob pb n k ws rem A' m' w1 :=
  ⟨h.len, h.wok, h.val, h.out.below hb h.out.lt, h.box.below hb h.box.lt, h.rd, h.rok, h.rval, h.rlen, h.rcount, bthen h.bel hb, h.nob⟩

theorem NodesAt.word {w : World} {G : List Nd} {inp : List Bool} {ob pb n k : Nat} {ws rem : List Int} {A' : Option Addr} {m' : Nat} {wr : World} (h : NodesAt w G inp ob pb n k ws rem A' m' wr) {r : Int} (h0 : 0 ≤ r) (h1 : r < 2 * k) :
    ∃ u, U64 u ∧ wr.cell? ⟨ob, (r / 2).toNat, none⟩ = some (.int .u64 u) ∧ bit0 (wordR u r) = valR (evalTo (G.take k) inp).1 r ∧ U64 (wordR u r) := by
  have hl : (r / 2).toNat < ws.length := by rw [h.len]; omega
  have hu := List.getElem?_eq_getElem hl
  have hU := h.wok _ (List.getElem_mem hl)
  refine ⟨ws[(r / 2).toNat], hU, (h.out.cell _).trans (wcells_at hu), ?_, (wordR_bit _ r hU).1⟩
  rw [(wordR_bit _ r hU).2, ← h.val]
  obtain ⟨b, hb, hv⟩ := valR_lt (vals := ws.map bit0) h0 (by simp [h.len]; omega)
  rw [hv]
  rw [List.getElem?_map, hu] at hb
  simp at hb
  rw [← hb]

/-- A node that is no input: its word is stored. -/
theorem NodesAt.next {w : World} {G : List Nd} {inp : List Bool} {ob pb n k : Nat} {ws rem : List Int} {A' : Option Addr} {m' : Nat} {wr : World} (h : NodesAt w G inp ob pb n k ws rem A' m' wr) {x : Nd} (hx : G[k]? = some x) (hn : k < n) (u : Int) (hu : U64 u)
    (hk : x.k = 3) (hv : bit0 u = (valR (evalTo (G.take k) inp).1 x.l && valR (evalTo (G.take k) inp).1 x.r)) : NodesAt w G inp ob pb n (k + 1) (ws ++ [u]) rem A' m' (wr.setCell ⟨ob, k, none⟩ (.int .u64 u)) := by
  have ht := take_snoc hx
  have he : evalTo (G.take (k + 1)) inp = ((evalTo (G.take k) inp).1 ++ [bit0 u], (evalTo (G.take k) inp).2) := by rw [ht, evalTo_snoc, evalStep, if_pos hk, hv]
  have hb : Below w.heap.size wr (wr.setCell ⟨ob, k, none⟩ (.int .u64 u)) := (Below.refl _ wr).setCell (p := ⟨ob, k, none⟩) h.nob.2.1 _
  have hf : Fr (fun b => b = ob) wr (wr.setCell ⟨ob, k, none⟩ (.int .u64 u)) := (Fr.refl (fun b => b = ob) wr).setCell (p := ⟨ob, k, none⟩) (.inl rfl) _
  refine ⟨by simp [h.len], ?_, by rw [he]; simp [h.val], ?_, h.box.fr hf (Ne.symm h.nob.1), h.rd, h.rok, by rw [he]; exact h.rval, h.rlen, ?_, h.bel.trans hb, h.nob⟩
  · intro v hv'
    rcases List.mem_append.1 hv' with h1 | h1
    · exact h.wok v h1
    · simp at h1; subst h1; exact hu
  · have := h.out.put k (.int .u64 u)
    rw [← h.len] at this ⊢
    rwa [wcells_next (by rw [h.len]; exact hn)] at this
  · rw [h.rcount, ht, inputsOf_snoc, if_neg (by omega)]

/-- The constant: its word is 0 already. -/
theorem NodesAt.const {w : World} {G : List Nd} {inp : List Bool} {ob pb n k : Nat} {ws rem : List Int} {A' : Option Addr} {m' : Nat} {wr : World} (h : NodesAt w G inp ob pb n k ws rem A' m' wr) {x : Nd} (hx : G[k]? = some x) (hn : k < n) (hk : ¬ x.k = 3) (hk' : ¬ x.k = 2) :
    NodesAt w G inp ob pb n (k + 1) (ws ++ [0]) rem A' m' wr := by
  have ht := take_snoc hx
  have he : evalTo (G.take (k + 1)) inp = ((evalTo (G.take k) inp).1 ++ [false], (evalTo (G.take k) inp).2) := by rw [ht, evalTo_snoc, evalStep, if_neg hk, if_neg hk']
  refine ⟨by simp [h.len], ?_, by rw [he]; simp [h.val, bit0], ?_, h.box, h.rd, h.rok, by rw [he]; exact h.rval, h.rlen, ?_, h.bel, h.nob⟩
  · intro v hv'
    rcases List.mem_append.1 hv' with h1 | h1
    · exact h.wok v h1
    · simp at h1; subst h1; exact ⟨by omega, by omega⟩
  · rw [wcells_zero (by rw [h.len]; exact hn)]
    exact h.out
  · rw [h.rcount, ht, inputsOf_snoc, if_neg hk']

/-- An input: the next word. -/
theorem NodesAt.input {w : World} {G : List Nd} {inp : List Bool} {ob pb n k : Nat} {ws rem : List Int} {u : Int} {A' : Option Addr} {m' c' : Nat} {wr : World} (h : NodesAt w G inp ob pb n k ws (u :: rem) A' m' wr) {x : Nd} (hx : G[k]? = some x) (hn : k < n) (hk : x.k = 2) (hc : m' ≤ c') :
    NodesAt w G inp ob pb n (k + 1) (ws ++ [u]) rem (if c' = 1 then A' else A'.map (·.add 1)) (m' - 1) (wr.setCell ⟨ob, k, none⟩ (.int .u64 u)) := by
  have ht := take_snoc hx
  have hk3 : ¬ x.k = 3 := by omega
  have hu := h.rok u (by simp)
  have hr := h.rval
  have hlen := h.rlen
  simp only [List.length_cons] at hlen
  have he : evalTo (G.take (k + 1)) inp = ((evalTo (G.take k) inp).1 ++ [bit0 u], rem.map bit0) := by rw [ht, evalTo_snoc, evalStep, if_neg hk3, if_pos hk, ← hr]; simp
  have hb : Below w.heap.size wr (wr.setCell ⟨ob, k, none⟩ (.int .u64 u)) := (Below.refl _ wr).setCell (p := ⟨ob, k, none⟩) h.nob.2.1 _
  have hf : Fr (fun b => b = ob) wr (wr.setCell ⟨ob, k, none⟩ (.int .u64 u)) := (Fr.refl (fun b => b = ob) wr).setCell (p := ⟨ob, k, none⟩) (.inl rfl) _
  refine ⟨by simp [h.len], ?_, by rw [he]; simp [h.val], ?_, h.box.fr hf (Ne.symm h.nob.1), ?_, fun v hv => h.rok v (List.mem_cons_of_mem _ hv), by rw [he], by omega, ?_, h.bel.trans hb, h.nob⟩
  · intro v hv'
    rcases List.mem_append.1 hv' with h1 | h1
    · exact h.wok v h1
    · simp at h1; subst h1; exact hu
  · have := h.out.put k (.int .u64 u)
    rw [← h.len] at this ⊢
    rwa [wcells_next (by rw [h.len]; exact hn)] at this
  · have := h.rd
    simp only [List.map_cons] at this
    exact this.tail (by simp; omega)
  · have := h.rcount
    rw [ht, inputsOf_snoc, if_pos hk]
    simp
    omega

theorem makeWords (n : Nat) (hn : n ≤ 1000000) (w : World) : (Instr.makeSlice 150 (.int .i64 (n : Int)) (.int .i64 (n : Int))).run Try.prog w = .ok (.slice (some ⟨w.heap.size, 0, none⟩) n n) (w.alloc (.cells (wcells n []) 151)) := by
  obtain ⟨i, hi, hz, hs, hb⟩ := info_parts word_info
  have h := run_make (P := Try.prog) w 150 151 i (.int .u64 0) Try.underlying150 hi hz .i64 .i64 n n (by omega) (by omega) (by rw [hb]; omega) (by omega)
  rw [Int.toNat_natCast, hs, Nat.mul_one] at h
  rw [← made_words]
  exact h

set_option maxHeartbeats 1000000 in
set_option maxRecDepth 100000 in
theorem simNodes (B g : Nat) (M : Int) (G : List Nd) (inp : List Bool) (iw : List Int) (A : Option Addr) (m c n : Nat) (w : World) (h : Hid (GAt w B g M G)) (hG : Hid (GOk G)) (hl : Hid (G.length = n)) (hn : n ≤ 65536)
    (hr : Hid (Rd w A (iw.map (Value.int .u64)))) (hU : Hid (∀ u ∈ iw, U64 u)) (hv : Hid (iw.map bit0 = inp)) (hil : Hid (iw.length = m)) (him : Hid (m = (inputsOf G).length)) (hmc : m ≤ c) :
    Calls Try.prog 93 #[.pointer (some ⟨g, 0, none⟩), .slice A m c] w fun e w' => ∃ ob ws, e = .returned (.slice (some ⟨ob, 0, none⟩) n n) ∧ ws.length = n ∧ (∀ u ∈ ws, U64 u) ∧ ws.map bit0 = evalG G inp ∧ Bk w' ob 151 (wcells n ws) ∧ w.heap.size ≤ ob ∧ Below w.heap.size w w' := by
  have hmk := makeWords n (by omega)
  have hlen := glen B g M G w h.out
  rw [hl.out] at hlen
  have Hlen := Lib.hid hlen
  clear hlen
  go_enter Try.func93, Try.ntmps93
  go_wp2_with fail
  refine Hlen.out.mono ?_
  rintro e w' ⟨rfl, rfl⟩
  clear Hlen
  go_wp2_with fail
  refine (simOf _ _ _ _).mono ?_
  rintro e w' ⟨rfl, rfl⟩
  clear hmk
  have hst : NodesAt w G inp w.heap.size (w.heap.size + 1) n 0 [] iw A m ((w.alloc (.cells (wcells n []) 151)).alloc (.cells #[.slice (some ⟨w.heap.size, 0, none⟩) n n] 150)) := by
    refine ⟨rfl, by simp, rfl, (Bk.new _ _ _).alloc _, ?_, hr.out, hU.out, by rw [hv.out]; rfl, hil.out, by rw [him.out]; rfl, ((Below.refl _ w).alloc (Nat.le_refl _) _).alloc (by simp) _, by omega, by omega, by omega⟩
    have := Bk.new (w.alloc (.cells (wcells n []) 151)) 150 #[.slice (some ⟨w.heap.size, 0, none⟩) n n]
    simpa using this
  have Hst := Lib.hid hst
  clear hst
  go_wp2
  go_loopw [1, 19] (fun iv i wr => ∃ (k : Nat) (ws rem : List Int) (A' : Option Addr) (m' c' : Nat), k ≤ n ∧ i = .int .i64 k ∧ iv = .slice A' m' c' ∧ m' ≤ c' ∧ Hid (NodesAt w G inp w.heap.size (w.heap.size + 1) n k ws rem A' m' wr)) (fun _ i _ => n - (intOf i).toNat)
  case atStart => exact ⟨0, [], iw, A, m, c, Nat.zero_le _, rfl, rfl, hmc, Hst⟩
  case round =>
    obtain ⟨k, ws, rem, A', m', c', hk, rfl, rfl, hmc', HN⟩ := hrel
    clear Hst
    by_cases hlt : k < n
    · obtain ⟨x, hx⟩ : ∃ x, G[k]? = some x := ⟨_, List.getElem?_eq_getElem (by rw [hl.out]; exact hlt)⟩
      have hok := hG.out k x hx
      have hx2 : Hid (G[((2 * (k : Int)) / 2).toNat]? = some x) := by
        have e : ((2 * (k : Int)) / 2).toNat = k := by omega
        show G[((2 * (k : Int)) / 2).toNat]? = some x
        rw [e]; exact hx
      have HX := Lib.hid hx; clear hx
      have hGr : GAt wr B g M G := h.out.below HN.out.bel
      have HGr := Lib.hid hGr; clear hGr
      by_cases h3 : x.k = 3
      · obtain ⟨hl0, hl1, hr0, hr1⟩ := hok.2 h3
        have H3 := Lib.hid h3
        obtain ⟨xl, hxl⟩ : ∃ xl, x.l = xl := ⟨_, rfl⟩
        obtain ⟨xr, hxr⟩ : ∃ xr, x.r = xr := ⟨_, rfl⟩
        have hsd := gsides_and B g M G (2 * (k : Int)) x wr HGr (by omega) (by omega) hx2 H3
        rw [hxl, hxr] at hsd
        rw [hxl] at hl0 hl1
        rw [hxr] at hr0 hr1
        have Hsd := Lib.hid hsd; have HXL := Lib.hid hxl; have HXR := Lib.hid hxr
        clear hsd hxl hxr h3 hok
        go_wp2_with fail
        refine Hsd.out.mono ?_
        rintro e w1 ⟨rfl, hb1⟩
        have hN1 := HN.out.below hb1
        obtain ⟨u1, hU1, hc1, hv1, hW1⟩ := hN1.word hl0 hl1
        obtain ⟨u2, hU2, hc2, hv2, hW2⟩ := hN1.word hr0 hr1
        have cb : w1.cell? ⟨w.heap.size + 1, 0, none⟩ = some (.slice (some ⟨w.heap.size, 0, none⟩) n n) := hN1.box.cell 0
        obtain ⟨old, hold⟩ : ∃ old, w1.cell? ⟨w.heap.size, k, none⟩ = some old := by
          obtain ⟨v, hv⟩ := wcells_in (n := n) (ws := ws) (by rw [hN1.len]; exact hlt)
          rw [hN1.len] at hv
          exact ⟨v, (hN1.out.cell k).trans hv⟩
        have fz : w1.frozen? ⟨w.heap.size, k, none⟩ = false := hN1.out.frozen k
        have HN1 := Lib.hid hN1; have HV1 := Lib.hid hv1; have HV2 := Lib.hid hv2; have HW1 := Lib.hid hW1; have HW2 := Lib.hid hW2
        clear hb1 hN1 Hsd hv1 hv2 hW1 hW2 hU1 hU2 HN
        go_wp2_with fail
        refine (ofClo (w.heap.size + 1) w.heap.size n n xl u1 w1 cb hl0 (by omega) (by omega) hc1).mono ?_
        rintro e w' ⟨rfl, rfl⟩
        go_wp2_with fail
        refine (ofClo (w.heap.size + 1) w.heap.size n n xr u2 w1 cb hr0 (by omega) (by omega) hc2).mono ?_
        rintro e w' ⟨rfl, rfl⟩
        clear hc1 hc2 cb
        go_wp2
        go_roundw
        case rel =>
          obtain ⟨ha1, ha2⟩ := u64_and_bit _ _ HW1.out HW2.out
          exact ⟨k + 1, _, rem, A', m', c', by omega, by go_num, rfl, hmc', HN1.out.next HX.out hlt _ ha1 H3.out (by rw [ha2, HV1.out, HV2.out, HXL.out, HXR.out])⟩
        case measure => simp [intOf]; omega
      · have h3' : (x.k != 3) = true := by simpa using h3
        have hsd := Lib.hid (gsides_no B g M G (2 * (k : Int)) x wr HGr (by omega) (by omega) hx2 h3')
        have H3 := Lib.hid h3
        clear h3 h3' hok
        go_wp2_with fail
        refine hsd.out.mono ?_
        rintro e w1 ⟨rfl, hb1⟩
        have hN1 := HN.out.below hb1
        have hkd := gkind B g M G (2 * (k : Int)) x w1 (HGr.out.below hb1) (by omega) (by omega) hx2.out
        obtain ⟨kk, hkk⟩ : ∃ kk, x.k = kk := ⟨_, rfl⟩
        rw [hkk] at hkd
        have HKK := Lib.hid hkk; have HN1 := Lib.hid hN1; have Hkd := Lib.hid hkd
        clear hb1 hN1 hsd hkk hkd HN
        go_wp2_with fail
        refine Hkd.out.mono ?_
        rintro e w' ⟨rfl, rfl⟩
        clear Hkd
        by_cases h2 : kk = 2
        · have hk2 : x.k = 2 := HKK.out.trans h2
          have hrem : 0 < rem.length := by
            have := inputsOf_take_lt HX.out hk2
            have h1 := HN1.out.rlen
            have h2' := HN1.out.rcount
            omega
          obtain ⟨u, rem', rfl⟩ : ∃ u rem', rem = u :: rem' := by
            cases rem with
            | nil => simp at hrem
            | cons u r => exact ⟨u, r, rfl⟩
          have hm1 : 1 ≤ m' := by have := HN1.out.rlen; simp at this; omega
          obtain ⟨b0, o0, hA, hc0⟩ := (HN1.out.rd.below HN1.out.bel).at (k := 0) (by simp)
          simp at hc0
          subst hA
          obtain ⟨old, hold⟩ : ∃ old, w1.cell? ⟨w.heap.size, k, none⟩ = some old := by
            obtain ⟨v, hv⟩ := wcells_in (n := n) (ws := ws) (by rw [HN1.out.len]; exact hlt)
            rw [HN1.out.len] at hv
            exact ⟨v, (HN1.out.out.cell k).trans hv⟩
          have fz : w1.frozen? ⟨w.heap.size, k, none⟩ = false := HN1.out.out.frozen k
          have hkb : (kk == 2) = true := by simpa using h2
          have HK2 := Lib.hid hk2
          clear h2 hk2 hrem
          go_wp2
          have i1 : (k : Int) < (n : Int) := by omega
          have i2 : (0 : Int) < (m' : Int) := by omega
          have i3 : (1 : Int) ≤ (m' : Int) := by omega
          go_region
          all_goals
            go_wp2
            go_roundw
            case rel =>
              have hin := HN1.out.input HX.out hlt HK2.out hmc'
              have e1 : (if c' = 1 then some (⟨b0, o0, none⟩ : Addr) else (some (⟨b0, o0, none⟩ : Addr)).map (·.add 1)) = (if c' = 1 then some ⟨b0, o0, none⟩ else some ⟨b0, o0 + 1, none⟩) := by simp [Addr.add]
              rw [e1] at hin
              exact ⟨k + 1, _, rem', _, m' - 1, c' - 1, by omega, by go_num, rfl, by omega, hin.below ((Below.refl _ _).drew)⟩
            case measure => simp [intOf]; omega
        · have hkb : (kk == 2) = false := by simpa using h2
          have H2 : Hid (¬ x.k = 2) := fun e => h2 (HKK.out.symm.trans e)
          clear h2
          go_wp2
          go_roundw
          case rel => exact ⟨k + 1, _, rem, A', m', c', by omega, by go_num, rfl, hmc', HN1.out.const HX.out hlt H3.out H2.out⟩
          case measure => simp [intOf]; omega
    · obtain rfl : k = n := by omega
      go_wp2
      go_ret
      have hN := HN.out
      refine ⟨w.heap.size, ws, rfl, hN.len, hN.wok, ?_, hN.out, Nat.le_refl _, hN.bel⟩
      rw [hN.val, List.take_of_length_le (by rw [hl.out]; omega)]
      rfl

theorem simCheck (B g : Nat) (M : Int) (G : List Nd) (w : World) (h : Hid (GAt w B g M G)) (hG : (G.length : Int) ≠ 0) :
    Calls Try.prog 92 #[.pointer (some ⟨g, 0, none⟩), .slice none 0 0] w fun e w' => e = .returned (.int .i64 0) ∧ Below w.heap.size w w' := by
  have hl0 : ((G.length : Int) == 0) = false := by simpa using hG
  have hgl : g < w.heap.size := by obtain ⟨_, _, _, _, hg⟩ := h.out.cells; exact hg.lt
  have b1 : Below w.heap.size w (w.alloc (.cells #[.pointer (some ⟨g, 0, none⟩)] 40)) := (Below.refl _ w).alloc (Nat.le_refl _) _
  have HB := Lib.hid b1
  clear b1
  go_enter Try.func92, Try.ntmps92
  go_wp2_with fail
  refine (glen B g M G _ (h.out.below HB.out)).mono ?_
  rintro e w' ⟨rfl, rfl⟩
  go_wp2_with fail
  refine (containsf_ref none 0 0 [] 103 #[.pointer (some ⟨w.heap.size, 0, none⟩)] (fun r => false) _ Rd.nil rfl (by omega) (Ent.of Try.func103 (by kernel_rfl) (by kernel_rfl)) (fun x hx => by cases hx)).mono ?_
  rintro e w1 ⟨rfl, hb1⟩
  rw [show ([] : List Int).any (fun r => false) = false from rfl]
  have HB1 : Hid (Below w.heap.size w w1) := HB.out.trans (hb1.mono (by simp))
  clear hb1
  go_wp2
  go_ret
  exact ⟨rfl, HB1.out⟩

/-- What the words of nodes are, in memory. -/
def NodesPost (G : List Nd) (inp : List Bool) (n : Nat) (w : World) (e : Ending) (w' : World) : Prop :=
  ∃ ob ws, e = .returned (.tuple #[.slice (some ⟨ob, 0, none⟩) n n, .int .i64 0]) ∧ ws.length = n ∧ (∀ u ∈ ws, U64 u) ∧ ws.map bit0 = evalG G inp ∧ Bk w' ob 151 (wcells n ws) ∧ w.heap.size ≤ ob ∧ Below w.heap.size w w'

set_option maxRecDepth 100000 in
theorem simNodes_ok (B g : Nat) (M : Int) (G : List Nd) (inp : List Bool) (iw : List Int) (A : Option Addr) (m c n : Nat) (w : World) (h : Hid (GAt w B g M G)) (hG : Hid (GOk G)) (hl : Hid (G.length = n)) (hn : n ≤ 65536) (hn0 : 0 < n)
    (hr : Hid (Rd w A (iw.map (Value.int .u64)))) (hU : Hid (∀ u ∈ iw, U64 u)) (hv : Hid (iw.map bit0 = inp)) (hil : Hid (iw.length = m)) (him : Hid (m = (inputsOf G).length)) (hmc : m ≤ c) :
    Calls Try.prog 75 #[.pointer (some ⟨g, 0, none⟩), .slice A m c] w (NodesPost G inp n w) := by
  have hne : ((m : Int) != (m : Int)) = false := by simp
  go_enter Try.func75, Try.ntmps75
  go_wp2_with fail
  refine (simCheck B g M G w h (by rw [hl.out]; omega)).mono ?_
  rintro e w1 ⟨rfl, hb1⟩
  have HB1 := Lib.hid hb1
  clear hb1
  go_wp2_with fail
  refine (gInputs B g M G w1 (h.out.below HB1.out) (by rw [hl.out]; exact hn)).mono ?_
  rintro e w2 ⟨A', m2, c', rfl, hm2, _, hb2⟩
  obtain rfl : m2 = m := hm2.symm.trans him.out.symm
  have HB2 : Hid (Below w.heap.size w w2) := bthen HB1.out hb2
  clear hb2 hm2
  go_wp2_with fail
  refine (simNodes B g M G inp iw A m2 c n w2 (h.out.below HB2.out) hG hl hn (hr.out.below HB2.out) hU hv hil him hmc).mono ?_
  rintro e w3 ⟨ob, ws, rfl, h1, h2, h3, h4, h5, h6⟩
  have H1 := Lib.hid h1; have H2 := Lib.hid h2; have H3 := Lib.hid h3; have H4 := Lib.hid h4; have H6 := Lib.hid h6
  clear h1 h2 h3 h4 h6
  go_wp2
  go_ret2
  exact ⟨ob, ws, rfl, H1.out, H2.out, H3.out, H4.out, Nat.le_trans HB2.out.size h5, bthen HB2.out H6.out⟩

theorem simNodes_bad (B g : Nat) (M : Int) (G : List Nd) (A : Option Addr) (m c : Nat) (w : World) (h : Hid (GAt w B g M G)) (hn0 : Hid (0 < G.length)) (hn : Hid (G.length ≤ 65536)) (him : Hid (¬ m = (inputsOf G).length)) :
    Calls Try.prog 75 #[.pointer (some ⟨g, 0, none⟩), .slice A m c] w fun e w' => e = .returned (.tuple #[.slice none 0 0, .int .i64 210]) ∧ Below w.heap.size w w' := by
  go_enter Try.func75, Try.ntmps75
  go_wp2_with fail
  refine (simCheck B g M G w h (by have := hn0.out; omega)).mono ?_
  rintro e w1 ⟨rfl, hb1⟩
  have HB1 := Lib.hid hb1
  clear hb1
  go_wp2_with fail
  refine (gInputs B g M G w1 (h.out.below HB1.out) hn.out).mono ?_
  rintro e w2 ⟨A', m2, c', rfl, hm2, _, hb2⟩
  have hne : ((m : Int) != (m2 : Int)) = true := by
    have := him.out
    rw [hm2] at this
    rw [bne_iff_ne]
    omega
  have HB2 : Hid (Below w.heap.size w w2) := bthen HB1.out hb2
  clear hb2 hm2
  go_wp2
  go_ret2
  exact ⟨rfl, HB2.out⟩
end Go.Proofs.Ytamoniljgifggaa
