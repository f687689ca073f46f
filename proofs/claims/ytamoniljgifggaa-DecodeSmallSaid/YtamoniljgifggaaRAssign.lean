/-
  Contract of the reference's put. Plain facts for the reference's Assign. Contract of the reference's Assign (written by gen/rassign.py).
-/
import Derived.Test.YtamoniljgifggaaRef27
import Derived.Test.YtamoniljgifggaaAsg0
import Derived.Test.YtamoniljgifggaaAssign
import Derived.Test.YtamoniljgifggaaOneQ
import Derived.Deep.DeepCutAuto
set_option linter.unusedVariables false
set_option linter.unusedSimpArgs false
namespace Go.Proofs.Ytamoniljgifggaa
open Go.RowKit

def icells (l : List Bool) : Array Value := ((l.map bitI).map (Value.int .i64)).toArray
theorem icells_at {l : List Bool} {i : Nat} (h : i < l.length) : ∃ v, (icells l)[i]? = some (.int .i64 v) := ⟨bitI l[i], by simp [icells, h]⟩
theorem icells_set (l : List Bool) (i : Nat) (b : Bool) : (icells l).setIfInBounds i (.int .i64 (bitI b)) = icells (l.set i b) := by
  simp [icells, List.map_set]
theorem rd_icells {w : World} {ib : Nat} {t : TypeId} {l : List Bool} (h : Bk w ib t (icells l)) : Rd w (some ⟨ib, 0, none⟩) ((l.map bitI).map (Value.int .i64)) := fun _ =>
  ⟨ib, 0, icells l, t, (0, 0), rfl, h, fun j u hu => by rw [Nat.zero_add]; simpa [icells] using hu⟩
def putTo (all : List Int) (l : List Bool) (r : Int) (b : Bool) (k : Nat) : List Bool := if all.idxOf r < k then l.set (all.idxOf r) b else l
theorem putTo_len (all : List Int) (l : List Bool) (r : Int) (b : Bool) (k : Nat) : (putTo all l r b k).length = l.length := by
  unfold putTo; split <;> simp
theorem putTo_yes {all : List Int} (hn : all.Nodup) {l : List Bool} {r : Int} {b : Bool} {k : Nat} (hk : all[k]? = some r) : (putTo all l r b k).set k b = putTo all l r b (k + 1) := by
  have hi : all.idxOf r = k := by
    obtain ⟨hl, rfl⟩ := List.getElem?_eq_some_iff.1 hk
    exact hn.idxOf_getElem k hl
  unfold putTo
  rw [hi, if_neg (by omega), if_pos (by omega)]
theorem putTo_no {all : List Int} {l : List Bool} {r x : Int} {b : Bool} {k : Nat} (hk : all[k]? = some x) (hx : x ≠ r) : putTo all l r b k = putTo all l r b (k + 1) := by
  have hi : all.idxOf r ≠ k := by
    intro e
    obtain ⟨hl, hg⟩ := List.getElem?_eq_some_iff.1 hk
    apply hx
    rw [← hg]
    simp only [← e]
    exact List.getElem_idxOf _
  unfold putTo
  by_cases h : all.idxOf r < k
  · rw [if_pos h, if_pos (by omega)]
  · rw [if_neg h, if_neg (by omega)]
theorem putTo_all {all : List Int} {l : List Bool} {r : Int} {b : Bool} {k : Nat} (h1 : all.length = k) (h2 : l.length = k) : putTo all l r b k = setIn all l r b := by
  unfold putTo setIn
  split
  · rfl
  · rw [List.set_eq_of_length_le (by omega)]

set_option maxHeartbeats 1000000 in
set_option maxRecDepth 100000 in
theorem refPut (M : Int) (AN : Option Addr) (nN cN : Nat) (G : List Nd) (ib n c : Nat) (l : List Bool) (r : Int) (b : Bool) (w : World) (hN : Hid (Rd w AN (rcells G))) (hNl : Hid (G.length = nN)) (hgl : nN ≤ 65536) (hB : Hid (Bk w ib 3 (icells l))) (hl : Hid (l.length = n)) (hn : Hid ((inputsOf G).length = n)) :
    Calls Try.prog 72 #[.agg #[.int .i64 M, .slice AN nN cN], .slice (some ⟨ib, 0, none⟩) n c, .int .i64 r, .int .i64 (bitI b)] w fun e w' => ∃ v, e = .returned v ∧ Fr (fun q => q = ib) w w' ∧ Bk w' ib 3 (icells (setIn (inputsOf G) l r b)) := by
  have HB0 : Hid (Below w.heap.size w (w.alloc (.cells #[.int .i64 M, .slice AN nN cN] 67))) := (Below.refl _ w).alloc (Nat.le_refl _) _
  have hx0 := (Bk.new w 67 #[.int .i64 M, .slice AN nN cN])
  have g0 := hx0.cell 0
  have g1 := hx0.cell 1
  have hibl : ib < w.heap.size := hB.out.lt
  have HND : Hid ((inputsOf G).Nodup) := inputsFrom_nodup G 0
  clear hx0
  obtain ⟨bv, hbv⟩ : ∃ v, bitI b = v := ⟨_, rfl⟩
  rw [hbv]
  have HBV := Lib.hid hbv; clear hbv
  go_enter Try.func72, Try.ntmps72
  go_wp2_with fail
  generalize (w.alloc (.cells #[.int .i64 M, .slice AN nN cN] 67)) = W0 at *
  refine (rinputs M AN nN cN G W0 (Lib.hid (hN.out.below HB0.out)) hNl (by omega)).mono ?_
  rintro e w2 ⟨AI, k2, cI, rfl, hk2, ho2, hb2⟩
  have HB2 := Lib.hid (bthen HB0.out hb2)
  have HO2 := Lib.hid ho2
  obtain rfl : k2 = n := hk2.symm.trans hn.out
  have hkl : k2 ≤ 65536 := by have h1 := inputsOf_len G; have h2 := hNl.out; have h3 := hn.out; omega
  have hsz0 : w.heap.size ≤ W0.heap.size := HB0.out.size
  have HAR := Lib.hid (bkbel hB.out HB2.out)
  clear hk2 ho2 hb2 g0 g1 HB0
  go_wp2_with fail
  go_loopw [9] (fun i wr => ∃ (k : Nat), k ≤ k2 ∧ i = .int .i64 k ∧ Hid (Fr (fun q => q = ib) w2 wr) ∧ Hid (Bk wr ib 3 (icells (putTo (inputsOf G) l r b k)))) (fun i _ => k2 - (intOf i).toNat)
  case atStart => exact ⟨0, Nat.zero_le _, rfl, Fr.refl _ _, by show Bk _ _ _ _; rw [show putTo (inputsOf G) l r b 0 = l from if_neg (by omega)]; exact HAR.out⟩
  case round =>
    obtain ⟨k, hk, rfl, HF, HA⟩ := hrel
    by_cases hlt : k < k2
    · obtain ⟨b1, o1, x, rfl, hx, hc1⟩ := (Rd.of_own (own_fr HO2.out HF.out (fun q hq e => by have := (HO2.out.lt q hq).1; omega))).getm hn.out hlt
      have HX := Lib.hid hx; clear hx
      by_cases hxr : x = r
      · have hb : (x == r) = true := by simpa using hxr
        obtain ⟨v0, hv0⟩ := icells_at (l := putTo (inputsOf G) l r b k) (i := k) (by rw [putTo_len, hl.out]; exact hlt)
        have c0 : wr.cell? ⟨ib, k, none⟩ = some (.int .i64 v0) := (HA.out.cell k).trans hv0
        have f0 := HA.out.frozen k
        have HXR := Lib.hid hxr
        clear hv0 hxr
        go_wp2
        go_roundw
        case rel =>
          refine ⟨k + 1, by omega, by go_num, HF.out.setCell (p := ⟨ib, k, none⟩) (.inl rfl) _, ?_⟩
          have h1 := HA.out.put k (.int .i64 bv)
          rw [← HBV.out, icells_set, putTo_yes HND.out (by rw [HX.out, HXR.out]), HBV.out] at h1
          exact h1
        case measure => simp [intOf]; omega
      · have hb : (x == r) = false := by simpa using hxr
        have HXR := Lib.hid hxr
        clear hxr
        go_wp2
        go_roundw
        case rel =>
          refine ⟨k + 1, by omega, by go_num, HF, ?_⟩
          show Bk _ _ _ _
          rw [← putTo_no HX.out HXR.out]
          exact HA.out
        case measure => simp [intOf]; omega
    · obtain rfl : k2 = k := by omega
      go_wp2
      refine bodyPost_end (v := .tuple #[]) (by simp [results, Try.results72, go_sem]) rfl ⟨_, rfl, (Fr.of_below HB2.out).trans HF.out, ?_⟩
      have h := HA.out
      rwa [putTo_all hn.out hl.out] at h


theorem bit_div (v : Int) (j : Nat) : bitI (bitN v j) = v / 2 ^ j % 2 := by
  unfold bitN bitI
  have h := Int.emod_two_eq (v / 2 ^ j)
  rcases h with h | h <;> simp [h]
theorem div_succ (v : Int) (j : Nat) : v / 2 ^ j / 2 = v / 2 ^ (j + 1) := by
  rw [Int.pow_succ, Int.ediv_ediv_of_nonneg (Int.pow_nonneg (by omega))]
theorem fit_div (l : List Int) (v : Int) (h : 0 ≤ v) : v / 2 ^ l.length = 0 ↔ fitP (l, v) = true := by
  have hp : (0 : Int) < 2 ^ l.length := Int.pow_pos (by omega)
  simp only [fitP, decide_eq_true_eq]
  constructor
  · intro h0
    have := Int.emod_add_mul_ediv v (2 ^ l.length)
    rw [h0] at this
    simpa using this
  · intro h0
    have h1 := Int.emod_lt_of_pos v hp
    rw [h0] at h1
    exact Int.ediv_eq_zero_of_lt h h1
theorem keepTo_mono (all : List Int) (v : Int → Bool) (kp : List Bool) (L M : List (Int × Int)) (l : List Bool) : (keepTo all v kp L l).2 ≤ (keepTo all v kp (L ++ M) l).2 := by
  have : ∀ (M : List (Int × Int)) (st : List Bool × Nat), st.2 ≤ (M.foldl (keepStep all v kp) st).2 := by
    intro M
    induction M with
    | nil => intro st; exact Nat.le_refl _
    | cons p M ih =>
      intro st
      rw [List.foldl_cons]
      refine Nat.le_trans ?_ (ih _)
      unfold keepStep
      split <;> simp
  rw [keepTo, keepTo, List.foldl_append]
  exact this _ _

/-- What the loop over the operations knows. -/
structure Chosen (v : Int → Bool) (ops : List OpR) (pt : Int) (i d : Nat) (ch : Int) : Prop where
  len : (doneL v (ops.take i)).length = d
  hn : pt < 0 ∨ (d : Int) ≤ pt → ch = -1
  hs : 0 ≤ pt → pt < d → ∃ (q : Nat) (o : OpR), ch = q ∧ ops[q]? = some o ∧ (doneL v (ops.take i))[pt.toNat]? = some o
theorem Chosen.start (v : Int → Bool) (ops : List OpR) (pt : Int) : Chosen v ops pt 0 0 (-1) := ⟨rfl, fun _ => rfl, fun h1 h2 => by omega⟩
theorem Chosen.no {v : Int → Bool} {ops : List OpR} {pt ch : Int} {i d : Nat} {o : OpR} (h : Chosen v ops pt i d ch) (ho : ops[i]? = some o) (hv : v o.done = false) : Chosen v ops pt (i + 1) d ch := by
  have e : doneL v (ops.take (i + 1)) = doneL v (ops.take i) := by rw [take_snoc ho, doneL_snoc, hv]; rfl
  exact ⟨by rw [e]; exact h.len, h.hn, by rw [e]; exact h.hs⟩
theorem Chosen.hit {v : Int → Bool} {ops : List OpR} {pt ch : Int} {i d : Nat} {o : OpR} (h : Chosen v ops pt i d ch) (ho : ops[i]? = some o) (hv : v o.done = true) (hd : (d : Int) = pt) : Chosen v ops pt (i + 1) (d + 1) i := by
  have e : doneL v (ops.take (i + 1)) = doneL v (ops.take i) ++ [o] := by rw [take_snoc ho, doneL_snoc, hv]; rfl
  refine ⟨by rw [e, List.length_append, h.len]; rfl, fun h => by omega, fun _ _ => ⟨i, o, rfl, ho, ?_⟩⟩
  rw [e, List.getElem?_append_right (by rw [h.len]; omega), h.len, show pt.toNat - d = 0 by omega]
  rfl
theorem Chosen.miss {v : Int → Bool} {ops : List OpR} {pt ch : Int} {i d : Nat} {o : OpR} (h : Chosen v ops pt i d ch) (ho : ops[i]? = some o) (hv : v o.done = true) (hd : (d : Int) ≠ pt) : Chosen v ops pt (i + 1) (d + 1) ch := by
  have e : doneL v (ops.take (i + 1)) = doneL v (ops.take i) ++ [o] := by rw [take_snoc ho, doneL_snoc, hv]; rfl
  refine ⟨by rw [e, List.length_append, h.len]; rfl, fun h1 => h.hn (by omega), fun h1 h2 => ?_⟩
  obtain ⟨q, o', h3, h4, h5⟩ := h.hs h1 (by omega)
  exact ⟨q, o', h3, h4, by rw [e, List.getElem?_append_left (by rw [h.len]; omega)]; exact h5⟩
theorem Chosen.le {v : Int → Bool} {ops : List OpR} {pt ch : Int} {i d : Nat} (h : Chosen v ops pt i d ch) : d ≤ i := by
  have h1 := h.len
  have h2 := List.length_filter_le (fun o => v o.done) (ops.take i)
  unfold doneL at h1
  rw [List.length_take] at h2
  omega

theorem assignR_right {R : Res} (h : rightR R = true) (sin : List Int) (pt : Int) (kp : List Bool) : assignR R sin pt kp =
    if sin.length ≠ R.ins.length then ([], 422)
    else if (R.ins.zip sin).all fitP = false then ([], 422)
    else if pt < 0 ∨ ((asgD R (asg0 R sin)).length : Int) < pt then ([], 422)
    else if (asg2 R kp (pick1 R (asg0 R sin) (asgD R (asg0 R sin)) pt)).2 ≠ kp.length then ([], 422)
    else ((asg2 R kp (pick1 R (asg0 R sin) (asgD R (asg0 R sin)) pt)).1, 0) := by
  rw [assignR, if_neg (by rw [h]; decide)]
theorem int_info : (Try.prog.info? 3).map (fun i => (i.zero, i.size, i.bytes)) = some (some (.int .i64 0), 1, 8) := by kernel_rfl
theorem made_ints (n : Nat) : madeCells #[.int .i64 0] n = icells (List.replicate n false) := by
  apply Array.ext
  · simp [madeCells, icells]
  · intro i h1 h2
    simp [madeCells, icells, Nat.mod_one, bitI]
theorem makeInts (n : Nat) (hn : n ≤ 1000000) (w : World) : (Instr.makeSlice 25 (.int .i64 (n : Int)) (.int .i64 (n : Int))).run Try.prog w = .ok (.slice (some ⟨w.heap.size, 0, none⟩) n n) (w.alloc (.cells (icells (List.replicate n false)) 3)) := by
  obtain ⟨i, hi, hz, hs, hb⟩ := info_parts int_info
  have h := run_make (P := Try.prog) w 25 3 i (.int .i64 0) Try.underlying25 hi hz .i64 .i64 n n (by omega) (by omega) (by rw [hb]; omega) (by omega)
  rw [Int.toNat_natCast, hs, Nat.mul_one] at h
  rw [← made_ints]
  exact h
/-- Only the block of numbers has changed. -/
structure RInv (V : World) (ib : Nat) (l : List Bool) (W : World) : Prop where
  fr : Fr (fun q => q = ib) V W
  arr : Bk W ib 3 (icells l)
theorem RInv.drew {V W : World} {ib : Nat} {l : List Bool} (h : RInv V ib l W) : RInv V ib l W.drew := ⟨h.fr.drew, h.arr.drew⟩
theorem RInv.below {V W W' : World} {ib : Nat} {l : List Bool} (h : RInv V ib l W) (hb : Below W.heap.size W W') : RInv V ib l W' := ⟨h.fr.trans (Fr.of_below hb), h.arr.below hb h.arr.lt⟩
theorem RInv.put {V W W' : World} {ib : Nat} {l l' : List Bool} (h : RInv V ib l W) (hf : Fr (fun q => q = ib) W W') (ha : Bk W' ib 3 (icells l')) : RInv V ib l' W' := ⟨h.fr.trans hf, ha⟩
theorem RInv.w {w V W : World} {ib : Nat} {l : List Bool} (h : RInv V ib l W) (hb : Below w.heap.size w V) (hi : w.heap.size ≤ ib) : Below w.heap.size w W := hb.trans (h.fr.below w.heap.size hb.size (fun q hq e => by omega))
theorem RInv.bk {V W : World} {ib : Nat} {l : List Bool} (h : RInv V ib l W) {g : Nat} {t : TypeId} {cs : Array Value} (hb : Bk V g t cs) (hi : g ≠ ib) : Bk W g t cs := hb.fr h.fr hi

/-- put, its value given by a number. -/
theorem refPut2 (M : Int) (AN : Option Addr) (nN cN : Nat) (G : List Nd) (ib n c : Nat) (l : List Bool) (r : Int) (b : Bool) (bv : Int) (w : World) (hbv : Hid (bitI b = bv)) (hN : Hid (Rd w AN (rcells G))) (hNl : Hid (G.length = nN)) (hgl : nN ≤ 65536) (hB : Hid (Bk w ib 3 (icells l))) (hl : Hid (l.length = n)) (hn : Hid ((inputsOf G).length = n)) :
    Calls Try.prog 72 #[.agg #[.int .i64 M, .slice AN nN cN], .slice (some ⟨ib, 0, none⟩) n c, .int .i64 r, .int .i64 bv] w fun e w' => ∃ v, e = .returned v ∧ Fr (fun q => q = ib) w w' ∧ Bk w' ib 3 (icells (setIn (inputsOf G) l r b)) := by
  rw [← hbv.out]
  exact refPut M AN nN cN G ib n c l r b w hN hNl hgl hB hl hn
/-- What the reference's Assign leaves. -/
def QAsgPost (p : List Bool × Int) (w : World) (e : Ending) (w' : World) : Prop :=
  ∃ (A : Option Addr) (n c : Nat), e = .returned (.tuple #[.slice A n c, .int .i64 p.2]) ∧ Rd w' A ((p.1.map bitI).map (Value.int .i64)) ∧ p.1.length = n ∧ n ≤ 100000 ∧ Below w.heap.size w w'


theorem qasg_err {R : Res} {sin : List Int} {pt : Int} {kp : List Bool} {er : Int} {w w' : World} (h : assignR R sin pt kp = ([], er)) (hb : Below w.heap.size w w') : QAsgPost (assignR R sin pt kp) w (.returned (.tuple #[.slice none 0 0, .int .i64 er])) w' := by
  rw [h]
  exact ⟨none, 0, 0, rfl, Rd.nil, rfl, Nat.zero_le _, hb⟩

set_option maxHeartbeats 8000000 in
set_option maxRecDepth 100000 in
theorem refAssign (M : Int) (y : QV) (R : Res) (sA : Option Addr) (nS cS : Nat) (sin : List Int) (pt : Int) (kA : Option Addr) (nk ck : Nat) (kp : List Bool) (w : World) (h : Hid (RefAt w y R)) (hRT : Hid (rightR R = true)) (hS : Hid (Rd w sA (sin.map (Value.int .i64)))) (hSl : Hid (sin.length = nS)) (hSu : Hid (∀ v ∈ sin, U32 v)) (hK : Hid (Rd w kA ((kp.map bitI).map (Value.int .i64)))) (hKl : Hid (kp.length = nk)) (hnS : nS ≤ 100000) (hnk : nk ≤ 100000) (hpt : I64 pt) :
    Calls Try.prog 35 #[.agg #[.int .i64 M, .slice y.N.A y.N.n y.N.c, .slice y.I.A y.I.n y.I.c, .int .i64 R.req, .slice y.O.A y.O.n y.O.c, .slice y.K.A y.K.n y.K.c, .slice y.C.A y.C.n y.C.c, .slice y.R.A y.R.n y.R.c, .int .i64 R.bey, .int .i64 R.hol], .agg #[.slice sA nS cS, .int .i64 pt, .slice kA nk ck]] w (QAsgPost (assignR R sin pt kp) w) := by
  obtain ⟨⟨AN, nN, cN⟩, ⟨AI, nI, cI⟩, S, ⟨AO, nO, cO⟩, ⟨AK, nK, cK⟩, ⟨AC, nC, cC⟩, ⟨AR, nR, cR⟩⟩ := y
  obtain ⟨hsI, hsO, hsK, hsC, hsR⟩ := h.out.small
  obtain ⟨hpt1, hpt2⟩ := hpt
  dsimp only at hsI hsO hsK hsC hsR ⊢
  have hgl : nN ≤ 65536 := by have h1 := h.out.glen.2; have h2 := h.out.noden; dsimp only at h2; omega
  have HNN : Hid (R.G.length = nN) := h.out.noden
  have HGOK := Lib.hid h.out.gok
  have HRS := Lib.hid (Rts.of hRT.out)
  have HIn : Hid (R.ins.length = nI) := by have h1 := h.out.ins.len; have h2 := h.out.ins.sn; dsimp only at h1 h2; show _ = _; omega
  have HIL : Hid (ListsAt w AI nI S R.ins) := h.out.ins
  have HOL : Hid (Rd w AO (qcells R.ops)) := h.out.ops
  have HOn : Hid (R.ops.length = nO) := h.out.opsn
  have HCL : Hid (IntsAt w ⟨AC, nC, cC⟩ R.cached) := h.out.cached
  have HKL : Hid (IntsAt w ⟨AK, nK, cK⟩ R.keep) := h.out.keep
  have HNL : Hid (Rd w AN (rcells R.G)) := h.out.nodes
  have HB0 : Hid (Below w.heap.size w ((w.alloc (.cells #[.int .i64 M, .slice AN nN cN, .slice AI nI cI, .int .i64 R.req, .slice AO nO cO, .slice AK nK cK, .slice AC nC cC, .slice AR nR cR, .int .i64 R.bey, .int .i64 R.hol] 70)).alloc (.cells #[.slice sA nS cS, .int .i64 pt, .slice kA nk ck] 78))) := balloc (balloc (Below.refl _ _) _) _
  have HX0 := Lib.hid ((Bk.new w 70 #[.int .i64 M, .slice AN nN cN, .slice AI nI cI, .int .i64 R.req, .slice AO nO cO, .slice AK nK cK, .slice AC nC cC, .slice AR nR cR, .int .i64 R.bey, .int .i64 R.hol]).alloc (.cells #[.slice sA nS cS, .int .i64 pt, .slice kA nk ck] 78))
  have hy0 := Bk.new (w.alloc (.cells #[.int .i64 M, .slice AN nN cN, .slice AI nI cI, .int .i64 R.req, .slice AO nO cO, .slice AK nK cK, .slice AC nC cC, .slice AR nR cR, .int .i64 R.bey, .int .i64 R.hol] 70)) 78 #[.slice sA nS cS, .int .i64 pt, .slice kA nk ck]
  rw [World.size_alloc] at hy0
  have HY0 := Lib.hid hy0
  clear hy0 h
  obtain ⟨x0, x1, x2, x3, x4, x5, x6, x7, x8, x9⟩ := (cells10 HX0.out).1
  obtain ⟨y0, y1, y2⟩ := cells3 HY0.out
  by_cases hnn : nS = nI
  rotate_left
  · have hne : ((nS : Int) != (nI : Int)) = true := by simp; omega
    have HNE : Hid (assignR R sin pt kp = ([], 422)) := by
      show _ = _
      rw [assignR_right hRT.out, if_pos (by rw [hSl.out, HIn.out]; exact hnn)]
    clear hnn
    go_enter Try.func35, Try.ntmps35
    go_wp2
    go_ret2
    exact qasg_err HNE.out HB0.out
  subst hnn
  have hne : ((nS : Int) != (nS : Int)) = false := by simp
  obtain ⟨na, hna⟩ : ∃ na, (inputsOf R.G).length = na := ⟨_, rfl⟩
  have HNA := Lib.hid hna
  have hna2 : na ≤ 65536 := by have := inputsOf_len R.G; have := HNN.out; omega
  clear hna
  go_enter Try.func35, Try.ntmps35
  go_wp2_with fail
  generalize ((w.alloc (.cells #[.int .i64 M, .slice AN nN cN, .slice AI nS cI, .int .i64 R.req, .slice AO nO cO, .slice AK nK cK, .slice AC nC cC, .slice AR nR cR, .int .i64 R.bey, .int .i64 R.hol] 70)).alloc (.cells #[.slice sA nS cS, .int .i64 pt, .slice kA nk ck] 78)) = W0 at *
  refine (rinputs M AN nN cN R.G W0 (Lib.hid (HNL.out.below HB0.out)) HNN (by omega)).mono ?_
  rintro e W1 ⟨AJ, nj, cj, rfl, hnj, hoj, hbj⟩
  obtain rfl : nj = na := hnj.symm.trans HNA.out
  have HB1 := Lib.hid (bthen HB0.out hbj)
  have HX1 := Lib.hid (bkbel HX0.out hbj)
  have HY1 := Lib.hid (bkbel HY0.out hbj)
  have hmk := makeInts nj (by omega) W1
  clear hnj hoj hbj HB0 HX0 HY0 x0 x1 x2 x3 x4 x5 x6 x7 x8 x9 y0 y1 y2
  go_wp2_with fail
  obtain ⟨ib, hib⟩ : ∃ ib, W1.heap.size = ib := ⟨_, rfl⟩
  have hib2 : w.heap.size + 1 < ib := by rw [← hib]; exact HY1.out.lt
  have HBV : Hid (Below w.heap.size w (W1.alloc (.cells (icells (List.replicate nj false)) 3))) := balloc HB1.out _
  have HXV := Lib.hid (HX1.out.alloc (.cells (icells (List.replicate nj false)) 3))
  have HYV := Lib.hid (HY1.out.alloc (.cells (icells (List.replicate nj false)) 3))
  have HAV := Lib.hid (Bk.new W1 3 (icells (List.replicate nj false)))
  rw [hib] at HAV ⊢
  clear hmk HB1 HX1 HY1
  generalize (W1.alloc (.cells (icells (List.replicate nj false)) 3)) = V at *
  clear hib
  go_loopw [7] (fun v7 wr => ∃ (i : Nat), i ≤ nS ∧ v7 = .int .i64 i ∧ Hid (RInv V ib (wordsTo (inputsOf R.G) ((R.ins.zip sin).take i) (List.replicate nj false)) wr) ∧ Hid (((R.ins.zip sin).take i).all fitP = true)) (fun v7 _ => nS - (intOf v7).toNat)
  case atStart => exact ⟨0, Nat.zero_le _, rfl, ⟨Fr.refl _ _, HAV.out⟩, rfl⟩
  case round =>
    obtain ⟨i, hi, rfl, HQ, HF⟩ := hrel
    have HBr : Hid (Below w.heap.size w wr) := HQ.out.w HBV.out (by omega)
    have HXr := Lib.hid (HQ.out.bk HXV.out (by omega))
    have HYr := Lib.hid (HQ.out.bk HYV.out (by omega))
    obtain ⟨x0, x1, x2, x3, x4, x5, x6, x7, x8, x9⟩ := (cells10 HXr.out).1
    obtain ⟨y0, y1, y2⟩ := cells3 HYr.out
    by_cases hlt : i < nS
    · obtain ⟨bI, oI, ⟨Aw, wn, wc⟩, lw, rfl, hlw, hcw, hrw, hlen, hwn, hw64⟩ := (HIL.out.below HBr.out).at hlt
      dsimp only at hcw hrw hlen hwn
      obtain ⟨bS, oS, cv, rfl, hcv, hcs⟩ := (hS.out.below HBr.out).getm hSl.out hlt
      obtain ⟨hcv0, hcv1⟩ := hSu.out cv (List.mem_of_getElem? hcv)
      have HZ : Hid ((R.ins.zip sin)[i]? = some (lw, cv)) := by
        show _ = _
        rw [List.getElem?_zip_eq_some]
        exact ⟨hlw, hcv⟩
      have HSV : Hid (S[i]? = some ⟨Aw, wn, wc⟩) := by
        obtain ⟨b', o', s', e, hs', hc'⟩ := (HIL.out.below HBr.out).rd.getm HIL.out.sn hlt
        injection e with e
        injection e with e1 e2
        subst e1; subst e2
        rw [hc'] at hcw
        injection hcw with hcw
        show _ = _
        rw [hs']
        obtain ⟨A1, n1, c1⟩ := s'
        unfold SV.val at hcw
        injection hcw with f1 f2 f3
        dsimp only at f1 f2 f3
        rw [f1, f2, f3]
      have HRWw : Hid (Rd w Aw (lw.map (Value.int .i64))) := ((HIL.out.inner i _ _ HSV.out hlw).1).1
      have HLW := Lib.hid hlw; have HRW := Lib.hid hrw; have HLN := Lib.hid hlen; have HW64 := Lib.hid hw64
      obtain ⟨L0, hL0⟩ : ∃ L, wordsTo (inputsOf R.G) ((R.ins.zip sin).take i) (List.replicate nj false) = L := ⟨_, rfl⟩
      rw [hL0] at HQ
      have HL0 := Lib.hid hL0
      have HLL : Hid (L0.length = nj) := by show _ = _; rw [← hL0, wordsTo_len, List.length_replicate]
      clear hlw hrw hlen hw64 hcv hL0
      go_wp2_with fail
      clear x0 x1 x2 x3 x4 x5 x6 x7 x8 x9 y0 y1 y2 hcw hcs
      go_loopw [8, 9] (fun v8 v9 wr2 => ∃ (j : Nat) (X : Int), j ≤ wn ∧ v9 = .int .i64 j ∧ v8 = .int .i64 X ∧ 0 ≤ X ∧ X ≤ 4294967295 ∧ Hid (cv / 2 ^ j = X) ∧ Hid (RInv V ib (wordTo (inputsOf R.G) cv lw j L0) wr2)) (fun _ v9 _ => wn - (intOf v9).toNat)
      case atStart => exact ⟨0, cv, Nat.zero_le _, rfl, rfl, hcv0, hcv1, by show _ = _; simp, HQ⟩
      case round =>
        obtain ⟨j, X, hj, rfl, rfl, hX0, hX1, HX, HQ2⟩ := hrel
        have HB2 : Hid (Below w.heap.size w wr) := HQ2.out.w HBV.out (by omega)
        have HXr2 := Lib.hid (HQ2.out.bk HXV.out (by omega))
        have HYr2 := Lib.hid (HQ2.out.bk HYV.out (by omega))
        obtain ⟨x0, x1, x2, x3, x4, x5, x6, x7, x8, x9⟩ := (cells10 HXr2.out).1
        obtain ⟨y0, y1, y2⟩ := cells3 HYr2.out
        have hcw : wr.cell? ⟨bI, oI + i, none⟩ = some (.slice Aw wn wc) := by
          obtain ⟨b', o', s', e, hs', hc'⟩ := (HIL.out.below HB2.out).rd.getm HIL.out.sn hlt
          injection e with e
          injection e with e1 e2
          subst e1; subst e2
          have := HSV.out
          rw [hs'] at this
          injection this with this
          rw [this] at hc'
          exact hc'
        by_cases hjl : j < wn
        · obtain ⟨bw, ow, u, rfl, hu, hcu⟩ := (HRWw.out.below HB2.out).getm HLN.out hjl
          have HGD : Hid (lw.getD j 0 = u) := by show _ = _; rw [List.getD_eq_getElem?_getD, hu]; rfl
          have HBV1 : Hid (bitI (bitN cv j) = X % 2) := by show _ = _; rw [bit_div, HX.out]
          clear hu
          go_wp2
          refine wp_region_oneq 13 (by kernel_rfl) (by kernel_rfl) ?_
          simp only [List.take_succ_cons, List.take_zero, List.drop_succ_cons, List.drop_zero]
          repeat (go_big_quiet_step (fail))
          refine wpQuiet_nil ?_
          refine wpOp_here rfl rfl (fun K hK => ?_)
          go_simp
          go_at_call 72
          refine (refPut2 M AN nN cN R.G ib nj nj (wordTo (inputsOf R.G) cv lw j L0) u (bitN cv j) (X % 2) wr.drew HBV1 (Lib.hid (HNL.out.below HB2.out.drew)) HNN hgl (Lib.hid HQ2.out.drew.arr) (by show _ = _; rw [wordTo_len]; exact HLL.out) HNA).mono ?_
          rintro e W2 ⟨v, rfl, hfr, harr⟩
          have HQ3 : Hid (RInv V ib (wordTo (inputsOf R.G) cv lw (j + 1) L0) W2) := by
            show RInv _ _ _ _
            rw [wordTo_succ, HGD.out]
            exact HQ2.out.drew.put hfr harr
          clear hfr harr
          refine hK _ _ ?_
          clear hK K
          try go_frame
          refine wpQuiet_nil ?_
          clear x0 x1 x2 x3 x4 x5 x6 x7 x8 x9 y0 y1 y2 hcw hcu
          go_wp2
          go_roundw
          case rel => exact ⟨j + 1, X / 2, by omega, by go_num, by first | rfl | go_num, by omega, by omega, by show _ = _; rw [← div_succ, HX.out], HQ3⟩
          case measure => simp [intOf]; omega
        · obtain rfl : wn = j := by omega
          by_cases hx0 : X = 0
          · subst hx0
            have hb0 : ((0 : Int) != 0) = false := rfl
            have HFn : Hid (((R.ins.zip sin).take (i + 1)).all fitP = true) := by
              show _ = _
              rw [take_snoc HZ.out, List.all_append, HF.out]
              simp only [List.all_cons, List.all_nil, Bool.and_true, Bool.true_and]
              rw [← fit_div lw cv hcv0, HLN.out]
              exact HX.out
            have HQn : Hid (RInv V ib (wordsTo (inputsOf R.G) ((R.ins.zip sin).take (i + 1)) (List.replicate nj false)) wr) := by
              show RInv _ _ _ _
              rw [take_snoc HZ.out, wordsTo_snoc, HL0.out]
              have := HQ2.out
              rw [← HLN.out] at this
              exact this
            go_wp2
            go_roundw
            case rel => exact ⟨i + 1, by omega, by go_num, HQn, HFn⟩
            case measure => simp [intOf]; omega
          · have hb0 : (X != 0) = true := by simpa using hx0
            have HNE : Hid (assignR R sin pt kp = ([], 422)) := by
              show _ = _
              have hfp : fitP (lw, cv) = false := by
                cases hf : fitP (lw, cv) with
                | false => rfl
                | true =>
                  rw [← fit_div lw cv hcv0, HLN.out, HX.out] at hf
                  exact absurd hf hx0
              have hall : (R.ins.zip sin).all fitP = false := by
                rw [List.all_eq_false]
                exact ⟨_, List.mem_of_getElem? HZ.out, by simp [hfp]⟩
              rw [assignR_right hRT.out, if_neg (by rw [hSl.out, HIn.out]; simp), if_pos hall]
            clear hx0
            go_wp2
            go_ret2
            exact qasg_err HNE.out HB2.out
    · obtain rfl : nS = i := by omega
      obtain ⟨l0, hl0⟩ : ∃ l, asg0 R sin = l := ⟨_, rfl⟩
      have HQ1 : Hid (RInv V ib l0 wr) := by
        have h := HQ.out
        rw [List.take_of_length_le (by rw [List.length_zip, HIn.out, hSl.out]; omega)] at h
        show RInv _ _ _ _
        rw [← hl0]
        unfold asg0
        rw [HNA.out]
        exact h
      have HFA : Hid ((R.ins.zip sin).all fitP = true) := by
        have h := HF.out
        rw [List.take_of_length_le (by rw [List.length_zip, HIn.out, hSl.out]; omega)] at h
        exact h
      have HL0 := Lib.hid hl0
      have HLL : Hid (l0.length = nj) := by show _ = _; rw [← hl0, asg0, wordsTo_len, List.length_replicate]; exact HNA.out
      clear HQ HF hlt hl0
      go_wp2_with fail
      refine (rvalues M AN (some ⟨ib, 0, none⟩) nN cN nj nj R.G l0 wr HGOK (Lib.hid (HNL.out.below HBr.out)) HNN hgl (Lib.hid (rd_icells HQ1.out.arr)) HLL (by show _ = _; exact HNA.out.symm) (by omega)).mono ?_
      rintro e V1 ⟨A10, c10, rfl, ho1, hb1⟩
      have HB1 := Lib.hid (bthen HBr.out hb1)
      have HX1 := Lib.hid (bkbel HXr.out hb1)
      have HY1 := Lib.hid (bkbel HYr.out hb1)
      have HA1 := Lib.hid (HQ1.out.below hb1).arr
      have HO1 := Lib.hid (Rd.of_own ho1)
      have hV1 : ib < V1.heap.size := HA1.out.lt
      obtain ⟨vv, hvv⟩ : ∃ vv, evalG R.G l0 = vv := ⟨_, rfl⟩
      rw [hvv] at HO1
      have HVL : Hid (vv.length = nN) := by show _ = _; rw [← hvv, evalG_len]; exact HNN.out
      have HVV := Lib.hid hvv
      clear ho1 hb1 HBr HXr HYr HQ1 hvv x0 x1 x2 x3 x4 x5 x6 x7 x8 x9 y0 y1 y2
      go_wp2_with fail
      go_loopw [11, 12, 13] (fun v11 v12 v13 wr2 => ∃ (k d : Nat) (ch : Int), k ≤ nO ∧ v13 = .int .i64 k ∧ v11 = .int .i64 d ∧ v12 = .int .i64 ch ∧ d ≤ k ∧ Hid (Chosen (valR vv) R.ops pt k d ch) ∧ V1 = wr2) (fun _ _ v13 _ => nO - (intOf v13).toNat)
      case atStart => exact ⟨0, 0, -1, Nat.zero_le _, rfl, rfl, rfl, Nat.zero_le _, Chosen.start _ _ _, rfl⟩
      case round =>
        obtain ⟨k, d, ch, hk, rfl, rfl, rfl, hdk, HCH, rfl⟩ := hrel
        obtain ⟨x0, x1, x2, x3, x4, x5, x6, x7, x8, x9⟩ := (cells10 HX1.out).1
        obtain ⟨y0, y1, y2⟩ := cells3 HY1.out
        by_cases hlk : k < nO
        · obtain ⟨bo, oo, o, rfl, ho, hbo, ho0, ho1, ho2, ho3⟩ := (HOL.out.below HB1.out).qop HOn.out hlk
          have HOo := Lib.hid ho
          obtain ⟨d0, d1⟩ := of_decide_eq_true (HRS.out.done o (List.mem_of_getElem? ho))
          rw [HNN.out] at d1
          have HRV := Lib.hid (rvalue A10 nN c10 vv o.done V1 HO1.out HVL.out (by omega) d0 (by omega))
          obtain ⟨bd, hbd⟩ : ∃ b, valR vv o.done = b := ⟨_, rfl⟩
          rw [hbd] at HRV
          have HBD := Lib.hid hbd
          obtain ⟨oD, hoD⟩ : ∃ x, o.done = x := ⟨_, rfl⟩
          rw [hoD] at ho1 HRV d0 d1
          clear hbd ho ho0 ho2 ho3 hoD
          cases bd with
          | false =>
            rw [show bitI false = 0 from rfl] at HRV
            have hz : ((0 : Int) == 0) = true := rfl
            go_wp2_with fail
            refine HRV.out.mono ?_
            rintro e w' ⟨rfl, rfl⟩
            clear HRV
            go_wp2
            go_roundw
            case rel => exact ⟨k + 1, d, ch, by omega, by go_num, rfl, rfl, by omega, HCH.out.no HOo.out HBD.out, by first | rfl | trivial⟩
            case measure => simp [intOf]; omega
          | true =>
            rw [show bitI true = 1 from rfl] at HRV
            have hz : ((1 : Int) == 0) = false := rfl
            by_cases hdp : (d : Int) = pt
            · have hdb : ((d : Int) == pt) = true := by simpa using hdp
              have HDP := Lib.hid hdp
              clear hdp
              go_wp2_with fail
              refine HRV.out.mono ?_
              rintro e w' ⟨rfl, rfl⟩
              clear HRV
              go_wp2
              go_roundw
              case rel => exact ⟨k + 1, d + 1, k, by omega, by go_num, by go_num, rfl, by omega, HCH.out.hit HOo.out HBD.out HDP.out, by first | rfl | trivial⟩
              case measure => simp [intOf]; omega
            · have hdb : ((d : Int) == pt) = false := by simpa using hdp
              have HDP := Lib.hid hdp
              clear hdp
              go_wp2_with fail
              refine HRV.out.mono ?_
              rintro e w' ⟨rfl, rfl⟩
              clear HRV
              go_wp2
              go_roundw
              case rel => exact ⟨k + 1, d + 1, ch, by omega, by go_num, by go_num, rfl, by omega, HCH.out.miss HOo.out HBD.out HDP.out, by first | rfl | trivial⟩
              case measure => simp [intOf]; omega
        · obtain rfl : nO = k := by omega
          have HDL : Hid (asgD R (asg0 R sin) = doneL (valR vv) R.ops) := by show _ = _; rw [HL0.out, asgD, HVV.out]
          have htk : R.ops.take nO = R.ops := List.take_of_length_le (by rw [HOn.out]; omega)
          have HLD : Hid ((doneL (valR vv) R.ops).length = d) := by
            have h := HCH.out.len
            rwa [htk] at h
          by_cases hp0 : pt < 0
          · have hd0 : decide (pt < 0) = true := by simpa using hp0
            have HNE : Hid (assignR R sin pt kp = ([], 422)) := by
              show _ = _
              rw [assignR_right hRT.out, if_neg (by rw [hSl.out, HIn.out]; simp), if_neg (by rw [HFA.out]; decide), if_pos (.inl hp0)]
            go_wp2
            go_ret2
            exact qasg_err HNE.out HB1.out
          by_cases hp1 : (d : Int) < pt
          · have hd0 : decide (pt < 0) = false := by simpa using hp0
            have hd1 : decide ((d : Int) < pt) = true := by simpa using hp1
            have HNE : Hid (assignR R sin pt kp = ([], 422)) := by
              show _ = _
              rw [assignR_right hRT.out, if_neg (by rw [hSl.out, HIn.out]; simp), if_neg (by rw [HFA.out]; decide), if_pos (.inr (by rw [HDL.out, HLD.out]; exact hp1))]
            go_wp2
            go_ret2
            exact qasg_err HNE.out HB1.out
          have hd0 : decide (pt < 0) = false := by simpa using hp0
          have hd1 : decide ((d : Int) < pt) = false := by simpa using hp1
          obtain ⟨l1, hl1⟩ : ∃ l, pick1 R l0 (doneL (valR vv) R.ops) pt = l := ⟨_, rfl⟩
          have HASG : Hid (assignR R sin pt kp = if (asg2 R kp l1).2 ≠ kp.length then ([], 422) else ((asg2 R kp l1).1, 0)) := by
            show _ = _
            rw [assignR_right hRT.out, if_neg (by rw [hSl.out, HIn.out]; simp), if_neg (by rw [HFA.out]; decide), if_neg (by rw [HDL.out, HLD.out]; omega), HDL.out, HL0.out, hl1]
          have HL1 := Lib.hid hl1
          have HLL1 : Hid (l1.length = nj) := by
            show _ = _
            rw [← hl1, pick1]
            split
            · split
              · rw [setIn_len]; exact HLL.out
              · exact HLL.out
            · exact HLL.out
          clear hl1 htk
          go_upto_if 105 with fail
          go_cut [] (fun wx => Hid (RInv V1 ib l1 wx))
          case first =>
            by_cases hpd : pt < (d : Int)
            · obtain ⟨q, o, hq, ho, hdo⟩ := HCH.out.hs (by omega) hpd
              have hql : q < nO := by have := (List.getElem?_eq_some_iff.1 ho).1; rw [HOn.out] at this; exact this
              obtain rfl : ch = (q : Int) := hq
              obtain ⟨bo, oo, o', rfl, ho', hbo, ho0, ho1, ho2, ho3⟩ := (HOL.out.below HB1.out).qop HOn.out hql
              obtain rfl : o = o' := by rw [ho] at ho'; injection ho'
              have hch : decide ((0 : Int) ≤ (q : Int)) = true := decide_eq_true (by omega)
              have HP1 : Hid (l1 = setIn (inputsOf R.G) l0 o.sel true) := by
                show _ = _
                have h2 := hdo
                rw [List.take_of_length_le (by rw [HOn.out]; omega)] at h2
                rw [← HL1.out, pick1, if_pos (by omega), h2]
              obtain ⟨oS, hoS⟩ : ∃ x, o.sel = x := ⟨_, rfl⟩
              rw [hoS] at ho2 HP1
              clear ho ho' hdo ho0 ho1 ho3 hoS
              go_wp2
              refine wp_region_oneq 9 (by kernel_rfl) (by kernel_rfl) ?_
              simp only [List.take_succ_cons, List.take_zero, List.drop_succ_cons, List.drop_zero]
              repeat (go_big_quiet_step (fail))
              refine wpQuiet_nil ?_
              refine wpOp_here rfl rfl (fun K hK => ?_)
              go_simp
              go_at_call 72
              refine (refPut2 M AN nN cN R.G ib nj nj l0 oS true 1 V1.drew (Lib.hid rfl) (Lib.hid (HNL.out.below HB1.out.drew)) HNN hgl (Lib.hid HA1.out.drew) HLL HNA).mono ?_
              rintro e W2 ⟨v, rfl, hfr, harr⟩
              rw [← HP1.out] at harr
              have HQ3 : Hid (RInv V1 ib l1 W2) := ⟨(Fr.refl _ V1).drew.trans hfr, harr⟩
              clear hfr harr
              refine hK _ _ ?_
              clear hK K
              try go_frame
              refine wpQuiet_nil ?_
              go_wp2_with fail
              go_meet
              exact HQ3
            · obtain rfl : ch = -1 := HCH.out.hn (.inr (by omega))
              have hch : decide ((0 : Int) ≤ -1) = false := rfl
              have HP1 : Hid (l1 = l0) := by
                show _ = _
                rw [← HL1.out, pick1, if_pos (by omega), List.getElem?_eq_none (by rw [HLD.out]; omega)]
              go_wp2_with fail
              go_meet
              exact ⟨Fr.refl _ _, by rw [HP1.out]; exact HA1.out⟩
          case rest =>
            have HQc : Hid (RInv V1 ib l1 wc) := hcut
            have HBc : Hid (Below w.heap.size w wc) := HQc.out.w HB1.out (by omega)
            have HXc := Lib.hid (HQc.out.bk HX1.out (by omega))
            have HYc := Lib.hid (HQc.out.bk HY1.out (by omega))
            clear hcut HCH HX1 HY1 HA1 HO1 x0 x1 x2 x3 x4 x5 x6 x7 x8 x9 y0 y1 y2
            obtain ⟨x0, x1, x2, x3, x4, x5, x6, x7, x8, x9⟩ := (cells10 HXc.out).1
            obtain ⟨y0, y1, y2⟩ := cells3 HYc.out
            go_wp2_with fail
            refine (rvalues M AN (some ⟨ib, 0, none⟩) nN cN nj nj R.G l1 wc HGOK (Lib.hid (HNL.out.below HBc.out)) HNN hgl (Lib.hid (rd_icells HQc.out.arr)) HLL1 (by show _ = _; exact HNA.out.symm) (by omega)).mono ?_
            rintro e V2 ⟨A11, c11, rfl, ho2, hb2⟩
            have HB2 := Lib.hid (bthen HBc.out hb2)
            have HX2 := Lib.hid (bkbel HXc.out hb2)
            have HY2 := Lib.hid (bkbel HYc.out hb2)
            have HA2 := Lib.hid (HQc.out.below hb2).arr
            have hwcl : ib < wc.heap.size := HQc.out.arr.lt
            obtain ⟨vv2, hvv2⟩ : ∃ vv, evalG R.G l1 = vv := ⟨_, rfl⟩
            rw [hvv2] at ho2
            have HO2 := Lib.hid ho2
            have HVL2 : Hid (vv2.length = nN) := by show _ = _; rw [← hvv2, evalG_len]; exact HNN.out
            have HASG2 : Hid (asg2 R kp l1 = keepTo (inputsOf R.G) (valR vv2) kp (R.cached.zip R.keep) l1) := by show _ = _; rw [asg2, hvv2]
            have HCn : Hid (R.cached.length = nC) := HCL.out.2.1
            have HKn : Hid (R.keep.length = nC) := by show _ = _; rw [HRS.out.keepn]; exact HCn.out
            obtain rfl : nK = nC := by have h1 := HKL.out.2.1; have h2 := HKn.out; dsimp only at h1; omega
            clear ho2 hb2 HXc HYc HQc HBc hvv2 x0 x1 x2 x3 x4 x5 x6 x7 x8 x9 y0 y1 y2
            go_wp2_with fail
            go_loopw [14, 15] (fun v14 v15 wr2 => ∃ (k t : Nat), k ≤ nK ∧ v15 = .int .i64 k ∧ v14 = .int .i64 t ∧ t ≤ nk ∧ Hid ((keepTo (inputsOf R.G) (valR vv2) kp ((R.cached.zip R.keep).take k) l1).2 = t) ∧ Hid (RInv V2 ib (keepTo (inputsOf R.G) (valR vv2) kp ((R.cached.zip R.keep).take k) l1).1 wr2)) (fun _ v15 _ => nK - (intOf v15).toNat)
            case atStart => exact ⟨0, 0, Nat.zero_le _, rfl, rfl, Nat.zero_le _, rfl, ⟨Fr.refl _ _, HA2.out⟩⟩
            case round =>
              obtain ⟨k, t, hk, rfl, rfl, htn, HT, HQ⟩ := hrel
              have HBr : Hid (Below w.heap.size w wr) := HQ.out.w HB2.out (by omega)
              have HXr := Lib.hid (HQ.out.bk HX2.out (by omega))
              have HYr := Lib.hid (HQ.out.bk HY2.out (by omega))
              have HOr := Lib.hid (Rd.of_own (own_fr HO2.out HQ.out.fr (fun q hq e => by have := (HO2.out.lt q hq).1; omega)))
              obtain ⟨x0, x1, x2, x3, x4, x5, x6, x7, x8, x9⟩ := (cells10 HXr.out).1
              obtain ⟨y0, y1, y2⟩ := cells3 HYr.out
              obtain ⟨st, hst⟩ : ∃ st, keepTo (inputsOf R.G) (valR vv2) kp ((R.cached.zip R.keep).take k) l1 = st := ⟨_, rfl⟩
              rw [hst] at HT HQ
              have HSL : Hid (st.1.length = nj) := by show _ = _; rw [← hst, (keepTo_len _ _ _ _ _).1]; exact HLL1.out
              have HST := Lib.hid hst
              clear hst
              by_cases hlk : k < nK
              · obtain ⟨bc, oc, xc, rfl, hxc, hcc⟩ := (HCL.out.1.below HBr.out).getm HCn.out hlk
                obtain ⟨bk, ok, xk, rfl, hxk, hck⟩ := (HKL.out.1.below HBr.out).getm HKn.out hlk
                have HZ : Hid ((R.cached.zip R.keep)[k]? = some (xc, xk)) := by
                  show _ = _
                  rw [List.getElem?_zip_eq_some]
                  exact ⟨hxc, hxk⟩
                obtain ⟨d0', d1'⟩ := of_decide_eq_true (HRS.out.cached xc (List.mem_of_getElem? hxc))
                rw [HNN.out] at d1'
                have HRV := Lib.hid (rvalue A11 nN c11 vv2 xc wr HOr.out HVL2.out (by omega) d0' (by omega))
                have HSN : Hid (keepTo (inputsOf R.G) (valR vv2) kp ((R.cached.zip R.keep).take (k + 1)) l1 = keepStep (inputsOf R.G) (valR vv2) kp st (xc, xk)) := by
                  show _ = _
                  rw [take_snoc HZ.out, keepTo_snoc, HST.out]
                obtain ⟨bd, hbd⟩ : ∃ b, valR vv2 xc = b := ⟨_, rfl⟩
                rw [hbd] at HRV
                have HBD := Lib.hid hbd
                clear hbd hxc hxk
                cases bd with
                | false =>
                  rw [show bitI false = 0 from rfl] at HRV
                  have hz : ((0 : Int) == 0) = true := rfl
                  have HSE : Hid (keepStep (inputsOf R.G) (valR vv2) kp st (xc, xk) = st) := by show _ = _; rw [keepStep, if_neg (by rw [HBD.out]; decide)]
                  go_wp2_with fail
                  refine HRV.out.mono ?_
                  rintro e w' ⟨rfl, rfl⟩
                  clear HRV
                  go_wp2
                  go_roundw
                  case rel => exact ⟨k + 1, t, by omega, by go_num, rfl, htn, by show _ = _; rw [HSN.out, HSE.out]; exact HT.out, by show RInv _ _ _ _; rw [HSN.out, HSE.out]; exact HQ.out⟩
                  case measure => simp [intOf]; omega
                | true =>
                  rw [show bitI true = 1 from rfl] at HRV
                  have hz : ((1 : Int) == 0) = false := rfl
                  by_cases htk : t < nk
                  · have hdt : decide ((nk : Int) ≤ (t : Int)) = false := decide_eq_false (by omega)
                    have hdt2 : decide (nk ≤ t) = false := decide_eq_false (by omega)
                    obtain ⟨bs, os, u, rfl, hu, hcu⟩ := (show Rd wr kA ((kp.map fun b => bitI b).map (Value.int .i64)) from hK.out.below HBr.out).getm (n := nk) (by rw [List.length_map]; exact hKl.out) htk
                    have HUB : Hid (bitI (kp.getD t false) = u) := by
                      rw [List.getElem?_map] at hu
                      obtain ⟨bb, hbb, rfl⟩ := Option.map_eq_some_iff.1 hu
                      show _ = _
                      rw [List.getD_eq_getElem?_getD, hbb]
                      rfl
                    have HSE : Hid (keepStep (inputsOf R.G) (valR vv2) kp st (xc, xk) = (setIn (inputsOf R.G) st.1 xk (kp.getD t false), t + 1)) := by
                      show _ = _
                      rw [keepStep, if_pos HBD.out, HT.out, hKl.out, if_pos htk]
                    clear hu
                    go_wp2_with fail
                    refine HRV.out.mono ?_
                    rintro e w' ⟨rfl, rfl⟩
                    clear HRV
                    go_wp2
                    refine wp_region_oneq 13 (by kernel_rfl) (by kernel_rfl) ?_
                    simp only [List.take_succ_cons, List.take_zero, List.drop_succ_cons, List.drop_zero]
                    repeat (go_big_quiet_step (fail))
                    refine wpQuiet_nil ?_
                    refine wpOp_here rfl rfl (fun K hK => ?_)
                    go_simp
                    go_at_call 72
                    refine (refPut2 M AN nN cN R.G ib nj nj st.1 xk (kp.getD t false) u wr.drew HUB (Lib.hid (HNL.out.below HBr.out.drew)) HNN hgl (Lib.hid HQ.out.drew.arr) HSL HNA).mono ?_
                    rintro e W2 ⟨v, rfl, hfr, harr⟩
                    have HQ3 : Hid (RInv V2 ib (setIn (inputsOf R.G) st.1 xk (kp.getD t false)) W2) := HQ.out.drew.put hfr harr
                    clear hfr harr
                    refine hK _ _ ?_
                    clear hK K
                    try go_frame
                    refine wpQuiet_nil ?_
                    clear x0 x1 x2 x3 x4 x5 x6 x7 x8 x9 y0 y1 y2 hcc hck hcu
                    go_wp2
                    go_roundw
                    case rel => exact ⟨k + 1, t + 1, by omega, by go_num, by go_num, by omega, by show _ = _; rw [HSN.out, HSE.out], by show RInv _ _ _ _; rw [HSN.out, HSE.out]; exact HQ3.out⟩
                    case measure => simp [intOf]; omega
                  · obtain rfl : t = nk := by omega
                    have hdt : decide ((t : Int) ≤ (t : Int)) = true := decide_eq_true (by omega)
                    have HNE : Hid (assignR R sin pt kp = ([], 422)) := by
                      show _ = _
                      rw [HASG.out, if_pos]
                      rw [HASG2.out, hKl.out]
                      have h1 := keepTo_mono (inputsOf R.G) (valR vv2) kp ((R.cached.zip R.keep).take (k + 1)) ((R.cached.zip R.keep).drop (k + 1)) l1
                      rw [List.take_append_drop, HSN.out, keepStep, if_pos HBD.out] at h1
                      dsimp only at h1
                      rw [HT.out] at h1
                      omega
                    go_wp2_with fail
                    refine HRV.out.mono ?_
                    rintro e w' ⟨rfl, rfl⟩
                    clear HRV
                    go_wp2
                    go_ret2
                    exact qasg_err HNE.out HBr.out
              · obtain rfl : nK = k := by omega
                have HALL : Hid (asg2 R kp l1 = st) := by
                  show _ = _
                  have h := HST.out
                  rw [List.take_of_length_le (by rw [List.length_zip, HCn.out, HKn.out]; omega)] at h
                  rw [HASG2.out]; exact h
                by_cases htk : t < nk
                · have hdt : decide ((t : Int) < (nk : Int)) = true := decide_eq_true (by omega)
                  have HNE : Hid (assignR R sin pt kp = ([], 422)) := by
                    show _ = _
                    rw [HASG.out, if_pos]
                    rw [HALL.out, HT.out, hKl.out]
                    omega
                  go_wp2
                  go_ret2
                  exact qasg_err HNE.out HBr.out
                · obtain rfl : t = nk := by omega
                  have hdt : decide ((t : Int) < (t : Int)) = false := decide_eq_false (by omega)
                  have HNE : Hid (assignR R sin pt kp = (st.1, 0)) := by
                    show _ = _
                    rw [HASG.out, if_neg (by rw [HALL.out, HT.out, hKl.out]; simp), HALL.out]
                  go_wp2
                  go_ret2
                  rw [HNE.out]
                  exact ⟨some ⟨ib, 0, none⟩, nj, nj, rfl, rd_icells HQ.out.arr, HSL.out, by omega, HBr.out⟩
end Go.Proofs.Ytamoniljgifggaa
