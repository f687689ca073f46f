/-
  Contract of the reference's Right (layer 42).
-/
import Derived.Test.YtamoniljgifggaaRefT
import Derived.Test.YtamoniljgifggaaRefG
import Derived.Deep.DeepCutAuto
import Derived.Test.YtamoniljgifggaaOneQ
import Derived.Maps.RangeWalk
set_option linter.unusedVariables false
set_option linter.unusedSimpArgs false
namespace Go.Proofs.Ytamoniljgifggaa
open Go.RowKit

def qown (R : Res) : List Int := R.ops.map (·.sel) ++ R.keep ++ R.ins.flatten
def qoth (R : Res) : List Int := R.ops.map (·.done) ++ R.cached ++ R.rules ++ [R.req, R.bey, R.hol]
theorem once_nodup (l : List Int) : once l = true ↔ l.Nodup := by
  induction l with
  | nil => simp [once]
  | cons x l ih => simp [once, ih]
theorem qown_perm (R : Res) : (ownL R).Perm (qown R) := by
  unfold ownL qown
  exact List.Perm.append_right _ List.perm_append_comm
theorem qoth_mem (R : Res) (x : Int) : x ∈ othL R ↔ x ∈ qoth R := by
  unfold othL qoth
  simp only [List.flatten_cons, List.flatten_nil, List.mem_append, List.append_nil]
  constructor
  · rintro ((h | h | h) | h)
    · exact .inl (.inl (.inr h))
    · exact .inl (.inr h)
    · exact .inr h
    · exact .inl (.inl (.inl h))
  · rintro (((h | h) | h) | h)
    · exact .inr h
    · exact .inl (.inl h)
    · exact .inl (.inr (.inl h))
    · exact .inl (.inr (.inr h))
theorem qright_true {R : Res} (h1 : opsOk R = true) (h2 : wordsOk R = true) (h3 : ∀ x ∈ qown R, inOk R.G x = true) (h4 : (qown R).Nodup) (h5 : ∀ x ∈ qoth R, refOk R.G x = true) : rightR R = true := by
  have a1 : (ownL R).all (inOk R.G) = true := List.all_eq_true.2 fun x hx => h3 x ((qown_perm R).mem_iff.1 hx)
  have a2 : once (ownL R) = true := (once_nodup _).2 ((qown_perm R).nodup_iff.2 h4)
  have a3 : (othL R).all (refOk R.G) = true := List.all_eq_true.2 fun x hx => h5 x ((qoth_mem R x).1 hx)
  simp [rightR, h1, h2, a1, a2, a3]
theorem qright_ops {R : Res} (h : opsOk R = false) : rightR R = false := by simp [rightR, h]
theorem qright_own {R : Res} {k : Nat} {x : Int} (h : (qown R)[k]? = some x) (hx : inOk R.G x = false) : rightR R = false := by
  have : (ownL R).all (inOk R.G) = false := by
    rw [List.all_eq_false]
    exact ⟨x, (qown_perm R).mem_iff.2 (List.mem_of_getElem? h), by simp [hx]⟩
  simp [rightR, this]
theorem qright_oth {R : Res} {k : Nat} {x : Int} (h : (qoth R)[k]? = some x) (hx : refOk R.G x = false) : rightR R = false := by
  have : (othL R).all (refOk R.G) = false := by
    rw [List.all_eq_false]
    exact ⟨x, (qoth_mem R x).2 (List.mem_of_getElem? h), by simp [hx]⟩
  simp [rightR, this]
theorem nodup_two {l : List Int} {i k : Nat} {x : Int} (hi : l[i]? = some x) (hk : l[k]? = some x) (hlt : k < i) : ¬ l.Nodup := by
  intro h
  have h1 := List.getElem?_eq_some_iff.1 hi
  have h2 := List.getElem?_eq_some_iff.1 hk
  obtain ⟨l1, e1⟩ := h1
  obtain ⟨l2, e2⟩ := h2
  have := (List.nodup_iff_pairwise_ne.1 h)
  exact (List.pairwise_iff_getElem.1 this k i l2 l1 hlt) (by rw [e1, e2])
theorem qright_two {R : Res} {i k : Nat} {x : Int} (hi : (qown R)[i]? = some x) (hk : (qown R)[k]? = some x) (hlt : k < i) : rightR R = false := by
  have : once (ownL R) = false := by
    cases ho : once (ownL R) with
    | false => rfl
    | true => exact absurd ((qown_perm R).nodup_iff.1 ((once_nodup _).1 ho)) (nodup_two hi hk hlt)
  simp [rightR, this]
theorem take_nodup {l : List Int} {k : Nat} {x : Int} (hx : l[k]? = some x) (h : (l.take k).Nodup) (hn : ∀ q, q < k → l[q]? ≠ some x) : (l.take (k + 1)).Nodup := by
  rw [take_snoc hx, List.nodup_append]
  refine ⟨h, by simp, ?_⟩
  intro y hy z hz
  simp at hz
  subst hz
  rintro rfl
  obtain ⟨q, hq⟩ := List.mem_iff_getElem?.1 hy
  have hqk : q < k := by
    have := (List.getElem?_eq_some_iff.1 hq).1
    rw [List.length_take] at this
    omega
  rw [List.getElem?_take, if_pos hqk] at hq
  exact hn q hqk hq
theorem opsOk_full {R : Res} {n m : Nat} (hl : R.ops.length = n) (hm : opsCount 0 (R.ops.take n) = some m) : opsOk R = decide (R.keep.length = m ∧ R.cached.length = m) := by
  rw [List.take_of_length_le (by omega)] at hm
  unfold opsOk
  rw [hm]
theorem Two.below {B e : Nat} {wr W W' : World} {v1 v2 : Value} {n1 n2 : Nat} {l1 l2 : List Value} (h : Two B e wr v1 n1 l1 v2 n2 l2 W) (hb : Below W.heap.size W W') : Two B e wr v1 n1 l1 v2 n2 l2 W' :=
  ⟨h.bel.trans (hb.mono h.base), Nat.le_trans h.base hb.size, own_fr h.o1 (Fr.of_below (F := fun _ => False) hb) (fun _ _ h => h), own_fr h.o2 (Fr.of_below (F := fun _ => False) hb) (fun _ _ h => h), h.ne⟩
theorem own_len {w : World} {b e : Nat} {v : Value} {n : Nat} {l : List Int} (h : w.ownsRow b e 1 v n (l.map (Value.int .i64))) : l.length = n := by have := h.1; simpa using this

/-- A row of its own beside one that grows. -/
structure Src (W : World) (src : Nat) (v : Value) (xs : List Value) : Prop where
  rd : Rd W (some ⟨src, 0, none⟩) xs
  ne : v.ownBlock ≠ some src
  lt : src < W.heap.size
theorem Src.new {B e : Nat} {wr W : World} {v1 v2 : Value} {n1 n2 : Nat} {l1 l2 : List Value} (h : Two B e wr v1 n1 l1 v2 n2 l2 W) (cs : List Value) (t : TypeId) : Src (W.alloc (.cells cs.toArray t)) W.heap.size v2 cs :=
  ⟨Rd.new W cs.toArray t, fun he => by have := (h.o2.lt _ he).2; omega, by simp⟩
theorem Src.drew {W : World} {src : Nat} {v : Value} {xs : List Value} (h : Src W src v xs) : Src W.drew src v xs := ⟨h.rd, h.ne, h.lt⟩
theorem Src.grow {W W1 : World} {src : Nat} {v v' : Value} {xs : List Value} (h : Src W src v xs) (hg : W.grownBy W1 v.ownBlock) (hat : v'.ownBlock = v.ownBlock ∨ v'.ownBlock = some W.heap.size) : Src W1 src v' xs := by
  refine ⟨rd_grow_ne h.rd hg h.ne, ?_, Nat.lt_of_lt_of_le h.lt hg.size⟩
  rcases hat with ha | ha
  · rw [ha]; exact h.ne
  · rw [ha]
    intro he
    injection he with he
    have := h.lt
    omega
theorem refOk_take {G : List Nd} {l : List Int} {k : Nat} {x : Int} (h : ∀ y ∈ l.take k, refOk G y = true) (hx : l[k]? = some x) (hr : refOk G x = true) : ∀ y ∈ l.take (k + 1), refOk G y = true := by
  intro y hy
  rw [take_snoc hx] at hy
  rcases List.mem_append.1 hy with hy | hy
  · exact h y hy
  · simp at hy; subst hy; exact hr
theorem inOk_take {G : List Nd} {l : List Int} {k : Nat} {x : Int} (h : ∀ y ∈ l.take k, inOk G y = true) (hx : l[k]? = some x) (hr : inOk G x = true) : ∀ y ∈ l.take (k + 1), inOk G y = true := by
  intro y hy
  rw [take_snoc hx] at hy
  rcases List.mem_append.1 hy with hy | hy
  · exact h y hy
  · simp at hy; subst hy; exact hr
theorem inOk_of {G : List Nd} {x : Int} {nd : Nd} (h : refOk G x = true) (h2 : ¬ x % 2 = 1) (hn : G[(x / 2).toNat]? = some nd) (hk : nd.k = 2) : inOk G x = true := by
  unfold inOk
  rw [h, hn, decide_eq_true (show x % 2 = 0 by omega)]
  simp [hk]
theorem inOk_no3 {G : List Nd} {x : Int} {nd : Nd} (hn : G[(x / 2).toNat]? = some nd) (hk : ¬ nd.k = 2) : inOk G x = false := by
  unfold inOk
  rw [hn]
  simp [hk]



set_option maxHeartbeats 8000000 in
set_option maxRecDepth 100000 in
theorem refRight (M : Int) (y : QV) (R : Res) (w : World) (h : Hid (RefAt w y R)) :
    Calls Try.prog 21 #[.agg #[.int .i64 M, .slice y.N.A y.N.n y.N.c, .slice y.I.A y.I.n y.I.c, .int .i64 R.req, .slice y.O.A y.O.n y.O.c, .slice y.K.A y.K.n y.K.c, .slice y.C.A y.C.n y.C.c, .slice y.R.A y.R.n y.R.c, .int .i64 R.bey, .int .i64 R.hol]] w fun e w' => e = .returned (.bool (rightR R)) ∧ Below w.heap.size w w' := by
  have hgl := h.out.glen
  have HNN : Hid (R.G.length = y.N.n) := h.out.noden
  have hNn : y.N.n ≤ 65536 := by rw [← HNN.out]; exact hgl.2
  have hNp : 0 < y.N.n := by rw [← HNN.out]; exact hgl.1
  have HND : Hid (Rd w y.N.A (rcells R.G)) := h.out.nodes
  have HIL : Hid (ListsAt w y.I.A y.I.n y.S R.ins) := h.out.ins
  have HCC : Hid (IntsAt w y.C R.cached) := h.out.cached
  have HKK : Hid (IntsAt w y.K R.keep) := h.out.keep
  have HRU : Hid (IntsAt w y.R R.rules) := h.out.rules
  have hop := Lib.hid (fun (w' : World) (hb : Below w.heap.size w w') (k : Nat) (hk : k < y.O.n) => (h.out.ops.below hb).qop h.out.opsn hk)
  have hlO : Hid (R.ops.length = y.O.n) := h.out.opsn
  have HO64 : Hid (∀ x ∈ qown R, I64 x) := by
    intro x hx
    simp only [qown, List.mem_append, List.mem_map] at hx
    rcases hx with (⟨o, ho, rfl⟩ | hx) | hx
    · exact (h.out.opsw o ho).2.1
    · exact h.out.keep.2.2 x hx
    · obtain ⟨l, hl, hx⟩ := List.mem_flatten.1 hx
      obtain ⟨i, hi⟩ := List.mem_iff_getElem?.1 hl
      have hlt := (List.getElem?_eq_some_iff.1 hi).1
      obtain ⟨s, hs⟩ : ∃ s, y.S[i]? = some s := ⟨_, List.getElem?_eq_getElem (by rw [h.out.ins.len]; exact hlt)⟩
      exact (h.out.ins.inner i s l hs hi).1.2.2 x hx
  have HT64 : Hid (∀ x ∈ qoth R, I64 x) := by
    intro x hx
    simp only [qoth, List.mem_append, List.mem_map] at hx
    rcases hx with ((⟨o, ho, rfl⟩ | hx) | hx) | hx
    · exact (h.out.opsw o ho).1
    · exact h.out.cached.2.2 x hx
    · exact h.out.rules.2.2 x hx
    · simp at hx
      rcases hx with rfl | rfl | rfl
      · exact h.out.nums.1
      · exact h.out.nums.2.1
      · exact h.out.nums.2.2
  have HKW : Hid (∀ o ∈ R.ops, 0 ≤ o.kind ∧ o.kind ≤ 255) := fun o ho => (h.out.opsw o ho).2.2.2
  obtain ⟨hsI, hsO, hsK, hsC, hsR⟩ := h.out.small
  clear h
  obtain ⟨⟨AN, nN, cN⟩, ⟨AI, nI, cI⟩, S, ⟨AO, nO, cO⟩, ⟨AK, nK, cK⟩, ⟨AC, nC, cC⟩, ⟨AR, nR, cR⟩⟩ := y
  dsimp only at hNn hNp hsI hsO hsK hsC hsR
  have hb0 : Below w.heap.size w (w.alloc (.cells #[.int .i64 M, .slice AN nN cN, .slice AI nI cI, .int .i64 R.req, .slice AO nO cO, .slice AK nK cK, .slice AC nC cC, .slice AR nR cR, .int .i64 R.bey, .int .i64 R.hol] 70)) := (Below.refl _ w).alloc (Nat.le_refl _) _
  have hx0 := Bk.new w 70 #[.int .i64 M, .slice AN nN cN, .slice AI nI cI, .int .i64 R.req, .slice AO nO cO, .slice AK nK cK, .slice AC nC cC, .slice AR nR cR, .int .i64 R.bey, .int .i64 R.hol]
  have HB0 := Lib.hid hb0; have HX0 := Lib.hid hx0
  clear hb0 hx0
  have hN0 : ((nN : Int) == 0) = false := by simp; omega
  dsimp only
  go_enter Try.func21, Try.ntmps21
  go_wp2
  generalize (w.alloc (.cells #[.int .i64 M, .slice AN nN cN, .slice AI nI cI, .int .i64 R.req, .slice AO nO cO, .slice AK nK cK, .slice AC nC cC, .slice AR nR cR, .int .i64 R.bey, .int .i64 R.hol] 70)) = W0 at *
  have hs0 : w.heap.size < W0.heap.size := HX0.out.lt
  go_loopw [3, 4, 5, 6] (fun v1 v2 wv i wr => ∃ (k m : Nat) (A1 A2 : Option Addr) (c1 c2 : Nat), k ≤ nO ∧ m ≤ k ∧ v1 = .slice A1 k c1 ∧ v2 = .slice A2 k c2 ∧ wv = .int .i64 m ∧ i = .int .i64 k ∧ Hid (opsCount 0 (R.ops.take k) = some m) ∧
    Hid (Two W0.heap.size 3 W0 (.slice A1 k c1) k (((R.ops.take k).map (·.sel)).map (Value.int .i64)) (.slice A2 k c2) k (((R.ops.take k).map (·.done)).map (Value.int .i64)) wr)) (fun _ _ _ i _ => nO - (intOf i).toNat)
  case atStart => exact ⟨0, 0, none, none, 0, 0, Nat.zero_le _, Nat.le_refl _, rfl, rfl, rfl, rfl, rfl, Below.refl _ _, Nat.le_refl _, ⟨rfl, .inl ⟨rfl, rfl⟩⟩, ⟨rfl, .inl ⟨rfl, rfl⟩⟩, fun q h => by simp [Value.ownBlock] at h⟩
  case round =>
    obtain ⟨k, m, A1, A2, c1, c2, hk, hm, rfl, rfl, rfl, rfl, HM, HTw⟩ := hrel
    have HXr := Lib.hid (HX0.out.below HTw.out.bel HX0.out.lt)
    have x4 : wr.cell? ⟨w.heap.size, 4, none⟩ = some (.slice AO nO cO) := HXr.out.cell 4
    have HBw : Hid (Below w.heap.size w wr) := bthen HB0.out HTw.out.bel
    by_cases hlt : k < nO
    · obtain ⟨b1, o1, y, rfl, hy, hbl, d0, d1, d2, d3⟩ := hop.out wr HBw.out k hlt
      obtain ⟨hkd0, hkd1⟩ := HKW.out y (List.mem_of_getElem? hy)
      obtain ⟨kd, dn, sl, wt⟩ := y
      dsimp only at d0 d1 d2 d3 hkd0 hkd1
      have HY := Lib.hid hy
      clear hy
      have hki : (k : Int) < (nO : Int) := by omega
      have hsz : W0.heap.size ≤ wr.heap.size := HTw.out.base
      have HT1 := Lib.hid (HTw.out.alloc (.cells #[.int .i64 kd, .int .i64 dn, .int .i64 sl, .int .i64 wt] 131))
      have HBo := Lib.hid (Bk.new wr 131 #[.int .i64 kd, .int .i64 dn, .int .i64 sl, .int .i64 wt])
      by_cases hA : kd < 3
      · have HNO := Lib.hid (qright_ops (opsOk_no HM.out HY.out (by rw [opsCount_one, if_neg (by dsimp only; omega), if_neg (by dsimp only; omega)])))
        go_wp2_with (first
          | (at_builtin; refine wpList_app el_int rfl (.tmp 29) (.tmp 32) rfl W0.heap.size (.slice A1 k c1) k _ rfl (HT1.out.alloc _).o1 (some ⟨_, 0, none⟩) 1 1 [.int .i64 sl] rfl (Rd.newAt _ #[_] _ _ (World.size_alloc _ _)) rfl (by simp [Value.oneCell']) (by omega) (HT1.out.alloc _).base ?_; intro A3 c3 U1 ho1 hg1 hat1; have HT2 := Lib.hid (Two.app1 (HT1.out.alloc _) ho1 hg1 hat1); have HBo2 := Lib.hid (Bk.grown (HBo.out.alloc _) hg1 (own_ne HT1.out.o1 HBo.out (by decide))); have e0 : U1.cell? ⟨wr.heap.size, 0, none⟩ = some (.int .i64 kd) := HBo2.out.cell 0; have e1 : U1.cell? ⟨wr.heap.size, 1, none⟩ = some (.int .i64 dn) := HBo2.out.cell 1; have e3 : U1.cell? ⟨wr.heap.size, 3, none⟩ = some (.int .i64 wt) := HBo2.out.cell 3; have hu1 : wr.heap.size < U1.heap.size := HBo2.out.lt; clear ho1 hg1 hat1)
          | (at_builtin; refine wpList_app el_int rfl (.tmp 34) (.tmp 37) rfl W0.heap.size (.slice A2 k c2) k _ rfl (HT2.out.alloc _).o2 (some ⟨_, 0, none⟩) 1 1 [.int .i64 dn] rfl (Rd.newAt _ #[_] _ _ rfl) rfl (by simp [Value.oneCell']) (by omega) (HT2.out.alloc _).base ?_; intro A4 c4 U2 ho2 hg2 hat2; have HT3 := Lib.hid (Two.app2 (HT2.out.alloc _) ho2 hg2 hat2); have HBo3 := Lib.hid (Bk.grown (HBo2.out.alloc _) hg2 (own_ne HT2.out.o2 HBo2.out (by decide))); have i0 : U2.cell? ⟨wr.heap.size, 0, none⟩ = some (.int .i64 kd) := HBo3.out.cell 0; have i3 : U2.cell? ⟨wr.heap.size, 3, none⟩ = some (.int .i64 wt) := HBo3.out.cell 3; clear ho2 hg2 hat2))
        go_ret
        exact ⟨ret_bool HNO.out.symm, bthen HB0.out HT3.out.bel⟩
      · by_cases hB : 5 < kd
        · have HNO := Lib.hid (qright_ops (opsOk_no HM.out HY.out (by rw [opsCount_one, if_neg (by dsimp only; omega), if_neg (by dsimp only; omega)])))
          go_wp2_with (first
            | (at_builtin; refine wpList_app el_int rfl (.tmp 29) (.tmp 32) rfl W0.heap.size (.slice A1 k c1) k _ rfl (HT1.out.alloc _).o1 (some ⟨_, 0, none⟩) 1 1 [.int .i64 sl] rfl (Rd.newAt _ #[_] _ _ (World.size_alloc _ _)) rfl (by simp [Value.oneCell']) (by omega) (HT1.out.alloc _).base ?_; intro A3 c3 U1 ho1 hg1 hat1; have HT2 := Lib.hid (Two.app1 (HT1.out.alloc _) ho1 hg1 hat1); have HBo2 := Lib.hid (Bk.grown (HBo.out.alloc _) hg1 (own_ne HT1.out.o1 HBo.out (by decide))); have e0 : U1.cell? ⟨wr.heap.size, 0, none⟩ = some (.int .i64 kd) := HBo2.out.cell 0; have e1 : U1.cell? ⟨wr.heap.size, 1, none⟩ = some (.int .i64 dn) := HBo2.out.cell 1; have e3 : U1.cell? ⟨wr.heap.size, 3, none⟩ = some (.int .i64 wt) := HBo2.out.cell 3; have hu1 : wr.heap.size < U1.heap.size := HBo2.out.lt; clear ho1 hg1 hat1)
            | (at_builtin; refine wpList_app el_int rfl (.tmp 34) (.tmp 37) rfl W0.heap.size (.slice A2 k c2) k _ rfl (HT2.out.alloc _).o2 (some ⟨_, 0, none⟩) 1 1 [.int .i64 dn] rfl (Rd.newAt _ #[_] _ _ rfl) rfl (by simp [Value.oneCell']) (by omega) (HT2.out.alloc _).base ?_; intro A4 c4 U2 ho2 hg2 hat2; have HT3 := Lib.hid (Two.app2 (HT2.out.alloc _) ho2 hg2 hat2); have HBo3 := Lib.hid (Bk.grown (HBo2.out.alloc _) hg2 (own_ne HT2.out.o2 HBo2.out (by decide))); have i0 : U2.cell? ⟨wr.heap.size, 0, none⟩ = some (.int .i64 kd) := HBo3.out.cell 0; have i3 : U2.cell? ⟨wr.heap.size, 3, none⟩ = some (.int .i64 wt) := HBo3.out.cell 3; clear ho2 hg2 hat2))
          go_ret
          exact ⟨ret_bool HNO.out.symm, bthen HB0.out HT3.out.bel⟩
        · by_cases h3 : kd = 3
          · subst h3
            by_cases hw : wt = (m : Int)
            · have hwb : (wt != (m : Int)) = false := by simpa using hw
              have HNX := Lib.hid (opsNext HM.out HY.out (m' := m + 1) (by rw [opsCount_one, if_pos rfl, if_pos hw]))
              clear hw
              go_wp2_with (first
                | (at_builtin; refine wpList_app el_int rfl (.tmp 29) (.tmp 32) rfl W0.heap.size (.slice A1 k c1) k _ rfl (HT1.out.alloc _).o1 (some ⟨_, 0, none⟩) 1 1 [.int .i64 sl] rfl (Rd.newAt _ #[_] _ _ (World.size_alloc _ _)) rfl (by simp [Value.oneCell']) (by omega) (HT1.out.alloc _).base ?_; intro A3 c3 U1 ho1 hg1 hat1; have HT2 := Lib.hid (Two.app1 (HT1.out.alloc _) ho1 hg1 hat1); have HBo2 := Lib.hid (Bk.grown (HBo.out.alloc _) hg1 (own_ne HT1.out.o1 HBo.out (by decide))); have e0 : U1.cell? ⟨wr.heap.size, 0, none⟩ = some (.int .i64 3) := HBo2.out.cell 0; have e1 : U1.cell? ⟨wr.heap.size, 1, none⟩ = some (.int .i64 dn) := HBo2.out.cell 1; have e3 : U1.cell? ⟨wr.heap.size, 3, none⟩ = some (.int .i64 wt) := HBo2.out.cell 3; have hu1 : wr.heap.size < U1.heap.size := HBo2.out.lt; clear ho1 hg1 hat1)
                | (at_builtin; refine wpList_app el_int rfl (.tmp 34) (.tmp 37) rfl W0.heap.size (.slice A2 k c2) k _ rfl (HT2.out.alloc _).o2 (some ⟨_, 0, none⟩) 1 1 [.int .i64 dn] rfl (Rd.newAt _ #[_] _ _ rfl) rfl (by simp [Value.oneCell']) (by omega) (HT2.out.alloc _).base ?_; intro A4 c4 U2 ho2 hg2 hat2; have HT3 := Lib.hid (Two.app2 (HT2.out.alloc _) ho2 hg2 hat2); have HBo3 := Lib.hid (Bk.grown (HBo2.out.alloc _) hg2 (own_ne HT2.out.o2 HBo2.out (by decide))); have i0 : U2.cell? ⟨wr.heap.size, 0, none⟩ = some (.int .i64 3) := HBo3.out.cell 0; have i3 : U2.cell? ⟨wr.heap.size, 3, none⟩ = some (.int .i64 wt) := HBo3.out.cell 3; clear ho2 hg2 hat2))
              go_roundw
              case rel =>
                refine ⟨k + 1, m + 1, A3, A4, c3, c4, by omega, by omega, rfl, rfl, by go_num, by go_num, HNX, ?_⟩
                show Two _ _ _ _ _ _ _ _ _ _
                rw [take_snoc HY.out, List.map_append, List.map_append, List.map_append, List.map_append]
                exact HT3.out
              case measure => simp [intOf]; omega
            · have hwb : (wt != (m : Int)) = true := by simpa using hw
              have HNO := Lib.hid (qright_ops (opsOk_no HM.out HY.out (by rw [opsCount_one, if_pos rfl, if_neg hw])))
              clear hw
              go_wp2_with (first
                | (at_builtin; refine wpList_app el_int rfl (.tmp 29) (.tmp 32) rfl W0.heap.size (.slice A1 k c1) k _ rfl (HT1.out.alloc _).o1 (some ⟨_, 0, none⟩) 1 1 [.int .i64 sl] rfl (Rd.newAt _ #[_] _ _ (World.size_alloc _ _)) rfl (by simp [Value.oneCell']) (by omega) (HT1.out.alloc _).base ?_; intro A3 c3 U1 ho1 hg1 hat1; have HT2 := Lib.hid (Two.app1 (HT1.out.alloc _) ho1 hg1 hat1); have HBo2 := Lib.hid (Bk.grown (HBo.out.alloc _) hg1 (own_ne HT1.out.o1 HBo.out (by decide))); have e0 : U1.cell? ⟨wr.heap.size, 0, none⟩ = some (.int .i64 3) := HBo2.out.cell 0; have e1 : U1.cell? ⟨wr.heap.size, 1, none⟩ = some (.int .i64 dn) := HBo2.out.cell 1; have e3 : U1.cell? ⟨wr.heap.size, 3, none⟩ = some (.int .i64 wt) := HBo2.out.cell 3; have hu1 : wr.heap.size < U1.heap.size := HBo2.out.lt; clear ho1 hg1 hat1)
                | (at_builtin; refine wpList_app el_int rfl (.tmp 34) (.tmp 37) rfl W0.heap.size (.slice A2 k c2) k _ rfl (HT2.out.alloc _).o2 (some ⟨_, 0, none⟩) 1 1 [.int .i64 dn] rfl (Rd.newAt _ #[_] _ _ rfl) rfl (by simp [Value.oneCell']) (by omega) (HT2.out.alloc _).base ?_; intro A4 c4 U2 ho2 hg2 hat2; have HT3 := Lib.hid (Two.app2 (HT2.out.alloc _) ho2 hg2 hat2); have HBo3 := Lib.hid (Bk.grown (HBo2.out.alloc _) hg2 (own_ne HT2.out.o2 HBo2.out (by decide))); have i0 : U2.cell? ⟨wr.heap.size, 0, none⟩ = some (.int .i64 3) := HBo3.out.cell 0; have i3 : U2.cell? ⟨wr.heap.size, 3, none⟩ = some (.int .i64 wt) := HBo3.out.cell 3; clear ho2 hg2 hat2))
              go_ret
              exact ⟨ret_bool HNO.out.symm, bthen HB0.out HT3.out.bel⟩
          · have h3b : (kd == 3) = false := by simpa using h3
            have h3c : (kd != 3) = true := by simpa using h3
            by_cases hw : wt = -1
            · have hwb : (wt != -1) = false := by simpa using hw
              have HNX := Lib.hid (opsNext HM.out HY.out (m' := m) (by rw [opsCount_one, if_neg (by dsimp only; omega), if_pos (by dsimp only; omega)]))
              clear hw
              go_wp2_with (first
                | (at_builtin; refine wpList_app el_int rfl (.tmp 29) (.tmp 32) rfl W0.heap.size (.slice A1 k c1) k _ rfl (HT1.out.alloc _).o1 (some ⟨_, 0, none⟩) 1 1 [.int .i64 sl] rfl (Rd.newAt _ #[_] _ _ (World.size_alloc _ _)) rfl (by simp [Value.oneCell']) (by omega) (HT1.out.alloc _).base ?_; intro A3 c3 U1 ho1 hg1 hat1; have HT2 := Lib.hid (Two.app1 (HT1.out.alloc _) ho1 hg1 hat1); have HBo2 := Lib.hid (Bk.grown (HBo.out.alloc _) hg1 (own_ne HT1.out.o1 HBo.out (by decide))); have e0 : U1.cell? ⟨wr.heap.size, 0, none⟩ = some (.int .i64 kd) := HBo2.out.cell 0; have e1 : U1.cell? ⟨wr.heap.size, 1, none⟩ = some (.int .i64 dn) := HBo2.out.cell 1; have e3 : U1.cell? ⟨wr.heap.size, 3, none⟩ = some (.int .i64 wt) := HBo2.out.cell 3; have hu1 : wr.heap.size < U1.heap.size := HBo2.out.lt; clear ho1 hg1 hat1)
                | (at_builtin; refine wpList_app el_int rfl (.tmp 34) (.tmp 37) rfl W0.heap.size (.slice A2 k c2) k _ rfl (HT2.out.alloc _).o2 (some ⟨_, 0, none⟩) 1 1 [.int .i64 dn] rfl (Rd.newAt _ #[_] _ _ rfl) rfl (by simp [Value.oneCell']) (by omega) (HT2.out.alloc _).base ?_; intro A4 c4 U2 ho2 hg2 hat2; have HT3 := Lib.hid (Two.app2 (HT2.out.alloc _) ho2 hg2 hat2); have HBo3 := Lib.hid (Bk.grown (HBo2.out.alloc _) hg2 (own_ne HT2.out.o2 HBo2.out (by decide))); have i0 : U2.cell? ⟨wr.heap.size, 0, none⟩ = some (.int .i64 kd) := HBo3.out.cell 0; have i3 : U2.cell? ⟨wr.heap.size, 3, none⟩ = some (.int .i64 wt) := HBo3.out.cell 3; clear ho2 hg2 hat2))
              go_roundw
              case rel =>
                refine ⟨k + 1, m, A3, A4, c3, c4, by omega, by omega, rfl, rfl, rfl, by go_num, HNX, ?_⟩
                show Two _ _ _ _ _ _ _ _ _ _
                rw [take_snoc HY.out, List.map_append, List.map_append, List.map_append, List.map_append]
                exact HT3.out
              case measure => simp [intOf]; omega
            · have hwb : (wt != -1) = true := by simpa using hw
              have HNO := Lib.hid (qright_ops (opsOk_no HM.out HY.out (by rw [opsCount_one, if_neg (by dsimp only; omega), if_neg (by dsimp only; omega)])))
              clear hw
              go_wp2_with (first
                | (at_builtin; refine wpList_app el_int rfl (.tmp 29) (.tmp 32) rfl W0.heap.size (.slice A1 k c1) k _ rfl (HT1.out.alloc _).o1 (some ⟨_, 0, none⟩) 1 1 [.int .i64 sl] rfl (Rd.newAt _ #[_] _ _ (World.size_alloc _ _)) rfl (by simp [Value.oneCell']) (by omega) (HT1.out.alloc _).base ?_; intro A3 c3 U1 ho1 hg1 hat1; have HT2 := Lib.hid (Two.app1 (HT1.out.alloc _) ho1 hg1 hat1); have HBo2 := Lib.hid (Bk.grown (HBo.out.alloc _) hg1 (own_ne HT1.out.o1 HBo.out (by decide))); have e0 : U1.cell? ⟨wr.heap.size, 0, none⟩ = some (.int .i64 kd) := HBo2.out.cell 0; have e1 : U1.cell? ⟨wr.heap.size, 1, none⟩ = some (.int .i64 dn) := HBo2.out.cell 1; have e3 : U1.cell? ⟨wr.heap.size, 3, none⟩ = some (.int .i64 wt) := HBo2.out.cell 3; have hu1 : wr.heap.size < U1.heap.size := HBo2.out.lt; clear ho1 hg1 hat1)
                | (at_builtin; refine wpList_app el_int rfl (.tmp 34) (.tmp 37) rfl W0.heap.size (.slice A2 k c2) k _ rfl (HT2.out.alloc _).o2 (some ⟨_, 0, none⟩) 1 1 [.int .i64 dn] rfl (Rd.newAt _ #[_] _ _ rfl) rfl (by simp [Value.oneCell']) (by omega) (HT2.out.alloc _).base ?_; intro A4 c4 U2 ho2 hg2 hat2; have HT3 := Lib.hid (Two.app2 (HT2.out.alloc _) ho2 hg2 hat2); have HBo3 := Lib.hid (Bk.grown (HBo2.out.alloc _) hg2 (own_ne HT2.out.o2 HBo2.out (by decide))); have i0 : U2.cell? ⟨wr.heap.size, 0, none⟩ = some (.int .i64 kd) := HBo3.out.cell 0; have i3 : U2.cell? ⟨wr.heap.size, 3, none⟩ = some (.int .i64 wt) := HBo3.out.cell 3; clear ho2 hg2 hat2))
              go_ret
              exact ⟨ret_bool HNO.out.symm, bthen HB0.out HT3.out.bel⟩
    · obtain rfl : nO = k := by omega
      have HOK := Lib.hid (opsOk_full hlO.out HM.out)
      have htw := HTw.out
      have hfull : R.ops.take nO = R.ops := List.take_of_length_le (by rw [hlO.out]; omega)
      rw [hfull] at htw
      have HT1 := Lib.hid htw
      clear htw HTw hfull HM hlt
      have x5 : wr.cell? ⟨w.heap.size, 5, none⟩ = some (.slice AK nK cK) := HXr.out.cell 5
      have x6 : wr.cell? ⟨w.heap.size, 6, none⟩ = some (.slice AC nC cC) := HXr.out.cell 6
      have hKl : R.keep.length = nK := HKK.out.2.1
      have hCl : R.cached.length = nC := HCC.out.2.1
      by_cases hKm : nK = m
      · have hkb : ((nK : Int) != (m : Int)) = false := by rw [hKm]; simp
        by_cases hCm : nC = m
        · have hcb : ((nC : Int) != (m : Int)) = false := by rw [hCm]; simp
          have HOT : Hid (opsOk R = true) := by show _ = _; rw [HOK.out, hKl, hCl]; simp [hKm, hCm]
          have HKR := Lib.hid (HKK.out.1.below HBw.out)
          clear hKm hCm hKl hCl HOK
          go_wp2_with (at_builtin; refine wpList_app el_int rfl (.tmp 83) (.tmp 85) rfl W0.heap.size (.slice A1 nO c1) nO _ rfl HT1.out.o1 AK nK cK (R.keep.map (Value.int .i64)) rfl HKR.out (by rw [List.length_map, HKK.out.2.1]; dsimp only; omega) (one_ints _ _) (by omega) HT1.out.base ?_; intro A3 c3 U1 ho1 hg1 hat1; have HT2 := Lib.hid (Two.app1 HT1.out ho1 hg1 hat1); clear ho1 hg1 hat1)
          clear x4 x5 x6 hkb hcb HXr HBw HT1 HKR
          go_loopw [3, 8] (fun v1 i wr => ∃ (k n1 : Nat) (A1 : Option Addr) (c1 : Nat), k ≤ nI ∧ n1 ≤ 200000 + 16 * k ∧ v1 = .slice A1 n1 c1 ∧ i = .int .i64 k ∧ Hid (∀ l ∈ R.ins.take k, 1 ≤ l.length ∧ l.length ≤ 16) ∧
            Hid (Two W0.heap.size 3 W0 (.slice A1 n1 c1) n1 ((R.ops.map (·.sel) ++ R.keep ++ (R.ins.take k).flatten).map (Value.int .i64)) (.slice A2 nO c2) nO ((R.ops.map (·.done)).map (Value.int .i64)) wr)) (fun _ i _ => nI - (intOf i).toNat)
          case atStart => exact ⟨0, nO + nK, A3, c3, Nat.zero_le _, by omega, rfl, rfl, fun l hl => by simp at hl, by show Two _ _ _ _ _ _ _ _ _ _; simpa using HT2.out⟩
          case round =>
            obtain ⟨k, n1, A1, c1, hk, hn1, rfl, rfl, HWD, HTw⟩ := hrel
            clear HT2
            have HXr := Lib.hid (HX0.out.below HTw.out.bel HX0.out.lt)
            have x2 : wr.cell? ⟨w.heap.size, 2, none⟩ = some (.slice AI nI cI) := HXr.out.cell 2
            have HBw : Hid (Below w.heap.size w wr) := bthen HB0.out HTw.out.bel
            by_cases hlt : k < nI
            · obtain ⟨b, off, s, l, rfl, hl2, hc, hr2, hln, hsn, _⟩ := (HIL.out.below HBw.out).at hlt
              obtain ⟨sA, sn, sc⟩ := s
              dsimp only at hc hr2 hln hsn
              have HL := Lib.hid hl2; have HLN := Lib.hid hln; have HRl := Lib.hid hr2
              clear hl2 hln hr2
              have hki : (k : Int) < (nI : Int) := by omega
              have HWI := Lib.hid (rwidth sn wr (by omega) (by omega))
              by_cases hw : 1 ≤ sn ∧ sn ≤ 16
              · have hwb : decide ((1 : Int) ≤ sn ∧ (sn : Int) ≤ 16) = true := by simp; omega
                have HWd := Lib.hid hw
                have hsn16 : sn ≤ 16 := hw.2
                clear hw
                go_wp2_with fail
                refine HWI.out.mono ?_
                rintro e w' ⟨rfl, rfl⟩
                rw [hwb]
                clear hwb
                go_wp2_with (at_builtin; refine wpList_app el_int rfl (.tmp 102) (.tmp 107) rfl W0.heap.size (.slice A1 n1 c1) n1 _ rfl HTw.out.o1 sA sn sc (l.map (Value.int .i64)) rfl HRl.out (by rw [List.length_map, HLN.out]; omega) (one_ints _ _) (by omega) HTw.out.base ?_; intro A3 c3 U1 ho1 hg1 hat1; have HT2 := Lib.hid (Two.app1 HTw.out ho1 hg1 hat1); clear ho1 hg1 hat1)
                go_roundw
                case rel =>
                  refine ⟨k + 1, n1 + sn, A3, c3, by omega, by omega, rfl, by go_num, ?_, ?_⟩
                  · intro q hq
                    rw [take_snoc HL.out] at hq
                    rcases List.mem_append.1 hq with hq | hq
                    · exact HWD.out q hq
                    · simp at hq
                      subst hq
                      rw [HLN.out]
                      exact HWd.out
                  · show Two _ _ _ _ _ _ _ _ _ _
                    rw [flat_snoc HL.out, ← List.append_assoc, List.map_append (l₁ := R.ops.map (·.sel) ++ R.keep ++ (R.ins.take k).flatten)]
                    exact HT2.out
                case measure => simp [intOf]; omega
              · have hwb : decide ((1 : Int) ≤ sn ∧ (sn : Int) ≤ 16) = false := by simp; omega
                have HNO : Hid (rightR R = false) := right_noW HL.out (by rw [HLN.out]; exact hw)
                clear hw
                go_wp2_with fail
                refine HWI.out.mono ?_
                rintro e w' ⟨rfl, rfl⟩
                rw [hwb]
                clear hwb
                go_wp2
                go_ret
                exact ⟨ret_bool HNO.out.symm, HBw.out⟩
            · obtain rfl : nI = k := by omega
              have hfull : R.ins.take nI = R.ins := List.take_of_length_le (by rw [← HIL.out.len, HIL.out.sn]; omega)
              have htw := HTw.out
              have hwd := HWD.out
              rw [hfull] at htw hwd
              have HT1 : Hid (Two W0.heap.size 3 W0 (.slice A1 n1 c1) n1 ((qown R).map (Value.int .i64)) (.slice A2 nO c2) nO ((R.ops.map (·.done)).map (Value.int .i64)) wr) := htw
              have HWO : Hid (wordsOk R = true) := List.all_eq_true.2 fun l hl => by simpa using hwd l hl
              clear htw hwd HTw HWD hfull hlt
              go_wp2
              clear x2
              have x3 : wr.cell? ⟨w.heap.size, 3, none⟩ = some (.int .i64 R.req) := HXr.out.cell 3
              have x6 : wr.cell? ⟨w.heap.size, 6, none⟩ = some (.slice AC nC cC) := HXr.out.cell 6
              have x7 : wr.cell? ⟨w.heap.size, 7, none⟩ = some (.slice AR nR cR) := HXr.out.cell 7
              have x8 : wr.cell? ⟨w.heap.size, 8, none⟩ = some (.int .i64 R.bey) := HXr.out.cell 8
              have x9 : wr.cell? ⟨w.heap.size, 9, none⟩ = some (.int .i64 R.hol) := HXr.out.cell 9
              have HTT := HT1
              have HCR : Hid (Rd w AC (R.cached.map (Value.int .i64))) := HCC.out.1
              have HRR : Hid (Rd w AR (R.rules.map (Value.int .i64))) := HRU.out.1
              have HCL : Hid (R.cached.length = nC) := HCC.out.2.1
              have HRL : Hid (R.rules.length = nR) := HRU.out.2.1
              have hne42 : (3 : TypeId) ≠ 70 := by decide
              have HNE := Lib.hid hne42
              clear hne42
              have HXX := HXr
              have hsW : w.heap.size < wr.heap.size := HXr.out.lt
              go_cut [4] (fun s4 wx => ∃ (A4 : Option Addr) (n4 c4 : Nat), s4 = .slice A4 n4 c4 ∧ n4 ≤ 400000 ∧ Hid (Two W0.heap.size 3 W0 (.slice A1 n1 c1) n1 ((qown R).map (Value.int .i64)) (.slice A4 n4 c4) n4 ((qoth R).map (Value.int .i64)) wx))
              case first =>
                go_region_held3 (fun w' => w'.cell? ⟨w.heap.size, 3, none⟩ = some (.int .i64 R.req) ∧ w'.cell? ⟨w.heap.size, 6, none⟩ = some (.slice AC nC cC) ∧ w'.cell? ⟨w.heap.size, 7, none⟩ = some (.slice AR nR cR) ∧ w'.cell? ⟨w.heap.size, 8, none⟩ = some (.int .i64 R.bey) ∧ w'.cell? ⟨w.heap.size, 9, none⟩ = some (.int .i64 R.hol))
                  ((refine ⟨Bk.cell (t := 70) (cs := #[.int .i64 M, .slice AN nN cN, .slice AI nI cI, .int .i64 R.req, .slice AO nO cO, .slice AK nK cK, .slice AC nC cC, .slice AR nR cR, .int .i64 R.bey, .int .i64 R.hol]) ?_ 3, Bk.cell (t := 70) (cs := #[.int .i64 M, .slice AN nN cN, .slice AI nI cI, .int .i64 R.req, .slice AO nO cO, .slice AK nK cK, .slice AC nC cC, .slice AR nR cR, .int .i64 R.bey, .int .i64 R.hol]) ?_ 6, Bk.cell (t := 70) (cs := #[.int .i64 M, .slice AN nN cN, .slice AI nI cI, .int .i64 R.req, .slice AO nO cO, .slice AK nK cK, .slice AC nC cC, .slice AR nR cR, .int .i64 R.bey, .int .i64 R.hol]) ?_ 7, Bk.cell (t := 70) (cs := #[.int .i64 M, .slice AN nN cN, .slice AI nI cI, .int .i64 R.req, .slice AO nO cO, .slice AK nK cK, .slice AC nC cC, .slice AR nR cR, .int .i64 R.bey, .int .i64 R.hol]) ?_ 8, Bk.cell (t := 70) (cs := #[.int .i64 M, .slice AN nN cN, .slice AI nI cI, .int .i64 R.req, .slice AO nO cO, .slice AK nK cK, .slice AC nC cC, .slice AR nR cR, .int .i64 R.bey, .int .i64 R.hol]) ?_ 9⟩ <;> (repeat (first | with_reducible exact HXX.out | refine Bk.drew ?_ | refine Bk.alloc ?_ _))))
                  (first
                    | (
                      refine step_app el_int rfl (.tmp 109) (.tmp 111) rfl W0.heap.size (.slice A2 nO c2) nO ((R.ops.map (·.done)).map (Value.int .i64)) rfl ?_ AC nC cC (R.cached.map (Value.int .i64)) rfl ?_ ?_ (one_ints _ _) (by omega) ?_ ?_
                      · (first | with_reducible exact (HTT.out.alloc _).drew.o2 | with_reducible exact HTT.out.drew.o2)
                      · (first | with_reducible exact Rd.drew (HCR.out.below (bthen HB0.out HTT.out.bel)) | with_reducible exact Rd.drew (Rd.alloc (HCR.out.below (bthen HB0.out HTT.out.bel)) _))
                      · (rw [List.length_map, HCL.out, Nat.mul_one])
                      · (first | with_reducible exact (HTT.out.alloc _).drew.base | with_reducible exact HTT.out.drew.base)
                      intro A2x c2x U1 ho1 hg1 hat1
                      (first | with_reducible have HTn := Lib.hid (Two.app2 (HTT.out.alloc _).drew ho1 hg1 hat1) | with_reducible have HTn := Lib.hid (Two.app2 HTT.out.drew ho1 hg1 hat1))
                      (first | with_reducible have HXn := Lib.hid (Bk.grown (HXX.out.alloc _).drew hg1 (own_ne HTT.out.o2 HXX.out HNE.out)) | with_reducible have HXn := Lib.hid (Bk.grown HXX.out.drew hg1 (own_ne HTT.out.o2 HXX.out HNE.out)))
                      (first | with_reducible have HS1 := Lib.hid ((Src.new HTT.out [.int .i64 R.req, .int .i64 R.bey, .int .i64 R.hol] 3).drew.grow hg1 hat1) | skip)
                      clear HTT HXX ho1 hg1 hat1
                      have HTT := HTn
                      have HXX := HXn
                      clear HTn HXn)
                    | (
                      refine step_app el_int rfl (.tmp 112) (.tmp 114) rfl W0.heap.size (.slice A2x (nO + nC) c2x) (nO + nC) ((R.ops.map (·.done)).map (Value.int .i64) ++ R.cached.map (Value.int .i64)) rfl ?_ AR nR cR (R.rules.map (Value.int .i64)) rfl ?_ ?_ (one_ints _ _) (by omega) ?_ ?_
                      · (first | with_reducible exact HTT.out.o2 | with_reducible exact (HTT.out.alloc _).o2)
                      · (first | with_reducible exact (HRR.out.below (bthen HB0.out HTT.out.bel)) | with_reducible exact (Rd.alloc (HRR.out.below (bthen HB0.out HTT.out.bel)) _))
                      · (rw [List.length_map, HRL.out, Nat.mul_one])
                      · (first | with_reducible exact HTT.out.base | with_reducible exact (HTT.out.alloc _).base)
                      intro A2y c2y U2 ho2 hg2 hat2
                      (first | with_reducible have HTn := Lib.hid (Two.app2 HTT.out ho2 hg2 hat2) | with_reducible have HTn := Lib.hid (Two.app2 (HTT.out.alloc _) ho2 hg2 hat2))
                      (first | with_reducible have HXn := Lib.hid (Bk.grown HXX.out hg2 (own_ne HTT.out.o2 HXX.out HNE.out)) | with_reducible have HXn := Lib.hid (Bk.grown (HXX.out.alloc _) hg2 (own_ne HTT.out.o2 HXX.out HNE.out)))
                      (first | with_reducible have HS2 := Lib.hid (HS1.out.grow hg2 hat2) | with_reducible have HS2 := Lib.hid ((Src.new HTT.out [.int .i64 R.req, .int .i64 R.bey, .int .i64 R.hol] 3).grow hg2 hat2) | skip)
                      clear HTT HXX ho2 hg2 hat2
                      have HTT := HTn
                      have HXX := HXn
                      clear HTn HXn)
                    | (
                      refine step_app el_int rfl (.tmp 115) (.tmp 122) rfl W0.heap.size (.slice A2y (nO + nC + nR) c2y) (nO + nC + nR) ((R.ops.map (·.done)).map (Value.int .i64) ++ R.cached.map (Value.int .i64) ++ R.rules.map (Value.int .i64)) rfl ?_ (some ⟨_, 0, none⟩) 3 3 [.int .i64 R.req, .int .i64 R.bey, .int .i64 R.hol] rfl ?_ rfl (one_ints _ [_, _, _]) (by omega) ?_ ?_
                      · (first | with_reducible exact HTT.out.o2 | with_reducible exact (HTT.out.alloc _).o2)
                      · (first | with_reducible exact HS2.out.rd | with_reducible exact (Src.new HTT.out [.int .i64 R.req, .int .i64 R.bey, .int .i64 R.hol] 3).rd)
                      · (first | with_reducible exact HTT.out.base | with_reducible exact (HTT.out.alloc _).base)
                      intro A2z c2z U3 ho3 hg3 hat3
                      (first | with_reducible have HTn := Lib.hid (Two.app2 HTT.out ho3 hg3 hat3) | with_reducible have HTn := Lib.hid (Two.app2 (HTT.out.alloc _) ho3 hg3 hat3))
                      (first | with_reducible have HXn := Lib.hid (Bk.grown HXX.out hg3 (own_ne HTT.out.o2 HXX.out HNE.out)) | with_reducible have HXn := Lib.hid (Bk.grown (HXX.out.alloc _) hg3 (own_ne HTT.out.o2 HXX.out HNE.out)))
                      clear HTT HXX ho3 hg3 hat3
                      have HTT := HTn
                      have HXX := HXn
                      clear HTn HXn))
                all_goals
                  go_wp2_with fail
                  go_meet
                  refine ⟨A2z, nO + nC + nR + 3, c2z, rfl, by omega, ?_⟩
                  have h := HTT.out
                  show Two _ _ _ _ _ _ _ _ _ _
                  simpa [qoth, List.map_append] using h
              case rest =>
                obtain ⟨A4, n4, c4, rfl, hn4, HT2⟩ := hcut
                clear HTT HXX x3 x6 x7 x8 x9 HT1 HXr HBw HCR HRR HCL HRL HNE hsW
                have HXb := HX0
                go_wp2
                go_loopw [9] (fun i wr => ∃ k : Nat, k ≤ n4 ∧ i = .int .i64 k ∧ Hid (∀ x ∈ (qoth R).take k, refOk R.G x = true) ∧ Hid (Two W0.heap.size 3 W0 (.slice A1 n1 c1) n1 ((qown R).map (Value.int .i64)) (.slice A4 n4 c4) n4 ((qoth R).map (Value.int .i64)) wr)) (fun i _ => n4 - (intOf i).toNat)
                case atStart => exact ⟨0, Nat.zero_le _, rfl, fun x hx => by simp at hx, HT2⟩
                case round =>
                  obtain ⟨k, hk, rfl, HRO, HTw⟩ := hrel
                  clear HT2
                  have HXr := Lib.hid (HX0.out.below HTw.out.bel HX0.out.lt)
                  have HBw : Hid (Below w.heap.size w wr) := bthen HB0.out HTw.out.bel
                  by_cases hlt : k < n4
                  · obtain ⟨b, off, x, rfl, hx, hc⟩ := (Rd.of_own HTw.out.o2).getm (own_len HTw.out.o2) hlt
                    obtain ⟨hx1, hx2⟩ := HT64.out x (List.mem_of_getElem? hx)
                    have HXk := Lib.hid hx
                    clear hx
                    have hki : (k : Int) < (n4 : Int) := by omega
                    have hk0 : (0 : Int) ≤ (k : Int) := by omega
                    have x0 : wr.cell? ⟨w.heap.size, 0, none⟩ = some (.int .i64 M) := HXr.out.cell 0
                    have x1 : wr.cell? ⟨w.heap.size, 1, none⟩ = some (.slice AN nN cN) := HXr.out.cell 1
                    cases hro : refOk R.G x with
                    | true =>
                      have hrb : decide (0 ≤ x ∧ x < 2 * (nN : Int)) = true := by rw [← HNN.out]; exact hro
                      have HRB := Lib.hid hrb; have HRO2 := Lib.hid hro
                      clear hrb hro
                      go_wp2
                      refine wp_region_oneq 6 (by kernel_rfl) (by kernel_rfl) ?_
                      simp only [List.take_succ_cons, List.take_zero, List.drop_succ_cons, List.drop_zero]
                      repeat (go_big_quiet_step (fail))
                      refine wpQuiet_nil ?_
                      refine wpOp_here rfl rfl (fun K hK => ?_)
                      go_simp
                      go_at_call 61
                      refine (rright M AN nN cN x _ (by omega) hx1 hx2).mono ?_
                      rintro e w1 ⟨rfl, hb1⟩
                      rw [HRB.out]
                      have HT3 := Lib.hid (HTw.out.drew.below hb1)
                      clear hb1
                      refine hK _ _ ?_
                      clear hK K
                      try go_frame
                      repeat (go_big_quiet_step (fail))
                      refine wpQuiet_nil ?_
                      go_wp2
                      go_roundw
                      case rel => exact ⟨k + 1, by omega, by go_num, refOk_take HRO.out HXk.out HRO2.out, HT3⟩
                      case measure => simp [intOf]; omega
                    | false =>
                      have hrb : decide (0 ≤ x ∧ x < 2 * (nN : Int)) = false := by rw [← HNN.out]; exact hro
                      have HRB := Lib.hid hrb; have HNO := Lib.hid (qright_oth HXk.out hro)
                      clear hrb hro
                      go_wp2
                      refine wp_region_oneq 6 (by kernel_rfl) (by kernel_rfl) ?_
                      simp only [List.take_succ_cons, List.take_zero, List.drop_succ_cons, List.drop_zero]
                      repeat (go_big_quiet_step (fail))
                      refine wpQuiet_nil ?_
                      refine wpOp_here rfl rfl (fun K hK => ?_)
                      go_simp
                      go_at_call 61
                      refine (rright M AN nN cN x _ (by omega) hx1 hx2).mono ?_
                      rintro e w1 ⟨rfl, hb1⟩
                      rw [HRB.out]
                      have HB3 := Lib.hid (bthen HBw.out.drew hb1)
                      clear hb1
                      refine hK _ _ ?_
                      clear hK K
                      try go_frame
                      repeat (go_big_quiet_step (fail))
                      refine wpQuiet_nil ?_
                      go_wp2
                      go_ret
                      exact ⟨ret_bool HNO.out.symm, HB3.out⟩
                  · obtain rfl : n4 = k := by omega
                    have HOA : Hid (∀ x ∈ qoth R, refOk R.G x = true) := by
                      have h := HRO.out
                      rw [List.take_of_length_le (by rw [own_len HTw.out.o2]; exact Nat.le_refl _)] at h
                      exact h
                    clear HRO hlt HXr HBw
                    go_wp2
                    go_loopw [10] (fun i wr => ∃ k : Nat, k ≤ n1 ∧ i = .int .i64 k ∧ Hid (∀ x ∈ (qown R).take k, inOk R.G x = true) ∧ Hid (((qown R).take k).Nodup) ∧ Hid (Two W0.heap.size 3 W0 (.slice A1 n1 c1) n1 ((qown R).map (Value.int .i64)) (.slice A4 n4 c4) n4 ((qoth R).map (Value.int .i64)) wr)) (fun i _ => n1 - (intOf i).toNat)
                    case atStart => exact ⟨0, Nat.zero_le _, rfl, fun x hx => by simp at hx, by show ((qown R).take 0).Nodup; simp, HTw⟩
                    case round =>
                      obtain ⟨k, hk, rfl, HIN, HND2, HTv⟩ := hrel
                      clear HTw
                      have HXr := Lib.hid (HX0.out.below HTv.out.bel HX0.out.lt)
                      have HBw : Hid (Below w.heap.size w wr) := bthen HB0.out HTv.out.bel
                      by_cases hlt : k < n1
                      · obtain ⟨b, off, x, rfl, hx, hc⟩ := (Rd.of_own HTv.out.o1).getm (own_len HTv.out.o1) hlt
                        obtain ⟨hx1, hx2⟩ := HO64.out x (List.mem_of_getElem? hx)
                        have HXk := Lib.hid hx
                        clear hx
                        have hki : (k : Int) < (n1 : Int) := by omega
                        have hk0 : (0 : Int) ≤ (k : Int) := by omega
                        have x0 : wr.cell? ⟨w.heap.size, 0, none⟩ = some (.int .i64 M) := HXr.out.cell 0
                        cases hro : refOk R.G x with
                        | false =>
                          have x1 : wr.cell? ⟨w.heap.size, 1, none⟩ = some (.slice AN nN cN) := HXr.out.cell 1
                          have hrb : decide (0 ≤ x ∧ x < 2 * (nN : Int)) = false := by rw [← HNN.out]; exact hro
                          have HRB := Lib.hid hrb; have HNO := Lib.hid (qright_own HXk.out (by simp [inOk, hro]))
                          clear hrb hro
                          go_wp2
                          refine wp_region_oneq 6 (by kernel_rfl) (by kernel_rfl) ?_
                          simp only [List.take_succ_cons, List.take_zero, List.drop_succ_cons, List.drop_zero]
                          repeat (go_big_quiet_step (fail))
                          refine wpQuiet_nil ?_
                          refine wpOp_here rfl rfl (fun K hK => ?_)
                          go_simp
                          go_at_call 61
                          refine (rright M AN nN cN x _ (by omega) hx1 hx2).mono ?_
                          rintro e w1 ⟨rfl, hb1⟩
                          rw [HRB.out]
                          have HT3 := Lib.hid (HTv.out.drew.below hb1)
                          have HB3 := Lib.hid (bthen HBw.out.drew hb1)
                          have hy : w1.cell? ⟨b, off + k, none⟩ = some (.int .i64 x) := (Rd.of_own HT3.out.o1).get HXk.out
                          clear hb1
                          refine hK _ _ ?_
                          clear hK K
                          try go_frame
                          repeat (go_big_quiet_step (fail))
                          refine wpQuiet_nil ?_
                          go_wp2
                          go_ret
                          exact ⟨ret_bool HNO.out.symm, HB3.out⟩
                        | true =>
                          obtain ⟨hxa, hxb⟩ := refOk_iff hro
                          rw [HNN.out] at hxb
                          have hrb : decide (0 ≤ x ∧ x < 2 * (nN : Int)) = true := by rw [← HNN.out]; exact hro
                          have HRB := Lib.hid hrb; have HRO2 := Lib.hid hro
                          have hxh : (x / 2).toNat < nN := by omega
                          obtain ⟨b2, o2, nd, rfl, hnd, hbl2, hnk, _, _⟩ := (HND.out.below HBw.out).node HNN.out hxh
                          have HNDk := Lib.hid hnd; have HXH := Lib.hid hxh
                          have x1 : wr.cell? ⟨w.heap.size, 1, none⟩ = some (.slice (some ⟨b2, o2, none⟩) nN cN) := HXr.out.cell 1
                          have ia : x / 2 < (nN : Int) := by omega
                          have ia0 : 0 ≤ x / 2 := by omega
                          clear hrb hro hnd hxh
                          have ta : x.tdiv 2 = x / 2 := Int.tdiv_eq_ediv_of_nonneg hxa
                          have tm : x.tmod 2 = x % 2 := Int.tmod_eq_emod_of_nonneg hxa
                          have wa : IntKind.i64.wrap (x / 2) = x / 2 := IntWalk.i64_in _ (by omega)
                          have wm : IntKind.i64.wrap (x % 2) = x % 2 := IntWalk.i64_in _ (by omega)
                          by_cases hodd : x % 2 = 1
                          · have hob : (x % 2 == 1) = true := by simpa using hodd
                            have HNO := Lib.hid (qright_own HXk.out (inOk_no2 hodd))
                            clear hodd
                            go_wp2
                            refine wp_region_oneq 6 (by kernel_rfl) (by kernel_rfl) ?_
                            simp only [List.take_succ_cons, List.take_zero, List.drop_succ_cons, List.drop_zero]
                            repeat (go_big_quiet_step (fail))
                            refine wpQuiet_nil ?_
                            refine wpOp_here rfl rfl (fun K hK => ?_)
                            go_simp
                            go_at_call 61
                            refine (rright M (some ⟨b2, o2, none⟩) nN cN x _ (by omega) hx1 hx2).mono ?_
                            rintro e w1 ⟨rfl, hb1⟩
                            rw [HRB.out]
                            have HT3 := Lib.hid (HTv.out.drew.below hb1)
                            have HB3 := Lib.hid (bthen HBw.out.drew hb1)
                            have hy : w1.cell? ⟨b, off + k, none⟩ = some (.int .i64 x) := (Rd.of_own HT3.out.o1).get HXk.out
                            have hy1 : w1.cell? ⟨w.heap.size, 1, none⟩ = some (.slice (some ⟨b2, o2, none⟩) nN cN) := (HX0.out.below HT3.out.bel HX0.out.lt).cell 1
                            have hy2 : w1.cell? ⟨b2, o2 + (x / 2).toNat * 3, none⟩ = some (.int .i64 nd.k) := by
                              obtain ⟨b3, o3, nd3, h1, h2, h3, h4, _⟩ := (HND.out.below HB3.out).node HNN.out (HXH.out)
                              injection h1 with h1
                              injection h1 with h1 h5
                              subst h1 h5
                              obtain rfl : nd3 = nd := Option.some.inj (h2.symm.trans HNDk.out)
                              exact h4
                            clear hb1
                            refine hK _ _ ?_
                            clear hK K
                            try go_frame
                            repeat (go_big_quiet_step (fail))
                            refine wpQuiet_nil ?_
                            go_wp2
                            go_ret
                            exact ⟨ret_bool HNO.out.symm, HB3.out⟩
                          · have hob : (x % 2 == 1) = false := by simpa using hodd
                            by_cases hkd : nd.k = 2
                            · have hkb : (nd.k != 2) = false := by simpa using hkd
                              have HIO := Lib.hid (inOk_of HRO2.out hodd HNDk.out hkd)
                              clear hodd hkd
                              go_wp2
                              refine wp_region_oneq 6 (by kernel_rfl) (by kernel_rfl) ?_
                              simp only [List.take_succ_cons, List.take_zero, List.drop_succ_cons, List.drop_zero]
                              repeat (go_big_quiet_step (fail))
                              refine wpQuiet_nil ?_
                              refine wpOp_here rfl rfl (fun K hK => ?_)
                              go_simp
                              go_at_call 61
                              refine (rright M (some ⟨b2, o2, none⟩) nN cN x _ (by omega) hx1 hx2).mono ?_
                              rintro e w1 ⟨rfl, hb1⟩
                              rw [HRB.out]
                              have HT3 := Lib.hid (HTv.out.drew.below hb1)
                              have HB3 := Lib.hid (bthen HBw.out.drew hb1)
                              have hy : w1.cell? ⟨b, off + k, none⟩ = some (.int .i64 x) := (Rd.of_own HT3.out.o1).get HXk.out
                              have hy1 : w1.cell? ⟨w.heap.size, 1, none⟩ = some (.slice (some ⟨b2, o2, none⟩) nN cN) := (HX0.out.below HT3.out.bel HX0.out.lt).cell 1
                              have hy2 : w1.cell? ⟨b2, o2 + (x / 2).toNat * 3, none⟩ = some (.int .i64 nd.k) := by
                                obtain ⟨b3, o3, nd3, h1, h2, h3, h4, _⟩ := (HND.out.below HB3.out).node HNN.out (HXH.out)
                                injection h1 with h1
                                injection h1 with h1 h5
                                subst h1 h5
                                obtain rfl : nd3 = nd := Option.some.inj (h2.symm.trans HNDk.out)
                                exact h4
                              clear hb1
                              refine hK _ _ ?_
                              clear hK K
                              try go_frame
                              repeat (go_big_quiet_step (fail))
                              refine wpQuiet_nil ?_
                              clear x0 x1 hc hy hy1 hy2 hnk ta tm wa wm hob hkb ia ia0
                              go_wp2
                              obtain ⟨wo, rfl⟩ : ∃ wo : World, wo = wr := ⟨_, rfl⟩
                              go_loopw [11] (fun i wr => ∃ q : Nat, q ≤ k ∧ i = .int .i64 q ∧ Hid (∀ p, p < q → (qown R)[p]? ≠ some x) ∧ Hid (Two W0.heap.size 3 W0 (.slice (some ⟨b, off, none⟩) n1 c1) n1 ((qown R).map (Value.int .i64)) (.slice A4 n4 c4) n4 ((qoth R).map (Value.int .i64)) wr)) (fun i _ => k - (intOf i).toNat)
                              case atStart => exact ⟨0, Nat.zero_le _, rfl, fun p hp => absurd hp (Nat.not_lt_zero _), HT3⟩
                              case round =>
                                obtain ⟨q, hq, rfl, HNQ, HTq⟩ := hrel
                                clear HT3 HB3
                                have HBq : Hid (Below w.heap.size w wr) := bthen HB0.out HTq.out.bel
                                by_cases hlq : q < k
                                · have hq1 : (q : Int) < (n1 : Int) := by omega
                                  have hq0 : (0 : Int) ≤ (q : Int) := by omega
                                  have hqk : (q : Int) < (k : Int) := by omega
                                  obtain ⟨z, hz⟩ : ∃ z, (qown R)[q]? = some z := ⟨_, List.getElem?_eq_getElem (by rw [own_len HTq.out.o1]; omega)⟩
                                  have hcz : wr.cell? ⟨b, off + q, none⟩ = some (.int .i64 z) := (Rd.of_own HTq.out.o1).get hz
                                  have hcx : wr.cell? ⟨b, off + k, none⟩ = some (.int .i64 x) := (Rd.of_own HTq.out.o1).get HXk.out
                                  have HZ := Lib.hid hz
                                  clear hz
                                  by_cases hzx : z = x
                                  · have hzb : (z == x) = true := by simpa using hzx
                                    have HNO := Lib.hid (qright_two HXk.out (by rw [← hzx]; exact HZ.out) hlq)
                                    clear hzx
                                    go_wp2
                                    go_quiet (fail)
                                    go_wp2
                                    go_ret
                                    exact ⟨ret_bool HNO.out.symm, bdrewN HBq.out _⟩
                                  · have hzb : (z == x) = false := by simpa using hzx
                                    have HNZ : Hid (∀ p, p < q + 1 → (qown R)[p]? ≠ some x) := by
                                      intro p hp
                                      rcases Nat.lt_or_ge p q with h | h
                                      · exact HNQ.out p h
                                      · obtain rfl : p = q := by omega
                                        rw [HZ.out]
                                        intro he
                                        exact hzx (Option.some.inj he)
                                    clear hzx
                                    go_wp2
                                    go_quiet (fail)
                                    go_wp2
                                    go_roundw
                                    case rel => exact ⟨q + 1, by omega, by go_num, HNZ, HTq.out.below (below_drewN _ _)⟩
                                    case measure => simp [intOf]; omega
                                · obtain rfl : k = q := by omega
                                  go_wp2
                                  go_roundw
                                  case rel => exact ⟨k + 1, by omega, by go_num, inOk_take HIN.out HXk.out HIO.out, take_nodup HXk.out HND2.out HNQ.out, HTq⟩
                                  case measure => simp [intOf]; omega
                            · have hkb : (nd.k != 2) = true := by simpa using hkd
                              have HNO := Lib.hid (qright_own HXk.out (inOk_no3 HNDk.out hkd))
                              clear hodd hkd
                              go_wp2
                              refine wp_region_oneq 6 (by kernel_rfl) (by kernel_rfl) ?_
                              simp only [List.take_succ_cons, List.take_zero, List.drop_succ_cons, List.drop_zero]
                              repeat (go_big_quiet_step (fail))
                              refine wpQuiet_nil ?_
                              refine wpOp_here rfl rfl (fun K hK => ?_)
                              go_simp
                              go_at_call 61
                              refine (rright M (some ⟨b2, o2, none⟩) nN cN x _ (by omega) hx1 hx2).mono ?_
                              rintro e w1 ⟨rfl, hb1⟩
                              rw [HRB.out]
                              have HT3 := Lib.hid (HTv.out.drew.below hb1)
                              have HB3 := Lib.hid (bthen HBw.out.drew hb1)
                              have hy : w1.cell? ⟨b, off + k, none⟩ = some (.int .i64 x) := (Rd.of_own HT3.out.o1).get HXk.out
                              have hy1 : w1.cell? ⟨w.heap.size, 1, none⟩ = some (.slice (some ⟨b2, o2, none⟩) nN cN) := (HX0.out.below HT3.out.bel HX0.out.lt).cell 1
                              have hy2 : w1.cell? ⟨b2, o2 + (x / 2).toNat * 3, none⟩ = some (.int .i64 nd.k) := by
                                obtain ⟨b3, o3, nd3, h1, h2, h3, h4, _⟩ := (HND.out.below HB3.out).node HNN.out (HXH.out)
                                injection h1 with h1
                                injection h1 with h1 h5
                                subst h1 h5
                                obtain rfl : nd3 = nd := Option.some.inj (h2.symm.trans HNDk.out)
                                exact h4
                              clear hb1
                              refine hK _ _ ?_
                              clear hK K
                              try go_frame
                              repeat (go_big_quiet_step (fail))
                              refine wpQuiet_nil ?_
                              go_wp2
                              go_ret
                              exact ⟨ret_bool HNO.out.symm, HB3.out⟩
                      · obtain rfl : n1 = k := by omega
                        have hl1 := own_len HTv.out.o1
                        have HF : Hid (rightR R = true) := by
                          have h3 := HIN.out
                          have h4 := HND2.out
                          rw [List.take_of_length_le (by rw [hl1]; exact Nat.le_refl _)] at h3 h4
                          exact qright_true HOT.out HWO.out h3 h4 HOA.out
                        clear hl1 hlt
                        go_wp2
                        go_ret
                        exact ⟨ret_bool HF.out.symm, HBw.out⟩
        · have hcb : ((nC : Int) != (m : Int)) = true := by simp; omega
          have HNO : Hid (rightR R = false) := qright_ops (by rw [HOK.out, hKl, hCl]; simp; omega)
          clear hKm hCm hKl hCl HOK
          go_wp2
          go_ret
          exact ⟨ret_bool HNO.out.symm, HBw.out⟩
      · have hkb : ((nK : Int) != (m : Int)) = true := by simp; omega
        have HNO : Hid (rightR R = false) := qright_ops (by rw [HOK.out, hKl, hCl]; simp; omega)
        clear hKm hKl hCl HOK
        go_wp2
        go_ret
        exact ⟨ret_bool HNO.out.symm, HBw.out⟩
end Go.Proofs.Ytamoniljgifggaa
