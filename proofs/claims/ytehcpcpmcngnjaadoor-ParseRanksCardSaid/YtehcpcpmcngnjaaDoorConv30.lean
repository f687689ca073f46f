/-
  salvorlaw29.Expr: an expression of the reference with the same fields.
-/
import Derived.Test.YtehcpcpmcngnjaaDoorTreeP30
import Derived.Test.YtehcpcpmcngnjaaDoorExpr30
import Derived.Deep.RegionLaw
import Derived.Deep.DeepMust
set_option linter.unusedVariables false
set_option linter.unusedSimpArgs false
namespace Go.Proofs.YtehcpcpmcngnjaaDoor
open Go.RowKit Go.PlainAid

theorem el_rx : El Tryd.prog 47 49 6 := El.mk' (z := .agg #[.int .i64 0, .int .i64 0, .int .i64 0, .int .i64 0, .string ⟨#[]⟩, .slice none 0 0]) (bytes := 72) Tryd.underlying47 (by kernel_rfl) rfl (by omega) (by omega)
theorem pokeT {w : World} {o : Obj} : Below w.heap.size w (w.alloc o) := balloc (Below.refl _ _) _
def zRx : Array Value := #[.int .i64 0, .int .i64 0, .int .i64 0, .int .i64 0, .string ⟨#[]⟩, .slice none 0 0]
def outRx (x : Ex) (V : Value) : Array Value := #[.int .i64 (x.kind : Int), .int .i64 (x.op : Int), .int .i64 (x.value : Int), .int .i64 x.width, .string (str x.name), V]
abbrev PV := Ex × SV
def rowsR (P : List PV) : List Value := P.flatMap fun q => cellR q.1 q.2
theorem rowsR_snoc (P : List PV) (q : PV) : rowsR (P ++ [q]) = rowsR P ++ cellR q.1 q.2 := by unfold rowsR; simp
theorem zip_pv (P : List PV) : ((P.map fun q => q.1).zip (P.map fun q => q.2)).flatMap (fun p => cellR p.1 p.2) = rowsR P := by
  unfold rowsR
  induction P with
  | nil => rfl
  | cons x P ih => rw [List.map_cons, List.map_cons, List.zip_cons_cons, List.flatMap_cons, List.flatMap_cons, ih]
/-- An expression under way: the result's box r, the box b, the row (at G or above), what is in it. -/
structure CvB (w : World) (G r b : Nat) (x : Ex) (P : List PV) (A : Option Addr) (c : Nat) (W : World) : Prop where
  res : Bk W r 49 zRx
  out : Bk W b 49 (outRx x (.slice A P.length c))
  own : W.ownsRow G 49 6 (.slice A P.length c) P.length (rowsR P)
  trees : ∀ q ∈ P, TreeP (fun k => G ≤ k ∧ (Value.slice A P.length c).ownBlock ≠ some k) cellR 49 W q.1 q.2
  bel : Below w.heap.size w W
  size : G ≤ W.heap.size
section
variable {w W W1 W2 W3 WF : World} {G r b : Nat} {x y : Ex} {P : List PV} {S' : SV} {A A' : Option Addr} {c c' : Nat}
theorem CvB.to (h : CvB w G r b x P A c W) (hb : Below W.heap.size W W1) : CvB w G r b x P A c W1 :=
  ⟨bkbel h.res hb, bkbel h.out hb, own_fr (F := fun _ => False) h.own (Fr.of_below hb) (fun _ _ h => h), fun q hq => (h.trees q hq).bel hb, bthen h.bel hb, Nat.le_trans h.size hb.size⟩
theorem CvB.cel (h : CvB w G r b x P A c W) : W.cell? ⟨b, 5, none⟩ = some (.slice A P.length c) := h.out.cell 5
theorem CvB.cal (h : CvB w G r b x P A c W) (o : Obj) : (W.alloc o).cell? ⟨b, 5, none⟩ = some (.slice A P.length c) := (bkbel h.out pokeT).cell 5
/-- One more. -/
theorem CvB.push (h : CvB w G r b x P A c W) (hr : r < G) (hb : b < G) (hwb : w.heap.size ≤ b) (hrb : r ≠ b) (hb1 : Below W.heap.size W W1) (hT : TrR W.heap.size W1 y S') (hb2 : Below W1.heap.size W1 W2)
    (hg : W2.grownBy W3 (Value.slice A P.length c).ownBlock) (ho : W3.ownsRow G 49 6 (.slice A' (P.length + 1) c') (P.length + 1) (rowsR P ++ cellR y S')) (hat : (Value.slice A' (P.length + 1) c').ownBlock = (Value.slice A P.length c).ownBlock ∨ (Value.slice A' (P.length + 1) c').ownBlock = some W2.heap.size) :
    Bk W3 b 49 (outRx x (.slice A P.length c)) ∧ CvB w G r b x (P ++ [(y, S')]) A' c' (W3.setCell ⟨b, 5, none⟩ (.slice A' (P.length + 1) c')) := by
  have h12 := bthen hb1 hb2
  have h2 := h.to h12
  have hown : ∀ k, (Value.slice A P.length c).ownBlock = some k → G ≤ k ∧ k < W.heap.size := fun k hk => by
    obtain ⟨h3, cs, h4⟩ := own_typedS h.own k hk
    exact ⟨h3, h4.lt⟩
  have hf3 : Fr (fun k => (Value.slice A P.length c).ownBlock = some k) W2 W3 := (Fr.refl _ W2).grown hg (fun j hj => .inl hj)
  have hout3 := h2.out.fr hf3 (fun e => by have := (hown b e).1; omega)
  have hres3 := h2.res.fr hf3 (fun e => by have := (hown r e).1; omega)
  have hL : (P ++ [(y, S')]).length = P.length + 1 := by simp
  have hf4 : Fr (fun k => k = b) W3 (W3.setCell ⟨b, 5, none⟩ (.slice A' (P.length + 1) c')) := (Fr.refl (fun k => k = b) W3).setCell (p := ⟨b, 5, none⟩) (.inl rfl) _
  have hB3 : Below w.heap.size w W3 := h2.bel.grown hg h2.bel.size (fun j hj => by have := (hown j hj).1; omega)
  -- a tree of the world ahead of the growth
  have key : ∀ q : PV, TreeP (fun k => G ≤ k ∧ (Value.slice A P.length c).ownBlock ≠ some k) cellR 49 W2 q.1 q.2 → TreeP (fun k => G ≤ k ∧ (Value.slice A' (P.length + 1) c').ownBlock ≠ some k) cellR 49 (W3.setCell ⟨b, 5, none⟩ (.slice A' (P.length + 1) c')) q.1 q.2 := fun q hq => by
    have h5 : TreeP (fun k => (G ≤ k ∧ (Value.slice A P.length c).ownBlock ≠ some k) ∧ (Value.slice A' (P.length + 1) c').ownBlock ≠ some k) cellR 49 W2 q.1 q.2 := hq.mono fun k hk hp => ⟨hp, fun e => by
      rcases hat with h6 | h6
      · exact hp.2 (h6.symm.trans e)
      · rw [h6] at e
        injection e with e
        omega⟩
    exact ((h5.fr hf3 fun k _ hp e => hp.1.2 e).mono fun k _ hp => ⟨hp.1.1, hp.2⟩).fr hf4 fun k _ hp e => by have := hp.1; omega
  refine ⟨hout3, hres3.fr hf4 hrb, ?_, ?_, ?_, hB3.setCell (p := ⟨b, 5, none⟩) hwb _, ?_⟩
  · rw [hL]
    exact hout3.put 5 _
  · rw [hL, rowsR_snoc]
    exact own_fr ho hf4 (fun k hk e => by have := (own_typedS ho k hk).1; omega)
  · rw [hL]
    intro q hq
    rcases List.mem_append.1 hq with hq | hq
    · exact key q (h2.trees q hq)
    · rw [List.mem_singleton.1 hq]
      refine key (y, S') ((hT.toP.bel hb2).mono fun k hk hp => ⟨Nat.le_trans h.size hp, fun e => ?_⟩)
      have := (hown k e).2
      omega
  · exact Nat.le_trans h2.size (Nat.le_trans hf3.size hf4.size)
/-- All are in it, the result's box is written. -/
theorem CvB.tree (h : CvB w G r b x P A c W) (hr : r < G) (hwr : w.heap.size ≤ r) (hok : ExOk x) (hP : P.map (fun q => q.1) = x.subs) (hf : Fr (fun k => k = r) W WF) : TrR w.heap.size WF x ⟨A, P.length, c⟩ ∧ Below w.heap.size w WF := by
  have ho := own_fr h.own hf (fun k hk e => by have := (own_typedS h.own k hk).1; omega)
  refine ⟨.mk x _ (P.map fun q => q.2) hok (by rw [← hP, List.length_map, List.length_map]) (by rw [← hP, List.length_map]) (fun k off e => Nat.le_trans hwr (Nat.le_of_lt (Nat.lt_of_lt_of_le hr (own_base ho e)))) ?_ ?_, h.bel.trans (hf.below w.heap.size h.bel.size (fun i hi e => by omega))⟩
  · rw [← hP, zip_pv]
    exact RdT.of_own ho
  · intro i y v hy hv
    rw [← hP, List.getElem?_map] at hy
    rw [List.getElem?_map] at hv
    cases hq : P[i]? with
    | none => rw [hq] at hy; cases hy
    | some q =>
      rw [hq] at hy hv
      injection hy with hy
      injection hv with hv
      subst hy hv
      exact ((h.trees q (List.mem_of_getElem? hq)).fr hf fun k _ hp e => by have := hp.1; omega).toAt fun k hp => by have := hp.1; omega
end
set_option maxRecDepth 100000 in
set_option maxHeartbeats 8000000 in
theorem convC (B : Nat) : ∀ (N : Nat) (x : Ex) (S : SV) (w : World), fewX x ≤ N → Hid (TrT B w x S) →
    Calls Tryd.prog 17 #[.agg #[.int .u8 (x.kind : Int), .int .u8 (x.op : Int), .int .u32 (x.value : Int), .int .i64 x.width, .string (str x.name), .slice S.A S.n S.c]] w fun e w' => ∃ S', e = .returned (.agg #[.int .i64 (x.kind : Int), .int .i64 (x.op : Int), .int .i64 (x.value : Int), .int .i64 x.width, .string (str x.name), .slice S'.A S'.n S'.c]) ∧ TrR w.heap.size w' x S' ∧ Below w.heap.size w w'
  | 0, x, S, w, hN, _ => by
    have := fewX_eq x
    omega
  | N + 1, x, S, w, hN, h => by
    have IH := Lib.hid (convC B N)
    obtain ⟨SA, Sn, Sc⟩ := S
    have HL : Hid (Sn = x.subs.length) := Lib.hid h.out.len
    have hok := h.out.ok
    have hS1 : Sn ≤ 1000 := by have := HL.out; have := hok.s; omega
    have wk : IntKind.i64.wrap (x.kind : Int) = (x.kind : Int) := by rw [IntKind.wrap_i64]; have := hok.k; omega
    have wo : IntKind.i64.wrap (x.op : Int) = (x.op : Int) := by rw [IntKind.wrap_i64]; have := hok.o; omega
    have wv : IntKind.i64.wrap (x.value : Int) = (x.value : Int) := by rw [IntKind.wrap_i64]; have := hok.v; omega
    have HOK := Lib.hid hok
    have h1 := (Bk.new (w.alloc (.cells #[.int .u8 (x.kind : Int), .int .u8 (x.op : Int), .int .u32 (x.value : Int), .int .i64 x.width, .string (str x.name), .slice SA Sn Sc] 28)) 49 zRx).alloc (.cells (outRx x (.slice none 0 0)) 49)
    have h2 := Bk.new ((w.alloc (.cells #[.int .u8 (x.kind : Int), .int .u8 (x.op : Int), .int .u32 (x.value : Int), .int .i64 x.width, .string (str x.name), .slice SA Sn Sc] 28)).alloc (.cells zRx 49)) 49 (outRx x (.slice none 0 0))
    have hWs : (((w.alloc (.cells #[.int .u8 (x.kind : Int), .int .u8 (x.op : Int), .int .u32 (x.value : Int), .int .i64 x.width, .string (str x.name), .slice SA Sn Sc] 28)).alloc (.cells zRx 49)).alloc (.cells (outRx x (.slice none 0 0)) 49)).heap.size = w.heap.size + 3 := by simp
    have hB0 : Below w.heap.size w (((w.alloc (.cells #[.int .u8 (x.kind : Int), .int .u8 (x.op : Int), .int .u32 (x.value : Int), .int .i64 x.width, .string (str x.name), .slice SA Sn Sc] 28)).alloc (.cells zRx 49)).alloc (.cells (outRx x (.slice none 0 0)) 49)) := balloc (balloc (balloc (Below.refl _ _) _) _) _
    simp only [World.size_alloc] at h1 h2
    have HV0 : Hid (CvB w (w.heap.size + 3) (w.heap.size + 1) (w.heap.size + 1 + 1) x [] none 0 (((w.alloc (.cells #[.int .u8 (x.kind : Int), .int .u8 (x.op : Int), .int .u32 (x.value : Int), .int .i64 x.width, .string (str x.name), .slice SA Sn Sc] 28)).alloc (.cells zRx 49)).alloc (.cells (outRx x (.slice none 0 0)) 49))) := Lib.hid ⟨h1, h2, World.ownsRow_nil _ _ _ _, fun q hq => (by cases hq), hB0, by rw [hWs]; exact Nat.le_refl _⟩
    unfold zRx outRx at HV0
    clear hok h1 h2 hWs hB0
    go_enter Tryd.func17, Tryd.ntmps17
    go_wp2_with fail
    generalize (((w.alloc (.cells #[.int .u8 (x.kind : Int), .int .u8 (x.op : Int), .int .u32 (x.value : Int), .int .i64 x.width, .string (str x.name), .slice SA Sn Sc] 28)).alloc (.cells #[.int .i64 0, .int .i64 0, .int .i64 0, .int .i64 0, .string ⟨#[]⟩, .slice none 0 0] 49)).alloc (.cells #[.int .i64 (x.kind : Int), .int .i64 (x.op : Int), .int .i64 (x.value : Int), .int .i64 x.width, .string (str x.name), .slice none 0 0] 49)) = W at HV0 ⊢
    obtain ⟨r, hr⟩ : ∃ r, w.heap.size + 1 = r := ⟨_, rfl⟩
    obtain ⟨b, hb⟩ : ∃ b, w.heap.size + 1 + 1 = b := ⟨_, rfl⟩
    obtain ⟨G, hG⟩ : ∃ G, w.heap.size + 3 = G := ⟨_, rfl⟩
    rw [hb, hr, hG] at HV0
    rw [hb, hr]
    have hrb : r ≠ b := by omega
    have hwb : w.heap.size ≤ b := by omega
    have hwr : w.heap.size ≤ r := by omega
    have hrG : r < G := by omega
    have hbG : b < G := by omega
    clear hr hb hG
    go_loopw [23] (fun v23 wr => ∃ (j : Nat) (P : List PV) (A : Option Addr) (c : Nat), j ≤ Sn ∧ v23 = .int .i64 j ∧ Hid (P.map (fun q => q.1) = x.subs.take j) ∧ Hid (CvB w G r b x P A c wr)) (fun v23 _ => Sn - (intOf v23).toNat)
    case atStart => exact ⟨0, [], none, 0, Nat.zero_le _, rfl, rfl, HV0⟩
    case round =>
      obtain ⟨j, P, A, c, hj, rfl, HP, HV⟩ := hrel
      clear HV0
      by_cases hlt : j < Sn
      · have e1 : decide ((j : Int) < (Sn : Int)) = true := by simp; omega
        have hji : (j : Int) < (Sn : Int) := by omega
        have wj : IntKind.i64.wrap ((j : Int) + 1) = ((j + 1 : Nat) : Int) := by rw [IntKind.wrap_i64]; omega
        obtain ⟨bb, off, y, v, hA, hx, hty, hbb, hc⟩ := (h.out.bel HV.out.bel).sub cellT_len (i := j) hlt
        obtain ⟨vA, vn, vc⟩ := v
        dsimp only at hA
        subst hA
        have c0 : wr.cell? ⟨bb, off + j * 6, none⟩ = some (.int .u8 (y.kind : Int)) := hc 0 _ (by omega) rfl
        have c1 : wr.cell? ⟨bb, off + j * 6 + 1, none⟩ = some (.int .u8 (y.op : Int)) := hc 1 _ (by omega) rfl
        have c2 : wr.cell? ⟨bb, off + j * 6 + 2, none⟩ = some (.int .u32 (y.value : Int)) := hc 2 _ (by omega) rfl
        have c3 : wr.cell? ⟨bb, off + j * 6 + 3, none⟩ = some (.int .i64 y.width) := hc 3 _ (by omega) rfl
        have c4 : wr.cell? ⟨bb, off + j * 6 + 4, none⟩ = some (.string (str y.name)) := hc 4 _ (by omega) rfl
        have c5 : wr.cell? ⟨bb, off + j * 6 + 5, none⟩ = some (.slice vA vn vc) := hc 5 _ (by omega) rfl
        have hyN : fewX y ≤ N := by have := fewX_sub hx; omega
        have HX := Lib.hid hx
        have HTY := Lib.hid (hty.bel (pokeT (o := .cells #[.int .u8 (y.kind : Int), .int .u8 (y.op : Int), .int .u32 (y.value : Int), .int .i64 y.width, .string (str y.name), .slice vA vn vc] 28)))
        have HY := Lib.hid (Bk.new wr 28 #[.int .u8 (y.kind : Int), .int .u8 (y.op : Int), .int .u32 (y.value : Int), .int .i64 y.width, .string (str y.name), .slice vA vn vc])
        have HV1 := Lib.hid (HV.out.to (pokeT (o := .cells #[.int .u8 (y.kind : Int), .int .u8 (y.op : Int), .int .u32 (y.value : Int), .int .i64 y.width, .string (str y.name), .slice vA vn vc] 28)))
        clear hc hx hty
        go_upto_region 5 with fail
        generalize (wr.alloc (.cells #[.int .u8 (y.kind : Int), .int .u8 (y.op : Int), .int .u32 (y.value : Int), .int .i64 y.width, .string (str y.name), .slice vA vn vc] 28)) = V at HTY HY HV1 ⊢
        clear c0 c1 c2 c3 c4 c5
        have HV2 := Lib.hid (HV1.out.to (Below.refl _ _).drew)
        have HTV := Lib.hid (HTY.out.bel (Below.refl _ _).drew)
        have HYV := Lib.hid (bkbel HY.out (Below.refl _ _).drew)
        have HC := Lib.hid (IH.out y ⟨vA, vn, vc⟩ _ hyN HTV)
        dsimp only at HC
        obtain ⟨y0, y1, y2, y3, y4, y5⟩ := cells6 HYV.out
        have x5 := HV2.out.cel
        have HPn : Hid (P.length + 1 ≤ 1000000000) := Lib.hid (by
          have h1 := congrArg List.length HP.out
          rw [List.length_map, List.length_take] at h1
          omega)
        go_region_law (first
          | (go_simp; go_at_call 17
             with_reducible refine HC.out.mono ?_
             rintro e w1 ⟨S', rfl, ht, hb1⟩
             have HT1 := Lib.hid ht
             have HB1 := Lib.hid hb1
             have HV3 := Lib.hid (HV2.out.to hb1)
             clear ht hb1 y0 y1 y2 y3 y4 y5 x5
             have x5 := HV3.out.cel
             have xa := HV3.out.cal)
          | (refine step_app el_rx rfl (.tmp 28) (.tmp 31) rfl G (.slice A P.length c) P.length (rowsR P) rfl ?_ (some ⟨_, 0, none⟩) 1 1 (cellR y S') rfl ?_ rfl (cellR_one y S') HPn.out ?_ ?_
             · (first | exact (HV3.out.to pokeT).own | exact ((HV3.out.to pokeT).to (Below.refl _ _).drew).own)
             · (first | exact Rd.new _ #[_, _, _, _, _, _] _ | exact (Rd.new _ #[_, _, _, _, _, _] _).below (Below.refl _ _).drew)
             · (first | exact (HV3.out.to pokeT).size | exact ((HV3.out.to pokeT).to (Below.refl _ _).drew).size)
             intro A3 c3 w4 ho4 hg4 hat4
             have hpu := CvB.push HV2.out hrG hbG hwb hrb HB1.out HT1.out (by first | exact pokeT | exact pokeT.drew) hg4 ho4 hat4
             have HPU := Lib.hid hpu.2
             have z5 : w4.cell? ⟨b, 5, none⟩ = some (.slice A P.length c) := hpu.1.cell 5
             have zf : w4.frozen? ⟨b, 5, none⟩ = false := hpu.1.frozen 5
             clear ho4 hg4 hat4 hpu x5 xa))
        all_goals
          generalize (w4.setCell ⟨b, 5, none⟩ (.slice A3 (P.length + 1) c3)) = W5 at HPU ⊢
          clear z5 zf
          go_wp2_with fail
          go_roundw
          case rel => exact ⟨j + 1, P ++ [(y, S')], A3, c3, by omega, by go_num, by show _ = _; rw [List.map_append, HP.out, take_snoc HX.out]; rfl, HPU⟩
          case measure => simp [intOf]; omega
      · obtain rfl : j = Sn := by omega
        have e1 : decide ((j : Int) < (j : Int)) = false := by simp
        obtain rfl : P.length = j := by
          have h1 := congrArg List.length HP.out
          rw [List.length_map, List.length_take, ← HL.out] at h1
          omega
        have HPx : Hid (P.map (fun q => q.1) = x.subs) := Lib.hid (by rw [HP.out, HL.out]; exact List.take_length)
        have hbx := HV.out.out
        have hrx := HV.out.res
        unfold outRx at hbx
        unfold zRx at hrx
        obtain ⟨x0, x1, x2, x3, x4, x5⟩ := cells6 hbx
        obtain ⟨y0, y1, y2, y3, y4, y5⟩ := cells6 hrx
        obtain ⟨f0, f1, f2, f3, f4, f5, _⟩ := froz7 hrx
        have HF := Lib.hid (fr6 wr r (.int .i64 (x.kind : Int)) (.int .i64 (x.op : Int)) (.int .i64 (x.value : Int)) (.int .i64 x.width) (.string (str x.name)) (.slice A P.length c))
        have HK := Lib.hid (put6 (v0 := .int .i64 (x.kind : Int)) (v1 := .int .i64 (x.op : Int)) (v2 := .int .i64 (x.value : Int)) (v3 := .int .i64 x.width) (v4 := .string (str x.name)) (v5 := .slice A P.length c) hrx)
        clear hbx hrx
        have hbr : b ≠ r := Ne.symm hrb
        go_wp2_with fail
        generalize ((((((wr.setCell ⟨r, 0, none⟩ (.int .i64 (x.kind : Int))).setCell ⟨r, 1, none⟩ (.int .i64 (x.op : Int))).setCell ⟨r, 2, none⟩ (.int .i64 (x.value : Int))).setCell ⟨r, 3, none⟩ (.int .i64 x.width)).setCell ⟨r, 4, none⟩ (.string (str x.name))).setCell ⟨r, 5, none⟩ (.slice A P.length c)) = WF at HF HK ⊢
        obtain ⟨r0, r1, r2, r3, r4, r5⟩ := cells6 HK.out
        refine bodyPost_ret (v := .agg #[.int .i64 (x.kind : Int), .int .i64 (x.op : Int), .int .i64 (x.value : Int), .int .i64 x.width, .string (str x.name), .slice A P.length c]) (by simp [results, Tryd.results17, go_sem, r0, r1, r2, r3, r4, r5]) rfl ?_
        obtain ⟨ht, hb⟩ := HV.out.tree hrG hwr HOK.out HPx.out HF.out
        exact ⟨⟨A, P.length, c⟩, rfl, ht, hb⟩
end Go.Proofs.YtehcpcpmcngnjaaDoor
