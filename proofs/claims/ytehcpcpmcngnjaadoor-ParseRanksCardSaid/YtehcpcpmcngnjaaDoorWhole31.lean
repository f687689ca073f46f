/-
  parse.whole: a node of some others.
-/
import Derived.Test.YtehcpcpmcngnjaaDoorWhole30
set_option linter.unusedVariables false
set_option linter.unusedSimpArgs false
namespace Go.Proofs.YtehcpcpmcngnjaaDoor
open Go.RowKit Go.PlainAid

abbrev NdV := Nd × SV × SV
def cellNV (q : NdV) : List Value := cellN q.1 q.2.1 q.2.2
theorem cellNV_len (q : NdV) : (cellNV q).length = 7 := rfl
/-- Nodes in a slice. -/
structure NdsAt (B : Nat) (w : World) (A : Option Addr) (n : Nat) (L : List NdV) : Prop where
  rd : Rd w A (L.flatMap cellNV)
  len : L.length = n
  base : B ≤ w.heap.size
  all : ∀ q ∈ L, NdAt B w q.1 q.2.1 q.2.2
theorem NdsAt.below {B : Nat} {w w' : World} {A : Option Addr} {n : Nat} {L : List NdV} (h : NdsAt B w A n L) (hb : Below w.heap.size w w') : NdsAt B w' A n L := ⟨h.rd.below hb, h.len, Nat.le_trans h.base hb.size, fun q hq => (h.all q hq).below hb⟩
/-- The places of a new node. -/
def atsN (at' : Nat) (L : List NdV) : List Nat := at' :: L.flatMap fun q => q.1.2
def subV (L : List NdV) : List Value := L.flatMap fun q => cellT q.1.1 q.2.1
def outC (k o v : Nat) (wd : Int) (nm : List UInt8) (S R : Value) : Array Value := #[.int .u8 (k : Int), .int .u8 (o : Int), .int .u32 (v : Int), .int .i64 wd, .string (str nm), S, R]
def zN : Array Value := #[.int .u8 0, .int .u8 0, .int .u32 0, .int .i64 0, .string ⟨#[]⟩, .slice none 0 0, .slice none 0 0]
/-- A new node under way: the result's box r, the node's box b. -/
structure WhB (w : World) (r b k o v : Nat) (wd : Int) (nm : List UInt8) (at' : Nat) (L : List NdV) (W : World) : Prop where
  res : Bk W r 67 zN
  out : ∃ A1 c1 A2 c2, Bk W b 67 (outC k o v wd nm (.slice A1 L.length c1) (.slice A2 (atsN at' L).length c2)) ∧ W.ownsRow w.heap.size 28 6 (.slice A1 L.length c1) L.length (subV L) ∧ W.ownsRow w.heap.size 3 1 (.slice A2 (atsN at' L).length c2) (atsN at' L).length (natsV (atsN at' L))
  bel : Below w.heap.size w W
theorem natsV_app (a b : List Nat) : natsV (a ++ b) = natsV a ++ natsV b := List.map_append
theorem atsN_snoc (at' : Nat) (L : List NdV) (q : NdV) : atsN at' (L ++ [q]) = atsN at' L ++ q.1.2 := by unfold atsN; simp
theorem subV_snoc (L : List NdV) (q : NdV) : subV (L ++ [q]) = subV L ++ cellT q.1.1 q.2.1 := by unfold subV; simp
section
variable {w W W1 W5 W7 : World} {r b k o v : Nat} {wd : Int} {nm : List UInt8} {at' : Nat} {L : List NdV} {q : NdV} {A1 A2 A1' A2' : Option Addr} {c1 c2 c1' c2' : Nat}
/-- One more: the expression. -/
theorem WhB.push1 (h : WhB w r b k o v wd nm at' L W) (hrb : r ≠ b) (hwb : w.heap.size ≤ b) (hW1 : Below W.heap.size W W1)
    (h1 : Bk W b 67 (outC k o v wd nm (.slice A1 L.length c1) (.slice A2 (atsN at' L).length c2))) (h2 : W.ownsRow w.heap.size 28 6 (.slice A1 L.length c1) L.length (subV L)) (h3 : W.ownsRow w.heap.size 3 1 (.slice A2 (atsN at' L).length c2) (atsN at' L).length (natsV (atsN at' L)))
    (hg : W1.grownBy W5 (Value.slice A1 L.length c1).ownBlock) (hw : W5.ownsRow w.heap.size 28 6 (.slice A1' (L.length + 1) c1') (L.length + 1) (subV L ++ cellT q.1.1 q.2.1)) :
    Bk W5 b 67 (outC k o v wd nm (.slice A1 L.length c1) (.slice A2 (atsN at' L).length c2)) ∧ Bk W5 r 67 zN ∧ W5.ownsRow w.heap.size 3 1 (.slice A2 (atsN at' L).length c2) (atsN at' L).length (natsV (atsN at' L)) ∧ Below w.heap.size w W5 ∧ (∀ g cs, Bk W1 g 67 cs → Bk W5 g 67 cs) := by
  have h2' : W1.ownsRow w.heap.size 28 6 (.slice A1 L.length c1) L.length (subV L) := own_fr (F := fun _ => False) h2 (Fr.of_below hW1) (fun _ _ h => h)
  have h3' : W1.ownsRow w.heap.size 3 1 (.slice A2 (atsN at' L).length c2) (atsN at' L).length (natsV (atsN at' L)) := own_fr (F := fun _ => False) h3 (Fr.of_below hW1) (fun _ _ h => h)
  have hn : ∀ g cs, Bk W1 g 67 cs → Bk W5 g 67 cs := fun g cs hb => hb.grown hg (own_ne h2' hb (by decide))
  have hB : Below w.heap.size w W5 := (bthen h.bel hW1).grown hg ((bthen h.bel hW1).size) (fun j hj => (own_typedS h2' j hj).1)
  refine ⟨hn _ _ (bkbel h1 hW1), hn _ _ (bkbel h.res hW1), ?_, hB, hn⟩
  refine own_fr (F := fun j => (Value.slice A1 L.length c1).ownBlock = some j) h3' ((Fr.refl _ W1).grown hg (fun j hj => .inl hj)) (fun j hj e => ?_)
  obtain ⟨_, cs, hk⟩ := own_typedS h3' j hj
  exact own_ne h2' hk (by decide) e.symm
/-- One more: the places. -/
theorem WhB.push2 (hrb : r ≠ b) (hwb : w.heap.size ≤ b) (h1 : Bk W5 b 67 (outC k o v wd nm (.slice A1 L.length c1) (.slice A2 (atsN at' L).length c2))) (hr : Bk W5 r 67 zN) (h2 : W5.ownsRow w.heap.size 28 6 (.slice A1' (L.length + 1) c1') (L.length + 1) (subV L ++ cellT q.1.1 q.2.1)) (h3 : W5.ownsRow w.heap.size 3 1 (.slice A2 (atsN at' L).length c2) (atsN at' L).length (natsV (atsN at' L))) (hB : Below w.heap.size w W5) :
    Bk (W5.setCell ⟨b, 5, none⟩ (.slice A1' (L.length + 1) c1')) b 67 (outC k o v wd nm (.slice A1' (L.length + 1) c1') (.slice A2 (atsN at' L).length c2)) ∧ (W5.setCell ⟨b, 5, none⟩ (.slice A1' (L.length + 1) c1')).ownsRow w.heap.size 3 1 (.slice A2 (atsN at' L).length c2) (atsN at' L).length (natsV (atsN at' L)) ∧ (∀ Q l, AtsAt w Q l → Rd (W5.setCell ⟨b, 5, none⟩ (.slice A1' (L.length + 1) c1')) Q.A (natsV l)) ∧
    ((W5.setCell ⟨b, 5, none⟩ (.slice A1' (L.length + 1) c1')).grownBy W7 (Value.slice A2 (atsN at' L).length c2).ownBlock → W7.ownsRow w.heap.size 3 1 (.slice A2' ((atsN at' L).length + q.1.2.length) c2') ((atsN at' L).length + q.1.2.length) (natsV (atsN at' L) ++ natsV q.1.2) →
      Bk W7 b 67 (outC k o v wd nm (.slice A1' (L.length + 1) c1') (.slice A2 (atsN at' L).length c2)) ∧ WhB w r b k o v wd nm at' (L ++ [q]) (W7.setCell ⟨b, 6, none⟩ (.slice A2' ((atsN at' L).length + q.1.2.length) c2'))) := by
  have h6 := h1.put 5 (.slice A1' (L.length + 1) c1')
  have hf6 : Fr (fun j => j = b) W5 (W5.setCell ⟨b, 5, none⟩ (.slice A1' (L.length + 1) c1')) := (Fr.refl (fun j => j = b) W5).setCell (p := ⟨b, 5, none⟩) (.inl rfl) _
  have nb : ∀ {e : TypeId} {size n : Nat} {V : Value} {xs : List Value}, W5.ownsRow w.heap.size e size V n xs → e ≠ 67 → ∀ j, V.ownBlock = some j → ¬ j = b := fun ho he j hj e => own_ne ho h1 he (by rw [hj, e])
  have h26 := own_fr h2 hf6 (nb h2 (by decide))
  have h36 := own_fr h3 hf6 (nb h3 (by decide))
  have hr6 : Bk (W5.setCell ⟨b, 5, none⟩ (.slice A1' (L.length + 1) c1')) r 67 zN := hr.far (p := ⟨b, 5, none⟩) hrb _
  have hB6 : Below w.heap.size w (W5.setCell ⟨b, 5, none⟩ (.slice A1' (L.length + 1) c1')) := hB.setCell (p := ⟨b, 5, none⟩) hwb _
  refine ⟨h6, h36, fun Q l ha => (ha.rd.below hB6).rd, fun hg hw => ?_⟩
  have h17 := Bk.grown h6 hg (own_ne h36 h6 (by decide))
  have hr7 := hr6.grown hg (own_ne h36 hr6 (by decide))
  have h27 : W7.ownsRow w.heap.size 28 6 (.slice A1' (L.length + 1) c1') (L.length + 1) (subV L ++ cellT q.1.1 q.2.1) := by
    refine own_fr (F := fun j => (Value.slice A2 (atsN at' L).length c2).ownBlock = some j) h26 ((Fr.refl _ _).grown hg (fun j hj => .inl hj)) (fun j hj e => ?_)
    obtain ⟨_, cs, hk⟩ := own_typedS h26 j hj
    exact own_ne h36 hk (by decide) e.symm
  have hB7 : Below w.heap.size w W7 := hB6.grown hg hB6.size (fun j hj => (own_typedS h36 j hj).1)
  have hf8 : Fr (fun j => j = b) W7 (W7.setCell ⟨b, 6, none⟩ (.slice A2' ((atsN at' L).length + q.1.2.length) c2')) := (Fr.refl (fun j => j = b) W7).setCell (p := ⟨b, 6, none⟩) (.inl rfl) _
  have nb7 : ∀ {e : TypeId} {size n : Nat} {V : Value} {xs : List Value}, W7.ownsRow w.heap.size e size V n xs → e ≠ 67 → ∀ j, V.ownBlock = some j → ¬ j = b := fun ho he j hj e => own_ne ho h17 he (by rw [hj, e])
  have hl1 : (L ++ [q]).length = L.length + 1 := by simp
  have hl2 : (atsN at' (L ++ [q])).length = (atsN at' L).length + q.1.2.length := by rw [atsN_snoc, List.length_append]
  refine ⟨h17, hr7.far (p := ⟨b, 6, none⟩) hrb _, ⟨A1', c1', A2', c2', ?_, ?_, ?_⟩, hB7.setCell (p := ⟨b, 6, none⟩) hwb _⟩
  · rw [hl1, hl2]
    exact h17.put 6 _
  · rw [hl1, subV_snoc]
    exact own_fr h27 hf8 (nb7 h27 (by decide))
  · rw [hl2, atsN_snoc, natsV_app]
    exact own_fr hw hf8 (nb7 hw (by decide))
end
/-- A row of the call's own lies above the base. -/
theorem own_base {w : World} {base : Nat} {e : TypeId} {size n c m : Nat} {A : Option Addr} {xs : List Value} (h : w.ownsRow base e size (.slice A n c) m xs) {b off : Nat} (hA : A = some ⟨b, off, none⟩) : base ≤ b := by
  subst hA
  exact (own_typedS h b rfl).1
/-- A slice of one element, just built. -/
theorem own_made {W : World} {e : TypeId} {size B : Nat} {cs : Array Value} (hs : cs.size = size) (hB : B ≤ W.heap.size) : (W.alloc (.cells cs e)).ownsRow B e size (.slice (some ⟨W.heap.size, 0, none⟩) 1 1) 1 cs.toList := by
  refine ⟨by simp [hs], .inr ⟨W.heap.size, 1, cs, rfl, hB, ?_, ?_⟩⟩
  · exact heap_alloc_new W _
  · exact ⟨Nat.le_refl _, by unfold maxLen; omega, by omega, List.take_of_length_le (by simp [hs])⟩
theorem sum_take (L : List NdV) (k : Nat) : (atsN 0 (L.take k)).length ≤ (atsN 0 L).length := by
  unfold atsN
  rw [List.length_cons, List.length_cons]
  have : ∀ (L : List NdV) (k : Nat), ((L.take k).flatMap fun q => q.1.2).length ≤ (L.flatMap fun q => q.1.2).length := by
    intro L
    induction L with
    | nil => intro k; simp
    | cons x L ih =>
      intro k
      cases k with
      | zero => simp
      | succ k =>
        rw [List.take_succ_cons, List.flatMap_cons, List.flatMap_cons, List.length_append, List.length_append]
        have := ih k
        omega
  have := this L k
  omega
theorem ats_len (a a' : Nat) (L : List NdV) : (atsN a L).length = (atsN a' L).length := rfl
theorem whb0 (k o v : Nat) (wd : Int) (nm : List UInt8) (at' : Nat) (w : World) (cs : Array Value) : WhB w (w.heap.size + 1) (w.heap.size + 1 + 1 + 1) k o v wd nm at' []
    ((((w.alloc (.cells cs 28)).alloc (.cells zN 67)).alloc (.cells #[.int .i64 (at' : Int)] 3)).alloc (.cells (outC k o v wd nm (.slice none 0 0) (.slice (some ⟨w.heap.size + 1 + 1, 0, none⟩) 1 1)) 67)) := by
  have hB : Below w.heap.size w (w.alloc (.cells cs 28)) := balloc (Below.refl _ _) _
  have h1 := (Bk.new (w.alloc (.cells cs 28)) 67 zN).alloc (.cells #[.int .i64 (at' : Int)] 3)
  have h2 := Bk.new (((w.alloc (.cells cs 28)).alloc (.cells zN 67)).alloc (.cells #[.int .i64 (at' : Int)] 3)) 67 (outC k o v wd nm (.slice none 0 0) (.slice (some ⟨w.heap.size + 1 + 1, 0, none⟩) 1 1))
  have h3 := own_made (W := (w.alloc (.cells cs 28)).alloc (.cells zN 67)) (e := 3) (size := 1) (B := w.heap.size) (cs := #[.int .i64 (at' : Int)]) rfl (by simp; omega)
  simp only [World.size_alloc] at h1 h2 h3
  exact ⟨h1.alloc _, ⟨none, 0, _, 1, h2, World.ownsRow_nil _ _ _ _, h3.alloc _⟩, balloc (balloc (balloc hB _) _) _⟩
theorem cellT_one' (x : Ex) (S : SV) : ∀ u ∈ cellT x S, u.oneCell' = true := cellT_one x S
section
variable {w w1 : World} {g : Nat} {t : TypeId} {u0 u1 u2 u3 u4 u5 u6 v0 v1 v2 v3 v4 v5 v6 : Value}
theorem fr7 (w : World) (g : Nat) (v0 v1 v2 v3 v4 v5 v6 : Value) : Fr (fun k => k = g) w (((((((w.setCell ⟨g, 0, none⟩ v0).setCell ⟨g, 1, none⟩ v1).setCell ⟨g, 2, none⟩ v2).setCell ⟨g, 3, none⟩ v3).setCell ⟨g, 4, none⟩ v4).setCell ⟨g, 5, none⟩ v5).setCell ⟨g, 6, none⟩ v6) :=
  (((((((Fr.refl (fun k => k = g) w).setCell (p := ⟨g, 0, none⟩) (.inl rfl) v0).setCell (p := ⟨g, 1, none⟩) (.inl rfl) v1).setCell (p := ⟨g, 2, none⟩) (.inl rfl) v2).setCell (p := ⟨g, 3, none⟩) (.inl rfl) v3).setCell (p := ⟨g, 4, none⟩) (.inl rfl) v4).setCell (p := ⟨g, 5, none⟩) (.inl rfl) v5).setCell (p := ⟨g, 6, none⟩) (.inl rfl) v6
theorem put7 (h : Bk w g t #[u0, u1, u2, u3, u4, u5, u6]) : Bk (((((((w.setCell ⟨g, 0, none⟩ v0).setCell ⟨g, 1, none⟩ v1).setCell ⟨g, 2, none⟩ v2).setCell ⟨g, 3, none⟩ v3).setCell ⟨g, 4, none⟩ v4).setCell ⟨g, 5, none⟩ v5).setCell ⟨g, 6, none⟩ v6) g t #[v0, v1, v2, v3, v4, v5, v6] := by
  have h7 := ((((((h.put 0 v0).put 1 v1).put 2 v2).put 3 v3).put 4 v4).put 5 v5).put 6 v6
  simp only [List.setIfInBounds_toArray, List.set_cons_succ, List.set_cons_zero] at h7
  exact h7
end
theorem heap_le_set {W : World} {n : Nat} (h : n ≤ W.heap.size) (b i : Nat) (v : Value) : n ≤ (W.setCell ⟨b, i, none⟩ v).heap.size := by simpa [World.setCell] using h
theorem natsV_one (l : List Nat) : ∀ u ∈ natsV l, u.oneCell' = true := by
  intro u hu
  unfold natsV at hu
  obtain ⟨n, _, rfl⟩ := List.mem_map.1 hu
  rfl
theorem zip_self (P : List NdV) : ((P.map fun q => q.1.1).zip (P.map fun q => q.2.1)).flatMap (fun p => cellT p.1 p.2) = subV P := by
  unfold subV
  induction P with
  | nil => rfl
  | cons x P ih => rw [List.map_cons, List.map_cons, List.zip_cons_cons, List.flatMap_cons, List.flatMap_cons, ih]
set_option maxRecDepth 100000 in
set_option maxHeartbeats 4000000 in
theorem wholeC {B : Nat} (k o v : Nat) (wd : Int) (nm : List UInt8) (at' : Nat) (A : Option Addr) (n c : Nat) (L : List NdV) (w : World) (h : Hid (NdsAt B w A n L)) (hn : n ≤ 3) (hs : (atsN 0 L).length ≤ 100000000) (hat : at' ≤ 1000000)
    (hk : k ≤ 255) (ho : o ≤ 255) (hv : v ≤ 4294967295) (hw0 : -9223372036854775808 ≤ wd) (hw1 : wd ≤ 9223372036854775807) (hnm : nm.length ≤ 1000000) :
    Calls Tryd.prog 48 #[.agg #[.int .u8 (k : Int), .int .u8 (o : Int), .int .u32 (v : Int), .int .i64 wd, .string (str nm), .slice none 0 0], .int .i64 (at' : Int), .slice A n c] w fun e w' => ∃ S R, e = .returned (nodeV (wholeP k o v wd nm at' (L.map (·.1))) S R) ∧ NdAt B w' (wholeP k o v wd nm at' (L.map (·.1))) S R ∧ Below w.heap.size w w' := by
  have hl := h.out.len
  have HW := Lib.hid (whb0 k o v wd nm at' w #[.int .u8 (k : Int), .int .u8 (o : Int), .int .u32 (v : Int), .int .i64 wd, .string (str nm), .slice none 0 0])
  unfold zN outC at HW
  go_enter Tryd.func48, Tryd.ntmps48
  go_upto_region 2 with fail
  generalize ((((w.alloc (.cells #[.int .u8 (k : Int), .int .u8 (o : Int), .int .u32 (v : Int), .int .i64 wd, .string (str nm), .slice none 0 0] 28)).alloc (.cells #[.int .u8 0, .int .u8 0, .int .u32 0, .int .i64 0, .string ⟨#[]⟩, .slice none 0 0, .slice none 0 0] 67)).alloc (.cells #[.int .i64 (at' : Int)] 3)).alloc (.cells #[.int .u8 (k : Int), .int .u8 (o : Int), .int .u32 (v : Int), .int .i64 wd, .string (str nm), .slice none 0 0, .slice (some ⟨w.heap.size + 1 + 1, 0, none⟩) 1 1] 67)) = W0 at HW ⊢
  obtain ⟨r, hr⟩ : ∃ r, w.heap.size + 1 = r := ⟨_, rfl⟩
  obtain ⟨b, hb⟩ : ∃ b, w.heap.size + 1 + 1 + 1 = b := ⟨_, rfl⟩
  rw [hb, hr] at HW
  rw [hb]
  have hrb : r ≠ b := by omega
  have hwb : w.heap.size ≤ b := by omega
  have hwr : w.heap.size ≤ r := by omega
  rw [hr]
  clear hr hb
  go_upto_region 3 with fail
  go_loopw [16] (fun v16 wr => ∃ (j : Nat) (P : List NdV), j ≤ n ∧ v16 = .int .i64 j ∧ Hid (L.take j = P) ∧ Hid (WhB w r b k o v wd nm at' P wr)) (fun v16 _ => n - (intOf v16).toNat)
  case atStart => exact ⟨0, [], Nat.zero_le _, rfl, rfl, HW⟩
  case round =>
    obtain ⟨j, P, hj, rfl, HP, HWB⟩ := hrel
    clear HW
    by_cases hlt : j < n
    · have e1 : decide ((j : Int) < (n : Int)) = true := by simp; omega
      have hji : (j : Int) < (n : Int) := by omega
      have hrd := h.out.rd.below HWB.out.bel
      obtain ⟨bb, off, q, hA, hx, hbb, hc⟩ := hrd.flat (f := cellNV) cellNV_len (by omega) (i := j) (by omega)
      obtain ⟨⟨ex, l⟩, ⟨SA, Sn, Sc⟩, ⟨QA, Qn, Qc⟩⟩ := q
      have hq := h.out.all _ (List.mem_of_getElem? hx)
      obtain rfl : l.length = Qn := hq.a.len
      have c0 : wr.cell? ⟨bb, off + j * 7, none⟩ = some (.int .u8 (ex.kind : Int)) := hc 0 _ (by omega) rfl
      have c1 : wr.cell? ⟨bb, off + j * 7 + 1, none⟩ = some (.int .u8 (ex.op : Int)) := hc 1 _ (by omega) rfl
      have c2 : wr.cell? ⟨bb, off + j * 7 + 2, none⟩ = some (.int .u32 (ex.value : Int)) := hc 2 _ (by omega) rfl
      have c3 : wr.cell? ⟨bb, off + j * 7 + 3, none⟩ = some (.int .i64 ex.width) := hc 3 _ (by omega) rfl
      have c4 : wr.cell? ⟨bb, off + j * 7 + 4, none⟩ = some (.string (str ex.name)) := hc 4 _ (by omega) rfl
      have c5 : wr.cell? ⟨bb, off + j * 7 + 5, none⟩ = some (.slice SA Sn Sc) := hc 5 _ (by omega) rfl
      have c6 : wr.cell? ⟨bb, off + j * 7 + 6, none⟩ = some (.slice QA l.length Qc) := hc 6 _ (by omega) rfl
      have HX := Lib.hid hx
      have HQ := Lib.hid hq
      have hsum := sum_take L (j + 1)
      rw [take_snoc hx, HP.out] at hsum
      have hsum2 : (atsN at' P).length + l.length ≤ 1000000000 := by
        have h2 : (atsN 0 (P ++ [((ex, l), ⟨SA, Sn, Sc⟩, ⟨QA, l.length, Qc⟩)])).length = (atsN at' P).length + l.length := by rw [atsN_snoc, List.length_append]; rfl
        omega
      have hPl : P.length = j := by rw [← HP.out, List.length_take]; omega
      obtain ⟨A1, k1, A2, k2, h1, h2, h3⟩ := HWB.out.out
      obtain ⟨x0, x1, x2, x3, x4, x5, x6⟩ := cells7 h1
      have hbl : b < wr.heap.size := h1.lt
      have H1 := Lib.hid h1
      have H2 := Lib.hid h2
      have H3 := Lib.hid h3
      subst hA
      have hW1 : Below wr.heap.size wr ((wr.alloc (.cells #[.int .u8 (ex.kind : Int), .int .u8 (ex.op : Int), .int .u32 (ex.value : Int), .int .i64 ex.width, .string (str ex.name), .slice SA Sn Sc, .slice QA l.length Qc] 67)).alloc (.cells #[.int .u8 (ex.kind : Int), .int .u8 (ex.op : Int), .int .u32 (ex.value : Int), .int .i64 ex.width, .string (str ex.name), .slice SA Sn Sc] 28)) := balloc (balloc (Below.refl _ _) _) _
      have HW1 := Lib.hid hW1
      have HBX := Lib.hid ((Bk.new wr 67 #[.int .u8 (ex.kind : Int), .int .u8 (ex.op : Int), .int .u32 (ex.value : Int), .int .i64 ex.width, .string (str ex.name), .slice SA Sn Sc, .slice QA l.length Qc]).alloc (.cells #[.int .u8 (ex.kind : Int), .int .u8 (ex.op : Int), .int .u32 (ex.value : Int), .int .i64 ex.width, .string (str ex.name), .slice SA Sn Sc] 28))
      have HO1 := Lib.hid (own_fr (F := fun _ => False) h2 (Fr.of_below hW1) (fun _ _ h => h))
      have hRD := Rd.new (wr.alloc (.cells #[.int .u8 (ex.kind : Int), .int .u8 (ex.op : Int), .int .u32 (ex.value : Int), .int .i64 ex.width, .string (str ex.name), .slice SA Sn Sc, .slice QA l.length Qc] 67)) #[.int .u8 (ex.kind : Int), .int .u8 (ex.op : Int), .int .u32 (ex.value : Int), .int .i64 ex.width, .string (str ex.name), .slice SA Sn Sc] 28
      rw [World.size_alloc] at hRD
      have HRD := Lib.hid hRD
      have HN9 := Lib.hid (show P.length + 1 ≤ 1000000000 by omega)
      have HBB := Lib.hid (Nat.le_trans HWB.out.bel.size hW1.size)
      have HONE := Lib.hid (cellT_one ex ⟨SA, Sn, Sc⟩)
      have HHQ := Lib.hid hsum2
      clear h1 h2 h3 hW1 hRD hsum hsum2 hq hx hc hrd x0 x1 x2 x3 x4 hPl
      go_wp2_with (first
        | (at_builtin; refine wpList_app el_ex rfl (.tmp 22) (.tmp 25) rfl w.heap.size (.slice A1 P.length k1) P.length (subV P) rfl HO1.out (some ⟨wr.heap.size + 1, 0, none⟩) 1 1 [.int .u8 (ex.kind : Int), .int .u8 (ex.op : Int), .int .u32 (ex.value : Int), .int .i64 ex.width, .string (str ex.name), .slice SA Sn Sc] rfl HRD.out rfl HONE.out HN9.out HBB.out ?_; intro A1' k1' w5 hown hgr hat1; have tok1 : True := trivial; obtain ⟨p1, p2, p3, p4, p5⟩ := HWB.out.push1 (q := ((ex, l), ⟨SA, Sn, Sc⟩, ⟨QA, l.length, Qc⟩)) hrb hwb HW1.out H1.out H2.out H3.out hgr hown; have z5 : w5.cell? ⟨b, 5, none⟩ = some (.slice A1 P.length k1) := p1.cell 5; have z6 : w5.cell? ⟨b, 6, none⟩ = some (.slice A2 (atsN at' P).length k2) := p1.cell 6; have f5 := p1.frozen 5; have y6 : w5.cell? ⟨wr.heap.size, 6, none⟩ = some (.slice QA l.length Qc) := (p5 _ _ HBX.out).cell 6; have hbl5 : b < w5.heap.size := p1.lt; have hne : b ≠ wr.heap.size := Nat.ne_of_lt hbl; have hne' : wr.heap.size ≠ b := (Nat.ne_of_lt hbl).symm; have HP2 := Lib.hid (WhB.push2 (W7 := w5) (q := ((ex, l), ⟨SA, Sn, Sc⟩, ⟨QA, l.length, Qc⟩)) (A1' := A1') (c1' := k1') (A2' := none) (c2' := 0) hrb hwb p1 p2 hown p3 p4); have HPP := Lib.hid (fun w7 a2 d2 => WhB.push2 (W7 := w7) (q := ((ex, l), ⟨SA, Sn, Sc⟩, ⟨QA, l.length, Qc⟩)) (A1' := A1') (c1' := k1') (A2' := a2) (c2' := d2) hrb hwb p1 p2 hown p3 p4); have HB6 := Lib.hid (heap_le_set p4.size b 5 (.slice A1' (P.length + 1) k1')); clear hown hgr hat1 p1 p2 p3 p4 p5)
        | (at_builtin; have _t := tok1; obtain ⟨g1, g2, g3, _⟩ := HP2.out; have HG1 := Lib.hid g1; have HG2 := Lib.hid g2; have HG3 := Lib.hid (g3 _ _ HQ.out.a); refine wpList_app el_in rfl (.tmp 30) (.tmp 32) rfl w.heap.size (.slice A2 (atsN at' P).length k2) (atsN at' P).length (natsV (atsN at' P)) rfl HG2.out QA l.length Qc (natsV l) rfl HG3.out (by rw [Nat.mul_one]; unfold natsV; rw [List.length_map]) (natsV_one l) HHQ.out HB6.out ?_; intro A2' k2' w7 hown hgr hat2; have h9 := (HPP.out w7 A2' k2').2.2.2 hgr hown; have v6 : w7.cell? ⟨b, 6, none⟩ = some (.slice A2 (atsN at' P).length k2) := h9.1.cell 6; have vf := h9.1.frozen 6; have HFIN := Lib.hid h9.2; clear hown hgr hat2 g1 g2 g3 tok1 h9))
      go_roundw
      case rel => exact ⟨j + 1, P ++ [((ex, l), ⟨SA, Sn, Sc⟩, ⟨QA, l.length, Qc⟩)], by omega, by go_num, (take_snoc HX.out).trans (by rw [HP.out]), HFIN⟩
      case measure => simp [intOf]; omega
    · obtain rfl : j = n := by omega
      have e1 : decide ((j : Int) < (j : Int)) = false := by simp
      obtain rfl : L = P := by rw [← HP.out]; exact (List.take_of_length_le (by omega)).symm
      obtain ⟨A1, k1, A2, k2, h1, h2, h3⟩ := HWB.out.out
      obtain ⟨x0, x1, x2, x3, x4, x5, x6⟩ := cells7 h1
      have hrr := HWB.out.res
      unfold zN at hrr
      obtain ⟨y0, y1, y2, y3, y4, y5, y6⟩ := cells7 hrr
      obtain ⟨f0, f1, f2, f3, f4, f5, f6⟩ := froz7 hrr
      have H2 := Lib.hid h2
      have H3 := Lib.hid h3
      have HRR := Lib.hid hrr
      have hb' : b ≠ r := Ne.symm hrb
      clear h1 h2 h3 hrr
      have HK := Lib.hid (put7 (v0 := .int .u8 (k : Int)) (v1 := .int .u8 (o : Int)) (v2 := .int .u32 (v : Int)) (v3 := .int .i64 wd) (v4 := .string (str nm)) (v5 := .slice A1 j k1) (v6 := .slice A2 (atsN at' L).length k2) HRR.out)
      have HF := Lib.hid (fr7 wr r (.int .u8 (k : Int)) (.int .u8 (o : Int)) (.int .u32 (v : Int)) (.int .i64 wd) (.string (str nm)) (.slice A1 j k1) (.slice A2 (atsN at' L).length k2))
      have HLJ := Lib.hid hl
      go_wp2_with fail
      generalize (((((((wr.setCell ⟨r, 0, none⟩ (.int .u8 (k : Int))).setCell ⟨r, 1, none⟩ (.int .u8 (o : Int))).setCell ⟨r, 2, none⟩ (.int .u32 (v : Int))).setCell ⟨r, 3, none⟩ (.int .i64 wd)).setCell ⟨r, 4, none⟩ (.string (str nm))).setCell ⟨r, 5, none⟩ (.slice A1 j k1)).setCell ⟨r, 6, none⟩ (.slice A2 (atsN at' L).length k2)) = WF at HK HF ⊢
      obtain ⟨r0, r1, r2, r3, r4, r5, r6⟩ := cells7 HK.out
      refine bodyPost_ret (v := .agg #[.int .u8 (k : Int), .int .u8 (o : Int), .int .u32 (v : Int), .int .i64 wd, .string (str nm), .slice A1 j k1, .slice A2 (atsN at' L).length k2]) (by simp [results, Tryd.results48, go_sem, r0, r1, r2, r3, r4, r5, r6]) rfl ?_
      have nb : ∀ {e : TypeId} {size n : Nat} {V : Value} {xs : List Value}, wr.ownsRow w.heap.size e size V n xs → e ≠ 67 → ∀ i, V.ownBlock = some i → ¬ i = r := fun ho he i hi e => own_ne ho HWB.out.res he (by rw [hi, e])
      have o2 := own_fr H2.out HF.out (nb H2.out (by decide))
      have o3 := own_fr H3.out HF.out (nb H3.out (by decide))
      have hB : Below w.heap.size w WF := HWB.out.bel.trans (HF.out.below w.heap.size HWB.out.bel.size (fun i hi e => by omega))
      have hsub : (wholeP k o v wd nm at' (L.map (·.1))).1.subs = L.map fun q => q.1.1 := by
        show ((L.map (·.1)).map (·.1)) = _
        rw [List.map_map]
        rfl
      have hats : (wholeP k o v wd nm at' (L.map (·.1))).2 = atsN at' L := by
        show at' :: (L.map (·.1)).flatMap (·.2) = _
        unfold atsN
        rw [List.flatMap_map]
      refine ⟨⟨A1, j, k1⟩, ⟨A2, (atsN at' L).length, k2⟩, rfl, ⟨.mk _ _ (L.map fun q => q.2.1) ⟨hk, ho, hv, hw0, hw1, hnm, ?_⟩ ?_ ?_ (fun b off e => Nat.le_trans h.out.base (own_base o2 e)) ?_ ?_, ⟨?_, ?_, ?_, ?_⟩, Nat.le_trans h.out.base hB.size⟩, hB⟩
      · rw [hsub, List.length_map]; omega
      · rw [hsub, List.length_map, List.length_map]
      · rw [hsub, List.length_map]; exact hl.symm
      · rw [hsub, zip_self]
        exact RdT.of_own (hl ▸ o2)
      · intro i y vv hy hvv
        rw [hsub, List.getElem?_map] at hy
        rw [List.getElem?_map] at hvv
        cases hq : L[i]? with
        | none => rw [hq] at hy; cases hy
        | some q =>
          rw [hq] at hy hvv
          injection hy with hy
          injection hvv with hvv
          subst hy hvv
          exact ((h.out.all q (List.mem_of_getElem? hq)).below hB).t
      · rw [hats]; exact RdT.of_own o3
      · rw [hats]
      · rw [hats]
        intro m hm
        unfold atsN at hm
        rcases List.mem_cons.1 hm with rfl | hm
        · exact hat
        · obtain ⟨q, hq, hmq⟩ := List.mem_flatMap.1 hm
          exact (h.out.all q hq).a.all m hmq
      · show (atsN at' L).length ≤ _
        rw [ats_len at' 0]
        exact hs
end Go.Proofs.YtehcpcpmcngnjaaDoor
