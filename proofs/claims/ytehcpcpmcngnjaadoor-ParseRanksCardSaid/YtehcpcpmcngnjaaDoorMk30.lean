/-
  The makers of expressions: name, num, binary; ParseRanks' own two.
-/
import Derived.Test.YtehcpcpmcngnjaaDoorSays30
import Derived.Test.YtehcpcpmcngnjaaDoorRankP
set_option linter.unusedVariables false
set_option linter.unusedSimpArgs false
namespace Go.Proofs.YtehcpcpmcngnjaaDoor
open Go.RowKit Go.PlainAid

theorem RdT.fr' {w w' : World} {A : Option Addr} {t : TypeId} {xs : List Value} {F : Nat → Prop} (h : RdT w A t xs) (hf : Fr F w w') (hA : ∀ b off, A = some ⟨b, off, none⟩ → ¬ F b) : RdT w' A t xs :=
  ⟨fun hx => by
    obtain ⟨b, off, cs, t0, fr, e, hb, hc⟩ := h.rd hx
    exact ⟨b, off, cs, t0, fr, e, (hf.block b (lt_of_heap hb) (hA b off e)).trans hb, hc⟩,
  fun b off he => by
    obtain ⟨cs, fr, hb⟩ := h.ty b off he
    exact ⟨cs, fr, (hf.block b (lt_of_heap hb) (hA b off he)).trans hb⟩⟩
/-- A new expression over a row of others that lie in the world w already. -/
theorem tree_mk {B : Nat} {W : World} {x : Ex} {A : Option Addr} {c : Nat} (L : List (Ex × SV)) (ok : ExOk x) (hx : x.subs = L.map fun q => q.1) (hrd : RdT W A 28 (L.flatMap fun q => cellT q.1 q.2)) (hA : ∀ b off, A = some ⟨b, off, none⟩ → B ≤ b) (hL : ∀ q ∈ L, TrT B W q.1 q.2) : TrT B W x ⟨A, L.length, c⟩ := by
  have hz : ∀ L : List (Ex × SV), ((L.map fun q => q.1).zip (L.map fun q => q.2)).flatMap (fun p => cellT p.1 p.2) = L.flatMap fun q => cellT q.1 q.2 := fun L => by
    induction L with
    | nil => rfl
    | cons x P ih => rw [List.map_cons, List.map_cons, List.zip_cons_cons, List.flatMap_cons, List.flatMap_cons, ih]
  refine .mk x _ (L.map fun q => q.2) ok (by rw [hx, List.length_map, List.length_map]) (by rw [hx, List.length_map]) hA ?_ ?_
  · rw [hx, hz]
    exact hrd
  · intro i y v hy hv
    rw [hx, List.getElem?_map] at hy
    rw [List.getElem?_map] at hv
    cases hq : L[i]? with
    | none => rw [hq] at hy; cases hy
    | some q =>
      rw [hq] at hy hv
      injection hy with hy
      injection hv with hv
      subst hy hv
      exact hL q (List.mem_of_getElem? hq)
set_option maxRecDepth 100000 in
theorem nmC (s : ByteArray) (w : World) : Calls Tryd.prog 5 #[.string s] w fun e w' => e = .returned (.agg #[.int .u8 2, .int .u8 0, .int .u32 0, .int .i64 0, .string s, .slice none 0 0]) ∧ Below w.heap.size w w' := by
  have HB0 : Hid (Below w.heap.size w (w.alloc (.cells #[.int .u8 2, .int .u8 0, .int .u32 0, .int .i64 0, .string s, .slice none 0 0] 28))) := pokeB'
  have h0 := Bk.new w 28 #[.int .u8 2, .int .u8 0, .int .u32 0, .int .i64 0, .string s, .slice none 0 0]
  obtain ⟨r0, r1, r2, r3, r4, r5⟩ := cells6 h0
  clear h0
  go_enter Tryd.func5, Tryd.ntmps5
  go_wp2_with fail
  refine bodyPost_ret (v := .agg #[.int .u8 2, .int .u8 0, .int .u32 0, .int .i64 0, .string s, .slice none 0 0]) (by simp [results, Tryd.results5, go_sem, r0, r1, r2, r3, r4, r5]) rfl ?_
  exact ⟨rfl, HB0.out⟩
set_option maxRecDepth 100000 in
theorem nuC (v : Int) (k : Int) (w : World) : Calls Tryd.prog 12 #[.int .u32 v, .int .i64 k] w fun e w' => e = .returned (.agg #[.int .u8 1, .int .u8 0, .int .u32 v, .int .i64 k, .string ⟨#[]⟩, .slice none 0 0]) ∧ Below w.heap.size w w' := by
  have HB0 : Hid (Below w.heap.size w (w.alloc (.cells #[.int .u8 1, .int .u8 0, .int .u32 v, .int .i64 k, .string ⟨#[]⟩, .slice none 0 0] 28))) := pokeB'
  have h0 := Bk.new w 28 #[.int .u8 1, .int .u8 0, .int .u32 v, .int .i64 k, .string ⟨#[]⟩, .slice none 0 0]
  obtain ⟨r0, r1, r2, r3, r4, r5⟩ := cells6 h0
  clear h0
  go_enter Tryd.func12, Tryd.ntmps12
  go_wp2_with fail
  refine bodyPost_ret (v := .agg #[.int .u8 1, .int .u8 0, .int .u32 v, .int .i64 k, .string ⟨#[]⟩, .slice none 0 0]) (by simp [results, Tryd.results12, go_sem, r0, r1, r2, r3, r4, r5]) rfl ?_
  exact ⟨rfl, HB0.out⟩
set_option maxRecDepth 100000 in
set_option maxHeartbeats 4000000 in
theorem biC (B : Nat) (o : Nat) (x y : Ex) (S V : SV) (ho : o ≤ 255) (w : World) (hB : B ≤ w.heap.size) (h0 : Hid (TrT B w x S)) (h1 : Hid (TrT B w y V)) : Calls Tryd.prog 7 #[.int .u8 (o : Int), .agg #[.int .u8 (x.kind : Int), .int .u8 (x.op : Int), .int .u32 (x.value : Int), .int .i64 x.width, .string (str x.name), .slice S.A S.n S.c], .agg #[.int .u8 (y.kind : Int), .int .u8 (y.op : Int), .int .u32 (y.value : Int), .int .i64 y.width, .string (str y.name), .slice V.A V.n V.c]] w fun e w' => ∃ U : SV, e = .returned (.agg #[.int .u8 6, .int .u8 (o : Int), .int .u32 0, .int .i64 0, .string ⟨#[]⟩, .slice U.A U.n U.c]) ∧ TrT B w' (binX o x y) U ∧ Below w.heap.size w w' := by
  have hb : Below w.heap.size w ((((w.alloc (.cells #[.int .u8 (x.kind : Int), .int .u8 (x.op : Int), .int .u32 (x.value : Int), .int .i64 x.width, .string (str x.name), .slice S.A S.n S.c] 28)).alloc (.cells #[.int .u8 (y.kind : Int), .int .u8 (y.op : Int), .int .u32 (y.value : Int), .int .i64 y.width, .string (str y.name), .slice V.A V.n V.c] 28)).alloc (.cells #[.int .u8 6, .int .u8 (o : Int), .int .u32 0, .int .i64 0, .string ⟨#[]⟩, .slice (some ⟨w.heap.size + 1 + 1 + 1, 0, none⟩) 2 2] 28)).alloc (.cells #[.int .u8 (x.kind : Int), .int .u8 (x.op : Int), .int .u32 (x.value : Int), .int .i64 x.width, .string (str x.name), .slice S.A S.n S.c, .int .u8 (y.kind : Int), .int .u8 (y.op : Int), .int .u32 (y.value : Int), .int .i64 y.width, .string (str y.name), .slice V.A V.n V.c] 28)) := balloc (balloc (balloc (balloc (Below.refl _ _) _) _) _) _
  have h1 := (Bk.new ((w.alloc (.cells #[.int .u8 (x.kind : Int), .int .u8 (x.op : Int), .int .u32 (x.value : Int), .int .i64 x.width, .string (str x.name), .slice S.A S.n S.c] 28)).alloc (.cells #[.int .u8 (y.kind : Int), .int .u8 (y.op : Int), .int .u32 (y.value : Int), .int .i64 y.width, .string (str y.name), .slice V.A V.n V.c] 28)) 28 #[.int .u8 6, .int .u8 (o : Int), .int .u32 0, .int .i64 0, .string ⟨#[]⟩, .slice (some ⟨w.heap.size + 1 + 1 + 1, 0, none⟩) 2 2]).alloc (.cells #[.int .u8 (x.kind : Int), .int .u8 (x.op : Int), .int .u32 (x.value : Int), .int .i64 x.width, .string (str x.name), .slice S.A S.n S.c, .int .u8 (y.kind : Int), .int .u8 (y.op : Int), .int .u32 (y.value : Int), .int .i64 y.width, .string (str y.name), .slice V.A V.n V.c] 28)
  have h2 := RdT.new (((w.alloc (.cells #[.int .u8 (x.kind : Int), .int .u8 (x.op : Int), .int .u32 (x.value : Int), .int .i64 x.width, .string (str x.name), .slice S.A S.n S.c] 28)).alloc (.cells #[.int .u8 (y.kind : Int), .int .u8 (y.op : Int), .int .u32 (y.value : Int), .int .i64 y.width, .string (str y.name), .slice V.A V.n V.c] 28)).alloc (.cells #[.int .u8 6, .int .u8 (o : Int), .int .u32 0, .int .i64 0, .string ⟨#[]⟩, .slice (some ⟨w.heap.size + 1 + 1 + 1, 0, none⟩) 2 2] 28)) #[.int .u8 (x.kind : Int), .int .u8 (x.op : Int), .int .u32 (x.value : Int), .int .i64 x.width, .string (str x.name), .slice S.A S.n S.c, .int .u8 (y.kind : Int), .int .u8 (y.op : Int), .int .u32 (y.value : Int), .int .i64 y.width, .string (str y.name), .slice V.A V.n V.c] 28
  simp only [World.size_alloc] at h1 h2
  have HB := Lib.hid hb
  have H2 := Lib.hid h2
  obtain ⟨r0, r1, r2, r3, r4, r5⟩ := cells6 h1
  clear h1 h2 hb
  go_enter Tryd.func7, Tryd.ntmps7
  go_wp2_with fail
  refine bodyPost_ret (v := .agg #[.int .u8 6, .int .u8 (o : Int), .int .u32 0, .int .i64 0, .string ⟨#[]⟩, .slice (some ⟨w.heap.size + 1 + 1 + 1, 0, none⟩) 2 2]) (by simp [results, Tryd.results7, go_sem, r0, r1, r2, r3, r4, r5]) rfl ?_
  refine ⟨⟨some ⟨w.heap.size + 1 + 1 + 1, 0, none⟩, 2, 2⟩, rfl, tree_mk (B := B) [(x, S), (y, V)] ⟨(by show (6:Nat) ≤ 255; decide), ho, (by show (0:Nat) ≤ 4294967295; decide), (by show (-9223372036854775808 : Int) ≤ 0; decide), (by show (0:Int) ≤ 9223372036854775807; decide), (by show (0:Nat) ≤ 1000000; decide), (by show (2:Nat) ≤ 1000; decide)⟩ rfl H2.out (fun b off e => ?_) (fun q hq => ?_), HB.out⟩
  · injection e with e
    injection e with e
    omega
  · simp only [List.mem_cons, List.not_mem_nil, or_false] at hq
    rcases hq with rfl | rfl
    · exact h0.out.bel HB.out
    · exact h1.out.bel HB.out
set_option maxRecDepth 100000 in
set_option maxHeartbeats 4000000 in
theorem negC (B : Nat) (x : Ex) (S : SV) (w : World) (hB : B ≤ w.heap.size) (h0 : Hid (TrT B w x S)) : Calls Tryd.prog 9 #[.agg #[.int .u8 (x.kind : Int), .int .u8 (x.op : Int), .int .u32 (x.value : Int), .int .i64 x.width, .string (str x.name), .slice S.A S.n S.c]] w fun e w' => ∃ U : SV, e = .returned (.agg #[.int .u8 5, .int .u8 2, .int .u32 0, .int .i64 0, .string ⟨#[]⟩, .slice U.A U.n U.c]) ∧ TrT B w' (unX 2 x) U ∧ Below w.heap.size w w' := by
  have hb : Below w.heap.size w (((w.alloc (.cells #[.int .u8 (x.kind : Int), .int .u8 (x.op : Int), .int .u32 (x.value : Int), .int .i64 x.width, .string (str x.name), .slice S.A S.n S.c] 28)).alloc (.cells #[.int .u8 5, .int .u8 2, .int .u32 0, .int .i64 0, .string ⟨#[]⟩, .slice (some ⟨w.heap.size + 1 + 1, 0, none⟩) 1 1] 28)).alloc (.cells #[.int .u8 (x.kind : Int), .int .u8 (x.op : Int), .int .u32 (x.value : Int), .int .i64 x.width, .string (str x.name), .slice S.A S.n S.c] 28)) := balloc (balloc (balloc (Below.refl _ _) _) _) _
  have h1 := (Bk.new (w.alloc (.cells #[.int .u8 (x.kind : Int), .int .u8 (x.op : Int), .int .u32 (x.value : Int), .int .i64 x.width, .string (str x.name), .slice S.A S.n S.c] 28)) 28 #[.int .u8 5, .int .u8 2, .int .u32 0, .int .i64 0, .string ⟨#[]⟩, .slice (some ⟨w.heap.size + 1 + 1, 0, none⟩) 1 1]).alloc (.cells #[.int .u8 (x.kind : Int), .int .u8 (x.op : Int), .int .u32 (x.value : Int), .int .i64 x.width, .string (str x.name), .slice S.A S.n S.c] 28)
  have h2 := RdT.new ((w.alloc (.cells #[.int .u8 (x.kind : Int), .int .u8 (x.op : Int), .int .u32 (x.value : Int), .int .i64 x.width, .string (str x.name), .slice S.A S.n S.c] 28)).alloc (.cells #[.int .u8 5, .int .u8 2, .int .u32 0, .int .i64 0, .string ⟨#[]⟩, .slice (some ⟨w.heap.size + 1 + 1, 0, none⟩) 1 1] 28)) #[.int .u8 (x.kind : Int), .int .u8 (x.op : Int), .int .u32 (x.value : Int), .int .i64 x.width, .string (str x.name), .slice S.A S.n S.c] 28
  simp only [World.size_alloc] at h1 h2
  have HB := Lib.hid hb
  have H2 := Lib.hid h2
  obtain ⟨r0, r1, r2, r3, r4, r5⟩ := cells6 h1
  clear h1 h2 hb
  go_enter Tryd.func9, Tryd.ntmps9
  go_wp2_with fail
  refine bodyPost_ret (v := .agg #[.int .u8 5, .int .u8 2, .int .u32 0, .int .i64 0, .string ⟨#[]⟩, .slice (some ⟨w.heap.size + 1 + 1, 0, none⟩) 1 1]) (by simp [results, Tryd.results9, go_sem, r0, r1, r2, r3, r4, r5]) rfl ?_
  refine ⟨⟨some ⟨w.heap.size + 1 + 1, 0, none⟩, 1, 1⟩, rfl, tree_mk (B := B) [(x, S)] ⟨(by show (5:Nat) ≤ 255; decide), (by show (2:Nat) ≤ 255; decide), (by show (0:Nat) ≤ 4294967295; decide), (by show (-9223372036854775808 : Int) ≤ 0; decide), (by show (0:Int) ≤ 9223372036854775807; decide), (by show (0:Nat) ≤ 1000000; decide), (by show (1:Nat) ≤ 1000; decide)⟩ rfl H2.out (fun b off e => ?_) (fun q hq => ?_), HB.out⟩
  · injection e with e
    injection e with e
    omega
  · simp only [List.mem_cons, List.not_mem_nil, or_false] at hq
    subst hq
    exact h0.out.bel HB.out
set_option maxRecDepth 100000 in
set_option maxHeartbeats 4000000 in
theorem casC (B : Nat) (x : Ex) (S : SV) (w : World) (hB : B ≤ w.heap.size) (h0 : Hid (TrT B w x S)) : Calls Tryd.prog 10 #[.agg #[.int .u8 (x.kind : Int), .int .u8 (x.op : Int), .int .u32 (x.value : Int), .int .i64 x.width, .string (str x.name), .slice S.A S.n S.c]] w fun e w' => ∃ U : SV, e = .returned (.agg #[.int .u8 8, .int .u8 0, .int .u32 0, .int .i64 3, .string ⟨#[]⟩, .slice U.A U.n U.c]) ∧ TrT B w' (castX 3 x) U ∧ Below w.heap.size w w' := by
  have hb : Below w.heap.size w (((w.alloc (.cells #[.int .u8 (x.kind : Int), .int .u8 (x.op : Int), .int .u32 (x.value : Int), .int .i64 x.width, .string (str x.name), .slice S.A S.n S.c] 28)).alloc (.cells #[.int .u8 8, .int .u8 0, .int .u32 0, .int .i64 3, .string ⟨#[]⟩, .slice (some ⟨w.heap.size + 1 + 1, 0, none⟩) 1 1] 28)).alloc (.cells #[.int .u8 (x.kind : Int), .int .u8 (x.op : Int), .int .u32 (x.value : Int), .int .i64 x.width, .string (str x.name), .slice S.A S.n S.c] 28)) := balloc (balloc (balloc (Below.refl _ _) _) _) _
  have h1 := (Bk.new (w.alloc (.cells #[.int .u8 (x.kind : Int), .int .u8 (x.op : Int), .int .u32 (x.value : Int), .int .i64 x.width, .string (str x.name), .slice S.A S.n S.c] 28)) 28 #[.int .u8 8, .int .u8 0, .int .u32 0, .int .i64 3, .string ⟨#[]⟩, .slice (some ⟨w.heap.size + 1 + 1, 0, none⟩) 1 1]).alloc (.cells #[.int .u8 (x.kind : Int), .int .u8 (x.op : Int), .int .u32 (x.value : Int), .int .i64 x.width, .string (str x.name), .slice S.A S.n S.c] 28)
  have h2 := RdT.new ((w.alloc (.cells #[.int .u8 (x.kind : Int), .int .u8 (x.op : Int), .int .u32 (x.value : Int), .int .i64 x.width, .string (str x.name), .slice S.A S.n S.c] 28)).alloc (.cells #[.int .u8 8, .int .u8 0, .int .u32 0, .int .i64 3, .string ⟨#[]⟩, .slice (some ⟨w.heap.size + 1 + 1, 0, none⟩) 1 1] 28)) #[.int .u8 (x.kind : Int), .int .u8 (x.op : Int), .int .u32 (x.value : Int), .int .i64 x.width, .string (str x.name), .slice S.A S.n S.c] 28
  simp only [World.size_alloc] at h1 h2
  have HB := Lib.hid hb
  have H2 := Lib.hid h2
  obtain ⟨r0, r1, r2, r3, r4, r5⟩ := cells6 h1
  clear h1 h2 hb
  go_enter Tryd.func10, Tryd.ntmps10
  go_wp2_with fail
  refine bodyPost_ret (v := .agg #[.int .u8 8, .int .u8 0, .int .u32 0, .int .i64 3, .string ⟨#[]⟩, .slice (some ⟨w.heap.size + 1 + 1, 0, none⟩) 1 1]) (by simp [results, Tryd.results10, go_sem, r0, r1, r2, r3, r4, r5]) rfl ?_
  refine ⟨⟨some ⟨w.heap.size + 1 + 1, 0, none⟩, 1, 1⟩, rfl, tree_mk (B := B) [(x, S)] ⟨(by show (8:Nat) ≤ 255; decide), (by show (0:Nat) ≤ 255; decide), (by show (0:Nat) ≤ 4294967295; decide), (by show (-9223372036854775808 : Int) ≤ 3; decide), (by show (3:Int) ≤ 9223372036854775807; decide), (by show (0:Nat) ≤ 1000000; decide), (by show (1:Nat) ≤ 1000; decide)⟩ rfl H2.out (fun b off e => ?_) (fun q hq => ?_), HB.out⟩
  · injection e with e
    injection e with e
    omega
  · simp only [List.mem_cons, List.not_mem_nil, or_false] at hq
    subst hq
    exact h0.out.bel HB.out
end Go.Proofs.YtehcpcpmcngnjaaDoor
