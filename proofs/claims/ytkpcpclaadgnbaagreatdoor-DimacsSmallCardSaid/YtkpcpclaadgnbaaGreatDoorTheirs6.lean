/-
  salvorlaw05.Theirs.
-/
import Derived.Test.YtkpcpclaadgnbaaGreatDoorRefR6
import Derived.Test.YtkpcpclaadgnbaaGreatDoorRefE6
import Derived.Test.YtkpcpclaadgnbaaGreatDoorOf6
set_option linter.unusedVariables false
set_option linter.unusedSimpArgs false
namespace Go.Proofs.YtkpcpclaadgnbaaGreatDoor
open Go.RowKit

/-- A formula under way: its box, its row. -/
structure FmQ (w0 : World) (p : Nat) (v : Int) (A : Option Addr) (c : Nat) (Q : List (SV × List Int)) (C : List (List Int)) (W : World) : Prop where
  box : Bk W p 69 #[.int .i64 v, .slice A C.length c]
  own : W.ownsRow (p + 1) 61 1 (.slice A C.length c) C.length (Q.map slV)
  cls : clsOf Q = C
  rows : ∀ q ∈ Q, RowQ W W.heap.size q
  bel : Below w0.heap.size w0 W
theorem FmQ.push {w0 W W1 W3 : World} {p : Nat} {v : Int} {A : Option Addr} {c : Nat} {Q : List (SV × List Int)} {C : List (List Int)} {l : List Int} {A2 : Option Addr} {n2 c2 : Nat} {A' : Option Addr} {c' : Nat} (h : FmQ w0 p v A c Q C W) (hp : w0.heap.size ≤ p) (hb : Below W.heap.size W W1)
    (hl : l.length = n2) (hn : n2 ≤ 100000000) (hi : ∀ u ∈ l, I64 u) {B : Nat} (ho : W1.ownsRow B 3 1 (.slice A2 n2 c2) n2 (l.map (Value.int .i64)))
    (hg : (W1.alloc (.cells #[.slice A2 n2 c2] 61)).grownBy W3 (Value.slice A C.length c).ownBlock) (hw : W3.ownsRow (p + 1) 61 1 (.slice A' (C.length + 1) c') (C.length + 1) (Q.map slV ++ [.slice A2 n2 c2])) :
    FmQ w0 p v A' c' (Q ++ [(⟨A2, n2, c2⟩, l)]) (C ++ [l]) (W3.setCell ⟨p, 1, none⟩ (.slice A' (C.length + 1) c')) := by
  have hba : Below W.heap.size W (W1.alloc (.cells #[.slice A2 n2 c2] 61)) := balloc hb _
  have own' : (W1.alloc (.cells #[.slice A2 n2 c2] 61)).ownsRow (p + 1) 61 1 (.slice A C.length c) C.length (Q.map slV) := own_fr (F := fun _ => False) h.own (Fr.of_below hba) (fun _ _ h => h)
  have hs : ∀ {k : Nat}, (Value.slice A C.length c).ownBlock = some k → p + 1 ≤ k := fun hk => (own_typed h.own _ hk).1
  have hx4 : Bk W3 p 69 #[.int .i64 v, .slice A C.length c] := (bkbel h.box hba).grown hg (fun e => by have := hs e.symm; omega)
  have hf : Fr (fun k => k = p ∨ (Value.slice A C.length c).ownBlock = some k) (W1.alloc (.cells #[.slice A2 n2 c2] 61)) (W3.setCell ⟨p, 1, none⟩ (.slice A' (C.length + 1) c')) :=
    ((Fr.refl (fun k => k = p ∨ (Value.slice A C.length c).ownBlock = some k) _).grown hg (fun k hk => .inl (.inr hk))).setCell (p := ⟨p, 1, none⟩) (.inl (.inl rfl)) _
  have nl : ∀ {k : Nat} {cs : Array Value} {fr : Nat × Nat}, (W1.alloc (.cells #[.slice A2 n2 c2] 61)).heap[k]? = some (.cells cs 3 fr) → ¬ (k = p ∨ (Value.slice A C.length c).ownBlock = some k) := fun hk hq => by
    rcases hq with rfl | hq
    · have h1 : (W1.alloc (.cells #[.slice A2 n2 c2] 61)).heap[_]? = _ := bkbel h.box hba
      rw [h1] at hk
      injection hk with hk
      injection hk with _ ht
      exact absurd ht (by decide)
    · obtain ⟨_, cs', h2⟩ := own_typed own' _ hq
      have h1 : (W1.alloc (.cells #[.slice A2 n2 c2] 61)).heap[_]? = _ := h2
      rw [h1] at hk
      injection hk with hk
      injection hk with _ ht
      exact absurd ht (by decide)
  refine ⟨?_, ?_, ?_, fun q hq => ?_, ?_⟩
  · rw [List.length_append]
    exact hx4.put 1 _
  · rw [List.length_append, List.map_append]
    exact own_fr hw ((Fr.refl (fun k => k = p) W3).setCell (p := ⟨p, 1, none⟩) (.inl rfl) _) (fun k hk e => by have := (own_typed hw k hk).1; omega)
  · have h1 := h.cls
    unfold clsOf at h1 ⊢
    rw [List.map_append, h1]
    rfl
  · rcases List.mem_append.1 hq with hq | hq
    · exact ((((h.rows q hq).fr (Fr.of_below (F := fun _ => False) hba) (fun _ _ _ _ _ h => h)).fr hf (fun k cs fr _ hk => nl hk)).up (Nat.le_trans hba.size hf.size))
    · obtain rfl := List.mem_singleton.1 hq
      have ho1 := ho.alloc (.cells #[.slice A2 n2 c2] 61)
      have hr : RowQ (W1.alloc (.cells #[.slice A2 n2 c2] 61)) (W1.alloc (.cells #[.slice A2 n2 c2] 61)).heap.size (⟨A2, n2, c2⟩, l) := ⟨⟨Rd.of_own ho1, hl, hi, hn⟩, fun b' off he => by
        obtain ⟨_, cs, fr, h2⟩ := rd_own ho1 b' off he
        exact ⟨lt_of_heap h2, cs, fr, h2⟩⟩
      exact (hr.fr hf (fun k cs fr _ hk => nl hk)).up hf.size
  · exact (bthen h.bel hba).trans (hf.below w0.heap.size (by have := h.bel.size; have := hba.size; omega) (fun k hk e => by
      rcases e with rfl | e
      · omega
      · have := hs e; omega))
theorem FmQ.out {w0 W : World} {p : Nat} {v : Int} {A : Option Addr} {c : Nat} {Q : List (SV × List Int)} {C : List (List Int)} (h : FmQ w0 p v A c Q C W) (hl : C.length ≤ 100000000) : ClsAt W A C.length Q :=
  ⟨Rd.of_own h.own, by rw [← clsOf_len, h.cls], fun i q hq => (h.rows q (List.mem_of_getElem? hq)).at', hl⟩
theorem FmQ.drew {w0 W : World} {p : Nat} {v : Int} {A : Option Addr} {c : Nat} {Q : List (SV × List Int)} {C : List (List Int)} (h : FmQ w0 p v A c Q C W) : FmQ w0 p v A c Q C W.drew := ⟨h.box, h.own, h.cls, fun q hq => ⟨(h.rows q hq).at', (h.rows q hq).ty⟩, h.bel.drew⟩
theorem FmQ.fin {w0 W : World} {p r : Nat} {v : Int} {A : Option Addr} {c : Nat} {Q : List (SV × List Int)} {C : List (List Int)} {cs : Array Value} (h : FmQ w0 p v A c Q C W) (hl : C.length ≤ 100000000) (hr : Bk W r 69 cs) (u u' : Value) : ClsAt ((W.setCell ⟨r, 0, none⟩ u).setCell ⟨r, 1, none⟩ u') A C.length Q := by
  have hf : Fr (fun k => k = r) W ((W.setCell ⟨r, 0, none⟩ u).setCell ⟨r, 1, none⟩ u') := fr_put2
  have nt : ∀ {k : Nat} {e : TypeId} {ds : Array Value} {fr : Nat × Nat}, W.heap[k]? = some (.cells ds e fr) → 69 ≠ e → ¬ k = r := fun hk hne e => by
    subst e
    have h3 : W.heap[_]? = _ := hr
    rw [h3] at hk
    injection hk with hk
    injection hk with _ ht
    exact hne ht
  refine ⟨Rd.of_own (own_fr h.own hf (fun k hk => ?_)), by rw [← clsOf_len, h.cls], fun i q hq => ((h.rows q (List.mem_of_getElem? hq)).fr hf (fun k ds fr _ hk => nt hk (by decide))).at', hl⟩
  obtain ⟨_, ds, hk2⟩ := own_typed h.own k hk
  exact nt hk2 (by decide)
set_option maxRecDepth 100000 in
set_option maxHeartbeats 2000000 in
theorem theirsC (v : Int) (A0 : Option Addr) (n c0 : Nat) (L : List (SV × List Int)) (w : World) (h : Hid (ClsAt w A0 n L)) (hn : n ≤ 1000) :
    Calls Tryz.prog 35 #[.agg #[.int .i64 v, .slice A0 n c0]] w (FmPost w ⟨v, clsOf L⟩) := by
  obtain ⟨LL, hLL⟩ : ∃ LL, clsOf L = LL := ⟨_, rfl⟩
  have HLL := Lib.hid hLL
  have HLN : Hid (LL.length = n) := by show _ = _; rw [← hLL, clsOf_len]; exact h.out.len
  rw [hLL]
  clear hLL
  have HP0 : Hid (Bk (((w.alloc (.cells #[.int .i64 v, .slice A0 n c0] 24)).alloc (.cells #[.int .i64 0, .slice none 0 0] 69)).alloc (.cells #[.int .i64 v, .slice none 0 0] 69)) w.heap.size 24 #[.int .i64 v, .slice A0 n c0]) := ((Bk.new w _ _).alloc _).alloc _
  have hr0 := (Bk.new (w.alloc (.cells #[.int .i64 v, .slice A0 n c0] 24)) 69 #[.int .i64 0, .slice none 0 0]).alloc (.cells #[.int .i64 v, .slice none 0 0] 69)
  rw [World.size_alloc] at hr0
  have HR0 : Hid (Bk (((w.alloc (.cells #[.int .i64 v, .slice A0 n c0] 24)).alloc (.cells #[.int .i64 0, .slice none 0 0] 69)).alloc (.cells #[.int .i64 v, .slice none 0 0] 69)) (w.heap.size + 1) 69 #[.int .i64 0, .slice none 0 0]) := hr0
  have HB0 : Hid (Below w.heap.size w (((w.alloc (.cells #[.int .i64 v, .slice A0 n c0] 24)).alloc (.cells #[.int .i64 0, .slice none 0 0] 69)).alloc (.cells #[.int .i64 v, .slice none 0 0] 69))) := balloc (balloc (balloc (Below.refl _ _) _) _) _
  have hx0 := Bk.new ((w.alloc (.cells #[.int .i64 v, .slice A0 n c0] 24)).alloc (.cells #[.int .i64 0, .slice none 0 0] 69)) 69 #[.int .i64 v, .slice none 0 0]
  rw [World.size_alloc, World.size_alloc] at hx0
  have HF0 : Hid (FmQ w (w.heap.size + 1 + 1) v none 0 [] [] (((w.alloc (.cells #[.int .i64 v, .slice A0 n c0] 24)).alloc (.cells #[.int .i64 0, .slice none 0 0] 69)).alloc (.cells #[.int .i64 v, .slice none 0 0] 69))) := ⟨hx0, World.ownsRow_nil _ _ _ _, rfl, fun q hq => (by cases hq), HB0.out⟩
  clear hx0 hr0
  go_enter Tryz.func35, Tryz.ntmps35
  have hp0 := HP0.out
  obtain ⟨u0, u1⟩ := cells2 (Bk.alloc (Bk.new w 24 #[.int .i64 v, .slice A0 n c0]) (.cells #[.int .i64 0, .slice none 0 0] 69))
  clear hp0
  go_upto_region 2 with fail
  clear u0 u1
  generalize (((w.alloc (.cells #[.int .i64 v, .slice A0 n c0] 24)).alloc (.cells #[.int .i64 0, .slice none 0 0] 69)).alloc (.cells #[.int .i64 v, .slice none 0 0] 69)) = W0 at *
  obtain ⟨r, hr⟩ : ∃ r, w.heap.size = r := ⟨_, rfl⟩
  have hwr : w.heap.size ≤ r := by omega
  have hwr2 : r ≤ w.heap.size := by omega
  rw [hr] at HP0 HR0 HF0 ⊢
  clear hr
  obtain ⟨u0, u1⟩ := cells2 HP0.out
  go_upto_region 3 with fail
  clear u0 u1 HP0
  go_loopw [12] (fun v12 wr => ∃ (k : Nat) (A : Option Addr) (c : Nat) (Q : List (SV × List Int)), k ≤ n ∧ v12 = .int .i64 k ∧ Hid (FmQ w (r + 1 + 1) v A c Q (LL.take k) wr) ∧ Hid (Bk wr (r + 1) 69 #[.int .i64 0, .slice none 0 0])) (fun v12 _ => n - (intOf v12).toNat)
  case atStart => exact ⟨0, none, 0, [], Nat.zero_le _, rfl, HF0, HR0⟩
  case round =>
    obtain ⟨k, A, c, Q, hk, rfl, HF, HR⟩ := hrel
    have hcl : (LL.take k).length = k := by rw [List.length_take, HLN.out]; omega
    by_cases hlt : k < n
    · have e1 : decide ((k : Int) < (n : Int)) = true := by simp; omega
      have hki : (k : Int) < (n : Int) := by omega
      obtain ⟨b, off, sA, sn, sc, l, rfl, hq, hbl, c1, u1⟩ := (h.out.below HF.out.bel).at (show k < n by omega)
      have HQ : Hid (LL[k]? = some l) := by show _ = _; rw [← HLL.out]; exact clsOf_at hq
      have U1 := Lib.hid u1
      have HM : Hid (∀ W, Below wr.heap.size wr W → Calls Tryz.prog 75 #[.slice sA sn sc] W fun e w' => ∃ A' c', e = .returned (.slice A' sn c') ∧ w'.ownsRow W.heap.size 3 1 (.slice A' sn c') sn (l.map (Value.int .i64)) ∧ Below W.heap.size W w') := fun W hW => intsC sA sn sc l W (Lib.hid (U1.out.1.below hW)) (Lib.hid U1.out.2.1) U1.out.2.2.2
      clear hq u1
      have hbox := HF.out.box
      have hown := HF.out.own
      rw [hcl] at hbox hown
      have HBX := Lib.hid hbox
      have HOWN := Lib.hid hown
      clear hbox hown
      obtain ⟨y0, y1⟩ := cells2 HBX.out
      have hpl := HF.out.box.lt
      have hk9 : k ≤ 1000 := by omega
      go_upto_region 5 with fail
      go_region_law
        (first
          | (go_simp; go_at_call 75
             refine (HM.out _ (Below.refl _ _).drew).mono ?_
             rintro e w1 ⟨A2, c2, rfl, ho2, hb2⟩
             have HO2 := Lib.hid ho2
             have HB2 := Lib.hid (below_dr hb2)
             have z1 := (bkbel HBX.out HB2.out).cell 1
             have hpl2 := Nat.lt_of_lt_of_le hpl HB2.out.size
             have HOW := Lib.hid (own_bel HOWN.out HB2.out)
             clear ho2 hb2)
          | (refine step_app el_ints6 rfl (.tmp 17) (.tmp 20) rfl (r + 1 + 1 + 1) (.slice A k c) k (Q.map slV) rfl (HOW.out.alloc _) (some ⟨w1.heap.size, 0, none⟩) 1 1 [.slice A2 sn c2] rfl (Rd.new _ #[_] _) rfl (by simp [Value.oneCell']) (by omega) (by simp; omega) ?_
             intro A3 c3 w5 ho5 hg5 hat5
             have HO5 := Lib.hid ho5
             have HG5 := Lib.hid hg5
             have HX5 := Lib.hid (grown_box ((bkbel HBX.out HB2.out).alloc (.cells #[.slice A2 sn c2] 61)) (HOW.out.alloc (.cells #[.slice A2 sn c2] 61)) (Nat.lt_succ_self _) hg5)
             have q1 := HX5.out.cell 1
             have f1 := HX5.out.frozen 1
             clear ho5 hg5 hat5))
      all_goals
        have hp := HF.out.push (A' := A3) (c' := c3) (by omega) HB2.out U1.out.2.1 U1.out.2.2.2 U1.out.2.2.1 HO2.out (by rw [hcl]; exact HG5.out) (by rw [hcl]; exact HO5.out)
        rw [hcl, ← take_snoc HQ.out] at hp
        have HP5 := Lib.hid hp
        have HR5 := Lib.hid ((grown_box ((bkbel HR.out HB2.out).alloc (.cells #[.slice A2 sn c2] 61)) (HOW.out.alloc (.cells #[.slice A2 sn c2] 61)) (by omega) HG5.out).far (p := ⟨r + 1 + 1, 1, none⟩) (by show r + 1 ≠ r + 1 + 1; omega) (.slice A3 (k + 1) c3))
        clear hp q1 f1 z1
        go_wp2
        go_roundw
        case rel => exact ⟨k + 1, A3, c3, _, by omega, by go_num, HP5, HR5⟩
        case measure => simp [intOf]; omega
    · obtain rfl : k = n := by omega
      have e1 : decide ((k : Int) < (k : Int)) = false := by simp
      have hbox := HF.out.box
      rw [hcl] at hbox
      obtain ⟨y0, y1⟩ := cells2 hbox
      have hrr := HR.out
      obtain ⟨r0, r1⟩ := cells2 hrr
      have g0 := hrr.frozen 0
      have g1 := hrr.frozen 1
      have HFF := Lib.hid (HF.out.fin (by omega) hrr (.int .i64 v) (.slice A k c))
      have HFB := Lib.hid (HF.out.bel.trans ((fr_put2 (w := wr) (a := r + 1) (v0 := .int .i64 v) (v1 := .slice A k c)).below w.heap.size HF.out.bel.size (fun j hj e => by omega)))
      have HRF := Lib.hid (bk_put2 (v0 := .int .i64 v) (v1 := .slice A k c) hrr)
      clear hbox hrr
      go_wp2_with fail
      generalize ((wr.setCell ⟨r + 1, 0, none⟩ (.int .i64 v)).setCell ⟨r + 1, 1, none⟩ (.slice A k c)) = WF at HFF HFB HRF ⊢
      obtain ⟨q0, q1⟩ := cells2 HRF.out
      refine bodyPost_ret (v := .agg #[.int .i64 v, .slice A k c]) (by simp [results, Tryz.results35, go_sem, q0, q1]) rfl ?_
      have hcl2 : LL.take k = LL := List.take_of_length_le (by rw [HLN.out]; omega)
      have hff := HFF.out
      have hcs := HF.out.cls
      rw [hcl2] at hff hcs hcl
      refine ⟨A, c, Q, ?_, hff, hcs, HFB.out⟩
      show _ = Ending.returned (.agg #[.int .i64 v, .slice A LL.length c])
      rw [hcl]
end Go.Proofs.YtkpcpclaadgnbaaGreatDoor
