/-
  salvorlaw05.Made, Of.
-/
import Derived.Test.YtkpcpclaadgnbaaGreatDoorMade6
import Derived.Deep.RegionLaw
set_option linter.unusedVariables false
set_option linter.unusedSimpArgs false
namespace Go.Proofs.YtkpcpclaadgnbaaGreatDoor
open Go.RowKit

/-- Rows of bytes, in a slice. -/
structure U8At (w : World) (A : Option Addr) (n : Nat) (Q : List (SV × List Nat)) : Prop where
  rd : Rd w A (Q.map fun p => Value.slice p.1.A p.1.n p.1.c)
  len : Q.length = n
  all : ∀ (i : Nat) (p : SV × List Nat), Q[i]? = some p → Rd w p.1.A (p.2.map fun (m : Nat) => Value.int .u8 (m : Int)) ∧ p.2.length = p.1.n ∧ (∀ m ∈ p.2, m ≤ 255) ∧ p.1.n ≤ 9223372036854775807 ∧ p.1.n ≤ p.1.c
theorem U8At.below {w w' : World} {A : Option Addr} {n : Nat} {Q : List (SV × List Nat)} (h : U8At w A n Q) (hb : Below w.heap.size w w') : U8At w' A n Q := ⟨h.rd.below hb, h.len, fun i p hi => ⟨(h.all i p hi).1.below hb, (h.all i p hi).2⟩⟩
theorem U8At.at {w : World} {A : Option Addr} {n k : Nat} {Q : List (SV × List Nat)} (h : U8At w A n Q) (hk : k < n) : ∃ (b off : Nat) (sA : Option Addr) (sn sc : Nat) (l : List Nat), A = some ⟨b, off, none⟩ ∧ Q[k]? = some (⟨sA, sn, sc⟩, l) ∧ b < w.heap.size ∧ w.cell? ⟨b, off + k, none⟩ = some (.slice sA sn sc) ∧ Rd w sA (l.map fun (m : Nat) => Value.int .u8 (m : Int)) ∧ l.length = sn ∧ (∀ m ∈ l, m ≤ 255) ∧ sn ≤ 9223372036854775807 ∧ sn ≤ sc := by
  obtain ⟨b, off, ⟨⟨sA, sn, sc⟩, l⟩, rfl, hs, hc⟩ := h.rd.getm h.len hk
  exact ⟨b, off, sA, sn, sc, l, rfl, hs, World.block_lt_of_cell? w _ hc, hc, h.all k _ hs⟩
theorem grown_box {W W3 : World} {p B n : Nat} {t e : TypeId} {cs : Array Value} {v : Value} {xs : List Value} (hb : Bk W p t cs) (ho : W.ownsRow B e 1 v n xs) (hlt : p < B) (hg : W.grownBy W3 v.ownBlock) : Bk W3 p t cs :=
  hb.grown hg (fun e => by have := (own_typed ho _ e.symm).1; omega)
theorem own_bel {W W' : World} {B n : Nat} {e : TypeId} {v : Value} {xs : List Value} (ho : W.ownsRow B e 1 v n xs) (hb : Below W.heap.size W W') : W'.ownsRow B e 1 v n xs := own_fr (F := fun _ => False) ho (Fr.of_below hb) (fun _ _ h => h)
theorem below_dr {W W' : World} (h : Below W.drew.heap.size W.drew W') : Below W.heap.size W W' := (Below.refl _ _).drew.trans h
def madeC (L : List (List Nat)) : List (List Int) := L.map fun l => (l.take 20).map litM
def madeD (L : List (List Nat)) : Fm := ⟨8, madeC (L.take 30)⟩
theorem madeC_snoc {L : List (List Nat)} {k : Nat} {l : List Nat} (h : L[k]? = some l) : madeC (L.take (k + 1)) = madeC (L.take k) ++ [(l.take 20).map litM] := by
  unfold madeC
  rw [take_snoc h, List.map_append]
  rfl
/-- What a formula is made to. -/
def FmPost (w : World) (f : Fm) (e : Ending) (w' : World) : Prop := ∃ A c Q, e = .returned (.agg #[.int .i64 f.vars, .slice A f.cls.length c]) ∧ ClsAt w' A f.cls.length Q ∧ clsOf Q = f.cls ∧ Below w.heap.size w w'
theorem FmB.drew {w0 W : World} {p : Nat} {v : Int} {A : Option Addr} {c : Nat} {Q : List (SV × List Int)} {C : List (List Int)} (h : FmB w0 p v A c Q C W) : FmB w0 p v A c Q C W.drew := ⟨h.box, h.own, h.cls, fun q hq => ⟨(h.rows q hq).at', (h.rows q hq).ty⟩, h.bel.drew⟩
theorem FmB.fin {w0 W : World} {p r : Nat} {v : Int} {A : Option Addr} {c : Nat} {Q : List (SV × List Int)} {C : List (List Int)} {cs : Array Value} (h : FmB w0 p v A c Q C W) (hl : C.length ≤ 100000000) (hr : Bk W r 24 cs) (u u' : Value) : ClsAt ((W.setCell ⟨r, 0, none⟩ u).setCell ⟨r, 1, none⟩ u') A C.length Q := by
  have hf : Fr (fun k => k = r) W ((W.setCell ⟨r, 0, none⟩ u).setCell ⟨r, 1, none⟩ u') := fr_put2
  have nt : ∀ {k : Nat} {e : TypeId} {ds : Array Value} {fr : Nat × Nat}, W.heap[k]? = some (.cells ds e fr) → 24 ≠ e → ¬ k = r := fun hk hne e => by
    subst e
    have h3 : W.heap[_]? = _ := hr
    rw [h3] at hk
    injection hk with hk
    injection hk with _ ht
    exact hne ht
  refine ⟨Rd.of_own (own_fr h.own hf (fun k hk => ?_)), by rw [← clsOf_len, h.cls], fun i q hq => ((h.rows q (List.mem_of_getElem? hq)).fr hf (fun k ds fr _ hk => nt hk (by decide))).at', hl⟩
  obtain ⟨_, ds, hk2⟩ := own_typed h.own k hk
  exact nt hk2 (by decide)
set_option maxRecDepth 100000 in
set_option maxHeartbeats 2000000 in
theorem made5C (A0 : Option Addr) (n c0 : Nat) (L : List (SV × List Nat)) (w : World) (h : Hid (U8At w A0 n L)) (hn : n ≤ 9223372036854775807) (hc : n ≤ c0) :
    Calls Tryz.prog 15 #[.slice A0 n c0] w (FmPost w (madeD (L.map (·.2)))) := by
  obtain ⟨k0, hk0⟩ : ∃ k0, min n 30 = k0 := ⟨_, rfl⟩
  have hk30 : k0 ≤ 30 ∧ k0 ≤ n := by omega
  have hmin : min (n : Int) 30 = (k0 : Int) := by omega
  have hkc : (k0 : Int) ≤ (c0 : Int) := by omega
  have hkz : (0 : Int) ≤ (k0 : Int) := by omega
  obtain ⟨LL, hLL⟩ : ∃ LL, L.map (·.2) = LL := ⟨_, rfl⟩
  have HLL := Lib.hid hLL
  have HLN : Hid (LL.length = n) := by show _ = _; rw [← hLL, List.length_map]; exact h.out.len
  rw [hLL]
  have HT : Hid (LL.take 30 = LL.take k0) := by
    show _ = _
    rcases Nat.lt_or_ge n 30 with h1 | h1
    · rw [List.take_of_length_le (by rw [HLN.out]; omega), List.take_of_length_le (by rw [HLN.out]; omega)]
    · rw [show k0 = 30 by omega]
  clear hLL
  have HR0 : Hid (Bk ((w.alloc (.cells #[.int .i64 0, .slice none 0 0] 24)).alloc (.cells #[.int .i64 8, .slice none 0 0] 24)) w.heap.size 24 #[.int .i64 0, .slice none 0 0]) := (Bk.new w _ _).alloc _
  have HB0 : Hid (Below w.heap.size w ((w.alloc (.cells #[.int .i64 0, .slice none 0 0] 24)).alloc (.cells #[.int .i64 8, .slice none 0 0] 24))) := balloc (balloc (Below.refl _ _) _) _
  have hx0 := Bk.new (w.alloc (.cells #[.int .i64 0, .slice none 0 0] 24)) 24 #[.int .i64 8, .slice none 0 0]
  rw [World.size_alloc] at hx0
  have HF0 : Hid (FmB w (w.heap.size + 1) 8 none 0 [] [] ((w.alloc (.cells #[.int .i64 0, .slice none 0 0] 24)).alloc (.cells #[.int .i64 8, .slice none 0 0] 24))) := ⟨hx0, World.ownsRow_nil _ _ _ _, rfl, fun q hq => (by cases hq), HB0.out⟩
  clear hx0
  go_enter Tryz.func15, Tryz.ntmps15
  go_upto_region 2 with fail
  generalize ((w.alloc (.cells #[.int .i64 0, .slice none 0 0] 24)).alloc (.cells #[.int .i64 8, .slice none 0 0] 24)) = W0 at *
  obtain ⟨r, hr⟩ : ∃ r, w.heap.size = r := ⟨_, rfl⟩
  have hwr : w.heap.size ≤ r := by omega
  have hwr2 : r ≤ w.heap.size := by omega
  rw [hr] at HR0 HF0 ⊢
  clear hr
  go_upto_region 3 with fail
  go_loopw [13] (fun v13 wr => ∃ (k : Nat) (A : Option Addr) (c : Nat) (Q : List (SV × List Int)), k ≤ k0 ∧ v13 = .int .i64 k ∧ Hid (FmB w (r + 1) 8 A c Q (madeC (LL.take k)) wr) ∧ Hid (Bk wr r 24 #[.int .i64 0, .slice none 0 0])) (fun v13 _ => k0 - (intOf v13).toNat)
  case atStart => exact ⟨0, none, 0, [], Nat.zero_le _, rfl, HF0, HR0⟩
  case round =>
    obtain ⟨k, A, c, Q, hk, rfl, HF, HR⟩ := hrel
    have hcl : (madeC (LL.take k)).length = k := by unfold madeC; rw [List.length_map, List.length_take, HLN.out]; omega
    by_cases hlt : k < k0
    · have e1 : decide ((k : Int) < (k0 : Int)) = true := by simp; omega
      have hki : (k : Int) < (k0 : Int) := by omega
      obtain ⟨b, off, sA, sn, sc, l, rfl, hq, hbl, c1, u1, u2, u3, u4, u5⟩ := (h.out.below HF.out.bel).at (show k < n by omega)
      have HQ : Hid (LL[k]? = some l) := by show _ = _; rw [← HLL.out, List.getElem?_map, hq]; rfl
      have U1 := Lib.hid u1
      have U2 := Lib.hid u2
      have U3 := Lib.hid u3
      have HM : Hid (∀ W, Below wr.heap.size wr W → Calls Tryz.prog 46 #[.slice sA sn sc] W fun e w' => ∃ A' n' c', e = .returned (.slice A' n' c') ∧ ((l.take 20).map litM).length = n' ∧ w'.ownsRow W.heap.size 53 1 (.slice A' n' c') n' (((l.take 20).map litM).map (Value.int .i64)) ∧ Below W.heap.size W w') := fun W hW => made2C sA sn sc l W (Lib.hid (U1.out.below hW)) U2 U3 u4 u5
      clear hq u1 u2 u3
      have hbox := HF.out.box
      have hown := HF.out.own
      rw [hcl] at hbox hown
      have HBX := Lib.hid hbox
      have HOWN := Lib.hid hown
      clear hbox hown
      obtain ⟨y0, y1⟩ := cells2 HBX.out
      have hpl := HF.out.box.lt
      have hk9 : k ≤ 1000 := by omega
      go_upto_region 5 with fail
      go_region_law
        (first
          | (go_simp; go_at_call 46
             refine (HM.out _ (Below.refl _ _).drew).mono ?_
             rintro e w1 ⟨A2, n2, c2, rfl, hl2, ho2, hb2⟩
             have HL2 := Lib.hid hl2
             have HO2 := Lib.hid ho2
             have HB2 := Lib.hid (below_dr hb2)
             have z1 := (bkbel HBX.out HB2.out).cell 1
             have hpl2 := Nat.lt_of_lt_of_le hpl HB2.out.size
             have HOW := Lib.hid (own_bel HOWN.out HB2.out)
             clear hl2 ho2 hb2)
          | (refine step_app el_cls rfl (.tmp 18) (.tmp 21) rfl (r + 1 + 1) (.slice A k c) k (Q.map slV) rfl (HOW.out.alloc _) (some ⟨w1.heap.size, 0, none⟩) 1 1 [.slice A2 n2 c2] rfl (Rd.new _ #[_] _) rfl (by simp [Value.oneCell']) (by omega) (by simp; omega) ?_
             intro A3 c3 w5 ho5 hg5 hat5
             have HO5 := Lib.hid ho5
             have HG5 := Lib.hid hg5
             have HX5 := Lib.hid (grown_box ((bkbel HBX.out HB2.out).alloc (.cells #[.slice A2 n2 c2] 55)) (HOW.out.alloc (.cells #[.slice A2 n2 c2] 55)) (Nat.lt_succ_self _) hg5)
             have q1 := HX5.out.cell 1
             have f1 := HX5.out.frozen 1
             clear ho5 hg5 hat5))
      all_goals
        have hp := HF.out.push (A' := A3) (c' := c3) (by omega) HB2.out HL2.out (by have := HL2.out; rw [List.length_map, List.length_take] at this; omega) (fun u hu => (by obtain ⟨m, _, rfl⟩ := List.mem_map.1 hu; exact litM_i64 m)) HO2.out (by rw [hcl]; exact HG5.out) (by rw [hcl]; exact HO5.out)
        rw [hcl, ← madeC_snoc HQ.out] at hp
        have HP5 := Lib.hid hp
        have HR5 := Lib.hid ((grown_box ((bkbel HR.out HB2.out).alloc (.cells #[.slice A2 n2 c2] 55)) (HOW.out.alloc (.cells #[.slice A2 n2 c2] 55)) (by omega) HG5.out).far (p := ⟨r + 1, 1, none⟩) (by show r ≠ r + 1; omega) (.slice A3 (k + 1) c3))
        clear hp q1 f1 z1
        go_wp2
        go_roundw
        case rel => exact ⟨k + 1, A3, c3, _, by omega, by go_num, HP5, HR5⟩
        case measure => simp [intOf]; omega
    · obtain rfl : k = k0 := by omega
      have e1 : decide ((k : Int) < (k : Int)) = false := by simp
      have hbox := HF.out.box
      rw [hcl] at hbox
      obtain ⟨y0, y1⟩ := cells2 hbox
      have hrr := HR.out
      obtain ⟨r0, r1⟩ := cells2 hrr
      have g0 := hrr.frozen 0
      have g1 := hrr.frozen 1
      have HFF := Lib.hid (HF.out.fin (by omega) hrr (.int .i64 8) (.slice A k c))
      have HFB := Lib.hid (HF.out.bel.trans ((fr_put2 (w := wr) (a := r) (v0 := .int .i64 8) (v1 := .slice A k c)).below w.heap.size HF.out.bel.size (fun j hj e => by omega)))
      have HRF := Lib.hid (bk_put2 (v0 := .int .i64 8) (v1 := .slice A k c) hrr)
      clear hbox hrr
      go_wp2_with fail
      generalize ((wr.setCell ⟨r, 0, none⟩ (.int .i64 8)).setCell ⟨r, 1, none⟩ (.slice A k c)) = WF at HFF HFB HRF ⊢
      obtain ⟨q0, q1⟩ := cells2 HRF.out
      refine bodyPost_ret (v := .agg #[.int .i64 8, .slice A k c]) (by simp [results, Tryz.results15, go_sem, q0, q1]) rfl ?_
      have hcl2 : (madeD LL).cls = madeC (LL.take k) := by unfold madeD; dsimp only; rw [HT.out]
      refine ⟨A, c, Q, ?_, ?_, ?_, HFB.out⟩
      · rw [hcl2, hcl]
        rfl
      · rw [hcl2]
        exact HFF.out
      · rw [hcl2]
        exact HF.out.cls
end Go.Proofs.YtkpcpclaadgnbaaGreatDoor
