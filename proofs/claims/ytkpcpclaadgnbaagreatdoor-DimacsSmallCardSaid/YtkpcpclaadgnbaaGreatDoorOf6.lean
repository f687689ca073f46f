/-
  salvorlaw05.Of.
-/
import Derived.Test.YtkpcpclaadgnbaaGreatDoorMadeF6
set_option linter.unusedVariables false
set_option linter.unusedSimpArgs false
namespace Go.Proofs.YtkpcpclaadgnbaaGreatDoor
open Go.RowKit

set_option maxRecDepth 100000 in
set_option maxHeartbeats 2000000 in
theorem ofC (v : Int) (A0 : Option Addr) (n c0 : Nat) (L : List (SV × List Int)) (w : World) (h : Hid (ClsAt w A0 n L)) (hn : n ≤ 1000) :
    Calls Tryz.prog 31 #[.int .i64 v, .slice A0 n c0] w (FmPost w ⟨v, clsOf L⟩) := by
  obtain ⟨LL, hLL⟩ : ∃ LL, clsOf L = LL := ⟨_, rfl⟩
  have HLL := Lib.hid hLL
  have HLN : Hid (LL.length = n) := by show _ = _; rw [← hLL, clsOf_len]; exact h.out.len
  rw [hLL]
  clear hLL
  have HR0 : Hid (Bk ((w.alloc (.cells #[.int .i64 0, .slice none 0 0] 24)).alloc (.cells #[.int .i64 v, .slice none 0 0] 24)) w.heap.size 24 #[.int .i64 0, .slice none 0 0]) := (Bk.new w _ _).alloc _
  have HB0 : Hid (Below w.heap.size w ((w.alloc (.cells #[.int .i64 0, .slice none 0 0] 24)).alloc (.cells #[.int .i64 v, .slice none 0 0] 24))) := balloc (balloc (Below.refl _ _) _) _
  have hx0 := Bk.new (w.alloc (.cells #[.int .i64 0, .slice none 0 0] 24)) 24 #[.int .i64 v, .slice none 0 0]
  rw [World.size_alloc] at hx0
  have HF0 : Hid (FmB w (w.heap.size + 1) v none 0 [] [] ((w.alloc (.cells #[.int .i64 0, .slice none 0 0] 24)).alloc (.cells #[.int .i64 v, .slice none 0 0] 24))) := ⟨hx0, World.ownsRow_nil _ _ _ _, rfl, fun q hq => (by cases hq), HB0.out⟩
  clear hx0
  go_enter Tryz.func31, Tryz.ntmps31
  go_upto_region 2 with fail
  generalize ((w.alloc (.cells #[.int .i64 0, .slice none 0 0] 24)).alloc (.cells #[.int .i64 v, .slice none 0 0] 24)) = W0 at *
  obtain ⟨r, hr⟩ : ∃ r, w.heap.size = r := ⟨_, rfl⟩
  have hwr : w.heap.size ≤ r := by omega
  have hwr2 : r ≤ w.heap.size := by omega
  rw [hr] at HR0 HF0 ⊢
  clear hr
  go_upto_region 3 with fail
  go_loopw [12] (fun v12 wr => ∃ (k : Nat) (A : Option Addr) (c : Nat) (Q : List (SV × List Int)), k ≤ n ∧ v12 = .int .i64 k ∧ Hid (FmB w (r + 1) v A c Q (LL.take k) wr) ∧ Hid (Bk wr r 24 #[.int .i64 0, .slice none 0 0])) (fun v12 _ => n - (intOf v12).toNat)
  case atStart => exact ⟨0, none, 0, [], Nat.zero_le _, rfl, HF0, HR0⟩
  case round =>
    obtain ⟨k, A, c, Q, hk, rfl, HF, HR⟩ := hrel
    have hcl : (LL.take k).length = k := by rw [List.length_take, HLN.out]; omega
    by_cases hlt : k < n
    · have e1 : decide ((k : Int) < (n : Int)) = true := by simp; omega
      have hki : (k : Int) < (n : Int) := by omega
      obtain ⟨b, off, sA, sn, sc, l, rfl, hq, hbl, c1, u1⟩ := (h.out.below HF.out.bel).at (show k < n by omega)
      have HQ : Hid (LL[k]? = some l) := by show _ = _; rw [← HLL.out]; exact clsOf_at hq
      have U1 := Lib.hid u1
      have HM : Hid (∀ W, Below wr.heap.size wr W → Calls Tryz.prog 39 #[.slice sA sn sc] W fun e w' => ∃ A' c', e = .returned (.slice A' sn c') ∧ w'.ownsRow W.heap.size 53 1 (.slice A' sn c') sn (l.map (Value.int .i64)) ∧ Below W.heap.size W w') := fun W hW => clauseMk sA sn sc l W (Lib.hid (U1.out.below hW))
      clear hq u1
      have hbox := HF.out.box
      have hown := HF.out.own
      rw [hcl] at hbox hown
      have HBX := Lib.hid hbox
      have HOWN := Lib.hid hown
      clear hbox hown
      obtain ⟨y0, y1⟩ := cells2 HBX.out
      have hpl := HF.out.box.lt
      have hk9 : k ≤ 1000 := by omega
      go_upto_region 5 with fail
      go_region_law
        (first
          | (go_simp; go_at_call 39
             refine (HM.out _ (Below.refl _ _).drew).mono ?_
             rintro e w1 ⟨A2, c2, rfl, ho2, hb2⟩
             have HO2 := Lib.hid ho2
             have HB2 := Lib.hid (below_dr hb2)
             have z1 := (bkbel HBX.out HB2.out).cell 1
             have hpl2 := Nat.lt_of_lt_of_le hpl HB2.out.size
             have HOW := Lib.hid (own_bel HOWN.out HB2.out)
             clear ho2 hb2)
          | (refine step_app el_cls rfl (.tmp 17) (.tmp 20) rfl (r + 1 + 1) (.slice A k c) k (Q.map slV) rfl (HOW.out.alloc _) (some ⟨w1.heap.size, 0, none⟩) 1 1 [.slice A2 sn c2] rfl (Rd.new _ #[_] _) rfl (by simp [Value.oneCell']) (by omega) (by simp; omega) ?_
             intro A3 c3 w5 ho5 hg5 hat5
             have HO5 := Lib.hid ho5
             have HG5 := Lib.hid hg5
             have HX5 := Lib.hid (grown_box ((bkbel HBX.out HB2.out).alloc (.cells #[.slice A2 sn c2] 55)) (HOW.out.alloc (.cells #[.slice A2 sn c2] 55)) (Nat.lt_succ_self _) hg5)
             have q1 := HX5.out.cell 1
             have f1 := HX5.out.frozen 1
             clear ho5 hg5 hat5))
      all_goals
        have hp := HF.out.push (A' := A3) (c' := c3) (by omega) HB2.out U1.out.2.1 U1.out.2.2.2 U1.out.2.2.1 HO2.out (by rw [hcl]; exact HG5.out) (by rw [hcl]; exact HO5.out)
        rw [hcl, ← take_snoc HQ.out] at hp
        have HP5 := Lib.hid hp
        have HR5 := Lib.hid ((grown_box ((bkbel HR.out HB2.out).alloc (.cells #[.slice A2 sn c2] 55)) (HOW.out.alloc (.cells #[.slice A2 sn c2] 55)) (by omega) HG5.out).far (p := ⟨r + 1, 1, none⟩) (by show r ≠ r + 1; omega) (.slice A3 (k + 1) c3))
        clear hp q1 f1 z1
        go_wp2
        go_roundw
        case rel => exact ⟨k + 1, A3, c3, _, by omega, by go_num, HP5, HR5⟩
        case measure => simp [intOf]; omega
    · obtain rfl : k = n := by omega
      have e1 : decide ((k : Int) < (k : Int)) = false := by simp
      have hbox := HF.out.box
      rw [hcl] at hbox
      obtain ⟨y0, y1⟩ := cells2 hbox
      have hrr := HR.out
      obtain ⟨r0, r1⟩ := cells2 hrr
      have g0 := hrr.frozen 0
      have g1 := hrr.frozen 1
      have HFF := Lib.hid (HF.out.fin (by omega) hrr (.int .i64 v) (.slice A k c))
      have HFB := Lib.hid (HF.out.bel.trans ((fr_put2 (w := wr) (a := r) (v0 := .int .i64 v) (v1 := .slice A k c)).below w.heap.size HF.out.bel.size (fun j hj e => by omega)))
      have HRF := Lib.hid (bk_put2 (v0 := .int .i64 v) (v1 := .slice A k c) hrr)
      clear hbox hrr
      go_wp2_with fail
      generalize ((wr.setCell ⟨r, 0, none⟩ (.int .i64 v)).setCell ⟨r, 1, none⟩ (.slice A k c)) = WF at HFF HFB HRF ⊢
      obtain ⟨q0, q1⟩ := cells2 HRF.out
      refine bodyPost_ret (v := .agg #[.int .i64 v, .slice A k c]) (by simp [results, Tryz.results31, go_sem, q0, q1]) rfl ?_
      have hcl2 : LL.take k = LL := List.take_of_length_le (by rw [HLN.out]; omega)
      have hff := HFF.out
      have hcs := HF.out.cls
      rw [hcl2] at hff hcs hcl
      refine ⟨A, c, Q, ?_, hff, hcs, HFB.out⟩
      show _ = Ending.returned (.agg #[.int .i64 v, .slice A LL.length c])
      rw [hcl]
end Go.Proofs.YtkpcpclaadgnbaaGreatDoor
