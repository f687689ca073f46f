/-
  few, FewExpr: how great an expression in memory is.
-/
import Derived.Test.YtehcpcpmcngnjaaDoorEnv30
set_option linter.unusedVariables false
set_option linter.unusedSimpArgs false
namespace Go.Proofs.YtehcpcpmcngnjaaDoor
open Go.RowKit Go.PlainAid

theorem poke6 {w : World} {o : Obj} : Below w.heap.size w (w.alloc o) := balloc (Below.refl _ _) _
set_option maxRecDepth 100000 in
set_option maxHeartbeats 4000000 in
theorem fewC (B : Nat) : ∀ (N : Nat) (x : Ex) (S : SV) (m : Nat) (w : World), fewX x ≤ N → fewX x ≤ m → m ≤ 100000 → Hid (TrT B w x S) →
    Calls Tryd.prog 42 #[.agg #[.int .u8 (x.kind : Int), .int .u8 (x.op : Int), .int .u32 (x.value : Int), .int .i64 x.width, .string (str x.name), .slice S.A S.n S.c], .int .i64 (m : Int)] w fun e w' => e = .returned (.int .i64 (fewX x : Int)) ∧ Below w.heap.size w w'
  | 0, x, S, m, w, hN, _, _, _ => by
    have := fewX_eq x
    omega
  | N + 1, x, S, m, w, hN, hm, hmm, h => by
    have IH := Lib.hid (fewC B N)
    obtain ⟨SA, Sn, Sc⟩ := S
    have hfx := fewX_eq x
    have HL : Hid (Sn = x.subs.length) := Lib.hid h.out.len
    have hls : (str x.name).size = x.name.length := str_size _
    obtain ⟨L, hL⟩ : ∃ L, x.name.length = L := ⟨_, rfl⟩
    rw [hL] at hls hfx
    obtain ⟨k0, hk0⟩ : ∃ k, (x.kind : Int) = k := ⟨_, rfl⟩
    obtain ⟨k1, hk1⟩ : ∃ k, (x.op : Int) = k := ⟨_, rfl⟩
    obtain ⟨k2, hk2⟩ : ∃ k, (x.value : Int) = k := ⟨_, rfl⟩
    obtain ⟨k3, hk3⟩ : ∃ k, x.width = k := ⟨_, rfl⟩
    rw [hk0, hk1, hk2, hk3]
    obtain ⟨F, hF⟩ : ∃ F, fewX x = F := ⟨_, rfl⟩
    rw [hF] at hfx hN hm ⊢
    have HF := Lib.hid hF
    have HFX := Lib.hid hfx
    have hF1 : 1 + L ≤ F := by omega
    have HB0 : Hid (Below w.heap.size w (w.alloc (.cells #[.int .u8 k0, .int .u8 k1, .int .u32 k2, .int .i64 k3, .string (str x.name), .slice SA Sn Sc] 28))) := poke6
    have HBK := Lib.hid (Bk.new w 28 #[.int .u8 k0, .int .u8 k1, .int .u32 k2, .int .i64 k3, .string (str x.name), .slice SA Sn Sc])
    clear hk0 hk1 hk2 hk3 hfx hF hL
    go_enter Tryd.func42, Tryd.ntmps42
    go_wp2_with fail
    generalize (w.alloc (.cells #[.int .u8 k0, .int .u8 k1, .int .u32 k2, .int .i64 k3, .string (str x.name), .slice SA Sn Sc] 28)) = W at HB0 HBK ⊢
    go_loopw [5, 15] (fun v5 v15 wr => ∃ (j k : Nat), j ≤ Sn ∧ v15 = .int .i64 j ∧ v5 = .int .i64 k ∧ Hid (k = 1 + L + fewXs (x.subs.take j)) ∧ Hid (Below w.heap.size w wr)) (fun _ v15 _ => Sn - (intOf v15).toNat)
    case atStart => exact ⟨0, 1 + L, Nat.zero_le _, rfl, by go_num, by show _ = _; simp [fewXs], HB0⟩
    case round =>
      obtain ⟨j, k, hj, rfl, rfl, HK, HB⟩ := hrel
      have hle := fewXs_le x.subs j
      have hkF : k ≤ F := by have := HK.out; have := HFX.out; omega
      have e2 : decide ((m : Int) < (k : Int)) = false := by simp; omega
      by_cases hlt : j < Sn
      · have e1 : decide ((j : Int) < (Sn : Int)) = true := by simp; omega
        have hji : (j : Int) < (Sn : Int) := by omega
        obtain ⟨b, off, y, v, hA, hx, hty, hb, hc⟩ := (h.out.bel HB.out).sub cellT_len (i := j) hlt
        obtain ⟨vA, vn, vc⟩ := v
        dsimp only at hA
        subst hA
        have c0 : wr.cell? ⟨b, off + j * 6, none⟩ = some (.int .u8 (y.kind : Int)) := hc 0 _ (by omega) rfl
        have c1 : wr.cell? ⟨b, off + j * 6 + 1, none⟩ = some (.int .u8 (y.op : Int)) := hc 1 _ (by omega) rfl
        have c2 : wr.cell? ⟨b, off + j * 6 + 2, none⟩ = some (.int .u32 (y.value : Int)) := hc 2 _ (by omega) rfl
        have c3 : wr.cell? ⟨b, off + j * 6 + 3, none⟩ = some (.int .i64 y.width) := hc 3 _ (by omega) rfl
        have c4 : wr.cell? ⟨b, off + j * 6 + 4, none⟩ = some (.string (str y.name)) := hc 4 _ (by omega) rfl
        have c5 : wr.cell? ⟨b, off + j * 6 + 5, none⟩ = some (.slice vA vn vc) := hc 5 _ (by omega) rfl
        have hsub := fewX_sub hx
        have htk := fewXs_take _ _ _ hx
        have hle2 := fewXs_le x.subs (j + 1)
        have hk2 : k + fewX y ≤ F := by have := HK.out; have := HFX.out; omega
        have HK2 : Hid (k + fewX y = 1 + L + fewXs (x.subs.take (j + 1))) := Lib.hid (by rw [htk]; have := HK.out; omega)
        have hyN : fewX y ≤ N := by rw [HF.out] at hsub; omega
        have wm : IntKind.i64.wrap ((m : Int) - (k : Int)) = ((m - k : Nat) : Int) := by rw [IntKind.wrap_i64]; omega
        have wk : IntKind.i64.wrap ((k : Int) + (fewX y : Int)) = ((k + fewX y : Nat) : Int) := by rw [IntKind.wrap_i64]; omega
        have wj : IntKind.i64.wrap ((j : Int) + 1) = ((j + 1 : Nat) : Int) := by rw [IntKind.wrap_i64]; have := HL.out; have := h.out.ok.s; omega
        have HTY := Lib.hid hty
        clear hc hx hty hsub htk hle2 hle
        have HBV : Hid (Below wr.heap.size wr (wr.alloc (.cells #[.int .u8 (y.kind : Int), .int .u8 (y.op : Int), .int .u32 (y.value : Int), .int .i64 y.width, .string (str y.name), .slice vA vn vc] 28))) := poke6
        go_wp2_with fail
        refine (IH.out y ⟨vA, vn, vc⟩ (m - k) _ hyN (by omega) (by omega) (Lib.hid (HTY.out.bel HBV.out))).mono ?_
        rintro e w2 ⟨rfl, hb2⟩
        have HB2 := Lib.hid (bthen (bthen HB.out HBV.out) hb2)
        clear hb2
        go_wp2_with fail
        go_roundw
        case rel => exact ⟨j + 1, k + fewX y, by omega, by go_num, by go_num, HK2, HB2⟩
        case measure => simp [intOf]; omega
      · obtain rfl : j = Sn := by omega
        have e1 : decide ((j : Int) < (j : Int)) = false := by simp
        have HE : Hid (k = F) := Lib.hid (by have := HK.out; rw [HL.out, List.take_length] at this; rw [this, HFX.out])
        go_wp2_with fail
        go_ret
        rw [HE.out]
        exact ⟨rfl, HB.out⟩
set_option maxRecDepth 100000 in
theorem fewEC (B : Nat) (x : Ex) (S : SV) (w : World) (hm : fewX x ≤ 100000) (h : Hid (TrT B w x S)) :
    Calls Tryd.prog 37 #[.agg #[.int .u8 (x.kind : Int), .int .u8 (x.op : Int), .int .u32 (x.value : Int), .int .i64 x.width, .string (str x.name), .slice S.A S.n S.c], .int .i64 100000] w fun e w' => e = .returned (.bool true) ∧ Below w.heap.size w w' := by
  have HB0 : Hid (Below w.heap.size w (w.alloc (.cells #[.int .u8 (x.kind : Int), .int .u8 (x.op : Int), .int .u32 (x.value : Int), .int .i64 x.width, .string (str x.name), .slice S.A S.n S.c] 28))) := poke6
  have HC := Lib.hid (fewC B _ x S 100000 _ (Nat.le_refl _) hm (Nat.le_refl _) (Lib.hid (h.out.bel HB0.out)))
  have e1 : decide ((fewX x : Int) ≤ 100000) = true := by simp; omega
  have HM := Lib.hid hm
  clear hm
  go_enter Tryd.func37, Tryd.ntmps37
  go_wp2_with fail
  refine HC.out.mono ?_
  rintro e w2 ⟨rfl, hb⟩
  have HB2 := Lib.hid (bthen HB0.out hb)
  clear hb
  go_wp2_with fail
  go_ret
  exact ⟨rfl, HB2.out⟩
end Go.Proofs.YtehcpcpmcngnjaaDoor
