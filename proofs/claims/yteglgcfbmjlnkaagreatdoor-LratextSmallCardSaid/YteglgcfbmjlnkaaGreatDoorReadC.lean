/-
  lratext.Read.
-/
import Derived.Test.YteglgcfbmjlnkaaGreatDoorParse
import Derived.Test.YteglgcfbmjlnkaaGreatDoorCheck
set_option linter.unusedVariables false
set_option linter.unusedSimpArgs false
namespace Go.Proofs.YteglgcfbmjlnkaaGreatDoor
open Go.RowKit

/-- What Read does with the lines that are left. -/
def readF (last : Int) (i : Nat) (acc : List Stp) : List (List UInt8) → List Stp × Int × Int
  | [] => (acc, 0, 0)
  | t :: r => if overS t then readF last (i + 1) acc r else
      match parseS t with
      | none => ([], (i : Int) + 1, 71)
      | some x => if fitsB x last then (if acc.length = 262144 then ([], (i : Int) + 1, 5) else readF x.id (i + 1) (acc ++ [x]) r) else ([], (i : Int) + 1, 70)
def readS (t : List UInt8) : List Stp × Int × Int := if 16777216 < t.length then ([], 0, 3) else readF 0 0 [] (Lib.split t [10])

/-- A slice reads as cells, in a block of type t. -/
structure RdT (w : World) (A : Option Addr) (t : TypeId) (xs : List Value) : Prop where
  rd : Rd w A xs
  ty : ∀ b off, A = some ⟨b, off, none⟩ → ∃ cs fr, w.heap[b]? = some (.cells cs t fr)
theorem RdT.fr {F : Nat → Prop} {w w' : World} {A : Option Addr} {t : TypeId} {xs : List Value} (h : RdT w A t xs) (hf : Fr F w w') (hF : ∀ b, b < w.heap.size → (∃ off, A = some ⟨b, off, none⟩) → ¬ F b) : RdT w' A t xs :=
  ⟨h.rd.fr hf hF, fun b off he => by
    obtain ⟨cs, fr, hb⟩ := h.ty b off he
    exact ⟨cs, fr, (hf.block b (lt_of_heap hb) (hF b (lt_of_heap hb) ⟨off, he⟩)).trans hb⟩⟩
theorem RdT.below {w w' : World} {A : Option Addr} {t : TypeId} {xs : List Value} (h : RdT w A t xs) (hb : Below w.heap.size w w') : RdT w' A t xs := h.fr (Fr.of_below (F := fun _ => False) hb) (fun _ _ _ h => h)
theorem RdT.of_own {w : World} {A : Option Addr} {xs : List Value} {base : Nat} {e : TypeId} {size n c : Nat} (h : w.ownsRow base e size (.slice A n c) n xs) : RdT w A e xs :=
  ⟨Rd.of_own h, fun b off he => by
    rcases h.2 with ⟨h0, _⟩ | ⟨g', cap, cur, h0, _, hh, _⟩
    · injection h0 with h0
      rw [h0] at he
      cases he
    · injection h0 with h0
      rw [h0] at he
      injection he with he
      injection he with he
      subst he
      exact ⟨cur, _, hh⟩⟩
/-- A row of another type grows: what lies in blocks of type t stays. -/
theorem RdT.grown {w w' : World} {A : Option Addr} {t e : TypeId} {xs ys : List Value} {base size n : Nat} {v : Value} (h : RdT w A t xs) (ho : w.ownsRow base e size v n ys) (hne : e ≠ t) (hg : w.grownBy w' v.ownBlock) : RdT w' A t xs := by
  refine h.fr (F := fun k => v.ownBlock = some k) ((Fr.refl _ w).grown hg (fun k hk => .inl hk)) ?_
  rintro b hb ⟨off, he⟩ hq
  obtain ⟨cs, fr, hh⟩ := h.ty b off he
  rcases ho.2 with ⟨rfl, _⟩ | ⟨g', cap, cur, rfl, _, hh', _⟩
  · simp [Value.ownBlock] at hq
  · have : g' = b := by simpa [Value.ownBlock] using hq
    subst this
    rw [hh'] at hh
    injection hh with hh
    injection hh with _ ht
    exact hne ht
/-- A step in blocks of known types. -/
structure StpT (w : World) (v : StV) (s : Stp) : Prop where
  at' : StpAt w v s
  lt : RdT w v.L.A 34 (s.lits.map (Value.int .i64))
  ht : RdT w v.H.A 3 (s.hints.map (Value.int .i64))
theorem StpT.below {w w' : World} {v : StV} {s : Stp} (h : StpT w v s) (hb : Below w.heap.size w w') : StpT w' v s := ⟨h.at'.below hb, h.lt.below hb, h.ht.below hb⟩
theorem StpT.grown {w w' : World} {v : StV} {s : Stp} {base n : Nat} {u : Value} {ys : List Value} (h : StpT w v s) (ho : w.ownsRow base 33 4 u n ys) (hg : w.grownBy w' u.ownBlock) : StpT w' v s :=
  have h1 := h.lt.grown ho (by decide) hg
  have h2 := h.ht.grown ho (by decide) hg
  ⟨⟨h.at'.id, ⟨h1.rd, h.at'.lits.2⟩, ⟨h2.rd, h.at'.hints.2⟩⟩, h1, h2⟩
theorem scells_snoc (L : List (StV × Stp)) (p : StV × Stp) : scells (L ++ [p]) = scells L ++ scell p := by simp [scells]
theorem el_step : El Tryz.prog 22 33 4 := El.mk' (z := .agg #[.bool false, .int .i64 0, .slice none 0 0, .slice none 0 0]) (bytes := 64) Tryz.underlying22 (by kernel_rfl) rfl (by omega) (by omega)
theorem scell_one (p : StV × Stp) : ∀ u ∈ scell p, u.oneCell' = true := by
  intro u hu
  simp only [scell, List.mem_cons, List.not_mem_nil, or_false] at hu
  rcases hu with rfl | rfl | rfl | rfl <;> rfl
theorem own_step4 {W w w1 : World} {t : TypeId} {n : Nat} {v : Value} {xs : List Value} {o : Obj} (hb : Below W.heap.size W w) (ho : w.ownsRow W.heap.size t 4 v n xs) (hg : (w.alloc o).grownBy w1 v.ownBlock) : Below W.heap.size W w1 :=
  (balloc hb o).grown hg (by have := hb.size; simp; omega) (fun k hk => (ho.lt k hk).1)
def ReadPost (w : World) (R : List Stp × Int × Int) (e : Ending) (w' : World) : Prop :=
  ∃ A n c L, e = .returned (.tuple #[.slice A n c, .int .i64 R.2.1, .int .i64 R.2.2]) ∧ StepsAt w' A n L ∧ L.map (·.2) = R.1 ∧ Below w.heap.size w w'
theorem pieces_le (s : ByteArray) (c : UInt8) : ∀ x ∈ pieces s c, x.size ≤ s.size := by
  intro x hx
  have h1 : x.data.toList ∈ Lib.split s.data.toList [c] := by
    rw [← pieces_data]
    exact List.mem_map.2 ⟨x, hx, rfl⟩
  have h2 := mem_joinB c _ _ h1
  rw [(split_spec c s.data.toList).2.2, data_len, data_len] at h2
  exact h2
theorem steps_nil (w : World) : StepsAt w none 0 [] := ⟨Rd.nil, rfl, fun i v s h => by simp at h, by omega⟩
theorem read_err {w w' : World} {R : List Stp × Int × Int} {i k : Int} (h : ([], i, k) = R) (hb : Below w.heap.size w w') : ReadPost w R (.returned (.tuple #[.slice none 0 0, .int .i64 i, .int .i64 k])) w' := by
  subst h
  exact ⟨none, 0, 0, [], rfl, steps_nil _, rfl, hb⟩

set_option maxRecDepth 100000 in
set_option maxHeartbeats 2000000 in
theorem readC (s : ByteArray) (w : World) (hv : Hid (Vars w)) (hs : s.size ≤ 20000000) (R : List Stp × Int × Int) (hR : Hid (readS s.data.toList = R)) :
    Calls Tryz.prog 14 #[.string s] w (ReadPost w R) := by
  by_cases hbig : 16777216 < s.size
  · have hd : decide ((16777216 : Int) < (s.size : Int)) = true := by simp; omega
    have E : Hid (([], 0, 3) = R) := by
      have h1 := hR.out
      unfold readS at h1
      rw [if_pos (by rw [data_len]; exact hbig)] at h1
      exact h1
    clear hbig hR
    go_enter Tryz.func14, Tryz.ntmps14
    go_wp2
    go_ret3
    exact read_err E.out (Below.refl _ _)
  · have hd : decide ((16777216 : Int) < (s.size : Int)) = false := by simp; omega
    obtain ⟨Ws, hWs⟩ : ∃ Ws, pieces s 10 = Ws := ⟨_, rfl⟩
    have hsm := pieces_small s 10 hs
    have E : Hid (readF 0 0 [] (Ws.map (·.data.toList)) = R) := by
      have h1 := hR.out
      unfold readS at h1
      rw [if_neg (by rw [data_len]; exact hbig), ← pieces_data, hWs] at h1
      exact h1
    rw [hWs] at hsm
    have hsl := pieces_le s 10
    rw [hWs] at hsl
    have HSM := Lib.hid hsl
    have hln := hsm.1
    clear hsl
    have HWS := Lib.hid hWs
    have HB0 : Hid (Below w.heap.size w (w.alloc (.cells (Ws.map Value.string).toArray 9))) := balloc (Below.refl _ _) _
    have HW0 : Hid (WdAt (w.alloc (.cells (Ws.map Value.string).toArray 9)) w.heap.size Ws) := ⟨by simp, fun i x hx => by
      rw [(Bk.new w 9 (Ws.map Value.string).toArray).cell i]
      simp [hx]⟩
    clear hsm hWs hbig hR
    go_enter Tryz.func14, Tryz.ntmps14
    go_wp2_with fail
    refine (splitC s 10 w (by omega) hv).mono ?_
    rintro e w1 ⟨rfl, rfl⟩
    rw [HWS.out]
    have hlt0 : w.heap.size < (w.alloc (.cells (Ws.map Value.string).toArray 9)).heap.size := by simp
    generalize (w.alloc (.cells (Ws.map Value.string).toArray 9)) = W0 at *
    obtain ⟨p, hp⟩ : ∃ p, p = w.heap.size := ⟨_, rfl⟩
    rw [← hp] at HW0 hlt0
    rw [← hp]
    have HP := Lib.hid hp
    clear hp
    generalize hm : Ws.length = m at *
    have HM := Lib.hid hm
    clear hm
    go_wp2_with fail
    go_loopw [17, 5, 6] (fun v17 v5 v6 wr => ∃ (k : Nat) (last : Int) (L : List (StV × Stp)) (A : Option Addr) (n c : Nat), k ≤ m ∧ v17 = .int .i64 k ∧ v5 = .slice A n c ∧ v6 = .int .i64 last ∧ n ≤ k ∧ Hid (L.length = n) ∧ Hid (readF last k (L.map (·.2)) ((Ws.drop k).map (·.data.toList)) = R) ∧ Hid (wr.ownsRow W0.heap.size 33 4 (.slice A n c) n (scells L)) ∧ Hid (∀ (i : Nat) (v : StV) (x : Stp), L[i]? = some (v, x) → StpT wr v x) ∧ Hid (Below W0.heap.size W0 wr)) (fun v17 _ _ _ => m - (intOf v17).toNat)
    case atStart => exact ⟨0, 0, [], none, 0, 0, Nat.zero_le _, rfl, rfl, rfl, Nat.le_refl _, rfl, E, World.ownsRow_nil _ _ _ _, fun i v x h => (by simp at h), Below.refl _ _⟩
    case round =>
      obtain ⟨k, last, L, A, n, c, hk, rfl, rfl, rfl, hnk, HL, HE, HO, HT, HB⟩ := hrel
      have HVk := Lib.hid (((hv.out.below HB0.out).below HB.out))
      have HWk := Lib.hid (HW0.out.below HB.out)
      by_cases hlt : k < m
      · obtain ⟨x, hx⟩ : ∃ x, Ws[k]? = some x := ⟨_, List.getElem?_eq_getElem (by rw [HM.out]; exact hlt)⟩
        have hcx := HWk.out.2 k x hx
        have hdrop : Ws.drop k = x :: Ws.drop (k + 1) := by
          obtain ⟨hk', he⟩ := List.getElem?_eq_some_iff.1 hx
          rw [← he, List.drop_eq_getElem_cons hk']
        have hxs : x.size ≤ s.size := HSM.out x (List.mem_of_getElem? hx)
        have hE := HE.out
        rw [hdrop, List.map_cons] at hE
        unfold readF at hE
        clear HE hdrop
        cases hov : overS x.data.toList with
        | true =>
          rw [hov, if_pos rfl] at hE
          have HE := Lib.hid hE
          have HOV := Lib.hid hov
          clear hE hov
          go_wp2_with fail
          refine (overC x wr).mono ?_
          rintro e w1 ⟨rfl, rfl⟩
          rw [HOV.out]
          go_wp2
          go_roundw
          case rel => exact ⟨k + 1, last, L, A, n, c, by omega, by go_num, rfl, rfl, by omega, HL, HE, HO, HT, HB⟩
          case measure => simp [intOf]; omega
        | false =>
          rw [hov] at hE
          simp only [Bool.false_eq_true, if_false] at hE
          have HOV := Lib.hid hov
          clear hov
          have hpost : ∀ W, Below wr.heap.size wr W → Calls Tryz.prog 27 #[.string x] W (ParsePost x W) := fun W hW => parseC x W (Lib.hid (HVk.out.below hW)) (by omega)
          cases hps : parseS x.data.toList with
          | none =>
            rw [hps] at hE
            dsimp only at hE
            have HE := Lib.hid hE
            have HPS := Lib.hid hps
            have HPP := Lib.hid hpost
            clear hE hps hpost
            go_wp2_with fail
            refine (overC x wr).mono ?_
            rintro e w1 ⟨rfl, rfl⟩
            rw [HOV.out]
            go_wp2_with fail
            refine (HPP.out _ (Below.refl _ _)).mono ?_
            rintro e w2 ⟨hb2, h2⟩
            rw [HPS.out] at h2
            obtain rfl := h2
            have HB2 := Lib.hid (bthen HB.out hb2)
            clear hb2
            go_wp2
            go_ret3
            exact read_err HE.out (balloc (bthen HB0.out HB2.out) _)
          | some st =>
            rw [hps] at hE
            dsimp only at hE
            obtain ⟨del, id, lits, hints⟩ := st
            have HPS := Lib.hid hps
            have HPP := Lib.hid hpost
            clear hps hpost
            go_wp2_with fail
            refine (overC x wr).mono ?_
            rintro e w1 ⟨rfl, rfl⟩
            rw [HOV.out]
            go_wp2_with fail
            refine (HPP.out _ (Below.refl _ _)).mono ?_
            rintro e w2 ⟨hb2, h2⟩
            rw [HPS.out] at h2
            obtain ⟨LA, Ln, Lc, HA, Hn, Hc, rfl, hst, B, hB, ho1, ho2⟩ := h2
            dsimp only at hst ho1 ho2 ⊢
            have HST : Hid (StpT w2 ⟨⟨LA, Ln, Lc⟩, ⟨HA, Hn, Hc⟩⟩ ⟨del, id, lits, hints⟩) := ⟨hst, RdT.of_own ho1, RdT.of_own ho2⟩
            have HB2 := Lib.hid (bthen HB.out hb2)
            have HO2 := Lib.hid (own_fr (F := fun _ => False) HO.out (Fr.of_below hb2) (fun _ _ h => h))
            have HT2 : Hid (∀ (i : Nat) (v : StV) (x : Stp), L[i]? = some (v, x) → StpT w2 v x) := fun i v x h => (HT.out i v x h).below hb2
            have HX2 := Lib.hid (Bk.new w2 33 #[.bool del, .int .i64 id, .slice LA Ln Lc, .slice HA Hn Hc])
            have HBa : Hid (Below w2.heap.size w2 (w2.alloc (.cells #[.bool del, .int .i64 id, .slice LA Ln Lc, .slice HA Hn Hc] 33))) := balloc (Below.refl _ _) _
            clear hb2 hst ho1 ho2 hB HO HT HPP
            go_upto_region 10 with fail
            have hrow : ∀ g, (Value.slice A n c).ownBlock = some g → g < w2.heap.size := fun g hg => (HO2.out.lt g hg).2
            have HROW := Lib.hid hrow
            clear hrow
            have HB3 := Lib.hid (bthen HB2.out HBa.out)
            have HO3 := Lib.hid (HO2.out.alloc (.cells #[.bool del, .int .i64 id, .slice LA Ln Lc, .slice HA Hn Hc] 33))
            have HST3 := Lib.hid (HST.out.below HBa.out)
            have HT3 : Hid (∀ (i : Nat) (v : StV) (x : Stp), L[i]? = some (v, x) → StpT (w2.alloc (.cells #[.bool del, .int .i64 id, .slice LA Ln Lc, .slice HA Hn Hc] 33)) v x) := fun i v x h => (HT2.out i v x h).below HBa.out
            clear HO2 HT2 HST HBa HB2
            generalize (w2.alloc (.cells #[.bool del, .int .i64 id, .slice LA Ln Lc, .slice HA Hn Hc] 33)) = w3 at *
            generalize w2.heap.size = q at *
            obtain ⟨x0, x1, x2, x3⟩ := cells4 HX2.out
            have hw03 : W0.heap.size ≤ w3.heap.size := HB3.out.size
            cases hf : fitsB ⟨del, id, lits, hints⟩ last with
            | false =>
              rw [hf] at hE
              simp only [Bool.false_eq_true, if_false] at hE
              have HE := Lib.hid hE
              have HF := Lib.hid hf
              clear hE hf HT3 HO3
              go_wp2_with fail
              refine (fitsC del id (.int .i64 0) (.int .i64 0) LA HA Ln Lc Hn Hc last lits hints w3).mono ?_
              rintro e w4 ⟨rfl, hb⟩
              rw [HF.out]
              have HB4 := Lib.hid (bthen HB3.out hb)
              clear hb x0 x1 x2 x3
              go_wp2
              go_ret3
              exact read_err HE.out (bthen HB0.out HB4.out)
            | true =>
              rw [hf, if_pos rfl] at hE
              have HF := Lib.hid hf
              clear hf
              by_cases hnn : n = 262144
              · rw [if_pos (by rw [List.length_map, HL.out]; exact hnn)] at hE
                have hd3 : ((n : Int) == 262144) = true := by simp; omega
                have HE := Lib.hid hE
                clear hE HT3 HO3 hnn
                go_wp2_with fail
                refine (fitsC del id (.int .i64 0) (.int .i64 0) LA HA Ln Lc Hn Hc last lits hints w3).mono ?_
                rintro e w4 ⟨rfl, hb⟩
                rw [HF.out]
                have HB4 := Lib.hid (bthen HB3.out hb)
                clear hb x0 x1 x2 x3
                go_wp2
                go_ret3
                exact read_err HE.out (bthen HB0.out HB4.out)
              · rw [if_neg (by rw [List.length_map, HL.out]; exact hnn)] at hE
                have hd3 : ((n : Int) == 262144) = false := by simp; omega
                have HE : Hid (readF id (k + 1) ((L ++ ([(⟨⟨LA, Ln, Lc⟩, ⟨HA, Hn, Hc⟩⟩, ⟨del, id, lits, hints⟩)] : List (StV × Stp))).map (·.2)) ((Ws.drop (k + 1)).map (·.data.toList)) = R) := by
                  show _ = R
                  rw [List.map_append]
                  exact hE
                clear hE hnn
                go_wp2_with fail
                refine (fitsC del id (.int .i64 0) (.int .i64 0) LA HA Ln Lc Hn Hc last lits hints w3).mono ?_
                rintro e w4 ⟨rfl, hb⟩
                rw [HF.out]
                have HB4 := Lib.hid (bthen HB3.out hb)
                have HO4 := Lib.hid (own_fr (F := fun _ => False) HO3.out (Fr.of_below hb) (fun _ _ h => h))
                have HST4 := Lib.hid (HST3.out.below hb)
                have HT4 : Hid (∀ (i : Nat) (v : StV) (x : Stp), L[i]? = some (v, x) → StpT w4 v x) := fun i v x h => (HT3.out i v x h).below hb
                have HX4 := Lib.hid (bkbel HX2.out hb)
                clear x0 x1 x2 x3 HX2 HB3 HO3 HST3 HT3
                obtain ⟨x0, x1, x2, x3⟩ := cells4 HX4.out
                clear hb
                have hw04 : W0.heap.size ≤ w4.heap.size := HB4.out.size
                go_wp2_with (at_builtin; refine wpList_app el_step rfl (.tmp 48) (.tmp 50) rfl W0.heap.size (.slice A n c) n (scells L) rfl (HO4.out.alloc _) (some ⟨w4.heap.size, 0, none⟩) 1 1 (scell (⟨⟨LA, Ln, Lc⟩, ⟨HA, Hn, Hc⟩⟩, ⟨del, id, lits, hints⟩)) rfl (Rd.new _ #[_, _, _, _] _) rfl (scell_one _) (by omega) (by simp; omega) ?_; intro A2 c2 w5 hown1 hgr1 hat1; obtain ⟨y0, y1, y2, y3⟩ := cells4 ((HX4.out.alloc _).grown hgr1 (fun e => by have := HROW.out _ e.symm; omega)); have Ho1 := Lib.hid hown1; have Hg1 := Lib.hid hgr1; clear hown1 hgr1 hat1)
                have HST5 := Lib.hid ((HST4.out.below (balloc (Below.refl _ _) _)).grown (HO4.out.alloc _) Hg1.out)
                have HT5 : Hid (∀ (i : Nat) (v : StV) (x : Stp), L[i]? = some (v, x) → StpT w5 v x) := fun i v x h => ((HT4.out i v x h).below (balloc (Below.refl _ _) _)).grown (HO4.out.alloc _) Hg1.out
                go_roundw
                case rel =>
                  refine ⟨k + 1, id, L ++ ([(⟨⟨LA, Ln, Lc⟩, ⟨HA, Hn, Hc⟩⟩, ⟨del, id, lits, hints⟩)] : List (StV × Stp)), A2, n + 1, c2, by omega, by go_num, rfl, rfl, by omega, ?_, HE, ?_, ?_, ?_⟩
                  · show _ = _
                    rw [List.length_append, HL.out]; rfl
                  · show World.ownsRow _ _ _ _ _ _ _
                    rw [scells_snoc]
                    exact Ho1.out
                  · intro i v x' hi
                    rcases Nat.lt_or_ge i L.length with h1 | h1
                    · rw [List.getElem?_append_left h1] at hi
                      exact HT5.out i v x' hi
                    · rw [List.getElem?_append_right h1] at hi
                      rcases Nat.eq_zero_or_pos (i - L.length) with h2 | h2
                      · rw [h2] at hi
                        injection hi with hi
                        obtain ⟨rfl, rfl⟩ := Prod.mk.inj hi
                        exact HST5.out
                      · rw [List.getElem?_eq_none (by simp; omega)] at hi
                        cases hi
                  · exact own_step4 HB4.out HO4.out Hg1.out
                case measure => simp [intOf]; omega
      · have hE := HE.out
        rw [List.drop_eq_nil_of_le (by rw [HM.out]; omega)] at hE
        have HE2 : Hid ((L.map (·.2), 0, 0) = R) := hE
        clear hE HE
        go_wp2
        go_ret3
        have hh := HE2.out
        subst hh
        exact ⟨A, n, c, L, rfl, ⟨Rd.of_own HO.out, HL.out, fun i v x h => (HT.out i v x h).at', by omega⟩, rfl, bthen HB0.out HB.out⟩
end Go.Proofs.YteglgcfbmjlnkaaGreatDoor
