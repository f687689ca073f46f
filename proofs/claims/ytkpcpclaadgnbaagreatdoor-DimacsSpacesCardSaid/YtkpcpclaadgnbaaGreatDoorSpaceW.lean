/-
  salvorlaw06.DimacsSpaces: the walk.
-/
import Derived.Test.YtkpcpclaadgnbaaGreatDoorSpaceL
import Derived.Deep.RegionHeld3
set_option linter.unusedVariables false
set_option linter.unusedSimpArgs false
namespace Go.Proofs.YtkpcpclaadgnbaaGreatDoor
open Go.RowKit Go.Shelf

theorem num_at {U : List Nat} {k x : Nat} (h : U[k % U.length]? = some x) : numAt U k = x := by
  have hlt := (List.getElem?_eq_some_iff.1 h).1
  unfold numAt
  rw [if_neg (by omega), List.getD_eq_getElem?_getD, h]
  rfl
theorem num_le {U : List Nat} (h : ∀ m ∈ U, m ≤ 255) (k : Nat) : numAt U k ≤ 255 := by
  unfold numAt
  split
  · omega
  · rename_i h0
    have hlt : k % U.length < U.length := Nat.mod_lt _ (by omega)
    rw [List.getD_eq_getElem?_getD, List.getElem?_eq_getElem hlt]
    exact h _ (List.getElem_mem hlt)
theorem RowS.rd {w : World} {B q : Nat} {x0 : Value} {A : Option Addr} {n c : Nat} {xs : List Value} (h : RowS w B q x0 (.slice A n c) n xs) (hq : q < w.heap.size) : Rd w A xs := by
  rcases h with h | ⟨h1, h2, h3, h4⟩
  · exact Rd.of_own h
  · injection h1 with h1 _ _
    subst h1 h3
    refine rd_of (fun i u hu => ?_)
    match i, hu with
    | 0, hu =>
      obtain rfl := Option.some.inj hu
      exact h4
theorem own_cap {w : World} {B : Nat} {t : TypeId} {A : Option Addr} {n c : Nat} {xs : List Value} (h : w.ownsRow B t 1 (.slice A n c) n xs) : n ≤ c := by
  rcases h.2 with ⟨h0, h1⟩ | ⟨g, cap, cur, h0, _, _, h3, _⟩
  · omega
  · injection h0 with _ _ h0
    omega
theorem RowS.cap {w : World} {B q : Nat} {x0 : Value} {A : Option Addr} {n c : Nat} {xs : List Value} (h : RowS w B q x0 (.slice A n c) n xs) : n ≤ c := by
  rcases h with h | ⟨h1, h2, _⟩
  · exact own_cap h
  · injection h1 with _ _ h1
    omega
theorem own_pair (w : World) (B : Nat) (hB : B ≤ w.heap.size) (a b : Value) : (w.alloc (.cells #[a, b] 9)).ownsRow B 9 1 (.slice (some ⟨w.heap.size, 0, none⟩) 2 2) 2 [a, b] :=
  ⟨rfl, .inr ⟨w.heap.size, 2, #[a, b], rfl, hB, heap_alloc_new w _, Nat.le_refl _, by unfold maxLen; omega, rfl, rfl⟩⟩
def pre2 : List (List UInt8) := [[99, 32, 112, 32, 99, 110, 102, 32, 49, 32, 49], [32]]
def rep3 : Array Value := #[.string ⟨#[32, 32]⟩, .string ⟨#[10]⟩, .string ⟨#[10, 32, 10]⟩]
theorem rep3_at (t : Nat) (h : t < 3) : rep3[t]? = some (.string (str (repl t))) := by
  obtain rfl | rfl | rfl : t = 0 ∨ t = 1 ∨ t = 2 := by omega
  all_goals rfl
theorem line_len {f : Fm} (hk : FmK f) : ∀ l ∈ f.cls.map lnS ++ [[]], l.length ≤ 100000 := by
  intro l hl
  have h1 := split_sum 10 (textD f)
  rw [text_split] at h1
  have h2 := le_sum6 (List.mem_map_of_mem (f := List.length) (List.mem_cons_of_mem (hdS f.vars f.cls.length) hl))
  have h3 := hk.sz
  simp only [List.length_cons, List.length_append] at h1
  omega
theorem slS6 (b n : Nat) (hn : n ≠ 0) (w : World) : (Instr.sliceAt 47 (.slice (some ⟨b, 0, none⟩) (n + 1) (n + 1)) (some (.int .i64 1)) none none).run Tryz.prog w = .ok (.slice (some ⟨b, 1, none⟩) n n) w := by
  have h1 : (1 : Int) ≤ ((n + 1 : Nat) : Int) := by omega
  have h2 : ¬ n + 1 = 1 := by omega
  have h3 : ¬ n = 0 := by omega
  have h4 : ¬ ((n : Int) + 1 < 1) := by omega
  go_simp
theorem catR6 (a b : ByteArray) (h : a.size + b.size ≤ 500000) (w : World) : (Op.stringOp .add a b).run Tryz.prog w = .ok (.string (a ++ b)) w := by
  have h1 : (a ++ b).size ≤ 500000 := by rw [ByteArray.size_append]; exact h
  have h4 : a.size + b.size ≤ 9223372036854775807 := by omega
  go_simp
set_option maxRecDepth 100000 in
set_option maxHeartbeats 4000000 in
theorem mainSpaces6 (A : Option Addr) (n c : Nat) (L : List (SV × List Nat)) (A2 : Option Addr) (n2 c2 : Nat) (U : List Nat) (w : World) (hv : Hid (Vars w)) (h : Hid (U8At w A n L)) (hn : n ≤ 9223372036854775807) (hc : n ≤ c) (hu : Hid (Rd w A2 (u8s U))) (hul : Hid (U.length = n2)) (hu8 : Hid (∀ m ∈ U, m ≤ 255)) (hn2 : n2 ≤ 9223372036854775807) :
    Calls Tryz.prog 8 #[.slice A n c, .slice A2 n2 c2] w fun e w' => e = .returned (.bool true) ∧ Below w.heap.size w w' := by
  have HM1 := made5C A n c L w h hn hc
  have hf30 := made_len (L.map (·.2))
  have hfk := made_k (L.map (·.2))
  generalize madeD (L.map (·.2)) = F at *
  have HM1 := Lib.hid HM1
  have HK := Lib.hid hfk
  have H30 := Lib.hid hf30
  clear h hn hc hf30 hfk
  go_enter Tryz.func8, Tryz.ntmps8
  go_wp2_with fail
  refine HM1.out.mono ?_
  rintro e w1 hp1
  obtain ⟨v1, A1, n1, c1, Q1, rfl, hc1, hq1, hb⟩ := hp1.v
  have HC1 := Lib.hid hc1
  have HQ1 := Lib.hid hq1
  have HB1 := Lib.hid hb
  clear hc1 hq1 hb hp1 HM1
  go_upto_region 2 with fail
  have HX := Lib.hid (Bk.new w1 24 #[.int .i64 v1, .slice A1 n1 c1])
  have HBx : Hid (Below w1.heap.size w1 (w1.alloc (.cells #[.int .i64 v1, .slice A1 n1 c1] 24))) := balloc (Below.refl _ _) _
  generalize (w1.alloc (.cells #[.int .i64 v1, .slice A1 n1 c1] 24)) = W1 at *
  obtain ⟨p, hp⟩ : ∃ p, w1.heap.size = p := ⟨_, rfl⟩
  have HB2 := Lib.hid (bthen HB1.out HBx.out)
  have HC2 := Lib.hid (HC1.out.below HBx.out)
  rw [hp] at HX ⊢
  clear hp HBx HB1 HC1
  obtain ⟨x0, x1⟩ := cells2 HX.out
  go_wp2_with fail
  refine (writeD6 v1 A1 n1 c1 Q1 W1 HC2 (Lib.hid (hv.out.below HB2.out))).mono ?_
  rintro e w2 ⟨rfl, hb⟩
  rw [HQ1.out, HK.out.write]
  have HB3 := Lib.hid (bthen HB2.out hb)
  have HC3 := Lib.hid (HC2.out.below hb)
  have HX3 := Lib.hid (bkbel HX.out hb)
  clear hb x0 x1 HX HB2 HC2
  dsimp only
  have hszF : (str (textD F)).size ≤ 4000000000 := by rw [str_size]; have := HK.out.sz; omega
  go_wp2_with fail
  refine (endsC6 F w2 HK.out).mono ?_
  rintro e w3 ⟨rfl, rfl⟩
  go_wp2_with fail
  refine (splitC (str (textD F)) 10 w2 hszF (Lib.hid (hv.out.below HB3.out))).mono ?_
  rintro e w3 ⟨rfl, rfl⟩
  obtain ⟨LN, hLN⟩ : ∃ LN, F.cls.map lnS ++ [[]] = LN := ⟨_, rfl⟩
  have HWs : Hid (pieces (str (textD F)) 10 = (hdS F.vars F.cls.length :: LN).map str) := by
    refine strs_map ?_
    rw [pieces_data, str_data, text_split, hLN]
  rw [HWs.out]
  obtain ⟨nL, hnL⟩ : ∃ nL, LN.length = nL := ⟨_, rfl⟩
  have hnL31 : nL ≤ 31 ∧ 1 ≤ nL := by
    have h1 := H30.out
    rw [← hnL, ← hLN]
    simp
    omega
  have hlen : ((hdS F.vars F.cls.length :: LN).map str).length = nL + 1 := by rw [List.length_map, List.length_cons, hnL]
  rw [hlen]
  have HLL : Hid (∀ l ∈ LN, l.length ≤ 100000) := by
    show ∀ _, _
    rw [← hLN]
    exact line_len HK.out
  have HLN := Lib.hid hLN
  have HNL := Lib.hid hnL
  have HSQ := Lib.hid (strs_bk (Bk.new w2 9 (((hdS F.vars F.cls.length :: LN).map str).map Value.string).toArray))
  have HBx : Hid (Below w2.heap.size w2 (w2.alloc (.cells (((hdS F.vars F.cls.length :: LN).map str).map Value.string).toArray 9))) := balloc (Below.refl _ _) _
  obtain ⟨q, hq⟩ : ∃ q, w2.heap.size = q := ⟨_, rfl⟩
  have hwq : w.heap.size ≤ q := by have := HB3.out.size; omega
  rw [hq] at HSQ ⊢
  clear hq hszF hlen hLN hnL
  have HB4 := Lib.hid (bthen HB3.out HBx.out)
  have HC4 := Lib.hid (HC3.out.below HBx.out)
  have HX4 := Lib.hid (bkbel HX3.out HBx.out)
  clear HB3 HC3 HX3 HBx HWs
  generalize (w2.alloc (.cells (((hdS F.vars F.cls.length :: LN).map str).map Value.string).toArray 9)) = W3 at *
  have hqW : q < W3.heap.size := HSQ.out.1
  obtain ⟨B, hB⟩ : ∃ B, W3.heap.size = B := ⟨_, rfl⟩
  have HBW := Lib.hid hB
  rw [hB] at hqW
  clear hB
  obtain ⟨S0, hS0⟩ : ∃ S0, hdS F.vars F.cls.length = S0 := ⟨_, rfl⟩
  have HS0 := Lib.hid hS0
  rw [hS0] at HSQ
  clear hS0
  have hc1 : (1 : Int) ≤ ((nL + 1 : Nat) : Int) := by omega
  go_upto_region 8 with fail
  go_loopw [9, 43] (fun v9 v43 wr => ∃ (k : Nat) (A9 : Option Addr) (m9 c9 : Nat), k ≤ nL ∧ v43 = .int .i64 k ∧ v9 = .slice A9 m9 c9 ∧ Hid (RowS wr B q (.string (str S0)) (.slice A9 m9 c9) m9 (valS (S0 :: othL U 0 (LN.take k)))) ∧ Hid (Below B W3 wr)) (fun _ v43 _ => nL - (intOf v43).toNat)
  case atStart => exact ⟨0, some ⟨q, 0, none⟩, 1, 1, Nat.zero_le _, rfl, rfl, .inr ⟨rfl, rfl, rfl, HSQ.out.2 0 _ rfl⟩, Below.refl _ _⟩
  case round =>
    obtain ⟨k, A9, m9, c9, hk, rfl, rfl, HO, HBr⟩ := hrel
    have hsW : B ≤ wr.heap.size := by have h1 := HBr.out.size; have h2 := HBW.out; omega
    have hqr : q < wr.heap.size := by omega
    have HVr : Hid (Vars wr) := hv.out.below (HB4.out.trans (HBr.out.mono (by have := HB4.out.size; have := HBW.out; omega)))
    by_cases hlt : k < nL
    · have e1 : decide ((k : Int) < (nL : Int)) = true := by simp; omega
      have hki : (k : Int) < (nL : Int) := by omega
      obtain ⟨l, hl⟩ : ∃ l, LN[k]? = some l := ⟨_, List.getElem?_eq_getElem (by rw [HNL.out]; exact hlt)⟩
      have HLK := Lib.hid hl
      have hcl : wr.cell? ⟨q, 1 + k, none⟩ = some (.string (str l)) := by
        rw [HBr.out.cell (p := ⟨q, 1 + k, none⟩) hqW]
        exact HSQ.out.2 (1 + k) _ (by rw [Nat.add_comm, List.map_cons, List.getElem?_cons_succ, List.getElem?_map, hl]; rfl)
      have hll : l.length ≤ 100000 := HLL.out l (List.mem_of_getElem? hl)
      have hm9 : m9 ≤ 160 := by
        have h1 := HO.out.len
        have h2 := (oth_size U (LN.take k) 0).2
        have h3 : (LN.take k).length ≤ 31 := by rw [List.length_take, HNL.out]; omega
        unfold valS at h1
        rw [List.length_map, List.length_cons] at h1
        omega
      obtain ⟨nk, hnk⟩ : ∃ x, numAt U k = x := ⟨_, rfl⟩
      have hnk255 : nk ≤ 255 := by rw [← hnk]; exact num_le hu8.out k
      have HNK := Lib.hid hnk
      have hwi : IntKind.i64.wrap ((k : Int) + 1) = (k : Int) + 1 := by rw [IntKind.wrap_i64]; omega
      clear hl hnk
      go_upto_if 50 with fail
      go_cut [12] (fun v12 wx => v12 = .int .i64 (nk : Int) ∧ wr = wx)
      case first =>
        by_cases h0 : n2 = 0
        · have e0 : decide ((0 : Int) < (n2 : Int)) = false := by simp; omega
          have hn0 : ¬ ((0 : Int) < (n2 : Int)) := by omega
          have HZ : Hid (nk = 0) := by
            show _ = _
            rw [← HNK.out]
            unfold numAt
            rw [if_pos (by rw [hul.out]; exact h0)]
          clear h0
          go_wp2
          go_meet
          exact ⟨by rw [HZ.out]; rfl, rfl⟩
        · have e0 : decide ((0 : Int) < (n2 : Int)) = true := by simp; omega
          have hn0 : (0 : Int) < (n2 : Int) := by omega
          obtain ⟨r, hr⟩ : ∃ r, k % n2 = r := ⟨_, rfl⟩
          have hrn : r < n2 := by have := Nat.mod_lt k (show 0 < n2 by omega); omega
          have ht1 : (k : Int).tmod (n2 : Int) = (r : Int) := by rw [Int.tmod_eq_emod_of_nonneg (by omega), ← hr, ← Int.natCast_emod]
          have hd1 : (k : Int) % (n2 : Int) = (r : Int) := by rw [← hr, ← Int.natCast_emod]
          have hne0 : ¬ ((n2 : Int) = 0) := by omega
          have hne1 : ¬ (n2 = 0) := by omega
          have hrw : IntKind.i64.wrap (r : Int) = (r : Int) := by rw [IntKind.wrap_i64]; omega
          have hri : (r : Int) < (n2 : Int) := by omega
          obtain ⟨b, off, x, rfl, hx, hcx⟩ := ((hu.out.below (bthen HB4.out (HBr.out.mono (by have := HBW.out; omega)))).getm (f := fun (m : Nat) => Value.int .u8 (m : Int)) hul.out hrn)
          have HXN : Hid (x = nk) := by
            show _ = _
            rw [← HNK.out]
            exact (num_at (by rw [hul.out, hr]; exact hx)).symm
          have hx255 := hu8.out x (List.mem_of_getElem? hx)
          have hxw : IntKind.i64.wrap (x : Int) = (x : Int) := by rw [IntKind.wrap_i64]; omega
          clear h0 hr hx
          go_wp2
          go_meet
          exact ⟨by rw [HXN.out], rfl⟩
      case rest =>
      obtain ⟨rfl, rfl⟩ := hcut
      go_upto_if 61 with fail
      go_cut [11] (fun v11 wx => v11 = .string (str (chgL nk l)) ∧ Hid (Below wr.heap.size wr wx))
      case first =>
        by_cases h3 : nk % 3 = 0
        · have d1 : (nk : Int).tmod 3 = 0 := by rw [Int.tmod_eq_emod_of_nonneg (by omega)]; omega
          have d2 : (nk : Int) % 3 = 0 := by omega
          obtain ⟨d, hd⟩ : ∃ d, nk / 3 = d := ⟨_, rfl⟩
          obtain ⟨t, ht⟩ : ∃ t, d % 3 = t := ⟨_, rfl⟩
          have hd85 : d ≤ 85 := by omega
          have ht3 : t < 3 := by omega
          have d3 : (nk : Int) / 3 = (d : Int) := by omega
          have d4 : (nk : Int).tdiv 3 = (d : Int) := by rw [Int.tdiv_eq_ediv_of_nonneg (by omega)]; omega
          have d5 : (d : Int) % 3 = (t : Int) := by omega
          have d6 : (d : Int).tmod 3 = (t : Int) := by rw [Int.tmod_eq_emod_of_nonneg (by omega)]; omega
          have d7 : IntKind.i64.wrap (d : Int) = (d : Int) := by rw [IntKind.wrap_i64]; omega
          have d8 : IntKind.i64.wrap (t : Int) = (t : Int) := by rw [IntKind.wrap_i64]; omega
          have hti : (t : Int) < (3 : Int) := by omega
          have HCH : Hid (chgL nk l = Lib.replaceAll l [32] (repl t)) := by
            show _ = _
            unfold chgL
            rw [if_pos h3, hd, ht]
          have y3 : (wr.alloc (.cells #[.string ⟨#[32, 32]⟩, .string ⟨#[10]⟩, .string ⟨#[10, 32, 10]⟩] 9)).cell? ⟨wr.heap.size, t, none⟩ = some (.string (str (repl t))) := bk_at (Bk.new wr 9 rep3) (rep3_at t ht3)
          have HB5 : Hid (Below wr.heap.size wr (wr.alloc (.cells #[.string ⟨#[32, 32]⟩, .string ⟨#[10]⟩, .string ⟨#[10, 32, 10]⟩] 9))) := balloc (Below.refl _ _) _
          have HV5 := Lib.hid (HVr.out.below HB5.out)
          clear h3 hd ht
          go_wp2_with fail
          generalize (wr.alloc (.cells #[.string ⟨#[32, 32]⟩, .string ⟨#[10]⟩, .string ⟨#[10, 32, 10]⟩] 9)) = W5 at *
          refine (replC6 l t W5 HV5 hll).mono ?_
          rintro e w6 ⟨rfl, hb⟩
          rw [← HCH.out]
          have HB6 := Lib.hid (bthen HB5.out hb)
          clear hb HB5 HCH y3
          go_wp2
          go_meet
          exact ⟨rfl, HB6⟩
        · obtain ⟨t, ht⟩ : ∃ t, nk % 3 = t := ⟨_, rfl⟩
          have d1 : (nk : Int).tmod 3 = (t : Int) := by rw [Int.tmod_eq_emod_of_nonneg (by omega)]; omega
          have d2 : (nk : Int) % 3 = (t : Int) := by omega
          have d3 : ((t : Int) == 0) = false := by simp; omega
          have d8 : IntKind.i64.wrap (t : Int) = (t : Int) := by rw [IntKind.wrap_i64]; omega
          have HCH : Hid (chgL nk l = l) := by
            show _ = _
            unfold chgL
            rw [if_neg h3]
          clear h3 ht
          go_wp2
          go_meet
          exact ⟨by rw [HCH.out], Below.refl _ _⟩
      case rest =>
      obtain ⟨rfl, HBy⟩ := hcut
      generalize wc = wy at *
      have HOy := Lib.hid (HO.out.below hqr HBy.out)
      have HBz := Lib.hid (HBr.out.trans (HBy.out.mono hsW))
      have hsy : B ≤ wy.heap.size := by have := HBy.out.size; omega
      have hqy : q < wy.heap.size := by omega
      have hly : (chgL nk l).length ≤ 300000 := by have := chg_len nk l; omega
      clear HO HBy hcl
      go_upto_if 72 with fail
      go_cut [9] (fun v9 wx => ∃ (A9 : Option Addr) (m9 c9 : Nat), v9 = .slice A9 m9 c9 ∧ m9 ≤ 164 ∧ Hid (RowS wx B q (.string (str S0)) (.slice A9 m9 c9) m9 (valS (S0 :: othL U 0 (LN.take k) ++ (if nk % 5 = 1 then comm4 else [])))) ∧ Hid (Below B W3 wx))
      case first =>
        by_cases h5 : nk % 5 = 1
        · have d1 : (nk : Int).tmod 5 = 1 := by rw [Int.tmod_eq_emod_of_nonneg (by omega)]; omega
          have d2 : (nk : Int) % 5 = 1 := by omega
          have HH5 := Lib.hid h5
          clear h5
          go_wp2_with (at_builtin; refine wpList_appS rfl (.tmp 73) (.tmp 74) rfl B q _ (.slice A9 m9 c9) m9 _ rfl (HOy.out.alloc hqy _) ⟨wy.heap.size, 0, none⟩ 4 4 (valS comm4) rfl (Rd.new _ #[_, _, _, _] _) rfl (by omega) (one_strs _) (by omega) (by simp; omega) ?_; intro A5 c5 w5 ho5 hb5; have HO5 := Lib.hid ho5; have HB5 := Lib.hid hb5; clear ho5 hb5)
          go_meet
          refine ⟨A5, m9 + 4, c5, rfl, by omega, ?_, HBz.out.trans ((balloc (Below.refl _ _) _ : Below wy.heap.size wy _).mono hsy |>.trans HB5.out)⟩
          rw [if_pos HH5.out, valS_app]
          exact .inl HO5.out
        · obtain ⟨t, ht⟩ : ∃ t, nk % 5 = t := ⟨_, rfl⟩
          have d1 : (nk : Int).tmod 5 = (t : Int) := by rw [Int.tmod_eq_emod_of_nonneg (by omega)]; omega
          have d2 : (nk : Int) % 5 = (t : Int) := by omega
          have d3 : ((t : Int) == 1) = false := by simp; omega
          have d8 : IntKind.i64.wrap (t : Int) = (t : Int) := by rw [IntKind.wrap_i64]; omega
          have HH5 := Lib.hid h5
          clear h5 ht
          go_wp2
          go_meet
          refine ⟨A9, m9, c9, rfl, by omega, ?_, HBz⟩
          rw [if_neg HH5.out, List.append_nil]
          exact HOy
      case rest =>
      obtain ⟨A8, m8, c8, rfl, hm8, HO8, HB8⟩ := hcut
      generalize wc = w8 at *
      have hs8 : B ≤ w8.heap.size := by have h1 := HB8.out.size; have h2 := HBW.out; omega
      have hq8 : q < w8.heap.size := by omega
      clear HOy HBz hsy hqy
      go_wp2_with (at_builtin; refine wpList_appS rfl (.tmp 76) (.tmp 78) rfl B q _ (.slice A8 m8 c8) m8 _ rfl (HO8.out.alloc hq8 _) ⟨w8.heap.size, 0, none⟩ 1 1 (valS [chgL nk l]) rfl (Rd.new _ #[_] _) rfl (by omega) (one_strs _) (by omega) (by simp; omega) ?_; intro A5 c5 w5 ho5 hb5; have HO5 := Lib.hid ho5; have HB5 := Lib.hid hb5; clear ho5 hb5)
      go_roundw
      case rel =>
        refine ⟨k + 1, A5, m8 + 1, c5, by omega, by go_num, rfl, .inl ?_, HB8.out.trans ((balloc (Below.refl _ _) _ : Below w8.heap.size w8 _).mono hs8 |>.trans HB5.out)⟩
        have h1 : S0 :: othL U 0 (LN.take (k + 1)) = (S0 :: othL U 0 (LN.take k) ++ (if nk % 5 = 1 then comm4 else [])) ++ [chgL nk l] := by
          rw [oth_take HLK.out, Nat.zero_add, HNK.out]
          unfold putL
          simp
        rw [h1, valS_app]
        exact HO5.out
      case measure => simp [intOf]; omega
    · obtain rfl : k = nL := by omega
      have e1 : decide ((k : Int) < (k : Int)) = false := by simp
      have HT : Hid (LN.take k = LN) := List.take_of_length_le (by rw [HNL.out]; omega)
      rw [HT.out] at HO
      have HRd := Lib.hid (HO.out.rd hqr)
      have HML : Hid ((S0 :: othL U 0 LN).length = m9) := by
        have h1 := HO.out.len
        unfold valS at h1
        rwa [List.length_map] at h1
      have hm9c := HO.out.cap
      have hm9 : m9 ≤ 160 := by
        have h1 := HML.out
        have h2 := (oth_size U LN 0).2
        rw [HNL.out] at h2
        rw [List.length_cons] at h1
        omega
      clear HT HO
      obtain ⟨bp, hbp⟩ : ∃ bp, decide (0 < n2 ∧ U.getD 0 0 % 2 = 1) = bp := ⟨_, rfl⟩
      have HBP := Lib.hid hbp
      clear hbp
      go_upto_region 19 with fail
      go_cut [90] (fun v90 wx => v90 = .bool bp ∧ wr = wx)
      case first =>
        by_cases h0 : n2 = 0
        · have e0 : decide ((0 : Int) < (n2 : Int)) = false := by simp; omega
          have hn0 : ¬ ((0 : Int) < (n2 : Int)) := by omega
          have HP : Hid (bp = false) := by show _ = _; rw [← HBP.out]; exact decide_eq_false (by omega)
          clear h0
          go_wp2
          go_meet
          exact ⟨by rw [HP.out], rfl⟩
        · have e0 : decide ((0 : Int) < (n2 : Int)) = true := by simp; omega
          have hn0 : (0 : Int) < (n2 : Int) := by omega
          obtain ⟨b, off, x, rfl, hx, hcx⟩ := ((hu.out.below (bthen HB4.out (HBr.out.mono (by have := HBW.out; omega)))).getm (f := fun (m : Nat) => Value.int .u8 (m : Int)) hul.out (show 0 < n2 by omega))
          rw [Nat.add_zero] at hcx
          have hx255 := hu8.out x (List.mem_of_getElem? hx)
          have hgx : U.getD 0 0 = x := by rw [List.getD_eq_getElem?_getD, hx]; rfl
          obtain ⟨t, ht⟩ : ∃ t, x % 2 = t := ⟨_, rfl⟩
          have d1 : (x : Int).tmod 2 = (t : Int) := by rw [Int.tmod_eq_emod_of_nonneg (by omega)]; omega
          have d2 : (x : Int) % 2 = (t : Int) := by omega
          have d8 : IntKind.u8.wrap (t : Int) = (t : Int) := by rw [IntKind.wrap_u8]; omega
          by_cases h2 : t = 1
          · have d3 : ((t : Int) == 1) = true := by rw [h2]; rfl
            have HP : Hid (bp = true) := by show _ = _; rw [← HBP.out]; exact decide_eq_true ⟨by omega, by rw [hgx, ht, h2]⟩
            clear h0 hx hgx ht h2
            go_wp2
            go_meet
            exact ⟨by rw [HP.out], rfl⟩
          · have d3 : ((t : Int) == 1) = false := by simp; omega
            have HP : Hid (bp = false) := by show _ = _; rw [← HBP.out]; exact decide_eq_false (by rw [hgx, ht]; omega)
            clear h0 hx hgx ht h2
            go_wp2
            go_meet
            exact ⟨by rw [HP.out], rfl⟩
      case rest =>
      obtain ⟨rfl, rfl⟩ := hcut
      go_upto_if 90 with fail
      go_cut [9] (fun v9 wx => ∃ (Az : Option Addr) (mz cz : Nat), v9 = .slice Az mz cz ∧ Hid (Rd wx Az (valS (allL U F))) ∧ mz ≤ 170 ∧ mz ≤ cz ∧ Hid ((allL U F).length = mz) ∧ Hid (Below B W3 wx))
      case first =>
        cases bp with
        | true =>
          have HP : Hid (preL U = pre2) := by
            have h1 := of_decide_eq_true HBP.out
            show _ = _
            unfold preL
            rw [if_pos ⟨by rw [hul.out]; exact h1.1, h1.2⟩]
            rfl
          go_wp2_with (at_builtin; refine wpList_app el_str rfl (.tmp 91) (.tmp 92) rfl B (.slice (some ⟨wr.heap.size, 0, none⟩) 2 2) 2 (valS pre2) rfl (own_pair wr B hsW _ _) A9 m9 c9 (valS (S0 :: othL U 0 LN)) rfl (HRd.out.alloc _) (by unfold valS; rw [List.length_map, HML.out, Nat.mul_one]) (one_strs _) (by omega) (by simp; omega) ?_; intro A5 c5 w5 ho5 hg5 hat5; have HO5 := Lib.hid ho5; have HG5 := Lib.hid hg5; clear ho5 hg5 hat5)
          go_meet
          have hall : allL U F = pre2 ++ (S0 :: othL U 0 LN) := by
            unfold allL
            rw [HP.out, HS0.out, HLN.out]
          refine ⟨A5, 2 + m9, c5, rfl, ?_, by omega, own_cap HO5.out, ?_, ((HBr.out.alloc hsW _).grown HG5.out (by simp; omega) (fun k hk => by
            have hk2 : some wr.heap.size = some k := hk
            obtain rfl := Option.some.inj hk2
            exact hsW))⟩
          · rw [hall, valS_app]
            exact Rd.of_own HO5.out
          · show _ = _
            rw [hall, List.length_append, HML.out]
            rfl
        | false =>
          have HP : Hid (preL U = []) := by
            have h1 := of_decide_eq_false HBP.out
            show _ = _
            unfold preL
            rw [if_neg (by rw [hul.out]; exact h1)]
          go_wp2
          go_meet
          refine ⟨A9, m9, c9, rfl, ?_, by omega, hm9c, ?_, HBr⟩
          · unfold allL
            rw [HP.out, HS0.out, HLN.out]
            exact HRd
          · unfold allL
            rw [HP.out, HS0.out, HLN.out]
            exact HML
      case rest =>
      obtain ⟨Az, mz, cz, rfl, HRz, hmz, hmcz, HLz, HBz⟩ := hcut
      generalize wc = wz at *
      clear HRd HML HBr hqr HVr hm9 hm9c
      have HBz3 : Hid (Below W3.heap.size W3 wz) := HBz.out.mono (by have := HBW.out; omega)
      have HB5 := Lib.hid (bthen HB4.out HBz3.out)
      have HC5 := Lib.hid (HC4.out.below HBz3.out)
      have HX5 := Lib.hid (bkbel HX4.out HBz3.out)
      have HSQ5 := Lib.hid (HSQ.out.below HBz3.out)
      have HOS : Hid (oneL F = S0 ++ 10 :: joinB 32 LN) := by
        show _ = _
        unfold oneL
        rw [HS0.out, HLN.out]
      clear HB4 HC4 HX4 HSQ HBz HBz3 HBW hqW hu hu8 hul HS0 HLN HLL H30
      obtain ⟨T, hT⟩ : ∃ T, joinB 10 (allL U F) = T := ⟨_, rfl⟩
      have hTl : T.length ≤ 2000000 := by rw [← hT]; exact (all_size HK.out U).1
      have hTs : (str T).size ≤ 20000000 := by rw [str_size]; omega
      have HRD : Hid (readD (str T).data.toList = (F, 0, 0)) := by rw [str_data, ← hT]; exact all_read HK.out U
      have HCN : Hid (canonD (str T).data.toList = (textD F, 0, 0)) := by rw [str_data, ← hT]; exact all_canon HK.out U
      have hne : allL U F ≠ [] := by unfold allL; simp
      have HJ := Lib.hid (joinR6 Az mz cz (allL U F) 10 T wz HRz hne HLz.out hmcz (by omega) hT (by omega))
      have HTN := Lib.hid hT
      have HNE := Lib.hid hne
      clear hT hne
      go_wp2_with fail
      refine HJ.out.mono ?_
      rintro e w5 ⟨rfl, hb⟩
      have HB6 := Lib.hid (bthen HB5.out hb)
      have HC6 := Lib.hid (HC5.out.below hb)
      have HX6 := Lib.hid (bkbel HX5.out hb)
      have HSQ6 := Lib.hid (HSQ5.out.below hb)
      have HRz6 := Lib.hid (HRz.out.below hb)
      clear hb HB5 HC5 HX5 HSQ5 HRz HJ
      go_wp2_with fail
      refine (readV6 (str T) w5 (Lib.hid (hv.out.below HB6.out)) hTs (F, 0, 0) HRD).mono ?_
      rintro e w6 ⟨v6, A6, n6, c6, Q6, rfl, hc6, hq6, hb⟩
      dsimp only at hq6
      have HB7 := Lib.hid (bthen HB6.out hb)
      have HC7 := Lib.hid (HC6.out.below hb)
      have HX7 := Lib.hid (bkbel HX6.out hb)
      have HSQ7 := Lib.hid (HSQ6.out.below hb)
      have HRz7 := Lib.hid (HRz6.out.below hb)
      have HQ6 := Lib.hid hq6
      have HD7 := Lib.hid hc6
      clear hb HB6 HC6 HX6 HSQ6 HRz6 hq6 hc6 HRD
      dsimp only
      go_upto_region 22 with fail
      have HY := Lib.hid (Bk.new w6 24 #[.int .i64 v6, .slice A6 n6 c6])
      have HBx : Hid (Below w6.heap.size w6 (w6.alloc (.cells #[.int .i64 v6, .slice A6 n6 c6] 24))) := balloc (Below.refl _ _) _
      generalize (w6.alloc (.cells #[.int .i64 v6, .slice A6 n6 c6] 24)) = W6 at *
      obtain ⟨p6, hp6⟩ : ∃ p, w6.heap.size = p := ⟨_, rfl⟩
      have HB8 := Lib.hid (bthen HB7.out HBx.out)
      have HC8 := Lib.hid (HC7.out.below HBx.out)
      have HX8 := Lib.hid (bkbel HX7.out HBx.out)
      have HSQ8 := Lib.hid (HSQ7.out.below HBx.out)
      have HRz8 := Lib.hid (HRz7.out.below HBx.out)
      have HD8 := Lib.hid (HD7.out.below HBx.out)
      rw [hp6] at HY ⊢
      clear hp6 HBx HB7 HC7 HX7 HSQ7 HRz7 HD7
      have HJ := Lib.hid (joinR6 Az mz cz (allL U F) 10 T W6 HRz8 HNE.out HLz.out hmcz (by omega) HTN.out (by omega))
      go_wp2_with fail
      refine HJ.out.mono ?_
      rintro e w7 ⟨rfl, hb⟩
      have HB9 := Lib.hid (bthen HB8.out hb)
      have HC9 := Lib.hid (HC8.out.below hb)
      have HX9 := Lib.hid (bkbel HX8.out hb)
      have HY9 := Lib.hid (bkbel HY.out hb)
      have HD9 := Lib.hid (HD8.out.below hb)
      have HSQ9 := Lib.hid (HSQ8.out.below hb)
      clear hb HB8 HC8 HX8 HSQ8 HRz8 HJ HY HD8 HLz HNE HTN
      go_wp2_with fail
      refine (canonC6 (str T) w7 (Lib.hid (hv.out.below HB9.out)) hTs).mono ?_
      rintro e w8 ⟨rfl, hb⟩
      rw [HCN.out]
      have HBa := Lib.hid (bthen HB9.out hb)
      have HCa := Lib.hid (HC9.out.below hb)
      have HXa := Lib.hid (bkbel HX9.out hb)
      have HYa := Lib.hid (bkbel HY9.out hb)
      have HDa := Lib.hid (HD9.out.below hb)
      have HSQa := Lib.hid (HSQ9.out.below hb)
      clear hb HB9 HC9 HX9 HY9 HD9 HSQ9 HCN
      dsimp only
      go_upto_region 23 with fail
      obtain ⟨T2, hT2⟩ : ∃ T2, joinB 32 LN = T2 := ⟨_, rfl⟩
      rw [hT2] at HOS
      have hT2l : S0.length + 1 + T2.length ≤ 200000 := by
        have h1 := one_size HK.out
        rw [HOS.out] at h1
        simp only [List.length_append, List.length_cons] at h1
        omega
      have HRD1 : Hid (readD ((str S0 ++ ⟨#[10]⟩) ++ str T2).data.toList = (F, 0, 0)) := by
        show _ = _
        rw [cat3, ← HOS.out]
        exact one_read HK.out
      have k0 : (str S0).size ≤ 200000 := by rw [str_size]; omega
      have k10 : (⟨#[10]⟩ : ByteArray).size = 1 := rfl
      have k1 : (str S0 ++ ⟨#[10]⟩ : ByteArray).size ≤ 200001 := by rw [cat_size, str_size]; show _ + 1 ≤ _; omega
      have kT : (str T2).size ≤ 200000 := by rw [str_size]; omega
      have k2 : ((str S0 ++ ⟨#[10]⟩ : ByteArray) ++ str T2).size ≤ 200000 := by rw [cat3_size]; omega
      have HRL : Hid (Rd w8 (some ⟨q, 1, none⟩) (valS LN)) := rd_of (fun i u hu => by
        rw [Addr.add_lit]
        refine (HSQa.out.2 (1 + i) ?_ ?_).trans ?_
        · exact str (LN.getD i [])
        · rw [Nat.add_comm, List.map_cons, List.getElem?_cons_succ, List.getElem?_map]
          unfold valS at hu
          rw [List.getElem?_map] at hu
          cases hi : LN[i]? with
          | none => rw [hi] at hu; cases hu
          | some l =>
            rw [List.getD_eq_getElem?_getD, hi]
            rfl
        · unfold valS at hu
          rw [List.getElem?_map] at hu
          cases hi : LN[i]? with
          | none => rw [hi] at hu; cases hu
          | some l =>
            rw [List.getD_eq_getElem?_getD, hi]
            rw [hi] at hu
            exact hu)
      have hLne : LN ≠ [] := by
        intro h
        have := HNL.out
        rw [h] at this
        simp at this
        omega
      have HJ1 : Hid (∀ W' : World, Below w8.heap.size w8 W' → Calls Tryz.prog 27 #[.slice (some ⟨q, 1, none⟩) k k, .string ⟨#[32]⟩] W' fun e w' => e = .returned (.string (str T2)) ∧ Below W'.heap.size W' w') := fun W' hb =>
        joinR6 _ k k LN 32 T2 W' (Lib.hid (HRL.out.below hb)) hLne HNL.out (Nat.le_refl _) (by omega) hT2 (by omega)
      have HR1 : Hid (∀ W' : World, Below w8.heap.size w8 W' → Calls Tryz.prog 17 #[.string ((str S0 ++ ⟨#[10]⟩) ++ str T2)] W' (ReadVT W' (F, 0, 0))) := fun W' hb =>
        readVT6 _ W' (Lib.hid (hv.out.below (bthen HBa.out hb))) (by omega) _ HRD1
      have hq0 := HSQa.out.2 0 _ rfl
      have hql := HSQa.out.1
      have R5 := fun w => slS6 q k (by omega) w
      have R3 := fun w => catR6 (str S0) ⟨#[10]⟩ (by omega) w
      have R7 := fun w => catR6 (str S0 ++ ⟨#[10]⟩) (str T2) (by omega) w
      have i5 : ¬ ((k : Int) + 1 < 1) := by omega
      have i3 : (str S0).size + 1 ≤ 9223372036854775807 := by omega
      have i7 : (str S0).size + 1 + (str T2).size ≤ 9223372036854775807 := by omega
      clear hT2 HOS HRD1 HRL hLne hT2l
      go_cut [19, 20, 21] (fun v19 v20 v21 wx => ∃ (g : Nat) (v7 : Int) (A7 : Option Addr) (n7 c7 : Nat) (Q7 : List (SV × List Int)), v19 = .pointer (some ⟨g, 0, none⟩) ∧ v20 = .int .i64 0 ∧ v21 = .int .i64 0 ∧ Hid (Bk wx g 24 #[.int .i64 v7, .slice A7 n7 c7]) ∧ Hid (ClsAt wx A7 n7 Q7) ∧ Hid ((⟨v7, clsOf Q7⟩ : Fm) = F) ∧ Hid (Below w8.heap.size w8 wx))
      case first =>
        have HBe : Hid (Below w8.heap.size w8 w8) := Below.refl _ _
        have HXX := HSQa
        go_region_held3 (fun w' => w'.cell? ⟨q, 0, none⟩ = some (.string (str S0)))
          (first | exact HXX.out.2 0 _ rfl | exact (HXX.out.below (balloc (Below.refl _ _) _)).2 0 _ rfl | exact (fr_put2.cell (p := ⟨q, 0, none⟩) HXX.out.1 (by show ¬ q = _; omega)).trans (HXX.out.2 0 _ rfl))
          (first
            | (go_at_call 27
               with_reducible refine (HJ1.out _ ?_).mono ?_
               · (first | with_reducible exact HBe.out | with_reducible exact HBe.out.drew | with_reducible exact balloc HBe.out _ | with_reducible exact (balloc HBe.out _).drew)
               rintro e wJ ⟨rfl, hbJ⟩
               (first | with_reducible have HBn := Lib.hid (bthen HBe.out hbJ) | with_reducible have HBn := Lib.hid (bthen HBe.out.drew hbJ) | with_reducible have HBn := Lib.hid (bthen (balloc HBe.out _) hbJ) | with_reducible have HBn := Lib.hid (bthen (balloc HBe.out _).drew hbJ))
               have HXn : Hid (StrsR wJ q ((S0 :: LN).map str)) := HSQa.out.below HBn.out
               (first | with_reducible have HAI := Lib.hid (bkbel (Bk.new _ _ #[.int .i64 0, .slice none 0 0]) hbJ) | with_reducible have HAI := Lib.hid (bkbel (Bk.new _ _ #[.int .i64 0, .slice none 0 0]).drew hbJ) | skip)
               have hsJ : w8.heap.size ≤ wJ.heap.size := HBn.out.size
               clear HBe HXX hbJ
               have HBe := HBn
               have HXX := HXn
               clear HBn HXn)
            | (go_at_call 17
               with_reducible refine (HR1.out _ ?_).mono ?_
               · (first | with_reducible exact HBe.out | with_reducible exact HBe.out.drew | with_reducible exact balloc HBe.out _ | with_reducible exact (balloc HBe.out _).drew)
               rintro e wQ ⟨v7, A7, n7, c7, Q7, rfl, hc7, hq7, hbQ, hcf⟩
               have HC7 := Lib.hid hc7
               have HQ7 : Hid ((⟨v7, clsOf Q7⟩ : Fm) = F) := hq7
               have HCF := Lib.hid hcf
               (first | with_reducible have HBn := Lib.hid (bthen HBe.out hbQ) | with_reducible have HBn := Lib.hid (bthen HBe.out.drew hbQ) | with_reducible have HBn := Lib.hid (bthen (balloc HBe.out _) hbQ) | with_reducible have HBn := Lib.hid (bthen (balloc HBe.out _).drew hbQ))
               have HXn : Hid (StrsR wQ q ((S0 :: LN).map str)) := HSQa.out.below HBn.out
               (first | with_reducible have HAQ := Lib.hid (bkbel HAI.out hbQ) | with_reducible have HAQ := Lib.hid (bkbel (Bk.new _ _ #[.int .i64 0, .slice none 0 0]) hbQ) | with_reducible have HAQ := Lib.hid (bkbel (Bk.new _ _ #[.int .i64 0, .slice none 0 0]).drew hbQ) | skip)
               (first | (have hA2 := cells2 HAQ.out; have hf0 := HAQ.out.frozen 0; have hf1 := HAQ.out.frozen 1; obtain ⟨a0, a1⟩ := hA2) | skip)
               clear HBe HXX hc7 hq7 hbQ hcf
               have HBe := HBn
               have HXX := HXn
               clear HBn HXn))
        all_goals
          go_wp2_with fail
          go_meet
          first
            | (have hq := HAQ.out; refine ⟨_, v7, A7, n7, c7, Q7, rfl, rfl, rfl, ?_⟩; clear hq; exact ⟨Lib.hid (bk_put2 HAQ.out), Lib.hid (HCF.out _ _ _ _ HAQ.out (by decide) (by decide) fr_put2), HQ7, Lib.hid (HBe.out.trans (fr_put2.below w8.heap.size HBe.out.size (fun k hk e => by omega)))⟩)
            | exact ⟨wQ.heap.size, v7, A7, n7, c7, Q7, rfl, rfl, rfl, Lib.hid (Bk.new _ _ _), Lib.hid (HC7.out.below (balloc (Below.refl _ _) _)), HQ7, Lib.hid (balloc HBe.out _)⟩
      case rest =>
      obtain ⟨g, v7, A7, n7, c7, Q7, rfl, rfl, rfl, HZ, HE, HQ7, HBx⟩ := hcut
      generalize wc = w9 at *
      have HBb := Lib.hid (bthen HBa.out HBx.out)
      have HCb := Lib.hid (HCa.out.below HBx.out)
      have HDb := Lib.hid (HDa.out.below HBx.out)
      have HXb := Lib.hid (bkbel HXa.out HBx.out)
      have HYb := Lib.hid (bkbel HYa.out HBx.out)
      clear HBa HCa HDa HXa HYa HBx HJ1 HR1 hq0 hql HSQa HNL
      obtain ⟨x0, x1⟩ := cells2 HXb.out
      obtain ⟨y0, y1⟩ := cells2 HYb.out
      obtain ⟨z0, z1⟩ := cells2 HZ.out
      have hw0 : IntKind.i64.wrap ((0 : Int) + 0) = 0 := rfl
      have hs1 : ((str (textD F)).toList == (str (textD F)).toList) = true := by simp
      go_wp2_with fail
      refine (sameF v6 v1 A6 A1 Q6 Q1 n6 n1 c6 c1 w9 HDb HCb).mono ?_
      rintro e wa ⟨rfl, hb⟩
      rw [HQ6.out, HQ1.out, decide_eq_true (rfl : F = F)]
      have HBc := Lib.hid (bthen HBb.out hb)
      have HCc := Lib.hid (HCb.out.below hb)
      have HEc := Lib.hid (HE.out.below hb)
      have HXc := Lib.hid (bkbel HXb.out hb)
      have HZc := Lib.hid (bkbel HZ.out hb)
      clear hb HBb HCb HDb HXb HYb HZ HE x0 x1 y0 y1 z0 z1
      obtain ⟨x0, x1⟩ := cells2 HXc.out
      obtain ⟨z0, z1⟩ := cells2 HZc.out
      go_wp2_with fail
      refine (sameF v7 v1 A7 A1 Q7 Q1 n7 n1 c7 c1 wa HEc HCc).mono ?_
      rintro e wb ⟨rfl, hb⟩
      rw [HQ7.out, HQ1.out, decide_eq_true (rfl : F = F)]
      have HBd := Lib.hid (bthen HBc.out hb)
      clear hb HBc HCc HEc HXc HZc x0 x1 z0 z1
      go_wp2_with fail
      refine (awake6 wb (Lib.hid (hv.out.below HBd.out))).mono ?_
      rintro e wd ⟨rfl, hb⟩
      have HBf := Lib.hid (bthen HBd.out hb)
      clear hb
      go_wp2
      go_ret
      exact ⟨rfl, HBf.out⟩
end Go.Proofs.YtkpcpclaadgnbaaGreatDoor
