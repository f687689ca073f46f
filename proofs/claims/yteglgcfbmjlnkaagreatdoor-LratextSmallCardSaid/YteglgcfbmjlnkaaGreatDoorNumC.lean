/-
  salvorref07.Number.
-/
import Derived.Test.YteglgcfbmjlnkaaGreatDoorRefP
import Derived.Test.YteglgcfbmjlnkaaGreatDoorRight
import Derived.Deep.DeepCutAuto
import Derived.PlainAid
set_option linter.unusedVariables false
set_option linter.unusedSimpArgs false
namespace Go.Proofs.YteglgcfbmjlnkaaGreatDoor
open Go.RowKit Go.PlainAid

theorem bt_some {s : ByteArray} {k : Nat} {c : UInt8} (h : s.data.toList[k]? = some c) : bt s k = (c.toNat : Int) := by
  obtain ⟨hk, he⟩ := List.getElem?_eq_some_iff.1 h
  have hk' : k < s.size := by simpa using hk
  rw [← get_bt s k hk', ← he]
  rfl
theorem bt_get {s : ByteArray} {k : Nat} (h : k < s.size) : ∃ c : UInt8, s.data.toList[k]? = some c ∧ bt s k = (c.toNat : Int) := by
  have hk : k < s.data.toList.length := by rw [data_len]; exact h
  exact ⟨_, List.getElem?_eq_getElem hk, bt_some (List.getElem?_eq_getElem hk)⟩
def condQ (s : ByteArray) (fr i : Nat) : Bool := decide (i < s.size) && (decide (48 ≤ bt s i) && (decide (bt s i ≤ 57) && decide (i - fr < 11)))
/-- What the loop has come to: i bytes from the beginning, the digits from fr on. -/
structure NumI (s : ByteArray) (fr i acc : Nat) : Prop where
  lo : fr ≤ i
  hi : i ≤ s.size
  len : i - fr ≤ 11
  ab : acc < 10 ^ (i - fr)
  eq : numL 11 0 (s.data.toList.drop fr) = ((numL (11 - (i - fr)) acc (s.data.toList.drop i)).1, (numL (11 - (i - fr)) acc (s.data.toList.drop i)).2 + (i - fr))
theorem NumI.big {s : ByteArray} {fr i acc : Nat} (h : NumI s fr i acc) : acc < 100000000000 := by
  have h1 : 10 ^ (i - fr) ≤ 10 ^ 11 := Nat.pow_le_pow_right (by omega) h.len
  have := h.ab
  omega
theorem numL_cons {c : UInt8} (f acc : Nat) (h : 48 ≤ c.toNat ∧ c.toNat ≤ 57) (r : List UInt8) : numL (f + 1) acc (c :: r) = ((numL f (acc * 10 + (c.toNat - 48)) r).1, (numL f (acc * 10 + (c.toNat - 48)) r).2 + 1) := by
  rw [numL, if_pos h]
theorem NumI.start (s : ByteArray) (fr : Nat) (h : fr ≤ s.size) : NumI s fr fr 0 :=
  ⟨Nat.le_refl _, h, by omega, by simp, by simp⟩
theorem NumI.next {s : ByteArray} {fr i acc : Nat} (h : NumI s fr i acc) (hc : condQ s fr i = true) : ∃ c : UInt8, bt s i = (c.toNat : Int) ∧ 48 ≤ c.toNat ∧ c.toNat ≤ 57 ∧ NumI s fr (i + 1) (acc * 10 + (c.toNat - 48)) := by
  unfold condQ at hc
  simp only [Bool.and_eq_true, decide_eq_true_eq] at hc
  obtain ⟨c1, c2, c3, c4⟩ := hc
  obtain ⟨c, hcx, hb⟩ := bt_get c1
  rw [hb] at c2 c3
  have hd : s.data.toList.drop i = c :: s.data.toList.drop (i + 1) := by
    obtain ⟨hk', he⟩ := List.getElem?_eq_some_iff.1 hcx
    rw [← he, List.drop_eq_getElem_cons hk']
  have hlo := h.lo
  refine ⟨c, hb, by omega, by omega, by omega, c1, by omega, ?_, ?_⟩
  · have h1 := h.ab
    rw [show i + 1 - fr = (i - fr) + 1 by omega, Nat.pow_succ]
    omega
  · have h2 := h.eq
    rw [hd, show 11 - (i - fr) = (11 - (i + 1 - fr)) + 1 by omega] at h2
    rw [numL_cons _ _ (by omega)] at h2
    rw [h2]
    dsimp only
    rw [show (numL (11 - (i + 1 - fr)) (acc * 10 + (c.toNat - 48)) (List.drop (i + 1) s.data.toList)).2 + 1 + (i - fr) = (numL (11 - (i + 1 - fr)) (acc * 10 + (c.toNat - 48)) (List.drop (i + 1) s.data.toList)).2 + (i + 1 - fr) by omega]
theorem NumI.last {s : ByteArray} {fr i acc : Nat} (h : NumI s fr i acc) (hc : condQ s fr i = false) : numL 11 0 (s.data.toList.drop fr) = (acc, i - fr) := by
  have h2 := h.eq
  have hz : numL (11 - (i - fr)) acc (s.data.toList.drop i) = (acc, 0) := by
    by_cases c4 : i - fr < 11
    · obtain ⟨f, hf⟩ : ∃ f, 11 - (i - fr) = f + 1 := ⟨10 - (i - fr), by omega⟩
      rw [hf]
      cases hd : s.data.toList.drop i with
      | nil => rfl
      | cons c r =>
        have hcx : s.data.toList[i]? = some c := by
          have := congrArg (fun l => l[0]?) hd
          simpa using this
        have c1 : i < s.size := by
          have := (List.getElem?_eq_some_iff.1 hcx).1
          rwa [data_len] at this
        have hb := bt_some hcx
        unfold numL
        rw [if_neg]
        rintro ⟨a, b⟩
        unfold condQ at hc
        rw [hb, decide_eq_true c1, decide_eq_true (show (48 : Int) ≤ (c.toNat : Int) by omega), decide_eq_true (show ((c.toNat : Nat) : Int) ≤ 57 by omega), decide_eq_true c4] at hc
        cases hc
    · rw [show 11 - (i - fr) = 0 by omega]
      rfl
  rw [hz] at h2
  rw [h2]
  simp
theorem bt_is (s : ByteArray) (k : Nat) (c : UInt8) (h0 : c ≠ 0) : s.data.toList[k]? = some c ↔ bt s k = (c.toNat : Int) := by
  constructor
  · exact bt_some
  · intro h
    by_cases hk : k < s.size
    · obtain ⟨d, h1, h2⟩ := bt_get hk
      rw [h2] at h
      have : d = c := UInt8.toNat_inj.1 (by omega)
      rw [h1, this]
    · rw [bt_end s (by omega)] at h
      exact absurd (UInt8.toNat_inj.1 (show c.toNat = (0 : UInt8).toNat by show c.toNat = 0; omega)) h0
def badC (s : ByteArray) (fr i : Nat) : Bool := decide (i = fr) || (decide (bt s fr = 48) && (decide (fr + 1 < i) || decide (bt s 0 = 45))) || (decide (i < s.size) && decide (bt s i ≠ 32))
theorem numQ_val {s : ByteArray} {fr i acc : Nat} (hn : numL 11 0 (s.data.toList.drop fr) = (acc, i - fr)) (hlo : fr ≤ i) (hi : i ≤ s.size) (hsg : (bt s 0 = 45 ∧ fr = 1) ∨ (bt s 0 ≠ 45 ∧ fr = 0)) :
    numQ s.data.toList = if badC s fr i then (0, 0) else (if bt s 0 = 45 then -(acc : Int) else (acc : Int), i) := by
  have h45 : s.data.toList.head? = some 45 ↔ bt s 0 = 45 := by
    rw [List.head?_eq_getElem?]
    exact bt_is s 0 45 (by decide)
  have ht : tailQ s.data.toList = s.data.toList.drop fr := by
    unfold tailQ
    rcases hsg with ⟨h1, rfl⟩ | ⟨h1, rfl⟩
    · rw [if_pos (h45.2 h1), List.drop_one]
    · rw [if_neg (fun h => h1 (h45.1 h)), List.drop_zero]
  have h48 : (s.data.toList.drop fr).head? = some 48 ↔ bt s fr = 48 := by
    rw [List.head?_eq_getElem?, List.getElem?_drop, Nat.add_zero]
    exact bt_is s fr 48 (by decide)
  have h32 : (s.data.toList.drop fr)[i - fr]? = some 32 ↔ bt s i = 32 := by
    rw [List.getElem?_drop, show fr + (i - fr) = i by omega]
    exact bt_is s i 32 (by decide)
  have hl : (s.data.toList.drop fr).length = s.size - fr := by rw [List.length_drop, data_len]
  have hbad : badQ (decide (s.data.toList.head? = some 45)) (tailQ s.data.toList) (numL 11 0 (tailQ s.data.toList)).2 = badC s fr i := by
    rw [ht, hn]
    unfold badQ badC
    dsimp only
    rw [hl]
    congr 1
    · congr 1
      · exact decide_eq_decide.2 ⟨fun h => by omega, fun h => by omega⟩
      · rw [decide_eq_decide.2 h48, decide_eq_decide.2 h45, decide_eq_decide.2 (show 1 < i - fr ↔ fr + 1 < i by omega)]
    · rw [decide_eq_decide.2 (show i - fr < s.size - fr ↔ i < s.size by omega), decide_eq_decide.2 (not_congr h32)]
  unfold numQ
  rw [hbad, ht, hn]
  cases badC s fr i with
  | true => rfl
  | false =>
    simp only [Bool.false_eq_true, if_false]
    rcases hsg with ⟨h1, rfl⟩ | ⟨h1, rfl⟩
    · rw [if_pos (h45.2 h1), if_pos h1]
      simp only [Prod.mk.injEq, true_and]
      omega
    · rw [if_neg (fun h => h1 (h45.1 h)), if_neg h1]
      simp only [Prod.mk.injEq, true_and]
      omega
set_option maxRecDepth 100000 in
set_option maxHeartbeats 1000000 in
theorem numberC (s : ByteArray) (w : World) (hs : s.size ≤ 20000000) : Calls Tryz.prog 56 #[.string s] w fun e w' => e = .returned (.tuple #[.int .i64 (numQ s.data.toList).1, .int .i64 (numQ s.data.toList).2]) ∧ w = w' := by
  have hb := get_bt s
  have hz : bt s 0 = 45 → 0 < s.size := fun h => by
    rcases Nat.eq_zero_or_pos s.size with h0 | h0
    · rw [bt_end s (by omega)] at h; omega
    · exact h0
  go_enter Tryz.func56, Tryz.ntmps56
  go_upto_region 2 with fail
  go_cut [15] (fun v15 wx => v15 = .bool (decide (bt s 0 = 45)) ∧ w = wx)
  case first =>
    by_cases h0 : 0 < s.size
    · have e0 : decide ((0 : Int) < (s.size : Int)) = true := by simp; omega
      have e1 : (bt s 0 == 45) = decide (bt s 0 = 45) := rfl
      go_wp2_with fail
      go_meet
      exact ⟨by first | rfl | rw [e1], rfl⟩
    · have e0 : decide ((0 : Int) < (s.size : Int)) = false := decide_eq_false (by omega)
      have e1 : decide (bt s 0 = 45) = false := decide_eq_false (fun h => h0 (hz h))
      go_wp2_with fail
      go_meet
      exact ⟨by rw [e1], rfl⟩
  case rest =>
  obtain ⟨rfl, rfl⟩ := hcut
  go_upto_if 15 with fail
  go_cut [5, 6] (fun v5 v6 wx => w = wx ∧ ∃ fr : Nat, fr ≤ s.size ∧ v5 = .int .i64 fr ∧ ((bt s 0 = 45 ∧ fr = 1 ∧ v6 = .int .i64 (-1)) ∨ (bt s 0 ≠ 45 ∧ fr = 0 ∧ v6 = .int .i64 1)))
  case first =>
    by_cases hsg : bt s 0 = 45
    · have h0 := hz hsg
      rw [decide_eq_true hsg]
      go_wp2_with fail
      go_meet
      exact ⟨rfl, 1, by omega, rfl, .inl ⟨hsg, rfl, rfl⟩⟩
    · rw [decide_eq_false hsg]
      go_wp2_with fail
      go_meet
      exact ⟨rfl, 0, by omega, rfl, .inr ⟨hsg, rfl, rfl⟩⟩
  case rest =>
    obtain ⟨rfl, fr, hfr, rfl, hsg⟩ := hcut
    have HSG := Lib.hid hsg
    clear hsg hz
    go_wp2_with fail
    go_loopw [4, 5] (fun v4 v5 wr => ∃ (i acc : Nat), v4 = .int .i64 acc ∧ v5 = .int .i64 i ∧ Hid (NumI s fr i acc) ∧ w = wr) (fun _ v5 _ => s.size - (intOf v5).toNat)
    case atStart => exact ⟨fr, 0, rfl, rfl, NumI.start s fr hfr, rfl⟩
    case round =>
      obtain ⟨i, acc, rfl, rfl, HN, rfl⟩ := hrel
      have hlo := HN.out.lo
      have hhi := HN.out.hi
      have hlen := HN.out.len
      go_upto_region 5 with fail
      go_cut [38] (fun v38 wx => v38 = .bool (condQ s fr i) ∧ w = wx)
      case first =>
        by_cases c1 : i < s.size
        · have e1 : decide ((i : Int) < (s.size : Int)) = true := by simp; omega
          by_cases c2 : 48 ≤ bt s i
          · have e2 : decide (48 ≤ bt s i) = true := by simpa using c2
            by_cases c3 : bt s i ≤ 57
            · have e3 : decide (bt s i ≤ 57) = true := by simpa using c3
              obtain ⟨j, hj⟩ : ∃ j, j = i - fr := ⟨_, rfl⟩
              have ew : IntKind.i64.wrap ((i : Int) - (fr : Int)) = (j : Int) := by rw [IntKind.wrap_i64]; omega
              have E : Hid (condQ s fr i = decide ((j : Int) < 11)) := by
                show _ = _
                unfold condQ
                rw [decide_eq_true c1, decide_eq_true c2, decide_eq_true c3, decide_eq_decide.2 (show i - fr < 11 ↔ (j : Int) < 11 by omega)]
                rfl
              clear hj
              go_wp2_with fail
              go_meet
              exact ⟨by rw [E.out], rfl⟩
            · have e3 : decide (bt s i ≤ 57) = false := by simp; omega
              have E : Hid (condQ s fr i = false) := by show _ = _; unfold condQ; rw [decide_eq_false c3]; simp
              go_wp2_with fail
              go_meet
              exact ⟨by rw [E.out], rfl⟩
          · have e2 : decide (48 ≤ bt s i) = false := by simp; omega
            have E : Hid (condQ s fr i = false) := by show _ = _; unfold condQ; rw [decide_eq_false c2]; simp
            go_wp2_with fail
            go_meet
            exact ⟨by rw [E.out], rfl⟩
        · have e1 : decide ((i : Int) < (s.size : Int)) = false := by simp; omega
          have E : Hid (condQ s fr i = false) := by show _ = _; unfold condQ; rw [decide_eq_false c1]; rfl
          go_wp2_with fail
          go_meet
          exact ⟨by rw [E.out], rfl⟩
      case rest =>
        obtain ⟨rfl, rfl⟩ := hcut
        cases hq : condQ s fr i with
        | true =>
          obtain ⟨c, hb1, hc1, hc2, hnx⟩ := HN.out.next hq
          have hi1 := hnx.hi
          have hbig := HN.out.big
          have HNX := Lib.hid hnx
          clear hnx hq
          have hci : i < s.size := by omega
          go_wp2_with fail
          go_roundw
          case rel =>
            refine ⟨i + 1, acc * 10 + (c.toNat - 48), ?_, by go_num, HNX, trivial⟩
            congr 1
            omega
          case measure => simp [intOf]; omega
        | false =>
          have hlast := HN.out.last hq
          have hval := numQ_val hlast hlo hhi (by
            rcases HSG.out with ⟨h1, h2, _⟩ | ⟨h1, h2, _⟩
            · exact .inl ⟨h1, h2⟩
            · exact .inr ⟨h1, h2⟩)
          have HV := Lib.hid hval
          clear hlast hval hq
          rcases HSG.out with ⟨h1, h2, rfl⟩ | ⟨h1, h2, rfl⟩
          · clear h2 HSG
            go_upto_region 8 with fail
            go_cut [79] (fun v79 wx => v79 = .bool (badC s fr i) ∧ w = wx)
            case first =>
              have hbig := HN.out.big
              have hl : Hid (badC s fr i = badC s fr i) := rfl
              have htail : ∀ (x : Bool), decide (i = fr) = false → (decide (bt s fr = 48) && (decide (fr + 1 < i) || decide (bt s 0 = 45))) = false → (decide (i < s.size) && decide (bt s i ≠ 32)) = x → Hid (badC s fr i = x) := fun x h1 h2 h3 => by
                show _ = _
                unfold badC
                rw [h1, h2, h3]
                rfl
              clear hl
              by_cases c1 : i = fr
              · have e1 : ((i : Int) == (fr : Int)) = true := by simp; omega
                have E : Hid (badC s fr i = true) := by show _ = _; unfold badC; rw [decide_eq_true c1]; rfl
                clear htail c1
                go_wp2_with fail
                go_meet
                exact ⟨by rw [E.out], rfl⟩
              have e1 : ((i : Int) == (fr : Int)) = false := by simp; omega
              have hfs : fr < s.size := by omega
              by_cases c2 : bt s fr = 48
              · have e2 : (bt s fr == 48) = true := by simpa using c2
                by_cases c3 : fr + 1 < i
                · have e3 : decide ((fr : Int) + 1 < (i : Int)) = true := by simp; omega
                  have E : Hid (badC s fr i = true) := by show _ = _; unfold badC; rw [decide_eq_true c2, decide_eq_true c3]; simp
                  clear htail c2
                  go_wp2_with fail
                  go_meet
                  exact ⟨by rw [E.out], rfl⟩
                have e3 : decide ((fr : Int) + 1 < (i : Int)) = false := by simp; omega
                have E : Hid (badC s fr i = true) := by show _ = _; unfold badC; rw [decide_eq_true c2, decide_eq_true h1]; simp
                clear htail c2 h1 HV
                go_wp2_with fail
                go_meet
                exact ⟨by rw [E.out], rfl⟩
              · have e2 : (bt s fr == 48) = false := by simpa using c2
                have ht := fun x => htail x (decide_eq_false c1) (by rw [decide_eq_false c2]; rfl)
                clear htail c2 HV
                by_cases c4 : i < s.size
                · have e4 : decide ((i : Int) < (s.size : Int)) = true := by simp; omega
                  have E := ht (bt s i != 32) (by rw [decide_eq_true c4]; simp [bne, BEq.beq])
                  clear ht
                  go_wp2_with fail
                  go_meet
                  exact ⟨by rw [E.out], rfl⟩
                · have e4 : decide ((i : Int) < (s.size : Int)) = false := decide_eq_false (by omega)
                  have E := ht false (by rw [decide_eq_false c4]; rfl)
                  clear ht
                  go_wp2_with fail
                  go_meet
                  exact ⟨by rw [E.out], rfl⟩
            case rest =>
              obtain ⟨rfl, rfl⟩ := hcut
              have hbig := HN.out.big
              cases hbd : badC s fr i with
              | true =>
                rw [hbd, if_pos rfl] at HV
                clear hbd
                go_wp2_with fail
                go_ret2
                rw [HV.out]
                exact ⟨rfl, rfl⟩
              | false =>
                rw [hbd] at HV
                simp only [Bool.false_eq_true, if_false] at HV
                clear hbd
                rw [if_pos h1] at HV
                clear h1
                go_wp2_with fail
                go_ret2
                rw [HV.out]
                refine ⟨?_, rfl⟩
                congr 1
          · clear h2 HSG
            go_upto_region 8 with fail
            go_cut [79] (fun v79 wx => v79 = .bool (badC s fr i) ∧ w = wx)
            case first =>
              have hbig := HN.out.big
              have hl : Hid (badC s fr i = badC s fr i) := rfl
              have htail : ∀ (x : Bool), decide (i = fr) = false → (decide (bt s fr = 48) && (decide (fr + 1 < i) || decide (bt s 0 = 45))) = false → (decide (i < s.size) && decide (bt s i ≠ 32)) = x → Hid (badC s fr i = x) := fun x h1 h2 h3 => by
                show _ = _
                unfold badC
                rw [h1, h2, h3]
                rfl
              clear hl
              by_cases c1 : i = fr
              · have e1 : ((i : Int) == (fr : Int)) = true := by simp; omega
                have E : Hid (badC s fr i = true) := by show _ = _; unfold badC; rw [decide_eq_true c1]; rfl
                clear htail c1
                go_wp2_with fail
                go_meet
                exact ⟨by rw [E.out], rfl⟩
              have e1 : ((i : Int) == (fr : Int)) = false := by simp; omega
              have hfs : fr < s.size := by omega
              by_cases c2 : bt s fr = 48
              · have e2 : (bt s fr == 48) = true := by simpa using c2
                by_cases c3 : fr + 1 < i
                · have e3 : decide ((fr : Int) + 1 < (i : Int)) = true := by simp; omega
                  have E : Hid (badC s fr i = true) := by show _ = _; unfold badC; rw [decide_eq_true c2, decide_eq_true c3]; simp
                  clear htail c2
                  go_wp2_with fail
                  go_meet
                  exact ⟨by rw [E.out], rfl⟩
                have e3 : decide ((fr : Int) + 1 < (i : Int)) = false := by simp; omega
                have ht := fun x => htail x (decide_eq_false c1) (by rw [decide_eq_false c3, decide_eq_false h1]; simp)
                clear htail c2 h1 HV
                by_cases c4 : i < s.size
                · have e4 : decide ((i : Int) < (s.size : Int)) = true := by simp; omega
                  have E := ht (bt s i != 32) (by rw [decide_eq_true c4]; simp [bne, BEq.beq])
                  clear ht
                  go_wp2_with fail
                  go_meet
                  exact ⟨by rw [E.out], rfl⟩
                · have e4 : decide ((i : Int) < (s.size : Int)) = false := decide_eq_false (by omega)
                  have E := ht false (by rw [decide_eq_false c4]; rfl)
                  clear ht
                  go_wp2_with fail
                  go_meet
                  exact ⟨by rw [E.out], rfl⟩
              · have e2 : (bt s fr == 48) = false := by simpa using c2
                have ht := fun x => htail x (decide_eq_false c1) (by rw [decide_eq_false c2]; rfl)
                clear htail c2 HV
                by_cases c4 : i < s.size
                · have e4 : decide ((i : Int) < (s.size : Int)) = true := by simp; omega
                  have E := ht (bt s i != 32) (by rw [decide_eq_true c4]; simp [bne, BEq.beq])
                  clear ht
                  go_wp2_with fail
                  go_meet
                  exact ⟨by rw [E.out], rfl⟩
                · have e4 : decide ((i : Int) < (s.size : Int)) = false := decide_eq_false (by omega)
                  have E := ht false (by rw [decide_eq_false c4]; rfl)
                  clear ht
                  go_wp2_with fail
                  go_meet
                  exact ⟨by rw [E.out], rfl⟩
            case rest =>
              obtain ⟨rfl, rfl⟩ := hcut
              have hbig := HN.out.big
              cases hbd : badC s fr i with
              | true =>
                rw [hbd, if_pos rfl] at HV
                clear hbd
                go_wp2_with fail
                go_ret2
                rw [HV.out]
                exact ⟨rfl, rfl⟩
              | false =>
                rw [hbd] at HV
                simp only [Bool.false_eq_true, if_false] at HV
                clear hbd
                rw [if_neg h1] at HV
                clear h1
                go_wp2_with fail
                go_ret2
                rw [HV.out]
                exact ⟨rfl, rfl⟩
end Go.Proofs.YteglgcfbmjlnkaaGreatDoor
