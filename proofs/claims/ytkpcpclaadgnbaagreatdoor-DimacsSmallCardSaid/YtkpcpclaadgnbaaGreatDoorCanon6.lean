/-
  dimacs.Canonical; what is known of a formula that Made makes, and of what Read reads of a short text.
-/
import Derived.Test.YtkpcpclaadgnbaaGreatDoorMadeF6
import Derived.Test.YtkpcpclaadgnbaaGreatDoorFmT
import Derived.Test.YtkpcpclaadgnbaaGreatDoorRead6
import Derived.Test.YtkpcpclaadgnbaaGreatDoorDimP
set_option linter.unusedVariables false
set_option linter.unusedSimpArgs false
namespace Go.Proofs.YtkpcpclaadgnbaaGreatDoor
open Go.RowKit Go.Shelf

/-- A right formula whose text is short. -/
structure FmK (f : Fm) : Prop where
  ok : checkD f = (-1, 0)
  sz : (textD f).length ≤ 100000
theorem FmK.write {f : Fm} (h : FmK f) : writeD f = (textD f, 0) := by
  unfold writeD
  rw [h.ok, if_pos rfl, if_neg (by have := h.sz; omega)]
theorem FmK.read {f : Fm} (h : FmK f) : readD (textD f) = (f, 0, 0) := readD_text h.ok (by have := h.sz; omega)
theorem FmK.canon {f : Fm} (h : FmK f) : canonD (textD f) = (textD f, 0, 0) := by
  unfold canonD
  rw [h.read, if_pos rfl, h.write]
theorem FmK.inj {f g : Fm} (hf : FmK f) (hg : FmK g) (h : textD f = textD g) : f = g := by
  have h1 := hf.read
  rw [h, hg.read] at h1
  exact (Prod.mk.inj h1).1.symm
theorem litM_in (n : Nat) : litIn 8 (litM n) = true := by
  unfold litIn
  rw [litM_right]
  have h : n / 2 % 8 < 8 := Nat.mod_lt _ (by omega)
  have h2 : ((litM n).natAbs : Int) ≤ 8 := by
    unfold litM
    split <;> omega
  rw [decide_eq_true h2]
  rfl
theorem sum_take {l : List (List Int)} {m : Nat} (h : ∀ c ∈ l, c.length ≤ m) : (l.map List.length).sum ≤ m * l.length := by
  induction l with
  | nil => simp
  | cons c l ih =>
    have h1 := ih (fun d hd => h d (List.mem_cons_of_mem _ hd))
    have h2 := h c List.mem_cons_self
    simp only [List.map_cons, List.sum_cons, List.length_cons, Nat.mul_add, Nat.mul_one]
    omega
theorem made_k (L : List (List Nat)) : FmK (madeD L) := by
  have hlen : (madeD L).cls.length ≤ 30 := by
    show (madeC (L.take 30)).length ≤ 30
    unfold madeC
    rw [List.length_map, List.length_take]
    omega
  have hc : ∀ c ∈ (madeD L).cls, c.length ≤ 20 ∧ ∀ l ∈ c, litIn 8 l = true := by
    intro c hc
    have hc' : c ∈ madeC (L.take 30) := hc
    unfold madeC at hc'
    obtain ⟨l, _, rfl⟩ := List.mem_map.1 hc'
    refine ⟨by rw [List.length_map, List.length_take]; omega, fun x hx => ?_⟩
    obtain ⟨m, _, rfl⟩ := List.mem_map.1 hx
    exact litM_in m
  have hok : checkD (madeD L) = (-1, 0) := checkD_ok.2 ⟨⟨by show (0 : Int) ≤ 8; omega, by show (8 : Int) ≤ 1048576; omega⟩, by omega, fun c h => ⟨by have := (hc c h).1; omega, (hc c h).2⟩⟩
  refine ⟨hok, ?_⟩
  have h1 := text_len hok
  have h2 := sum_take (fun c h => (hc c h).1)
  omega
/-- A short text: what is read of it. -/
theorem read_ends {t : List UInt8} (h : t.length ≤ 1000) : (∃ f, readD t = (f, 0, 0) ∧ FmK f) ∨ ∃ i e, readD t = (F0, i, e) ∧ 1 ≤ i ∧ e ≠ 0 := by
  obtain ⟨⟨f, i, e⟩, hr⟩ : ∃ R, readD t = R := ⟨_, rfl⟩
  by_cases he : e = 0
  · subst he
    obtain ⟨rfl, hok, hl⟩ := readD_ok hr
    refine .inl ⟨f, hr, hok, ?_⟩
    have h1 := text_len hok
    omega
  · obtain ⟨rfl, hi⟩ := readD_err (by omega) hr he
    exact .inr ⟨i, e, hr, hi, he⟩
theorem fm_eta {v : Int} {C : List (List Int)} {f : Fm} (h1 : f.vars = v) (h2 : C = f.cls) : (⟨v, C⟩ : Fm) = f := by
  cases f
  subst h1 h2
  rfl
/-- Made, Of: with letters. -/
def FmV (w : World) (f : Fm) (e : Ending) (w' : World) : Prop := ∃ v A n c Q, e = .returned (.agg #[.int .i64 v, .slice A n c]) ∧ ClsAt w' A n Q ∧ (⟨v, clsOf Q⟩ : Fm) = f ∧ Below w.heap.size w w'
theorem FmPost.v {w w' : World} {f : Fm} {e : Ending} (h : FmPost w f e w') : FmV w f e w' := by
  obtain ⟨A, c, Q, rfl, h1, h2, h3⟩ := h
  exact ⟨_, A, _, c, Q, rfl, h1, fm_eta rfl h2, h3⟩
/-- Read, with letters. -/
def ReadV (w : World) (R : Fm × Int × Int) (e : Ending) (w' : World) : Prop :=
  ∃ v A n c Q, e = .returned (.tuple #[.agg #[.int .i64 v, .slice A n c], .int .i64 R.2.1, .int .i64 R.2.2]) ∧ ClsAt w' A n Q ∧ (⟨v, clsOf Q⟩ : Fm) = R.1 ∧ Below w.heap.size w w'
theorem readV6 (s : ByteArray) (w : World) (hv : Hid (Vars w)) (hs : s.size ≤ 20000000) (R : Fm × Int × Int) (hR : Hid (readD s.data.toList = R)) :
    Calls Tryz.prog 17 #[.string s] w (ReadV w R) := by
  refine (readD6 s w hv hs R hR).mono ?_
  rintro e w' ⟨A, n, c, Q, rfl, h1, h2, h3⟩
  exact ⟨_, A, n, c, Q, rfl, h1, fm_eta rfl h2, h3⟩
/-- Read, with letters; and what it read does not change when a block of another type does. -/
def ReadVT (w : World) (R : Fm × Int × Int) (e : Ending) (w' : World) : Prop :=
  ∃ v A n c Q, e = .returned (.tuple #[.agg #[.int .i64 v, .slice A n c], .int .i64 R.2.1, .int .i64 R.2.2]) ∧ ClsAt w' A n Q ∧ (⟨v, clsOf Q⟩ : Fm) = R.1 ∧ Below w.heap.size w w' ∧ ClsF w' A n Q
theorem readVT6 (s : ByteArray) (w : World) (hv : Hid (Vars w)) (hs : s.size ≤ 20000000) (R : Fm × Int × Int) (hR : Hid (readD s.data.toList = R)) :
    Calls Tryz.prog 17 #[.string s] w (ReadVT w R) := by
  refine (readT6 s w hv hs R hR).mono ?_
  rintro e w' ⟨A, n, c, Q, rfl, h1, h2, h3, h4⟩
  exact ⟨_, A, n, c, Q, rfl, h1, fm_eta rfl h2, h3, h4⟩
set_option maxRecDepth 100000 in
theorem canonC6 (s : ByteArray) (w : World) (hv : Hid (Vars w)) (hs : s.size ≤ 20000000) :
    Calls Tryz.prog 18 #[.string s] w fun e w' => e = .returned (.tuple #[.string (str (canonD s.data.toList).1), .int .i64 (canonD s.data.toList).2.1, .int .i64 (canonD s.data.toList).2.2]) ∧ Below w.heap.size w w' := by
  obtain ⟨⟨f, i, e⟩, hr⟩ : ∃ R, readD s.data.toList = R := ⟨_, rfl⟩
  have hcan : canonD s.data.toList = if e = 0 then ((writeD f).1, 0, (writeD f).2) else ([], i, e) := by
    unfold canonD
    rw [hr]
  have HR := Lib.hid hr
  have HCAN := Lib.hid hcan
  clear hr hcan
  go_enter Tryz.func18, Tryz.ntmps18
  go_wp2_with fail
  refine (readV6 s w hv hs _ HR).mono ?_
  rintro e' w1 ⟨v, A, n, c, Q, rfl, h1, h2, h3⟩
  dsimp only
  have HX := Lib.hid (Bk.new w1 24 #[.int .i64 v, .slice A n c])
  have HB : Hid (Below w.heap.size w (w1.alloc (.cells #[.int .i64 v, .slice A n c] 24))) := balloc h3 _
  have HC := Lib.hid (h1.below (balloc (Below.refl _ _) (.cells #[.int .i64 v, .slice A n c] 24)))
  have HQ : Hid ((⟨v, clsOf Q⟩ : Fm) = f) := h2
  clear h1 h2 h3
  go_upto_region 2 with fail
  generalize (w1.alloc (.cells #[.int .i64 v, .slice A n c] 24)) = W1 at *
  obtain ⟨p, hp⟩ : ∃ p, w1.heap.size = p := ⟨_, rfl⟩
  rw [hp] at HX ⊢
  clear hp
  obtain ⟨y0, y1⟩ := cells2 HX.out
  by_cases he : e = 0
  · subst he
    go_wp2_with fail
    refine (writeD6 v A n c Q W1 HC (Lib.hid (hv.out.below HB.out))).mono ?_
    rintro e2 w2 ⟨rfl, hb⟩
    rw [HQ.out]
    have HB2 := Lib.hid (bthen HB.out hb)
    clear hb
    obtain ⟨⟨t, e3⟩, hw⟩ : ∃ q, writeD f = q := ⟨_, rfl⟩
    rw [hw]
    have HW := Lib.hid hw
    clear hw
    dsimp only
    go_wp2
    refine bodyPost_ret (v := .tuple #[.string (str t), .int .i64 0, .int .i64 e3]) (by simp [results, Tryz.results18, go_sem]) rfl ?_
    refine ⟨?_, HB2.out⟩
    rw [HCAN.out, HW.out]
    simp only [if_true]
  · have hne : (e == 0) = false := by simpa using he
    have HE := Lib.hid he
    clear he
    go_wp2
    refine bodyPost_ret (v := .tuple #[.string (str []), .int .i64 i, .int .i64 e]) (by simp [results, Tryz.results18, go_sem]; rfl) rfl ?_
    refine ⟨?_, HB.out⟩
    rw [HCAN.out, if_neg HE.out]
end Go.Proofs.YtkpcpclaadgnbaaGreatDoor
