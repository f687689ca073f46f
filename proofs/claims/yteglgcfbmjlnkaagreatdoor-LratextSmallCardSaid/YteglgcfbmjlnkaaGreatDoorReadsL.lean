/-
  salvorlaw07.reads, LratextReads.
-/
import Derived.Test.YteglgcfbmjlnkaaGreatDoorReadQ
import Derived.Test.YteglgcfbmjlnkaaGreatDoorEqualQ
import Derived.Test.YteglgcfbmjlnkaaGreatDoorAwake7
set_option linter.unusedVariables false
set_option linter.unusedSimpArgs false
namespace Go.Proofs.YteglgcfbmjlnkaaGreatDoor
open Go.RowKit

theorem one_step {w w0 : World} {v : StV} {s : Stp} {g : Nat} {t : TypeId} (hb : Below w0.heap.size w0 w) (h : StpAt w0 v s) (hk : Bk w g t (stc s v)) : StepsAt w (some ⟨g, 0, none⟩) 1 [(v, s)] :=
by
  refine ⟨Rd.of_bk hk (by simp [scells, scell, stc]), rfl, ?_, by omega⟩
  intro i v' s' hi
  match i, hi with
  | 0, hi =>
    obtain ⟨rfl, rfl⟩ := Prod.mk.inj (Option.some.inj hi)
    exact h.below hb
  | i + 1, hi => cases hi
theorem zero_stp (w : World) : StpAt w ⟨⟨none, 0, 0⟩, ⟨none, 0, 0⟩⟩ ⟨false, 0, [], []⟩ := ⟨i64_small _ (by decide) (by decide), ints0, ints0⟩
/-- What both Parses give. -/
def parseZ (P : Option Stp) : Stp := P.getD ⟨false, 0, [], []⟩
def parseN (P : Option Stp) : Int := match P with
  | some _ => 0
  | none => 71
theorem ParsePost.all {s : ByteArray} {w w' : World} {e : Ending} (h : ParsePost s w e w') : Below w.heap.size w w' ∧ ∃ LA Ln Lc HA Hn Hc, e = .returned (.tuple #[.agg #[.bool (parseZ (parseS s.data.toList)).del, .int .i64 (parseZ (parseS s.data.toList)).id, .slice LA Ln Lc, .slice HA Hn Hc], .int .i64 (parseN (parseS s.data.toList))]) ∧ StpAt w' ⟨⟨LA, Ln, Lc⟩, ⟨HA, Hn, Hc⟩⟩ (parseZ (parseS s.data.toList)) := by
  obtain ⟨h1, h2⟩ := h
  refine ⟨h1, ?_⟩
  cases hp : parseS s.data.toList with
  | none =>
    rw [hp] at h2
    exact ⟨none, 0, 0, none, 0, 0, h2, zero_stp _⟩
  | some st =>
    rw [hp] at h2
    obtain ⟨LA, Ln, Lc, HA, Hn, Hc, h3, h4, _⟩ := h2
    exact ⟨LA, Ln, Lc, HA, Hn, Hc, h3, h4⟩
theorem ParseQPost.all {w w' : World} {e : Ending} {P : Option Stp} (h : ParseQPost w P e w') : Below w.heap.size w w' ∧ ∃ LA Ln Lc HA Hn Hc, e = .returned (.tuple #[.agg #[.bool (parseZ P).del, .int .i64 (parseZ P).id, .slice LA Ln Lc, .slice HA Hn Hc], .bool P.isSome]) ∧ StpAt w' ⟨⟨LA, Ln, Lc⟩, ⟨HA, Hn, Hc⟩⟩ (parseZ P) := by
  obtain ⟨h1, h2⟩ := h
  refine ⟨h1, ?_⟩
  cases P with
  | none => exact ⟨none, 0, 0, none, 0, 0, h2, zero_stp _⟩
  | some st =>
    obtain ⟨LA, Ln, Lc, HA, Hn, Hc, h3, h4⟩ := h2
    exact ⟨LA, Ln, Lc, HA, Hn, Hc, h3, h4.at'⟩
set_option maxRecDepth 100000 in
set_option maxHeartbeats 4000000 in
theorem readsC (s : ByteArray) (w : World) (hs : s.size ≤ 20000000) (hv : Hid (Vars w)) : Calls Tryz.prog 8 #[.string s] w fun e w' => e = .returned (.bool true) ∧ Below w.heap.size w w' := by
  obtain ⟨R, hR⟩ : ∃ R, readS s.data.toList = R := ⟨_, rfl⟩
  have HR := Lib.hid hR
  clear hR
  obtain ⟨P, hP⟩ : ∃ P, parseS s.data.toList = P := ⟨_, rfl⟩
  have HP := Lib.hid hP
  clear hP
  have hq1 : (R.2.1 == R.2.1) = true := by simp
  have hq2 : (R.2.2 == R.2.2) = true := by simp
  go_enter Tryz.func8, Tryz.ntmps8
  go_wp2_with fail
  refine (readC s w hv hs R HR).mono ?_
  rintro e w1 ⟨A1, n1, c1, L1, rfl, hs1, hm1, hb⟩
  have HB1 := Lib.hid hb
  have HS1 := Lib.hid hs1
  have HM1 : Hid (L1.map (·.2) = R.1) := hm1
  clear hb hs1 hm1
  dsimp only
  go_wp2_with fail
  refine (readQC s w1 hs R HR).mono ?_
  rintro e w2 ⟨A2, n2, c2, L2, rfl, hs2, hm2, hb⟩
  have HB2 := Lib.hid (bthen HB1.out hb)
  have HS1' := Lib.hid (HS1.out.below hb)
  have HS2 := Lib.hid hs2
  have HM2 : Hid (L2.map (·.2) = R.1) := hm2
  clear hb hs2 hm2 HB1 HS1
  dsimp only
  go_wp2_with fail
  refine (parseC s w2 (Lib.hid (hv.out.below HB2.out)) hs).mono ?_
  intro e w3 h3
  obtain ⟨hb, LA, Ln, Lc, HA, Hn, Hc, rfl, hst⟩ := h3.all
  rw [HP.out] at hst ⊢
  obtain ⟨⟨del, id, lits, hints⟩, hz⟩ : ∃ z, parseZ P = z := ⟨_, rfl⟩
  rw [hz] at hst ⊢
  have HZ := Lib.hid hz
  clear hz h3
  have HB3 := Lib.hid (bthen HB2.out hb)
  have HS1 := Lib.hid (HS1'.out.below hb)
  have HS2' := Lib.hid (HS2.out.below hb)
  have HT := Lib.hid hst
  clear hb hst HB2 HS1' HS2
  dsimp only
  have HX3 := Lib.hid (Bk.new w3 33 #[.bool del, .int .i64 id, .slice LA Ln Lc, .slice HA Hn Hc])
  have HBa : Hid (Below w3.heap.size w3 (w3.alloc (.cells #[.bool del, .int .i64 id, .slice LA Ln Lc, .slice HA Hn Hc] 33))) := balloc (Below.refl _ _) _
  go_upto_region 4 with fail
  have HB4 := Lib.hid (bthen HB3.out HBa.out)
  have HS1' := Lib.hid (HS1.out.below HBa.out)
  have HS2 := Lib.hid (HS2'.out.below HBa.out)
  have HT' := Lib.hid (HT.out.below HBa.out)
  generalize (w3.alloc (.cells #[.bool del, .int .i64 id, .slice LA Ln Lc, .slice HA Hn Hc] 33)) = w4 at *
  generalize w3.heap.size = p at *
  clear HB3 HS1 HS2' HT HBa
  go_wp2_with fail
  refine (parseQC s w4 hs).mono ?_
  intro e w5 h5
  rw [parse_same] at h5
  obtain ⟨hb, LA2, Ln2, Lc2, HA2, Hn2, Hc2, rfl, hst⟩ := h5.all
  rw [HP.out] at hst ⊢
  rw [HZ.out] at hst ⊢
  dsimp only at hst ⊢
  have HB5 := Lib.hid (bthen HB4.out hb)
  have HS1 := Lib.hid (HS1'.out.below hb)
  have HS2' := Lib.hid (HS2.out.below hb)
  have HT := Lib.hid (HT'.out.below hb)
  have HX5 := Lib.hid (bkbel HX3.out hb)
  have HU := Lib.hid hst
  clear hb hst HB4 HS1' HS2 HT' HX3 h5
  have HY5 := Lib.hid (Bk.new w5 59 #[.bool del, .int .i64 id, .slice LA2 Ln2 Lc2, .slice HA2 Hn2 Hc2])
  have HBa : Hid (Below w5.heap.size w5 (w5.alloc (.cells #[.bool del, .int .i64 id, .slice LA2 Ln2 Lc2, .slice HA2 Hn2 Hc2] 59))) := balloc (Below.refl _ _) _
  go_upto_region 5 with fail
  have HB6 := Lib.hid (bthen HB5.out HBa.out)
  have HS16 := Lib.hid (HS1.out.below HBa.out)
  have HS26 := Lib.hid (HS2'.out.below HBa.out)
  have HT6 := Lib.hid (HT.out.below HBa.out)
  have HU6 := Lib.hid (HU.out.below HBa.out)
  have HX6 := Lib.hid (bkbel HX5.out HBa.out)
  generalize (w5.alloc (.cells #[.bool del, .int .i64 id, .slice LA2 Ln2 Lc2, .slice HA2 Hn2 Hc2] 59)) = w6 at *
  generalize w5.heap.size = q at *
  clear HB5 HS1 HS2' HT HU HX5 HBa
  go_wp2_with fail
  refine (equalC A1 A2 L1 L2 n1 n2 c1 c2 w6 HS16 HS26 (Lib.hid (HM1.out.trans HM2.out.symm))).mono ?_
  rintro e w7 ⟨rfl, hb⟩
  have HB7 := Lib.hid (bthen HB6.out hb)
  have HT7 := Lib.hid (HT6.out.below hb)
  have HU7 := Lib.hid (HU6.out.below hb)
  have HX7 := Lib.hid (bkbel HX6.out hb)
  have HY7 := Lib.hid (bkbel HY5.out hb)
  clear hb HB6 HS16 HS26 HT6 HU6 HX6 HY5
  obtain ⟨x0, x1, x2, x3⟩ := cells4 HX7.out
  obtain ⟨y0, y1, y2, y3⟩ := cells4 HY7.out
  have hql : q < w7.heap.size := HY7.out.lt
  have hpl : p < w7.heap.size := HX7.out.lt
  have HBb : Hid (Below w7.heap.size w7 ((w7.alloc (.cells #[.bool del, .int .i64 id, .slice LA Ln Lc, .slice HA Hn Hc] 33)).alloc (.cells #[.bool del, .int .i64 id, .slice LA2 Ln2 Lc2, .slice HA2 Hn2 Hc2] 59))) := balloc (balloc (Below.refl _ _) _) _
  have HE8 := Lib.hid (equalC (some ⟨w7.heap.size, 0, none⟩) (some ⟨w7.heap.size + 1, 0, none⟩) _ _ 1 1 1 1 _ (Lib.hid (one_step HBb.out HT7.out ((Bk.new w7 33 (stc ⟨del, id, lits, hints⟩ ⟨⟨LA, Ln, Lc⟩, ⟨HA, Hn, Hc⟩⟩)).alloc _))) (Lib.hid (one_step HBb.out HU7.out (Bk.newAt _ 59 (stc ⟨del, id, lits, hints⟩ ⟨⟨LA2, Ln2, Lc2⟩, ⟨HA2, Hn2, Hc2⟩⟩) (w7.heap.size + 1) (by simp)))) rfl)
  cases P with
  | none =>
    dsimp only [parseN, Option.isSome]
    go_wp2_with fail
    refine HE8.out.mono ?_
    rintro e w8 ⟨rfl, hb⟩
    have HB8 := Lib.hid (bthen HB7.out (bthen HBb.out hb))
    clear hb
    go_wp2
    go_ret
    exact ⟨rfl, HB8.out⟩
  | some st =>
    dsimp only [parseN, Option.isSome]
    go_wp2_with fail
    refine HE8.out.mono ?_
    rintro e w8 ⟨rfl, hb⟩
    have HB8 := Lib.hid (bthen HB7.out (bthen HBb.out hb))
    clear hb
    go_wp2
    go_ret
    exact ⟨rfl, HB8.out⟩
end Go.Proofs.YteglgcfbmjlnkaaGreatDoor
