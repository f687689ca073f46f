/-
  The walks of package tokens: Next, Text, Value, Parts.
-/
import Derived.Test.YtehcpcpmcngnjaaDoorTokC
set_option linter.unusedVariables false
set_option linter.unusedSimpArgs false
namespace Go.Proofs.YtehcpcpmcngnjaaDoor
open Go.RowKit Go.PlainAid

def errB (b : Bool) : Nat := if b then 280 else 0
/-- What Next returns. -/
def nextV (q : Nat × Nat × Nat × Bool) : Value := .tuple #[tokV q.1 q.2.1 q.2.2.1, .int .i64 (errB q.2.2.2 : Int)]
theorem ret_next {q q' : Nat × Nat × Nat × Bool} (h : q = q') : Ending.returned (nextV q) = .returned (nextV q') := by rw [h]
theorem tokT_zero (l : List UInt8) (h : (tokT l).1 = 0) : (tokT l).2 = 0 := by
  cases l with
  | nil => rfl
  | cons c r =>
    rw [tokT] at h ⊢
    split at h
    · cases h
    · rename_i h1
      rw [if_neg h1]
      split at h
      · exfalso
        revert h
        split
        · split <;> simp
        · simp
      · rename_i h2
        rw [if_neg h2]
        split at h
        · cases h
        · rename_i h3
          rw [if_neg h3]
theorem tkAt_zero {t : List UInt8} {b f : Nat} (h : tkAt t b = (0, f)) : f = b := by
  unfold tkAt at h
  injection h with h1 h2
  rw [tokT_zero _ h1] at h2
  omega
theorem bel3 {w w1 : World} {p : Nat} {v0 v1 v2 : Value} (h : Below w.heap.size w w1) (hp : w.heap.size ≤ p) : Below w.heap.size w (((w1.setCell ⟨p, 0, none⟩ v0).setCell ⟨p, 1, none⟩ v1).setCell ⟨p, 2, none⟩ v2) :=
  ((h.setCell (p := ⟨p, 0, none⟩) hp v0).setCell (p := ⟨p, 1, none⟩) hp v1).setCell (p := ⟨p, 2, none⟩) hp v2
theorem put3 {w : World} {g : Nat} {t : TypeId} {u0 u1 u2 v0 v1 v2 : Value} (h : Bk w g t #[u0, u1, u2]) : Bk (((w.setCell ⟨g, 0, none⟩ v0).setCell ⟨g, 1, none⟩ v1).setCell ⟨g, 2, none⟩ v2) g t #[v0, v1, v2] := ((h.put 0 v0).put 1 v1).put 2 v2
theorem far3 {w : World} {g p : Nat} {t : TypeId} {cs : Array Value} {v0 v1 v2 : Value} (h : Bk w g t cs) (hp : g ≠ p) : Bk (((w.setCell ⟨p, 0, none⟩ v0).setCell ⟨p, 1, none⟩ v1).setCell ⟨p, 2, none⟩ v2) g t cs := ((h.far (p := ⟨p, 0, none⟩) hp v0).far (p := ⟨p, 1, none⟩) hp v1).far (p := ⟨p, 2, none⟩) hp v2
theorem bcells3 {w : World} {g : Nat} {t : TypeId} {u0 u1 u2 : Value} (h : Bk w g t #[u0, u1, u2]) : w.cell? ⟨g, 0, none⟩ = some u0 ∧ w.cell? ⟨g, 1, none⟩ = some u1 ∧ w.cell? ⟨g, 2, none⟩ = some u2 := ⟨h.cell 0, h.cell 1, h.cell 2⟩
theorem bfroz3 {w : World} {g : Nat} {t : TypeId} {u0 u1 u2 : Value} (h : Bk w g t #[u0, u1, u2]) : w.frozen? ⟨g, 0, none⟩ = false ∧ w.frozen? ⟨g, 1, none⟩ = false ∧ w.frozen? ⟨g, 2, none⟩ = false := ⟨h.frozen 0, h.frozen 1, h.frozen 2⟩
set_option maxRecDepth 100000 in
set_option maxHeartbeats 2000000 in
theorem nextTC (s : ByteArray) (a : Nat) (w : World) (ha : a ≤ s.size) (hs : s.size ≤ 100000000) :
    Calls Tryd.prog 51 #[.string s, .int .i64 (a : Int)] w fun e w' => e = .returned (nextV (nextT s.data.toList a)) ∧ Below w.heap.size w w' := by
  have e1 : decide ((a : Int) < 0) = false := by simp
  have e2 : decide ((s.size : Int) < (a : Int)) = false := by simp; omega
  obtain ⟨b, hb⟩ : ∃ b, skAt s.data.toList a = b := ⟨_, rfl⟩
  have hle := skAt_le (t := s.data.toList) (a := a) (by rw [data_len]; omega)
  rw [data_len, hb] at hle
  have HS : Hid (∀ w, Calls Tryd.prog 56 #[.string s, .int .i64 (a : Int)] w fun e w' => e = .returned (.int .i64 (b : Int)) ∧ w = w') := fun w => by
    have h1 := skipC s a w ha hs
    rw [hb] at h1
    exact h1
  by_cases h1 : b < s.size
  · obtain ⟨⟨k, f⟩, hk⟩ : ∃ q, tkAt s.data.toList b = q := ⟨_, rfl⟩
    have hT := nextT_tok hb (by rw [data_len]; exact h1) k f hk
    have HT : Hid (∀ w, Calls Tryd.prog 57 #[.string s, .int .i64 (b : Int)] w fun e w' => e = .returned (tokV k b f) ∧ Below w.heap.size w w') := fun w => by
      have h2 := tokenC s b w h1 hs
      rw [hk] at h2
      exact h2
    have e3 : ((b : Int) == (s.size : Int)) = false := by simp; omega
    have HB0 : Hid (Below w.heap.size w (w.alloc (.cells #[.int .u8 0, .int .i64 0, .int .i64 0] 74))) := balloc (Below.refl _ _) _
    have HK0 := Lib.hid (Bk.new w 74 #[.int .u8 0, .int .i64 0, .int .i64 0])
    have hrest : ∀ (w2 : World), Below (w.alloc (.cells #[.int .u8 0, .int .i64 0, .int .i64 0] 74)).heap.size (w.alloc (.cells #[.int .u8 0, .int .i64 0, .int .i64 0] 74)) w2 → Below w.heap.size w w2 ∧ Bk w2 w.heap.size 74 #[.int .u8 0, .int .i64 0, .int .i64 0] ∧ w.heap.size < w2.heap.size := fun w2 h => by
      have h3 := bkbel HK0.out h
      exact ⟨bthen HB0.out h, h3, h3.lt⟩
    have HR := Lib.hid hrest
    clear hrest
    by_cases hk0 : k = 0
    · subst hk0
      rw [if_pos rfl] at hT
      have hf : b = f := (tkAt_zero hk).symm
      have E : Hid ((0, b, b, true) = nextT s.data.toList a) := hT.symm
      clear hT hb hk
      subst hf
      go_enter Tryd.func51, Tryd.ntmps51
      go_wp2_with fail
      refine (HS.out _).mono ?_
      rintro e w' ⟨rfl, rfl⟩
      go_wp2_with fail
      refine (HT.out _).mono ?_
      rintro e w2 ⟨rfl, h⟩
      have HR2 := Lib.hid (HR.out w2 h)
      have hlt := HR2.out.2.2
      clear h
      obtain ⟨y0, y1, y2⟩ := bcells3 HR2.out.2.1
      obtain ⟨z0, z1, z2⟩ := bfroz3 HR2.out.2.1
      dsimp only [tokV]
      go_wp2_with fail
      have HF := Lib.hid ((put3 (v0 := .int .u8 0) (v1 := .int .i64 (b : Int)) (v2 := .int .i64 (b : Int)) HR2.out.2.1).alloc (.cells #[.int .u8 0, .int .i64 (b : Int), .int .i64 (b : Int)] 74))
      have HFB := Lib.hid (balloc (bel3 (v0 := .int .u8 0) (v1 := .int .i64 (b : Int)) (v2 := .int .i64 (b : Int)) HR2.out.1 (Nat.le_refl _)) (.cells #[.int .u8 0, .int .i64 (b : Int), .int .i64 (b : Int)] 74))
      clear y0 y1 y2 z0 z1 z2
      generalize ((((w2.setCell ⟨w.heap.size, 0, none⟩ (.int .u8 0)).setCell ⟨w.heap.size, 1, none⟩ (.int .i64 (b : Int))).setCell ⟨w.heap.size, 2, none⟩ (.int .i64 (b : Int))).alloc (.cells #[.int .u8 0, .int .i64 (b : Int), .int .i64 (b : Int)] 74)) = WF at HF HFB ⊢
      obtain ⟨r0, r1, r2⟩ := bcells3 HF.out
      refine bodyPost_ret (v := nextV (0, b, b, true)) (by simp [results, Tryd.results51, go_sem, nextV, tokV, errB, r0, r1, r2]) rfl ?_
      exact ⟨ret_next E.out, HFB.out⟩
    · rw [if_neg hk0] at hT
      have E : Hid ((k, b, f, false) = nextT s.data.toList a) := hT.symm
      have ek : ((k : Int) == 0) = false := by simp; omega
      clear hT hb hk
      go_enter Tryd.func51, Tryd.ntmps51
      go_wp2_with fail
      refine (HS.out _).mono ?_
      rintro e w' ⟨rfl, rfl⟩
      go_wp2_with fail
      refine (HT.out _).mono ?_
      rintro e w2 ⟨rfl, h⟩
      have HR2 := Lib.hid (HR.out w2 h)
      have hlt := HR2.out.2.2
      clear h
      obtain ⟨y0, y1, y2⟩ := bcells3 HR2.out.2.1
      obtain ⟨z0, z1, z2⟩ := bfroz3 HR2.out.2.1
      dsimp only [tokV]
      go_wp2_with fail
      have HF := Lib.hid ((put3 (v0 := .int .u8 (k : Int)) (v1 := .int .i64 (b : Int)) (v2 := .int .i64 (f : Int)) HR2.out.2.1).alloc (.cells #[.int .u8 (k : Int), .int .i64 (b : Int), .int .i64 (f : Int)] 74))
      have HFB := Lib.hid (balloc (bel3 (v0 := .int .u8 (k : Int)) (v1 := .int .i64 (b : Int)) (v2 := .int .i64 (f : Int)) HR2.out.1 (Nat.le_refl _)) (.cells #[.int .u8 (k : Int), .int .i64 (b : Int), .int .i64 (f : Int)] 74))
      clear y0 y1 y2 z0 z1 z2
      generalize ((((w2.setCell ⟨w.heap.size, 0, none⟩ (.int .u8 (k : Int))).setCell ⟨w.heap.size, 1, none⟩ (.int .i64 (b : Int))).setCell ⟨w.heap.size, 2, none⟩ (.int .i64 (f : Int))).alloc (.cells #[.int .u8 (k : Int), .int .i64 (b : Int), .int .i64 (f : Int)] 74)) = WF at HF HFB ⊢
      obtain ⟨r0, r1, r2⟩ := bcells3 HF.out
      refine bodyPost_ret (v := nextV (k, b, f, false)) (by simp [results, Tryd.results51, go_sem, nextV, tokV, errB, r0, r1, r2]) rfl ?_
      exact ⟨ret_next E.out, HFB.out⟩
  · have hbe : b = s.size := by omega
    have e3 : ((b : Int) == (s.size : Int)) = true := by simp; omega
    have E : Hid ((0, b, b, false) = nextT s.data.toList a) := (nextT_end hb (by rw [data_len]; exact hbe)).symm
    subst hbe
    clear hb
    go_enter Tryd.func51, Tryd.ntmps51
    go_wp2_with fail
    refine (HS.out _).mono ?_
    rintro e w' ⟨rfl, rfl⟩
    go_wp2_with fail
    refine bodyPost_ret (v := nextV (0, s.size, s.size, false)) (by simp [results, Tryd.results51, go_sem, nextV, tokV, errB]) rfl ?_
    exact ⟨ret_next E.out, balloc (Below.refl _ _) _⟩
end Go.Proofs.YtehcpcpmcngnjaaDoor
