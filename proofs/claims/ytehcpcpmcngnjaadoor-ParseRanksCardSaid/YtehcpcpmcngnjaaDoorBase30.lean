/-
  Words for memory that the texts of layer 30 share: strings as lists of bytes, slices in blocks of known types, worlds in which rows of a type stay.
-/
import Derived.Test.YtehcpcpmcngnjaaDoorShelf
import Derived.Test.YtehcpcpmcngnjaaDoorRows
import Derived.Test.YtehcpcpmcngnjaaDoorApp
import Derived.PlainAid
import Derived.WalkSmall
import Derived.Laws.EntriesVeiled
set_option linter.unusedVariables false
set_option linter.unusedSimpArgs false
namespace Go.Proofs.YtehcpcpmcngnjaaDoor
open Go.RowKit Go.PlainAid

/-- A string of bytes. -/
def str (l : List UInt8) : ByteArray := ⟨l.toArray⟩
theorem str_data (l : List UInt8) : (str l).data.toList = l := rfl
theorem str_size (l : List UInt8) : (str l).size = l.length := by show l.toArray.size = l.length; simp only [List.size_toArray]
theorem str_of (s : ByteArray) : str s.data.toList = s := by unfold str; rw [Array.toArray_toList]
theorem data_inj {s t : ByteArray} (h : s.data.toList = t.data.toList) : s = t := by rw [← str_of s, ← str_of t, h]
theorem data_len (s : ByteArray) : s.data.toList.length = s.size := by show _ = s.data.size; simp only [Array.length_toList]
theorem str_inj {l m : List UInt8} (h : str l = str m) : l = m := by rw [← str_data l, ← str_data m, h]
theorem toList_data (s : ByteArray) : s.toList = s.data.toList := by
  rw [ByteArray.toList_eq]
theorem cat_data (a b : ByteArray) : (a ++ b).data.toList = a.data.toList ++ b.data.toList := by
  rw [ByteArray.data_append, Array.toList_append]
theorem cat_size (a b : ByteArray) : (a ++ b).size = a.size + b.size := by
  rw [← data_len, cat_data, List.length_append, data_len, data_len]
theorem cat_str (l m : List UInt8) : str l ++ str m = str (l ++ m) := data_inj (by rw [cat_data, str_data, str_data, str_data])
theorem bt_some {s : ByteArray} {k : Nat} {c : UInt8} (h : s.data.toList[k]? = some c) : bt s k = (c.toNat : Int) := by
  obtain ⟨hk, he⟩ := List.getElem?_eq_some_iff.1 h
  have hk' : k < s.size := by simpa using hk
  rw [← get_bt s k hk', ← he]
  rfl
theorem bt_get {s : ByteArray} {k : Nat} (h : k < s.size) : ∃ c : UInt8, s.data.toList[k]? = some c ∧ bt s k = (c.toNat : Int) := by
  have hk : k < s.data.toList.length := by rw [data_len]; exact h
  exact ⟨_, List.getElem?_eq_getElem hk, bt_some (List.getElem?_eq_getElem hk)⟩
theorem ext_data (s : ByteArray) (i : Nat) : (s.extract i s.size).data.toList = s.data.toList.drop i := by
  simp [ByteArray.data_extract, Array.toList_extract, List.extract_eq_take_drop]
  rw [List.take_of_length_le]
  rw [List.length_drop, data_len]
  exact Nat.le_refl _
theorem ext_mid (s : ByteArray) (i j : Nat) : (s.extract i j).data.toList = (s.data.toList.drop i).take (j - i) := by
  simp [ByteArray.data_extract, Array.toList_extract, List.extract_eq_take_drop]
theorem ext_str (s : ByteArray) (i j : Nat) : s.extract i j = str ((s.data.toList.drop i).take (j - i)) := data_inj (by rw [ext_mid, str_data])
theorem ext_tail (s : ByteArray) (i : Nat) : s.extract i s.size = str (s.data.toList.drop i) := data_inj (by rw [ext_data, str_data])
theorem drop_at {l : List UInt8} {i : Nat} {c : UInt8} (h : l[i]? = some c) : l.drop i = c :: l.drop (i + 1) := by
  obtain ⟨hk', he⟩ := List.getElem?_eq_some_iff.1 h
  rw [← he, List.drop_eq_getElem_cons hk']
/-- Equality of strings as the walk tests it. -/
theorem str_beq (a b : List UInt8) : ((str a).toList == (str b).toList) = decide (a = b) := by
  rw [toList_data, toList_data, str_data, str_data]
  by_cases h : a = b
  · subst h; simp
  · rw [decide_eq_false h]; simpa using h
theorem str_bne (a b : List UInt8) : ((str a).toList != (str b).toList) = !decide (a = b) := by rw [bne, str_beq]
theorem balloc {w w1 : World} (h : Below w.heap.size w w1) (o : Obj) : Below w.heap.size w (w1.alloc o) := h.alloc h.size o
theorem bkbel {w w' : World} {g : Nat} {t : TypeId} {cs : Array Value} (h : Bk w g t cs) (hb : Below w.heap.size w w') : Bk w' g t cs := h.below hb h.lt

/-- A slice's value. -/
structure SV where
  A : Option Addr
  n : Nat
  c : Nat
/-- A slice reads as cells, in a block of type t. -/
structure RdT (w : World) (A : Option Addr) (t : TypeId) (xs : List Value) : Prop where
  rd : Rd w A xs
  ty : ∀ b off, A = some ⟨b, off, none⟩ → ∃ cs fr, w.heap[b]? = some (.cells cs t fr)
/-- The blocks of type t stay as they are. -/
def Keeps (t : TypeId) (w w' : World) : Prop := ∀ (b : Nat) cs fr, w.heap[b]? = some (.cells cs t fr) → w'.heap[b]? = w.heap[b]?
section
variable {w w' w'' : World} {A : Option Addr} {t t' : TypeId} {xs : List Value}
theorem Keeps.refl (t : TypeId) (w : World) : Keeps t w w := fun _ _ _ _ => rfl
theorem Keeps.trans (h : Keeps t w w') (k : Keeps t w' w'') : Keeps t w w'' := fun b cs fr hb => (k b cs fr ((h b cs fr hb).trans hb)).trans (h b cs fr hb)
theorem Keeps.below (h : Below w.heap.size w w') : Keeps t w w' := fun b _ _ hb => h.block b (lt_of_heap hb)
theorem Keeps.fr {F : Nat → Prop} (h : Fr F w w') (hF : ∀ b cs fr, w.heap[b]? = some (.cells cs t fr) → ¬ F b) : Keeps t w w' := fun b cs fr hb => h.block b (lt_of_heap hb) (hF b cs fr hb)
/-- Only the block g, of another type, has changed. -/
theorem Keeps.box {g : Nat} {cs : Array Value} (h : Fr (fun k => k = g) w w') (hk : Bk w g t' cs) (hne : t' ≠ t) : Keeps t w w' := Keeps.fr h (by
  rintro b cs fr hb rfl
  unfold Bk at hk
  rw [hb] at hk
  injection hk with hk
  injection hk with _ hk
  exact hne hk.symm)
theorem RdT.keeps (h : RdT w A t xs) (hk : Keeps t w w') : RdT w' A t xs :=
  ⟨fun hx => by
    obtain ⟨b, off, cs, t0, fr, rfl, hb, hc⟩ := h.rd hx
    obtain ⟨cs', fr', hb'⟩ := h.ty b off rfl
    rw [hb'] at hb
    injection hb with hb
    injection hb with e1 e2 e3
    subst e1 e2 e3
    exact ⟨b, off, _, _, _, rfl, (hk b _ _ hb').trans hb', hc⟩,
  fun b off he => by
    obtain ⟨cs, fr, hb⟩ := h.ty b off he
    exact ⟨cs, fr, (hk b _ _ hb).trans hb⟩⟩
theorem RdT.below (h : RdT w A t xs) (hb : Below w.heap.size w w') : RdT w' A t xs := h.keeps (Keeps.below hb)
theorem RdT.nil : RdT w none t [] := ⟨Rd.nil, fun _ _ h => by cases h⟩
theorem RdT.new (w : World) (cs : Array Value) (t : TypeId) : RdT (w.alloc (.cells cs t)) (some ⟨w.heap.size, 0, none⟩) t cs.toList :=
  ⟨Rd.new w cs t, fun b off he => by
    injection he with he
    injection he with he
    subst he
    exact ⟨cs, _, heap_alloc_new w _⟩⟩
theorem RdT.of_own {base : Nat} {e : TypeId} {size n c : Nat} (h : w.ownsRow base e size (.slice A n c) n xs) : RdT w A e xs :=
  ⟨Rd.of_own h, fun b off he => by
    rcases h.2 with ⟨h0, _⟩ | ⟨g', cap, cur, h0, _, hh, _⟩
    · injection h0 with h0
      rw [h0] at he
      cases he
    · injection h0 with h0
      rw [h0] at he
      injection he with he
      injection he with he
      subst he
      exact ⟨cur, _, hh⟩⟩
/-- A row of another type grows: the blocks of type t stay. -/
theorem Keeps.grown {base size n : Nat} {e : TypeId} {v : Value} {ys : List Value} (ho : w.ownsRow base e size v n ys) (hne : e ≠ t) (hg : w.grownBy w' v.ownBlock) : Keeps t w w' := by
  refine Keeps.fr (F := fun k => v.ownBlock = some k) ((Fr.refl _ w).grown hg (fun k hk => .inl hk)) ?_
  rintro b cs fr hh hq
  rcases ho.2 with ⟨rfl, _⟩ | ⟨g', cap, cur, rfl, _, hh', _⟩
  · simp [Value.ownBlock] at hq
  · have : g' = b := by simpa [Value.ownBlock] using hq
    subst this
    rw [hh'] at hh
    injection hh with hh
    injection hh with _ ht
    exact hne ht
end

/-! ### Rows of elements of some cells -/
theorem flat_len {α : Type} {m : Nat} (f : α → List Value) (hf : ∀ x, (f x).length = m) (L : List α) : (L.flatMap f).length = L.length * m := by
  induction L with
  | nil => simp
  | cons x D ih => rw [List.flatMap_cons, List.length_append, ih, hf, List.length_cons, Nat.succ_mul, Nat.add_comm]
theorem flat_at {α : Type} {m : Nat} (f : α → List Value) (hf : ∀ x, (f x).length = m) (L : List α) (i : Nat) (x : α) (h : L[i]? = some x) (j : Nat) (hj : j < m) : (L.flatMap f)[i * m + j]? = (f x)[j]? := by
  induction L generalizing i with
  | nil => simp at h
  | cons y D ih =>
    rw [List.flatMap_cons]
    cases i with
    | zero =>
      simp at h
      subst h
      rw [List.getElem?_append_left (by rw [hf]; omega)]
      simp
    | succ i =>
      simp at h
      rw [List.getElem?_append_right (by rw [hf, Nat.succ_mul]; omega), hf, ← ih i h]
      congr 1
      rw [Nat.succ_mul]
      omega
theorem Rd.flat {α : Type} {m : Nat} {f : α → List Value} (hf : ∀ x, (f x).length = m) (hm : 0 < m) {w : World} {A : Option Addr} {L : List α} {i : Nat} (h : Rd w A (L.flatMap f)) (hi : i < L.length) :
    ∃ b off x, A = some ⟨b, off, none⟩ ∧ L[i]? = some x ∧ b < w.heap.size ∧ ∀ j u, j < m → (f x)[j]? = some u → w.cell? ⟨b, off + (i * m + j), none⟩ = some u := by
  have hne : L.flatMap f ≠ [] := by
    intro e
    have h0 := flat_len f hf L
    rw [e, List.length_nil] at h0
    have h1 := Nat.mul_le_mul hi hm
    have h2 := Nat.le_mul_of_pos_right L.length hm
    omega
  obtain ⟨b, off, rfl, hb, hc⟩ := h.cells hne
  exact ⟨b, off, L[i], rfl, List.getElem?_eq_getElem hi, hb, fun j u hj hu => hc _ _ ((flat_at f hf L i _ (List.getElem?_eq_getElem hi) j hj).trans hu)⟩
end Go.Proofs.YtehcpcpmcngnjaaDoor
