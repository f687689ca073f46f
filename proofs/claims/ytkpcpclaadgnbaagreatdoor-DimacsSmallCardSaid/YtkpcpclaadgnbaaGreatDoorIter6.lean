/-
  The iterator dimacs.words: what it yields.
-/
import Derived.Test.YtkpcpclaadgnbaaGreatDoorWord6
import Derived.RangeFuncNested
import Derived.RangeFuncBound
import Derived.RangeFuncCalls
import Derived.RangeFuncLeaves
import Derived.Shelf.Abstract
import Derived.Shelf.RegionOpen
import Derived.OwnWalkIn
import Derived.TacticsInMore
import Derived.LoopNIn
import Derived.LoopIn
import Derived.ControlIn
set_option linter.unusedVariables false
set_option linter.unusedSimpArgs false
namespace Go.Proofs.YtkpcpclaadgnbaaGreatDoor
open Go.RowKit Go.Shelf
attribute [local go_sem] Oper.semAt_some

/-- The blocks of S, and rows of strings, are as they were. -/
def KpQ (S : Nat → Prop) (W W' : World) : Prop := (W.heap.size ≤ W'.heap.size ∧ ∀ k, S k → W'.heap[k]? = W.heap[k]?) ∧ Strs W W'
theorem KpQ.refl (S : Nat → Prop) (W : World) : KpQ S W W := ⟨⟨Nat.le_refl _, fun _ _ => rfl⟩, fun _ _ h => h⟩
theorem KpQ.trans {S : Nat → Prop} {A B C : World} (h : KpQ S A B) (k : KpQ S B C) : KpQ S A C := ⟨⟨Nat.le_trans h.1.1 k.1.1, fun i hi => (k.1.2 i hi).trans (h.1.2 i hi)⟩, h.2.trans k.2⟩
theorem KpQ.of_below {S : Nat → Prop} {W W' : World} (h : Below W.heap.size W W') (hS : ∀ k, S k → k < W.heap.size) : KpQ S W W' := ⟨⟨h.size, fun k hk => h.block k (hS k hk)⟩, Strs.below h⟩
theorem KpQ.putObj {S : Nat → Prop} (W : World) (l : Nat) (o o' : Obj) (hl : ∀ k, S k → k < l) (ho : W.heap[l]? = some o) (hc : o.isCells = false) : KpQ S W (W.putObj l o') := by
  refine ⟨⟨by simp [World.putObj], fun k hk => ?_⟩, fun k cs hk => ?_⟩
  · have := hl k hk
    simp [World.putObj, Array.getElem?_setIfInBounds]
    omega
  · have hne : l ≠ k := by
      rintro rfl
      have h1 : W.heap[l]? = _ := hk
      rw [h1] at ho
      injection ho with ho
      subst ho
      cases hc
    show (W.putObj l o').heap[k]? = _
    simp [World.putObj, Array.getElem?_setIfInBounds, hne]
    exact hk
theorem Bk.kpq {S : Nat → Prop} {g : Nat} {U W : World} {t : TypeId} {cs : Array Value} (h : Bk U g t cs) (hk : KpQ S U W) (hg : S g) : Bk W g t cs := (hk.1.2 g hg).trans h

def wordsBL (s : ByteArray) : List ByteArray := (pieces s 32).filter fun w => !w.data.toList.isEmpty
def wordsB : List ByteArray → Nat → List (Nat × ByteArray)
  | [], _ => []
  | l :: r, i => (if overD l.data.toList then [] else (wordsBL l).map fun w => (i + 1, w)) ++ wordsB r (i + 1)
theorem wordsBL_data (s : ByteArray) : (wordsBL s).map (·.data.toList) = wordsL s.data.toList := by
  unfold wordsBL wordsL
  rw [← pieces_data, List.filter_map]
  rfl
theorem wordsB_data : ∀ (ls : List ByteArray) (i : Nat), (wordsB ls i).map (fun p => (p.1, p.2.data.toList)) = wordsD (ls.map (·.data.toList)) i
  | [], _ => rfl
  | l :: r, i => by
    unfold wordsB
    rw [List.map_cons]
    unfold wordsD
    rw [List.map_append, wordsB_data r (i + 1)]
    congr 1
    split
    · rfl
    · rw [← wordsBL_data, List.map_map, List.map_map]
      rfl
theorem wordsB_drop {Ws : List ByteArray} {k : Nat} {s : ByteArray} (h : Ws[k]? = some s) : wordsB (Ws.drop k) k = (if overD s.data.toList then [] else (wordsBL s).map fun w => (k + 1, w)) ++ wordsB (Ws.drop (k + 1)) (k + 1) := by
  have hd : Ws.drop k = s :: Ws.drop (k + 1) := by
    obtain ⟨hk', he⟩ := List.getElem?_eq_some_iff.1 h
    rw [← he, List.drop_eq_getElem_cons hk']
  rw [hd]
  rfl
theorem wordsB_small {Ws : List ByteArray} (hw : ∀ s ∈ Ws, s.size ≤ 20000000) : ∀ (i : Nat), ∀ p ∈ wordsB Ws i, p.2.size ≤ 20000000 := by
  induction Ws with
  | nil => intro i p hp; cases hp
  | cons l r ih =>
    intro i p hp
    unfold wordsB at hp
    rcases List.mem_append.1 hp with hp | hp
    · split at hp
      · cases hp
      · obtain ⟨w, hw', rfl⟩ := List.mem_map.1 hp
        exact (pieces_small6 l 32 (hw l (by simp))).2 w (List.mem_filter.1 hw').1
    · exact ih (fun s hs => hw s (by simp [hs])) _ p hp
/-- The words of a line from the j-th piece on. -/
def restW (P : List ByteArray) (j k1 : Nat) : List (Nat × ByteArray) := ((P.drop j).filter fun w => !w.data.toList.isEmpty).map fun w => (k1, w)
theorem restW_step {P : List ByteArray} {j k1 : Nat} {x : ByteArray} (h : P[j]? = some x) : restW P j k1 = (if x.data.toList.isEmpty then [] else [(k1, x)]) ++ restW P (j + 1) k1 := by
  have hd : P.drop j = x :: P.drop (j + 1) := by
    obtain ⟨hk', he⟩ := List.getElem?_eq_some_iff.1 h
    rw [← he, List.drop_eq_getElem_cons hk']
  unfold restW
  rw [hd, List.filter_cons]
  cases x.data.toList.isEmpty <;> rfl

/-- What is yielded. -/
abbrev Yw (L : List (Nat × ByteArray)) := { p : Nat × ByteArray // p ∈ L }
def yEnc {L : List (Nat × ByteArray)} (p : Yw L) : Array Value := #[.int .i64 (p.1.1 : Int), .string p.1.2]
def YAll {L : List (Nat × ByteArray)} (xs : List (Yw L)) : Prop := xs.map (·.1) = L
def YPre {L : List (Nat × ByteArray)} (xs : List (Yw L)) : Prop := ∃ r, xs.map (·.1) ++ r = L
/-- What the iterator reads. -/
structure ItAt6 (W : World) (hb lb wb : Nat) (Ws : List ByteArray) (c beh : Nat) : Prop where
  box : W.cell? ⟨lb, 0, none⟩ = some (.slice (some ⟨wb, 0, none⟩) Ws.length c)
  beh : W.cell? ⟨hb, 0, none⟩ = some (.int .i64 beh)
  words : ∀ (i : Nat) (s : ByteArray), Ws[i]? = some s → W.cell? ⟨wb, i, none⟩ = some (.string s)
  vars : Vars W

set_option maxHeartbeats 4000000 in
set_option maxRecDepth 100000 in
theorem wordsIter (n l hb lb wb beh : Nat) (Ws : List ByteArray) (c : Nat) (S : Nat → Prop) (W0 : World) (L : List (Nat × ByteArray)) (hL : Hid (wordsB (Ws.drop beh) beh = L)) (hS : Hid (∀ k, S k → k < W0.heap.size)) (hn : 1 ≤ n)
    (hIt : Hid (∀ W, KpQ S W0 W → ItAt6 W hb lb wb Ws c beh)) (hl : Ws.length ≤ 100000000) (hws : Hid (∀ s ∈ Ws, s.size ≤ 20000000)) (hbeh : beh ≤ Ws.length)
    (J Jx : List (Yw L) → World → Prop) (hJ : Hid (∀ pre W W', J pre W → Below W.heap.size W W' → J pre W'))
    (hY : Hid (∀ pre x W, J pre W → pre.length < L.length → YieldAt Fence.wide (n - 1) Tryz.prog l (yEnc x) W fun e W' =>
      (e = .returned (.bool true) ∧ J (pre ++ [x]) W' ∧ KpQ S W W') ∨ (e = .returned (.bool false) ∧ Jx (pre ++ [x]) W')))
    (h0 : Hid (J [] W0)) :
    CallsIn Fence.wide n Tryz.prog 91 #[.func (.yield l) #[] #[], .pointer (some ⟨hb, 0, none⟩), .pointer (some ⟨lb, 0, none⟩)] W0 fun e W' => (∃ v, e = .returned v) ∧
      ((∃ ys, YAll ys ∧ J ys W') ∨ (∃ pre, YPre pre ∧ Jx pre W')) := by
  refine callsIn_of_wp Tryz.func91 rfl trivial ?_ rfl
  simp only [Tryz.ntmps91, List.size_toArray, List.length_cons, List.length_nil, Nat.reduceAdd, Nat.reduceSub, Array.replicate_succ, Array.replicate_zero, List.push_toArray, List.append_toArray, List.nil_append, List.cons_append]
  have x3 := (hIt.out W0 (KpQ.refl _ _)).beh
  gi_wp2
  clear x3
  gi_loopw [4] (fun ii wr => ∃ (k : Nat) (pre : List (Yw L)), k ≤ Ws.length ∧ ii = .int .i64 k ∧ Hid (pre.map (·.1) ++ wordsB (Ws.drop k) k = L) ∧ Hid (J pre wr) ∧ Hid (KpQ S W0 wr)) (fun ii _ => Ws.length - (intOf ii).toNat)
  case atStart => exact ⟨beh, [], hbeh, rfl, hL, h0, KpQ.refl _ _⟩
  case round =>
    obtain ⟨k, pre, hk, rfl, HP, HJ, HK⟩ := hrel
    have hit := hIt.out wr HK.out
    have y0 := hit.box
    by_cases hlt : k < Ws.length
    · have e1 : decide ((k : Int) < (Ws.length : Int)) = true := by simp; omega
      have hki : (k : Int) < (Ws.length : Int) := by omega
      have hx : Ws[k]? = some (Ws[k]'hlt) := List.getElem?_eq_getElem _
      generalize Ws[k]'hlt = s at hx
      have hcs := hit.words k s hx
      have HV := Lib.hid hit.vars
      have hsz := hws.out s (List.mem_of_getElem? hx)
      have hP2 := HP.out
      rw [wordsB_drop hx] at hP2
      have HX := Lib.hid hx
      have hSr : Hid (∀ k, S k → k < wr.heap.size) := fun i hi => Nat.lt_of_lt_of_le (hS.out i hi) HK.out.1.1
      obtain ⟨k1, hk1⟩ : ∃ k1, k + 1 = k1 := ⟨_, rfl⟩
      have wk : IntKind.i64.wrap ((k : Int) + 1) = (k1 : Int) := by rw [IntKind.wrap_i64]; omega
      rw [hk1] at hP2
      clear hit hx HP
      cases hov : overD s.data.toList with
      | true =>
        rw [hov, if_pos rfl, List.nil_append] at hP2
        have HP3 := Lib.hid hP2
        clear hP2
        gi_wp2_with (refine ⟨trivial, ?_⟩; gi_at_call 50; refine (callsIn_wide.2 (overDC s wr (by omega))).mono ?_; rintro e w1 ⟨rfl, hb1⟩; rw [hov]; have HB1 := Lib.hid hb1; clear hb1)
        have HJ1 := Lib.hid (hJ.out pre _ _ HJ.out HB1.out)
        have HK1 := Lib.hid (HK.out.trans (KpQ.of_below HB1.out hSr.out))
        clear hov
        go_roundw
        case rel => exact ⟨k1, pre, by omega, rfl, HP3, HJ1, HK1⟩
        case measure => simp [intOf]; omega
      | false =>
        rw [hov, if_neg (by simp)] at hP2
        obtain ⟨P, hPe⟩ : ∃ P, pieces s 32 = P := ⟨_, rfl⟩
        have hps := pieces_small6 s 32 hsz
        rw [hPe] at hps
        have hpl := hps.1
        have HPS := Lib.hid hps.2
        have HPE := Lib.hid hPe
        have HR0 : Hid ((wordsBL s).map (fun w => (k1, w)) = restW P 0 k1) := by show _ = _; unfold wordsBL restW; rw [hPe, List.drop_zero]
        rw [HR0.out] at hP2
        have HP3 := Lib.hid hP2
        clear hP2 hps hPe
        have HB1a : Hid (∀ w1, Below wr.heap.size wr w1 → ItAt6 w1 hb lb wb Ws c beh) := fun w1 h1 => hIt.out w1 (HK.out.trans (KpQ.of_below h1 hSr.out))
        gi_wp2_with (first
          | (refine ⟨trivial, ?_⟩; gi_at_call 50; refine (callsIn_wide.2 (overDC s wr (by omega))).mono ?_; rintro e w1 ⟨rfl, hb1⟩; rw [hov]; have HB1 := Lib.hid hb1; have hit1 := HB1a.out _ hb1; have z0 := hit1.box; have z1 := hit1.words k s HX.out; have HV1 := Lib.hid hit1.vars; clear hb1 hit1 y0 hcs)
          | (refine ⟨trivial, ?_⟩; gi_at_call 24; refine (callsIn_wide.2 (splitC s 32 _ (by omega) HV1)).mono ?_; rintro e w2 ⟨rfl, rfl⟩; rw [HPE.out]))
        have HQ := Lib.hid (Bk.new w1 9 (P.map Value.string).toArray)
        have HBa : Hid (Below w1.heap.size w1 (w1.alloc (.cells (P.map Value.string).toArray 9))) := balloc (Below.refl _ _) _
        have HB2 := Lib.hid (bthen HB1.out HBa.out)
        have HJ2 := Lib.hid (hJ.out pre _ _ HJ.out HB2.out)
        have HK2 := Lib.hid (HK.out.trans (KpQ.of_below HB2.out hSr.out))
        obtain ⟨q, hq⟩ : ∃ q, w1.heap.size = q := ⟨_, rfl⟩
        rw [hq] at HQ ⊢
        generalize (w1.alloc (.cells (P.map Value.string).toArray 9)) = W2 at *
        clear hq z0 z1 hov HB1 HV1 HBa HB2 HB1a HJ HK
        gi_loopw [25] (fun jj wr => ∃ (j : Nat) (pre : List (Yw L)), j ≤ P.length ∧ jj = .int .i64 j ∧ Hid (pre.map (·.1) ++ (restW P j k1 ++ wordsB (Ws.drop k1) k1) = L) ∧ Hid (J pre wr) ∧ Hid (KpQ S W0 wr) ∧ Hid (Bk wr q 9 (P.map Value.string).toArray)) (fun jj _ => P.length - (intOf jj).toNat)
        case atStart => exact ⟨0, pre, Nat.zero_le _, rfl, HP3, HJ2, HK2, HQ⟩
        case round =>
          obtain ⟨j, pre, hj, rfl, HP, HJ, HK, HQj⟩ := hrel
          by_cases hltj : j < P.length
          · have e2 : decide ((j : Int) < (P.length : Int)) = true := by simp; omega
            have hji : (j : Int) < (P.length : Int) := by omega
            have hx : P[j]? = some (P[j]'hltj) := List.getElem?_eq_getElem _
            generalize P[j]'hltj = x at hx
            have c0 : wr.cell? ⟨q, j, none⟩ = some (.string x) := by rw [HQj.out.cell]; simp [hx]
            have hqs := HQj.out.lt
            have hP5 := HP.out
            rw [restW_step hx] at hP5
            clear hx HP
            cases hem : x.data.toList.isEmpty with
            | true =>
              have e3 : (x.toList != []) = false := by
                rw [toList_data]
                have : x.data.toList = [] := by simpa using hem
                rw [this]
                rfl
              have e4 : x.toList.isEmpty = true := by rw [toList_data]; exact hem
              rw [hem, if_pos rfl, List.nil_append] at hP5
              have HP6 := Lib.hid hP5
              clear hP5 hem
              gi_wp2
              refine ⟨fun _ h => (by cases h), ?_⟩
              gi_wp2
              go_roundw
              case rel => exact ⟨j + 1, pre, by omega, by go_num, HP6, HJ, HK, HQj⟩
              case measure => simp [intOf]; omega
            | false =>
              have hne : x.data.toList ≠ [] := by
                intro h
                rw [h] at hem
                cases hem
              have e3 : (x.toList != []) = true := by rw [toList_data]; simpa using hne
              have e4 : x.toList.isEmpty = false := by rw [toList_data]; exact hem
              rw [hem, if_neg (by simp)] at hP5
              have hmem : (k1, x) ∈ L := by rw [← hP5]; simp
              have hlen : pre.length < L.length := by
                have := congrArg List.length hP5
                simp only [List.length_append, List.length_map, List.length_cons, List.length_nil] at this
                omega
              have HP6 : Hid ((pre ++ [(⟨(k1, x), hmem⟩ : Yw L)]).map (·.1) ++ (restW P (j + 1) k1 ++ wordsB (Ws.drop k1) k1) = L) := by
                show _ = _
                refine Eq.trans ?_ hP5
                simp
              obtain ⟨fn, tmps, assign, body, hy, hRn⟩ := hY.out pre ⟨(k1, x), hmem⟩ wr HJ.out hlen
              dsimp only [yEnc] at hy
              have HRn := Lib.hid hRn
              clear hRn hP5 hem hne hlen
              gi_wp2
              refine HRn.out.mono ?_
              clear hy
              rintro e W3 (⟨rfl, hJ3, hk3⟩ | ⟨rfl, hJx3⟩)
              · have HJ3 := Lib.hid hJ3
                have HK3 := Lib.hid (HK.out.trans hk3)
                have HQ3 := Lib.hid (hk3.2 _ _ HQj.out)
                clear hJ3 hk3 c0
                gi_wp2
                go_roundw
                case rel => exact ⟨j + 1, _, by omega, by go_num, HP6, HJ3, HK3, HQ3⟩
                case measure => simp [intOf]; omega
              · gi_wp2
                refine bodyPost_ret (results_none rfl _ _ _) rfl ?_
                exact ⟨⟨_, rfl⟩, .inr ⟨_, ⟨_, HP6.out⟩, hJx3⟩⟩
          · have e2 : decide ((j : Int) < (P.length : Int)) = false := by simp; omega
            have hP5 := HP.out
            have hr : restW P j k1 = [] := by unfold restW; rw [List.drop_eq_nil_of_le (by omega)]; rfl
            rw [hr, List.nil_append] at hP5
            have HP6 := Lib.hid hP5
            clear hP5 hr
            gi_wp2
            go_roundw
            case rel => exact ⟨k1, pre, by omega, rfl, HP6, HJ, HK⟩
            case measure => simp [intOf]; omega
    · have e1 : decide ((k : Int) < (Ws.length : Int)) = false := by simp; omega
      have hP2 := HP.out
      rw [List.drop_eq_nil_of_le (by omega)] at hP2
      have HALL : Hid (YAll pre) := by show pre.map (·.1) = L; simpa [wordsB] using hP2
      clear hP2
      gi_wp2
      go_end0
      exact ⟨⟨_, rfl⟩, .inl ⟨pre, HALL.out, HJ.out⟩⟩
set_option maxRecDepth 100000 in
theorem wordsMk (A : Option Addr) (n c : Nat) (beh : Int) (w : World) : Calls Tryz.prog 54 #[.slice A n c, .int .i64 beh] w fun e w' => e = .returned (.func (.func 91) #[] #[.pointer (some ⟨w.heap.size + 1, 0, none⟩), .pointer (some ⟨w.heap.size, 0, none⟩)]) ∧ (w.alloc (.cells #[.slice A n c] 47)).alloc (.cells #[.int .i64 beh] 3) = w' := by
  go_enter Tryz.func54, Tryz.ntmps54
  go_wp2
  go_ret
  exact ⟨rfl, rfl⟩
theorem words_seq (n hb lb wb beh : Nat) (Ws : List ByteArray) (c : Nat) (S : Nat → Prop) (w : World) (L : List (Nat × ByteArray)) (hL : wordsB (Ws.drop beh) beh = L) (hS : ∀ k, S k → k < w.heap.size) (hn : 1 ≤ n)
    (hIt : ∀ W, KpQ S w W → ItAt6 W hb lb wb Ws c beh) (hl : Ws.length ≤ 100000000) (hws : ∀ s ∈ Ws, s.size ≤ 20000000) (hbeh : beh ≤ Ws.length) :
    SeqStopsK Fence.wide n Tryz.prog 91 #[.pointer (some ⟨hb, 0, none⟩), .pointer (some ⟨lb, 0, none⟩)] (yEnc (L := L)) (KpQ S) YAll YPre L.length w := by
  intro l J Jx W hW hJ _ hY h0
  exact wordsIter n l hb lb wb beh Ws c S W L (Lib.hid hL) (Lib.hid fun k hk => Nat.lt_of_lt_of_le (hS k hk) hW.size) hn (Lib.hid fun W' hk => hIt W' ((KpQ.of_below hW hS).trans hk)) hl (Lib.hid hws) hbeh J Jx
    (Lib.hid fun pre W1 W2 hj hb => hJ pre W1 W2 none hj ⟨hb.os, hb.tape, hb.output, hb.size, fun k hk _ => hb.block k hk⟩ (fun r e => by cases e)) (Lib.hid hY) (Lib.hid h0)
end Go.Proofs.YtkpcpclaadgnbaaGreatDoor
