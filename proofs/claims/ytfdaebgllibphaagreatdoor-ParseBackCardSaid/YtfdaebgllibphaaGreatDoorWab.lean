import Derived.WalkKit
import Derived.WalkSpells
import Derived.WalkLawsBesides
import Derived.Deep.AppendLies
import Derived.Deep.Draws
import Derived.Lib.Hide
import Derived.Maps.AppendAt
import Derived.RegionTactic
import Derived.Lib.SliceRun
import Derived.Test.YtfdaebgllibphaaGreatDoorRows
import Derived.PlainAid
import Derived.WalkSmall
import Derived.Laws.EntriesVeiled
import Derived.Lib.Strings
import Derived.Lib.Bytealg
import Derived.RangeFuncOwn
import Derived.RangeFuncNested
import Derived.RangeFuncBound
import Derived.RangeFuncCalls
import Derived.RangeFuncLeaves
import Derived.Shelf.Abstract
import Derived.Shelf.RegionOpen
import Derived.OwnWalkIn
import Derived.TacticsInMore
import Derived.LoopNIn
import Derived.LoopIn
import Derived.ControlIn
import Derived.Test.YtfdaebgllibphaaGreatDoorWaa
set_option linter.unusedVariables false
set_option linter.unusedSimpArgs false
set_option maxRecDepth 100000
set_option maxHeartbeats 16000000
namespace Go.Proofs.YtfdaebgllibphaaGreatDoor
open Go.Proofs.Tryz
abbrev uI(x:Int):Value:=.int .i64 x
abbrev uB(x:Int):Value:=.int .u8 x
abbrev uW(x:Int):Value:=.int .u32 x
abbrev uN:Value:=.slice none 0 0
abbrev uT:Value:=.string ⟨#[]⟩
abbrev uF(f:FuncId):Value:=.func (.func f) #[] #[]
abbrev uQ(p k:Nat):Value:=.pointer (some ⟨p,k,none⟩)
def Ud(p:Prop):Prop:=p
theorem Ud.o{p:Prop}(h:Ud p):p:=h
theorem Ph{p:Prop}(h:p):Ud p:=h
abbrev Ue(w w':Go.World):Prop:=Go.RowKit.Below w.heap.size w w'
section
open Go.RowKit
theorem Ya:type_of% @List.length_append:=@List.length_append
theorem Yc:type_of% @List.length_cons:=@List.length_cons
theorem Yn:type_of% @List.length_nil:=@List.length_nil
theorem lB:type_of% @Below.refl:=@Below.refl
theorem lC:type_of% @AllReady.cons:=@AllReady.cons
theorem lD:type_of% @AllReady.nil:=@AllReady.nil
theorem lE:type_of% @Nat.le_trans:=@Nat.le_trans
theorem lF:type_of% @Nat.le_refl:=@Nat.le_refl
theorem lG:type_of% @decide_eq_false:=@decide_eq_false
theorem lH:type_of% @decide_eq_true:=@decide_eq_true
theorem lI:type_of% @wpAny_ready:=@wpAny_ready
theorem lJ:type_of% @wpAny_done:=@wpAny_done
theorem lK:type_of% @bodyPost_ret:=@bodyPost_ret
theorem lL:type_of% @IntKind.wrap_i64:=@IntKind.wrap_i64
theorem lM:type_of% @if_pos:=@if_pos
theorem lN:type_of% @if_neg:=@if_neg
theorem lO:type_of% @World.size_alloc:=@World.size_alloc
theorem lP:type_of% @Option.bind_some:=@Option.bind_some
theorem lQ:type_of% @List.flatMap_cons:=@List.flatMap_cons
theorem lR:type_of% @List.cons_append:=@List.cons_append
theorem lS:type_of% @List.append_assoc:=@List.append_assoc
theorem lT:type_of% @List.not_mem_nil:=@List.not_mem_nil
theorem lU:type_of% @List.mem_cons:=@List.mem_cons
theorem lV:type_of% @Nat.zero_le:=@Nat.zero_le
theorem lW:type_of% @List.length_map:=@List.length_map
theorem lX:type_of% @Nat.lt_of_lt_of_le:=@Nat.lt_of_lt_of_le
theorem lY:type_of% @List.map_cons:=@List.map_cons
theorem lZ:type_of% @Bool.and_eq_true:=@Bool.and_eq_true
theorem cA:type_of% @List.getElem?_eq_some_iff:=@List.getElem?_eq_some_iff
theorem cB:type_of% @List.map_append:=@List.map_append
theorem cC:type_of% @decide_eq_true_eq:=@decide_eq_true_eq
theorem cD:type_of% @List.mem_of_getElem?:=@List.mem_of_getElem?
theorem cE:type_of% @List.drop_eq_getElem_cons:=@List.drop_eq_getElem_cons
theorem cF:type_of% @List.nil_append:=@List.nil_append
theorem cG:type_of% @Option.bind_eq_bind:=@Option.bind_eq_bind
theorem cH:type_of% @List.getElem?_append_right:=@List.getElem?_append_right
theorem cI:type_of% @List.getElem?_append_left:=@List.getElem?_append_left
theorem cJ:type_of% @List.take_of_length_le:=@List.take_of_length_le
theorem cK:type_of% @List.getElem?_eq_getElem:=@List.getElem?_eq_getElem
theorem cL:type_of% @List.length_take:=@List.length_take
theorem cM:type_of% @of_decide_eq_true:=@of_decide_eq_true
theorem cN:type_of% @Nat.le_max_right:=@Nat.le_max_right
theorem cO:type_of% @Nat.le_max_left:=@Nat.le_max_left
theorem cP:type_of% @Array.getElem?_setIfInBounds:=@Array.getElem?_setIfInBounds
theorem cQ:type_of% @List.mem_singleton:=@List.mem_singleton
theorem cR:type_of% @List.take_succ_cons:=@List.take_succ_cons
theorem cS:type_of% @List.getElem?_map:=@List.getElem?_map
theorem cT:type_of% @List.append_nil:=@List.append_nil
theorem cU:type_of% @List.length_drop:=@List.length_drop
theorem cV:type_of% @List.replicate_succ:=@List.replicate_succ
theorem cW:type_of% @List.getElem?_eq_none:=@List.getElem?_eq_none
theorem cX:type_of% @Ne.symm:=@Ne.symm
theorem cY:type_of% @Nat.not_lt:=@Nat.not_lt
theorem cZ:type_of% @Calls.quiet_of_same:=@Calls.quiet_of_same
end
theorem Yo{P:Prop}(h:P:=by omega):P:=h
theorem Yd{P:Prop}(h:P:=by decide):P:=h
theorem Yk{P:Prop}(h:P:=by kernel_rfl):P:=h
theorem Yp{P:Prop}(h:P:=by simp;omega):P:=h
theorem Ym{P:Prop}(h:P:=by simp):P:=h
theorem Yr{P:Prop}(h:P:=by rfl):P:=h
theorem Yl{P:Prop}(h:P:=by first | omega | (simp only [Ya,Yc,Yn];try omega)):P:=h
section
open Go.RowKit
theorem yT {a b:Bool} (h:a=b):Ending.returned (.bool a)=.returned (.bool b):=by rw [h]
structure Fr (F:Nat→Prop) (w w':World):Prop where
 os:w'.os=w.os
 tape:w'.tape=w.tape
 output:w'.output=w.output
 size:w.heap.size≤w'.heap.size
 block:∀ k,k<w.heap.size→¬F k→w'.heap[k]?=w.heap[k]?
section
variable {F G:Nat→Prop} {a b c w w':World}
theorem Fr.refl (F:Nat→Prop) (w:World):Fr F w w:=⟨rfl,rfl,rfl,lF _,fun _ _ _=>rfl⟩
theorem Fr.trans (h:Fr F a b) (k:Fr F b c):Fr F a c :=
 ⟨k.os.trans h.os,k.tape.trans h.tape,k.output.trans h.output,lE h.size k.size,fun i hi hf=>(k.block i (lX hi h.size) hf).trans (h.block i hi hf)⟩
theorem Fr.mono (h:Fr F a b) (hs:∀ k,k<a.heap.size→F k→G k):Fr G a b:=⟨h.os,h.tape,h.output,h.size,fun i hi hf=>h.block i hi fun hF=>hf (hs i hi hF)⟩
theorem Fr.then (h:Fr F a b) (k:Fr G b c) (hs:∀ i,i<a.heap.size→G i→F i):Fr F a c :=
 ⟨k.os.trans h.os,k.tape.trans h.tape,k.output.trans h.output,lE h.size k.size,fun i hi hf=>(k.block i (lX hi h.size) (fun hG=>hf (hs i hi hG))).trans (h.block i hi hf)⟩
theorem Fr.drew (h:Fr F a w):Fr F a w.drew:=⟨h.os,h.tape,h.output,h.size,h.block⟩
theorem Fr.drewN (h:Fr F a w) (n:Nat):Fr F a (w.drewN n):=⟨h.os,h.tape,h.output,h.size,h.block⟩
theorem Fr.alloc (h:Fr F a w) (o:Obj):Fr F a (w.alloc o) :=
 ⟨h.os,h.tape,h.output,lE h.size Ym,fun i hi hf=>(Below.heap_alloc w o i (lX hi h.size)).trans (h.block i hi hf)⟩
theorem Fr.setCell (h:Fr F a w) {p:Addr} (hp:F p.block∨a.heap.size≤p.block) (u:Value):Fr F a (w.setCell p u) :=
 ⟨h.os,h.tape,h.output,by simpa [World.setCell]using h.size,fun i hi hf=>(Below.heap_setCell w p u i (by
   rintro rfl;rcases hp with hp | hp
   ·exact hf hp
   ·omega)).trans (h.block i hi hf)⟩
theorem Fr.grown (h:Fr F a w) {row:Option Nat} (hg:w.grownBy w' row) (hr:∀ k,row=some k→F k∨a.heap.size≤k):Fr F a w' :=
 ⟨hg.os.trans h.os,hg.tape.trans h.tape,hg.output.trans h.output,lE h.size hg.size,fun i hi hf=>(hg.block i (lX hi h.size) (by
   intro e;rcases hr i e.symm with h1 | h1
   ·exact hf h1
   ·omega)).trans (h.block i hi hf)⟩
theorem Fr.of_below (h:Below w.heap.size w w'):Fr F w w':=⟨h.os,h.tape,h.output,h.size,fun i hi _=>h.block i hi⟩
theorem Fr.below (h:Fr F w w') (B:Nat) (hB:B≤w.heap.size) (hF:∀ k,k<B→¬F k):Below B w w':=⟨h.os,h.tape,h.output,h.size,fun i hi=>h.block i Yo (hF i hi)⟩
theorem Fr.cell (h:Fr F w w') {p:Addr} (hp:p.block<w.heap.size) (hf:¬F p.block):w'.cell? p=w.cell? p:=World.cell?_of_block (w:=w) (h.block p.block hp hf)
end
def Bk (w:World) (g:Nat) (t:TypeId) (cs:Array Value):Prop:=w.heap[g]?=some (.cells cs t (0,0))
section
variable {w w':World} {g:Nat} {t:TypeId} {cs:Array Value}
theorem zO {o:Obj} (h:w.heap[g]?=some o):g<w.heap.size:=by
 rcases Nat.lt_or_ge g w.heap.size with hlt | hge
 ·exact hlt
 ·rw [Array.getElem?_eq_none hge]at h;cases h
theorem Bk.lt (h:Bk w g t cs):g<w.heap.size:=zO h
theorem Bk.cell (h:Bk w g t cs) (i:Nat):w.cell? ⟨g,i,none⟩=cs[i]?:=cell_of_row w g i cs t (0,0) h
theorem Bk.frozen (h:Bk w g t cs) (i:Nat):w.frozen? ⟨g,i,none⟩=false:=by unfold Bk at h;simp [World.frozen?,h]
theorem Bk.new (w:World) (t:TypeId) (cs:Array Value):Bk (w.alloc (.cells cs t)) w.heap.size t cs:=heap_alloc_new w _
theorem Bk.drew (h:Bk w g t cs):Bk w.drew g t cs:=h
theorem Bk.drewN (h:Bk w g t cs) (n:Nat):Bk (w.drewN n) g t cs:=h
theorem Bk.alloc (h:Bk w g t cs) (o:Obj):Bk (w.alloc o) g t cs:=(Below.heap_alloc w o g h.lt).trans h
theorem Bk.put (h:Bk w g t cs) (i:Nat) (u:Value):Bk (w.setCell ⟨g,i,none⟩ u) g t (cs.setIfInBounds i u):=by unfold Bk at h ⊢;simp [World.setCell,Array.getElem?_modify,h]
theorem Bk.far (h:Bk w g t cs) {p:Addr} (hp:g≠p.block) (u:Value):Bk (w.setCell p u) g t cs:=(Below.heap_setCell w p u g hp).trans h
theorem Bk.fr {F:Nat→Prop} (h:Bk w g t cs) (hb:Fr F w w') (hg:¬F g):Bk w' g t cs:=(hb.block g h.lt hg).trans h
theorem Bk.below {B:Nat} (h:Bk w g t cs) (hb:Below B w w') (hg:g<B):Bk w' g t cs:=(hb.block g hg).trans h
theorem Bk.grown {row:Option Nat} (h:Bk w g t cs) (hb:w.grownBy w' row) (hg:some g≠row):Bk w' g t cs:=(hb.block g h.lt hg).trans h
theorem Bk.ne {g':Nat} {t':TypeId} {cs':Array Value} (h:Bk w g t cs) (h':Bk w g' t' cs') (hne:t≠t'):g≠g':=by rintro rfl;unfold Bk at h h';rw [h]at h';injection h' with h';injection h' with _ ht;exact hne ht
theorem jP {F:Nat→Prop} {base:Nat} {e:TypeId} {size n:Nat} {v:Value} {xs:List Value} (h:w.ownsRow base e size v n xs) (hb:Fr F w w') (hg:∀ k,v.ownBlock=some k→¬F k):w'.ownsRow base e size v n xs:=by
 refine⟨h.1,?_⟩;rcases h.2 with h0 | ⟨g',cap,cur,rfl,hbs,hh,rest⟩
 ·exact .inl h0
 ·exact .inr ⟨g',cap,cur,rfl,hbs,(hb.block g' (zO hh) (hg g' rfl)).trans hh,rest⟩
theorem yR {base:Nat} {e:TypeId} {size n:Nat} {v:Value} {xs:List Value} (h:w.ownsRow base e size v n xs) (hb:Bk w g t cs) (hne:e≠t):some g≠v.ownBlock:=by
 intro he;rcases h.2 with⟨rfl,_⟩ | ⟨g',cap,cur,rfl,_,hh,_⟩
 ·simp [Value.ownBlock]at he
 ·have:g=g':=by simpa [Value.ownBlock]using he
  subst this;exact Bk.ne (t:=e) hh hb hne rfl
end
end
section
open Go.RowKit
def Rd (w:World) (A:Option Addr) (xs:List Value):Prop :=
 xs≠[]→∃ b off cs t fr,A=some ⟨b,off,none⟩∧w.heap[b]?=some (.cells cs t fr)∧∀ j u,xs[j]?=some u→cs[off+j]?=some u
section
variable {w w':World} {A:Option Addr} {xs:List Value} {F:Nat→Prop}
theorem Rd.nil:Rd w A []:=fun h=>absurd rfl h
theorem Rd.at (h:Rd w A xs) {k:Nat} (hk:k<xs.length):∃ b off,A=some ⟨b,off,none⟩∧w.cell? ⟨b,off+k,none⟩=some xs[k]:=by obtain⟨b,off,cs,t,fr,rfl,hb,hc⟩:=h (by rintro rfl;simp at hk);exact⟨b,off,rfl,by simp [World.cell?,hb,hc k _ (cK hk)]⟩
theorem Rd.getm {α:Type} {f:α→Value} {l:List α} {n k:Nat} (h:Rd w A (l.map f)) (hl:l.length=n) (hk:k<n):∃ b off x,A=some ⟨b,off,none⟩∧l[k]?=some x∧w.cell? ⟨b,off+k,none⟩=some (f x):=by obtain⟨b,off,rfl,hc⟩:=h.at (k:=k) (by simpa [hl]using hk);exact⟨b,off,l[k]'Yo,rfl,cK _,by simpa using hc⟩
theorem Rd.cells (h:Rd w A xs) (hx:xs≠[]):∃ b off,A=some ⟨b,off,none⟩∧b<w.heap.size∧∀ j u,xs[j]?=some u→w.cell? ⟨b,off+j,none⟩=some u:=by obtain⟨b,off,cs,t,fr,rfl,hb,hc⟩:=h hx;exact⟨b,off,rfl,zO hb,fun j u hu=>by simp [World.cell?,hb,hc j u hu]⟩
theorem Rd.fr (h:Rd w A xs) (hf:Fr F w w') (hF:∀ b,b<w.heap.size→(∃ off,A=some ⟨b,off,none⟩)→¬F b):Rd w' A xs:=fun hx=>by obtain⟨b,off,cs,t,fr,rfl,hb,hc⟩:=h hx;exact⟨b,off,cs,t,fr,rfl,(hf.block b (zO hb) (hF b (zO hb) ⟨off,rfl⟩)).trans hb,hc⟩
theorem Rd.below (h:Rd w A xs) (hf:Below w.heap.size w w'):Rd w' A xs:=h.fr (Fr.of_below (F:=fun _=>False) hf) (fun _ _ _ h=>h)
theorem Rd.alloc (h:Rd w A xs) (o:Obj):Rd (w.alloc o) A xs:=h.fr ((Fr.refl (fun _=>False) w).alloc o) (fun _ _ _ h=>h)
theorem Rd.drewN (h:Rd w A xs) (n:Nat):Rd (w.drewN n) A xs:=h
theorem Rd.drew (h:Rd w A xs):Rd w.drew A xs:=h
theorem Rd.take (h:Rd w A xs) (n:Nat):Rd w A (xs.take n):=fun hx=>by
 obtain⟨b,off,cs,t,fr,rfl,hb,hc⟩:=h (by rintro rfl;simp at hx);refine⟨b,off,cs,t,fr,rfl,hb,fun j u hu=>hc j u ?_⟩;rw [List.getElem?_take]at hu;split at hu
 ·exact hu
 ·cases hu
theorem Rd.of_own {base:Nat} {e:TypeId} {size n c:Nat} (h:w.ownsRow base e size (.slice A n c) n xs):Rd w A xs:=fun hx=>by
 rcases h.2 with⟨h0,h1⟩ | ⟨g',cap,cur,h0,_,hh,h3,h4,h5,h6⟩
 ·subst h1;exact absurd (List.eq_nil_of_length_eq_zero (by simpa using h.1)) hx
 ·have:A=some ⟨g',0,none⟩:=by injection h0
  subst this;refine⟨g',0,cur,e,_,rfl,hh,fun j u hu=>?_⟩;rw [←h6,List.getElem?_take]at hu;split at hu
  ·simpa using hu
  ·cases hu
theorem Rd.news {ad:Addr} (h:Rd w (some ad) xs):∀ j u,xs[j]?=some u→w.cell? (ad.add j)=some u:=by
 intro j u hu;obtain⟨b,off,e,_,hc⟩:=h.cells (by rintro rfl;simp at hu);injection e with e;subst e;have hadd:(⟨b,off,none⟩:Addr).add j=⟨b,off+j,none⟩:=by unfold Addr.add;split <;> simp_all
 rw [hadd];exact hc j u hu
end
theorem zG5 (w:World) (n:Nat):Below w.heap.size w (w.drewN n):=⟨rfl,rfl,rfl,lF _,fun _ _=>rfl⟩
theorem jA1 {B:Nat} {a w:World} (h:Below B a w) (n:Nat):Below B a (w.drewN n):=⟨h.os,h.tape,h.output,h.size,h.block⟩
theorem zU {w w1 w2:World} (h:Below w.heap.size w w1) (k:Below w1.heap.size w1 w2):Below w.heap.size w w2:=h.trans (k.mono h.size)
theorem zI1 {α:Type} {l:List α} {k:Nat} {x:α} (h:l[k]?=some x):l.take (k+1)=l.take k++[x]:=by obtain⟨hk,rfl⟩:=cA.1 h;rw [List.take_succ_eq_append_getElem hk]
end
section
open Go.RowKit
structure El (P:Program) (t e:TypeId) (size:Nat):Prop where
 ht:P.underlying t=some (.slice e)
 hi:∃ i z,P.info? e=some i∧i.zero=some z∧i.size=size∧z.cells.size=size∧i.bytes≤65536
 pos:0<size
theorem El.mk' {P:Program} {t e:TypeId} {size bytes:Nat} {z:Value} (ht:P.underlying t=some (.slice e)) (hi:(P.info? e).map (fun i=>(i.zero,i.size,i.bytes))=some (some z,size,bytes)) (hz:z.cells.size=size) (hb:bytes≤65536) (hp:0<size):El P t e size:=by obtain⟨i,h1,h2,h3,h4⟩:=info_parts hi;exact⟨ht,⟨i,z,h1,h2,h3,hz,Yo⟩,hp⟩
section
variable {P:Program} {w:World} {t e:TypeId} {size:Nat}
theorem zG6 (E:El P t e size) (ty:TypeId) (base:Nat) (v:Value) (n:Nat) (xs:List Value) (hown:w.ownsRow base e size v n xs)
 (A:Option Addr) (m c:Nat) (news:List Value) (hr:Rd w A news) (hl:news.length=m*size) (h1:∀ u∈news,u.oneCell'=true) (hnm:n+m≤1000000000) (hbase:base≤w.heap.size) :
 ∃ A' c' w',(Builtin.append_ #[t,t] ty #[v,.slice A m c]).run P w=.ok (.slice A' (n+m) c') w'∧w'.ownsRow base e size (.slice A' (n+m) c') (n+m) (xs++news)∧w.grownBy w' v.ownBlock ∧
  ((Value.slice A' (n+m) c').ownBlock=v.ownBlock∨(Value.slice A' (n+m) c').ownBlock=some w.heap.size):=by
 obtain⟨ht,⟨i,z,hi,hz,hs,hzs,hb⟩,hp⟩:=E
 have key:∃ v' w',(Builtin.append_ #[t,t] ty #[v,.slice A m c]).run P w=.ok v' w'∧w'.ownsRow base e size v' (n+m) (xs++news)∧w.grownBy w' v.ownBlock ∧
  (v'.ownBlock=v.ownBlock∨v'.ownBlock=some w.heap.size):=by
  rcases A with _ | ad
  ·have hn:news=[]:=by
    cases news with
    | nil=>rfl
    | cons x r=>obtain⟨_,_,h,_⟩:=hr.cells Ym;cases h
   subst hn;have hm:m=0:=by
    rcases Nat.eq_zero_or_pos m with h0 | h0
    ·exact h0
    ·have:=Nat.mul_pos h0 hp;simp at hl;omega
   subst hm;refine⟨v,w,?_,by simpa using hown,World.grownBy.refl w _,.inl rfl⟩;rcases hown.2 with⟨rfl,rfl⟩ | ⟨g,cap,cur,rfl,_,_,hnc,_⟩
   ·simp [Builtin.append_,run_underlying ht,sizeOf,typeInfo,hi,Builtin.lenOf,Builtin.firstCells]
   ·simp [Builtin.append_,run_underlying ht,sizeOf,typeInfo,hi,Builtin.lenOf,Builtin.firstCells,hnc,storeCells]
  ·have hby:(n+m)*i.bytes≤140737488355328:=by have:=Nat.mul_le_mul hnm hb;omega
   obtain⟨v',w',hrun,h2,h3,_,h5⟩:=run_append_own_at (P:=P) w base t ty e i z size i.bytes ht hi hz hs rfl hzs hp v n xs hown ad m c news hl hr.news h1 (by unfold maxLen;omega) hby hbase;exact⟨v',w',hrun,h2,h3,h5⟩
 obtain⟨v',w',hrun,h2,h3,h5⟩:=key;have hv:∃ A' c',v'=.slice A' (n+m) c':=by
  rcases h2.2 with⟨rfl,h0⟩ | ⟨g,cap,cur,rfl,_⟩
  ·exact⟨none,0,by rw [h0]⟩
  ·exact⟨_,_,rfl⟩
 obtain⟨A',c',rfl⟩:=hv;exact⟨A',c',w',hrun,h2,h3,h5⟩
theorem jS4 {o:Oper} {a:Act} {K:Act→World→Prop} {Q:Exit→Act→World→Prop} (E:El P t e size) (s x:Operand) (ho:o.op=.call { callee:=.builtin .append,args:=#[s,x],argTypes:=#[t,t] })
 (base:Nat) (v:Value) (n:Nat) (xs:List Value) (hs:a.eval s=v) (hown:w.ownsRow base e size v n xs)
 (A:Option Addr) (m c:Nat) (news:List Value) (hx:a.eval x=.slice A m c) (hr:Rd w A news) (hl:news.length=m*size) (h1:∀ u∈news,u.oneCell'=true) (hnm:n+m≤1000000000) (hbase:base≤w.heap.size)
 (h:∀ A' c' w',w'.ownsRow base e size (.slice A' (n+m) c') (n+m) (xs++news)→w.grownBy w' v.ownBlock→((Value.slice A' (n+m) c').ownBlock=v.ownBlock∨(Value.slice A' (n+m) c').ownBlock=some w.heap.size)→K (a.put o.dst (.slice A' (n+m) c')) w'):o.wp P a w K Q:=by
 obtain⟨A',c',w',hrun,h2,h3,h4⟩:=zG6 (P:=P) E o.type base v n xs hown A m c news hr hl h1 hnm hbase;unfold Oper.wp execOp;simp only [ho,resolve,invoke,builtin,Sem.run_bind,Sem.run_pure,Result.andThen_ok,List.map_toArray,lY,List.map_nil,hs,hx,hrun];exact h A' c' w' h2 h3 h4
theorem zL9 {ops:Array Oper} {rest:List Oper} {o:Oper} {a:Act} {Q:Exit→Act→World→Prop} (E:El P t e size) (hgd:o.guard=none) (s x:Operand) (ho:o.op=.call { callee:=.builtin .append,args:=#[s,x],argTypes:=#[t,t] })
 (base:Nat) (v:Value) (n:Nat) (xs:List Value) (hs:a.eval s=v) (hown:w.ownsRow base e size v n xs)
 (A:Option Addr) (m c:Nat) (news:List Value) (hx:a.eval x=.slice A m c) (hr:Rd w A news) (hl:news.length=m*size) (h1:∀ u∈news,u.oneCell'=true) (hnm:n+m≤1000000000) (hbase:base≤w.heap.size)
 (h:∀ A' c' w',w'.ownsRow base e size (.slice A' (n+m) c') (n+m) (xs++news)→w.grownBy w' v.ownBlock→((Value.slice A' (n+m) c').ownBlock=v.ownBlock∨(Value.slice A' (n+m) c').ownBlock=some w.heap.size)→wpList P ops Q rest (a.put o.dst (.slice A' (n+m) c')) w'):wpList P ops Q (o :: rest) a w :=
 wpList_plain hgd fun _ hK=>jS4 E s x ho base v n xs hs hown A m c news hx hr hl h1 hnm hbase fun A' c' w' h2 h3 h4=>hK _ _ (h A' c' w' h2 h3 h4)
theorem zZ2 {ops:Array Oper} {o:Oper} {a:Act} {K:Act→World→Prop} {Q:Exit→Act→World→Prop} {E':Prop} (E:El P t e size) (hgd:o.guard=none) (s x:Operand) (ho:o.op=.call { callee:=.builtin .append,args:=#[s,x],argTypes:=#[t,t] })
 (base:Nat) (v:Value) (n:Nat) (xs:List Value) (hs:a.eval s=v) (hown:w.ownsRow base e size v n xs)
 (A:Option Addr) (m c:Nat) (news:List Value) (hx:a.eval x=.slice A m c) (hr:Rd w A news) (hl:news.length=m*size) (h1:∀ u∈news,u.oneCell'=true) (hnm:n+m≤1000000000) (hbase:base≤w.heap.size)
 (h:∀ A' c' w',w'.ownsRow base e size (.slice A' (n+m) c') (n+m) (xs++news)→w.grownBy w' v.ownBlock→((Value.slice A' (n+m) c').ownBlock=v.ownBlock∨(Value.slice A' (n+m) c').ownBlock=some w.heap.size)→K (a.put o.dst (.slice A' (n+m) c')) w') :
 if Region.wanted o (yielded ops a.tmps)=true then Oper.wp P o a w K Q else E':=by
 have hw:Region.wanted o (yielded ops a.tmps)=true:=by simp [Region.wanted,hgd]
 rw [lM hw];exact jS4 E s x ho base v n xs hs hown A m c news hx hr hl h1 hnm hbase h
end
def Ent (P:Program) (g:Nat):Prop:=∀ (args:Array Value) (W:World),(callFunc g args).run P W=.ok (.enter g args) W
theorem Ent.of {P:Program} {g:Nat} {fn:Func} (h:P.funcs[g]?=some fn) (h1:(fn.name == "runtime.NumGoroutine")=false) (h2:fn.body.isNone=false):Ent P g:=by
 intro args W;have h1':¬fn.name = "runtime.NumGoroutine":=by simpa using h1
 have h2':¬fn.body=none:=by intro e;rw [e]at h2;cases h2
 simp [callFunc,h,h1',h2']
theorem Rd.new (w:World) (cs:Array Value) (t:TypeId):Rd (w.alloc (.cells cs t)) (some ⟨w.heap.size,0,none⟩) cs.toList:=fun _ =>
 ⟨w.heap.size,0,cs,t,_,rfl,heap_alloc_new w _,fun j u hu=>by simpa using hu⟩
end
section
open Go.RowKit Go.PlainAid
def str (l:List UInt8):ByteArray:=⟨l.toArray⟩
theorem qE (l:List UInt8):(str l).data.toList=l:=rfl
theorem jV (l:List UInt8):(str l).size=l.length:=by show l.toArray.size=l.length;simp only [List.size_toArray]
theorem jS5 (s:ByteArray):str s.data.toList=s:=by unfold str;rw [Array.toArray_toList]
theorem qO7 {s t:ByteArray} (h:s.data.toList=t.data.toList):s=t:=by rw [←jS5 s,←jS5 t,h]
theorem qK (s:ByteArray):s.data.toList.length=s.size:=by show _=s.data.size;simp only [Array.length_toList]
theorem jW2 {l m:List UInt8} (h:str l=str m):l=m:=by rw [←qE l,←qE m,h]
theorem qB (s:ByteArray):s.toList=s.data.toList:=by rw [ByteArray.toList_eq]
theorem jL9 (a b:ByteArray):(a++b).data.toList=a.data.toList++b.data.toList:=by rw [ByteArray.data_append,Array.toList_append]
theorem jW3 (l m:List UInt8):str l++str m=str (l++m):=qO7 (by rw [jL9,qE,qE,qE])
theorem jW4 {s:ByteArray} {k:Nat} {c:UInt8} (h:s.data.toList[k]?=some c):bt s k=(c.toNat:Int):=by
 obtain⟨hk,he⟩:=cA.1 h;have hk':k<s.size:=by simpa using hk
 rw [←get_bt s k hk',←he];rfl
theorem zO9 {s:ByteArray} {k:Nat} (h:k<s.size):∃ c:UInt8,s.data.toList[k]?=some c∧bt s k=(c.toNat:Int):=by
 have hk:k<s.data.toList.length:=by rw [qK];exact h
 exact⟨_,cK hk,jW4 (cK hk)⟩
theorem zZ3 (s:ByteArray) (i:Nat):(s.extract i s.size).data.toList=s.data.toList.drop i:=by simp [ByteArray.data_extract,Array.toList_extract,List.extract_eq_take_drop];rw [cJ];rw [cU,qK];exact lF _
theorem jW5 (s:ByteArray) (i j:Nat):(s.extract i j).data.toList=(s.data.toList.drop i).take (j-i):=by simp [ByteArray.data_extract,Array.toList_extract,List.extract_eq_take_drop]
theorem qK1 (s:ByteArray) (i j:Nat):s.extract i j=str ((s.data.toList.drop i).take (j-i)):=qO7 (by rw [jW5,qE])
theorem jW6 {l:List UInt8} {i:Nat} {c:UInt8} (h:l[i]?=some c):l.drop i=c :: l.drop (i+1):=by obtain⟨hk',he⟩:=cA.1 h;rw [←he,cE hk']
theorem zR3 (a b:List UInt8):((str a).toList == (str b).toList)=decide (a=b):=by
 rw [qB,qB,qE,qE];by_cases h:a=b
 ·subst h;simp
 ·rw [lG h];simpa using h
theorem jA2 (a b:List UInt8):((str a).toList != (str b).toList)=!decide (a=b):=by rw [bne,zR3]
theorem zG {w w1:World} (h:Below w.heap.size w w1) (o:Obj):Below w.heap.size w (w1.alloc o):=h.alloc h.size o
theorem zD {w w':World} {g:Nat} {t:TypeId} {cs:Array Value} (h:Bk w g t cs) (hb:Below w.heap.size w w'):Bk w' g t cs:=h.below hb h.lt
structure SV where
 A:Option Addr
 n:Nat
 c:Nat
structure RdT (w:World) (A:Option Addr) (t:TypeId) (xs:List Value):Prop where
 rd:Rd w A xs
 ty:∀ b off,A=some ⟨b,off,none⟩→∃ cs fr,w.heap[b]?=some (.cells cs t fr)
def Keeps (t:TypeId) (w w':World):Prop:=∀ (b:Nat) cs fr,w.heap[b]?=some (.cells cs t fr)→w'.heap[b]?=w.heap[b]?
section
variable {w w' w'':World} {A:Option Addr} {t t':TypeId} {xs:List Value}
theorem Keeps.refl (t:TypeId) (w:World):Keeps t w w:=fun _ _ _ _=>rfl
theorem Keeps.trans (h:Keeps t w w') (k:Keeps t w' w''):Keeps t w w'':=fun b cs fr hb=>(k b cs fr ((h b cs fr hb).trans hb)).trans (h b cs fr hb)
theorem Keeps.below (h:Below w.heap.size w w'):Keeps t w w':=fun b _ _ hb=>h.block b (zO hb)
theorem Keeps.fr {F:Nat→Prop} (h:Fr F w w') (hF:∀ b cs fr,w.heap[b]?=some (.cells cs t fr)→¬F b):Keeps t w w':=fun b cs fr hb=>h.block b (zO hb) (hF b cs fr hb)
theorem Keeps.box {g:Nat} {cs:Array Value} (h:Fr (fun k=>k=g) w w') (hk:Bk w g t' cs) (hne:t'≠t):Keeps t w w':=Keeps.fr h (by rintro b cs fr hb rfl;unfold Bk at hk;rw [hb]at hk;injection hk with hk;injection hk with _ hk;exact hne hk.symm)
theorem RdT.keeps (h:RdT w A t xs) (hk:Keeps t w w'):RdT w' A t xs :=
 ⟨fun hx=>by obtain⟨b,off,cs,t0,fr,rfl,hb,hc⟩:=h.rd hx;obtain⟨cs',fr',hb'⟩:=h.ty b off rfl;rw [hb']at hb;injection hb with hb;injection hb with e1 e2 e3;subst e1 e2 e3;exact⟨b,off,_,_,_,rfl,(hk b _ _ hb').trans hb',hc⟩,
 fun b off he=>by obtain⟨cs,fr,hb⟩:=h.ty b off he;exact⟨cs,fr,(hk b _ _ hb).trans hb⟩⟩
theorem RdT.below (h:RdT w A t xs) (hb:Below w.heap.size w w'):RdT w' A t xs:=h.keeps (Keeps.below hb)
theorem RdT.nil:RdT w none t []:=⟨Rd.nil,fun _ _ h=>by cases h⟩
theorem RdT.new (w:World) (cs:Array Value) (t:TypeId):RdT (w.alloc (.cells cs t)) (some ⟨w.heap.size,0,none⟩) t cs.toList :=
 ⟨Rd.new w cs t,fun b off he=>by injection he with he;injection he with he;subst he;exact⟨cs,_,heap_alloc_new w _⟩⟩
theorem RdT.of_own {base:Nat} {e:TypeId} {size n c:Nat} (h:w.ownsRow base e size (.slice A n c) n xs):RdT w A e xs :=
 ⟨Rd.of_own h,fun b off he=>by
   rcases h.2 with⟨h0,_⟩ | ⟨g',cap,cur,h0,_,hh,_⟩
   ·injection h0 with h0;rw [h0]at he;cases he
   ·injection h0 with h0;rw [h0]at he;injection he with he;injection he with he;subst he;exact⟨cur,_,hh⟩⟩
theorem Keeps.grown {base size n:Nat} {e:TypeId} {v:Value} {ys:List Value} (ho:w.ownsRow base e size v n ys) (hne:e≠t) (hg:w.grownBy w' v.ownBlock):Keeps t w w':=by
 refine Keeps.fr (F:=fun k=>v.ownBlock=some k) ((Fr.refl _ w).grown hg (fun k hk=>.inl hk)) ?_;rintro b cs fr hh hq;rcases ho.2 with⟨rfl,_⟩ | ⟨g',cap,cur,rfl,_,hh',_⟩
 ·simp [Value.ownBlock]at hq
 ·have:g'=b:=by simpa [Value.ownBlock]using hq
  subst this;rw [hh']at hh;injection hh with hh;injection hh with _ ht;exact hne ht
end
theorem jM1 {α:Type} {m:Nat} (f:α→List Value) (hf:∀ x,(f x).length=m) (L:List α):(L.flatMap f).length=L.length*m:=by
 induction L with
 | nil=>simp
 | cons x D ih=>rw [lQ,Ya,ih,hf,Yc,Nat.succ_mul,Nat.add_comm]
theorem jW7 {α:Type} {m:Nat} (f:α→List Value) (hf:∀ x,(f x).length=m) (L:List α) (i:Nat) (x:α) (h:L[i]?=some x) (j:Nat) (hj:j<m):(L.flatMap f)[i*m+j]?=(f x)[j]?:=by
 induction L generalizing i with
 | nil=>simp at h
 | cons y D ih =>
   rw [lQ];cases i with
   | zero =>
     simp at h;subst h;rw [cI (by rw [hf];omega)];simp
   | succ i =>
     simp at h;rw [cH (by rw [hf,Nat.succ_mul];omega),hf,←ih i h];congr 1;rw [Nat.succ_mul];omega
theorem Rd.flat {α:Type} {m:Nat} {f:α→List Value} (hf:∀ x,(f x).length=m) (hm:0<m) {w:World} {A:Option Addr} {L:List α} {i:Nat} (h:Rd w A (L.flatMap f)) (hi:i<L.length) :
 ∃ b off x,A=some ⟨b,off,none⟩∧L[i]?=some x∧b<w.heap.size∧∀ j u,j<m→(f x)[j]?=some u→w.cell? ⟨b,off+(i*m+j),none⟩=some u:=by
 have hne:L.flatMap f≠[]:=by intro e;have h0:=jM1 f hf L;rw [e,Yn]at h0;have h1:=Nat.mul_le_mul hi hm;have h2:=Nat.le_mul_of_pos_right L.length hm;omega
 obtain⟨b,off,rfl,hb,hc⟩:=h.cells hne;exact⟨b,off,L[i],rfl,cK hi,hb,fun j u hj hu=>hc _ _ ((jW7 f hf L i _ (cK hi) j hj).trans hu)⟩
abbrev uL(S:SV):Value:=.slice S.A S.n S.c
abbrev uR(l:List UInt8):Value:=.string (str l)
end
structure Tk where
 kind:Nat
 text:List UInt8
 at':Nat
 fin:Nat
deriving DecidableEq
def qM (c:UInt8):Bool:=decide (97≤c.toNat) && decide (c.toNat≤122)
def zV (c:UInt8):Bool:=decide (48≤c.toNat) && decide (c.toNat≤57)
def yU (c:UInt8):Bool:=decide (c.toNat=46) || (decide (c.toNat=95) || (qM c || zV c))
def yJ (c:UInt8):Bool:=decide (c.toNat=9) || (decide (c.toNat=10) || (decide (c.toNat=13) || decide (c.toNat=32)))
def jG:Bool→List UInt8→Nat
 | _,[]=>0
 | true,c :: r=>1+jG (decide (c.toNat≠10)) r
 | false,c :: r=>if c.toNat=35 then 1+jG true r else if yJ c then 1+jG false r else 0
def jT:List UInt8→Nat
 | []=>0
 | c :: r=>if zV c then jT r+1 else 0
def vF:List UInt8→Nat
 | []=>0
 | c :: r=>if yU c then vF r+1 else 0
def vT (k:Nat):List UInt8:=match k with
 | 0=>[60,60]
 | 1=>[62,62]
 | 2=>[61,61]
 | 3=>[33,61]
 | _=>[60,61]
def yF:List UInt8:=[43,45,42,47,37,38,124,94,60,126,63,58,61,44,64,40,41,91,93,123,125]
def yG (t:List UInt8):Nat→Nat→Nat
 | 0,_=>match t with
   | []=>0
   | c :: _=>if yF.contains c then 1 else 0
 | f+1,k=>if (vT k).isPrefixOf t then 2 else yG t f (k+1)
def xG (t:List UInt8):Nat:=yG t 5 0
def zC1:List UInt8→Nat×Nat
 | []=>(0,0)
 | c :: r =>
   if qM c then(1,1+vF r)
   else if zV c then
    match (c :: r).drop (jT (c :: r))with
    | d :: e :: r'=>if d.toNat=58∧zV e=true then(3,jT (c :: r)+1+jT (e :: r')) else(2,jT (c :: r))
    | _=>(2,jT (c :: r))
   else if 0<xG (c :: r) then(4,xG (c :: r))
   else(0,0)
def kZ (t:List UInt8) (at':Nat):Nat×Nat×Nat×Bool :=
 let a:=at'+jG false (t.drop at')
 if a=t.length then(0,a,a,false)
 else
  let k:=zC1 (t.drop a)
  if k.1=0 then(0,a,a,true) else(k.1,a,a+k.2,false)
def jL6 (t:List UInt8) (a b:Nat):List UInt8:=(t.drop a).take (b-a)
def zL7 (n:Nat):List UInt8→Nat×Nat
 | []=>(n,0)
 | c :: r=>if 1000000000<10*n+(c.toNat-48) then(0,281) else zL7 (10*n+(c.toNat-48)) r
def vS (t:List UInt8):Nat×Nat:=if t=[]∨jT t<t.length then(0,280) else zL7 0 t
def zC2 (b:UInt8):List UInt8→List UInt8×List UInt8×Bool
 | []=>([],[],false)
 | c :: r=>if c=b then([],r,true) else(c :: (zC2 b r).1,(zC2 b r).2)
def zH8 (t:List UInt8):Nat×Nat×Nat :=
 if (zC2 58 t).2.2=false∨(vS (zC2 58 t).1).2=280∨(vS (zC2 58 t).2.1).2=280 then(0,0,280)
 else if (vS (zC2 58 t).1).2≠0∨(vS (zC2 58 t).2.1).2≠0 then(0,0,281)
 else((vS (zC2 58 t).1).1,(vS (zC2 58 t).2.1).1,0)
theorem zI2:∀ (b:Bool) (l:List UInt8),jG b l≤l.length
 | _,[]=>by cases ‹Bool› <;> simp [jG]
 | true,c :: r=>by have:=zI2 (decide (c.toNat≠10)) r;simp only [jG,Yc];omega
 | false,c :: r=>by
   have h1:=zI2 true r;have h2:=zI2 false r;simp only [jG,Yc];split
   ·omega
   ·split <;> omega
theorem zQ2:∀ l:List UInt8,jT l≤l.length
 | []=>by simp [jT]
 | c :: r=>by have:=zQ2 r;simp only [jT,Yc];split <;> omega
theorem qD7:∀ l:List UInt8,vF l≤l.length
 | []=>by simp [vF]
 | c :: r=>by have:=qD7 r;simp only [vF,Yc];split <;> omega
theorem jA3 (k:Nat):(vT k).length=2:=by unfold vT;split <;> rfl
theorem zZ4 (t:List UInt8):∀ f k,yG t f k≤t.length
 | 0,k=>by
   unfold yG;split
   ·omega
   ·split <;> simp
 | f+1,k=>by
   unfold yG;split
   ·rename_i h;have h1:=(List.isPrefixOf_iff_prefix.1 h).length_le;rw [jA3]at h1;exact h1
   ·exact zZ4 t f (k+1)
theorem jW8 (l:List UInt8) (hk:(zC1 l).1≠0):1≤(zC1 l).2∧(zC1 l).2≤l.length∧(zC1 l).1≤4:=by
 cases l with
 | nil=>exact absurd rfl hk
 | cons c r =>
   have hd:=zQ2 (c :: r);have hp:=qD7 r;have hs:=zZ4 (c :: r) 5 0;rw [zC1]at hk ⊢;split at hk
   ·rename_i h;rw [lM h];simp only [Yc];omega
   ·rename_i h;rw [lN h];split at hk
    ·rename_i h2;rw [lM h2];have h3:1≤jT (c :: r):=by simp only [jT];rw [lM h2];omega
     have hlen:=cU (i:=jT (c :: r)) (l:=c :: r);cases hdr:(c :: r).drop (jT (c :: r))with
     | nil=>exact⟨h3,hd,Ym⟩
     | cons d r1 =>
       rw [hdr]at hlen;cases r1 with
       | nil=>exact⟨h3,hd,Ym⟩
       | cons e r2 =>
         dsimp only;have he:=zQ2 (e :: r2);rw [Yc]at hlen;split
         ·exact⟨by dsimp only;omega,by dsimp only;omega,by dsimp only;omega⟩
         ·exact⟨h3,hd,Ym⟩
    ·rename_i h2;rw [lN h2];split at hk
     ·rename_i h3;rw [lM h3];exact⟨h3,hs,Ym⟩
     ·exact absurd rfl hk
theorem qO8 (t:List UInt8) (a:Nat) (ha:a≤t.length):a≤(kZ t a).2.1∧(kZ t a).2.1≤t.length∧(kZ t a).1≤4∧((kZ t a).1≠0→(kZ t a).2.1<(kZ t a).2.2.1∧(kZ t a).2.2.1≤t.length)∧((kZ t a).1=0→(kZ t a).2.2.1=(kZ t a).2.1):=by
 have h1:=zI2 false (t.drop a);rw [cU]at h1;unfold kZ;dsimp only;split
 ·rename_i h;exact⟨by dsimp only;omega,by dsimp only;omega,Ym,fun h=>absurd rfl h,fun _=>rfl⟩
 ·rename_i h;split
  ·exact⟨by dsimp only;omega,by dsimp only;omega,Ym,fun h=>absurd rfl h,fun _=>rfl⟩
  ·rename_i h2;obtain⟨h3,h4,h5⟩:=jW8 _ h2;rw [cU]at h4;refine⟨by dsimp only;omega,by dsimp only;omega,h5,fun _=>⟨by dsimp only;omega,by dsimp only;omega⟩,fun h=>absurd h h2⟩
abbrev Yt:=Nat×Nat×Nat×Bool
def ylT (t:List UInt8):Nat→Nat→List Yt
 | 0,_=>[]
 | f+1,a=>kZ t a :: if (kZ t a).1=0 then [] else ylT t f (kZ t a).2.2.1
def kG (t:List UInt8):List Yt:=ylT t (t.length+2) 0
def tkY (t:List UInt8) (y:Yt):Tk:=⟨y.1,jL6 t y.2.1 y.2.2.1,y.2.1,y.2.2.1⟩
def zY (t:List UInt8) (L:List Yt):List Tk:=(L.filter fun y=>decide (y.1≠0)).map (tkY t)
def zI3 (L:List Yt):Option Nat:=(L.find? fun y=>y.2.2.2).map fun y=>y.2.1
theorem jS6:∀ l:List UInt8,(Lib.indexByte l 10=-1∧jG true l=l.length)∨(∃ n:Nat,Lib.indexByte l 10=(n:Int)∧n<l.length∧jG true l=n+jG false (l.drop n))
 | []=>.inl ⟨rfl,rfl⟩
 | c :: r=>by
   by_cases hc:c=10
   ·subst hc;refine .inr ⟨0,rfl,Ym,?_⟩;simp [jG,yJ]
   ·have e1:(c == 10)=false:=by simpa using hc
    have e2:decide (c.toNat≠10)=true:=by simp only [ne_eq,decide_not,Bool.not_eq_true',decide_eq_false_iff_not];intro h;exact hc (UInt8.toNat_inj.1 h)
    rcases jS6 r with⟨h1,h2⟩ | ⟨n,h1,h2,h3⟩
    ·refine .inl ⟨?_,?_⟩
     ·simp only [Lib.indexByte,e1,h1];rfl
     ·simp only [jG,e2,h2,Yc];omega
    ·refine .inr ⟨n+1,?_,by simpa using h2,?_⟩
     ·have e3:((n:Int) == -1)=false:=beq_false_of_ne Yo;simp only [Lib.indexByte,e1,h1,e3];rfl
     ·simp only [jG,e2,h3,List.drop_succ_cons];omega
theorem kE4 (l:List UInt8) (c:UInt8):decide (0≤Lib.indexByte l c)=l.contains c:=by
 induction l with
 | nil=>rfl
 | cons b r ih =>
   rw [List.contains_cons,←ih];have hg:=Lib.indexByte_ge r c;by_cases hb:b=c
   ·subst hb;simp [Lib.indexByte]
   ·have e1:(b == c)=false:=by simpa using hb
    have e2:(c == b)=false:=by simpa using fun h=>hb h.symm
    rw [e2];by_cases h1:Lib.indexByte r c=-1
    ·simp [Lib.indexByte,e1,h1]
    ·have e3:(Lib.indexByte r c == -1)=false:=by simpa using h1
     simp only [Lib.indexByte,e1,e3,Bool.false_or];congr 1;simp;omega
def zG1 (t:List UInt8) (a:Nat):Nat:=a+jG false (t.drop a)
theorem qV1 {t:List UInt8} {a:Nat} {c:UInt8} (h:t[a]?=some c) (h1:c.toNat≠35) (h2:yJ c=true):zG1 t a=zG1 t (a+1):=by unfold zG1;obtain⟨hk',he⟩:=cA.1 h;rw [cE hk',he];simp only [jG,lN h1,lM h2];omega
theorem jA7 {t:List UInt8} {a:Nat} {c:UInt8} (h:t[a]?=some c) (h1:c.toNat≠35) (h2:yJ c=false):zG1 t a=a:=by unfold zG1;obtain⟨hk',he⟩:=cA.1 h;rw [cE hk',he];simp [jG,lN h1,h2]
theorem qP2 {t:List UInt8} {a:Nat} (h:t.length≤a):zG1 t a=a:=by unfold zG1;rw [List.drop_eq_nil_of_le h];rfl
theorem jM3 {t:List UInt8} {a:Nat} {c:UInt8} (h:t[a]?=some c) (h1:c.toNat=35):(Lib.indexByte (t.drop a) 10=-1∧zG1 t a=t.length)∨(∃ n:Nat,Lib.indexByte (t.drop a) 10=(n:Int)∧1≤n∧a+n<t.length∧zG1 t a=zG1 t (a+n)):=by
 obtain⟨hk',he⟩:=cA.1 h;have hd:t.drop a=c :: t.drop (a+1):=by rw [cE hk',he]
 have hs:zG1 t a=a+(1+jG true (t.drop (a+1))):=by unfold zG1;rw [hd];simp only [jG,lM h1]
 have hne:c≠10:=by rintro rfl;revert h1;decide
 have hb:jG true (t.drop a)=1+jG true (t.drop (a+1)):=by
  have e2:decide (c.toNat≠10)=true:=by rw [h1];rfl
  rw [hd];simp only [jG,e2]
 rw [hs,←hb];rcases jS6 (t.drop a)with⟨h3,h4⟩ | ⟨n,h3,h4,h5⟩
 ·exact .inl ⟨h3,by rw [h4,cU];omega⟩
 ·refine .inr ⟨n,h3,?_,by rw [cU]at h4;omega,?_⟩
  ·rcases Nat.eq_zero_or_pos n with h0 | h0
   ·subst h0;exfalso;rw [hd]at h3;have e1:(c == 10)=false:=by simpa using hne
    simp only [Lib.indexByte,e1]at h3;have hg:=Lib.indexByte_ge (t.drop (a+1)) 10;by_cases h1:Lib.indexByte (t.drop (a+1)) 10=-1
    ·simp [h1]at h3
    ·have e3:(Lib.indexByte (t.drop (a+1)) 10 == -1)=false:=by simpa using h1
     simp only [e3]at h3;simp at h3;omega
   ·exact h0
  ·unfold zG1;rw [h5,List.drop_drop];omega
theorem jX3 {t:List UInt8} {a:Nat} (h:a≤t.length):a≤zG1 t a∧zG1 t a≤t.length:=by have:=zI2 false (t.drop a);rw [cU]at this;unfold zG1;omega
def zH9 (t:List UInt8) (a:Nat):Nat:=a+jT (t.drop a)
theorem jM4 {t:List UInt8} {a:Nat} {c:UInt8} (h:t[a]?=some c) (h1:zV c=true):zH9 t a=zH9 t (a+1):=by obtain⟨hk',he⟩:=cA.1 h;unfold zH9;rw [cE hk',he];simp only [jT,lM h1];omega
theorem jA8 {t:List UInt8} {a:Nat} {c:UInt8} (h:t[a]?=some c) (h1:zV c=false):zH9 t a=a:=by obtain⟨hk',he⟩:=cA.1 h;unfold zH9;rw [cE hk',he];simp [jT,h1]
theorem jM5 {t:List UInt8} {a:Nat} (h:t.length≤a):zH9 t a=a:=by unfold zH9;rw [List.drop_eq_nil_of_le h];rfl
theorem qK4 {t:List UInt8} {a:Nat} (h:a≤t.length):a≤zH9 t a∧zH9 t a≤t.length:=by have:=zQ2 (t.drop a);rw [cU]at this;unfold zH9;omega
def qP3 (t:List UInt8) (a:Nat):Nat:=a+vF (t.drop a)
theorem jM6 {t:List UInt8} {a:Nat} {c:UInt8} (h:t[a]?=some c) (h1:yU c=true):qP3 t a=qP3 t (a+1):=by obtain⟨hk',he⟩:=cA.1 h;unfold qP3;rw [cE hk',he];simp only [vF,lM h1];omega
theorem jA9 {t:List UInt8} {a:Nat} {c:UInt8} (h:t[a]?=some c) (h1:yU c=false):qP3 t a=a:=by obtain⟨hk',he⟩:=cA.1 h;unfold qP3;rw [cE hk',he];simp [vF,h1]
theorem jM7 {t:List UInt8} {a:Nat} (h:t.length≤a):qP3 t a=a:=by unfold qP3;rw [List.drop_eq_nil_of_le h];rfl
def zQ3 (t:List UInt8) (a:Nat):Nat×Nat:=((zC1 (t.drop a)).1,a+(zC1 (t.drop a)).2)
theorem jB1 {t:List UInt8} {a:Nat} {c:UInt8} (h:t[a]?=some c) (h1:qM c=true):zQ3 t a=(1,qP3 t (a+1)):=by obtain⟨hk',he⟩:=cA.1 h;unfold zQ3 qP3;rw [cE hk',he];simp only [zC1,lM h1];rw [Nat.add_assoc]
theorem jM8 {t:List UInt8} {a:Nat} {c:UInt8} (h:t[a]?=some c) (h1:qM c=false) (h2:zV c=true) (d:Nat) (hd:zH9 t a=d) (h3:t.length≤d+1):zQ3 t a=(2,d):=by
 obtain⟨hk',he⟩:=cA.1 h;subst hd;unfold zH9 at h3 ⊢;have hl:=cU (i:=a+jT (t.drop a)) (l:=t);have hdd:(t.drop a).drop (jT (t.drop a))=t.drop (a+jT (t.drop a)):=by rw [List.drop_drop]
 unfold zQ3;rw [cE hk',he]at hdd hl h3 ⊢;simp only [zC1,h1,lM h2];rw [hdd];cases hx:t.drop (a+jT (c :: t.drop (a+1)))with
 | nil=>simp
 | cons x r =>
   cases r with
   | nil=>simp
   | cons y r =>
     rw [hx]at hl;simp at hl;omega
theorem jB2 {t:List UInt8} {a:Nat} {c:UInt8} (h:t[a]?=some c) (h1:qM c=false) (h2:zV c=true) (d:Nat) (hd:zH9 t a=d) {x y:UInt8} (h3:t[d]?=some x) (h4:t[d+1]?=some y) :
 zQ3 t a=if x.toNat=58∧zV y=true then(3,zH9 t (d+1)) else(2,d):=by
 obtain⟨hk',he⟩:=cA.1 h;obtain⟨hk3,he3⟩:=cA.1 h3;obtain⟨hk4,he4⟩:=cA.1 h4;have hdd:(t.drop a).drop (jT (t.drop a))=x :: y :: t.drop (d+1+1):=by rw [List.drop_drop];show t.drop (zH9 t a)=_;rw [hd,cE hk3,he3,cE hk4,he4]
 have hd2:t.drop (d+1)=y :: t.drop (d+1+1):=by rw [cE hk4,he4]
 have hd3:zH9 t (d+1)=d+1+jT (y :: t.drop (d+1+1)):=by unfold zH9;rw [hd2]
 rw [hd3];unfold zH9 at hd;unfold zQ3;rw [cE hk',he]at hdd hd ⊢;simp only [zC1,h1,lM h2,hdd];by_cases hc:x.toNat=58∧zV y=true
 ·simp only [lM hc,Bool.false_eq_true,if_false];congr 1;omega
 ·simp only [lN hc,Bool.false_eq_true,if_false];congr 1
theorem jB3 {t:List UInt8} {a:Nat} {c:UInt8} (h:t[a]?=some c) (h1:qM c=false) (h2:zV c=false) (n:Nat) (hn:xG (t.drop a)=n):zQ3 t a=if 0<n then(4,a+n) else(0,a):=by
 obtain⟨hk',he⟩:=cA.1 h;subst hn;unfold zQ3;rw [cE hk',he];simp only [zC1,h1,h2];by_cases hs:0<xG (c :: t.drop (a+1))
 ·simp [hs]
 ·simp [hs]
theorem jB4 {t:List UInt8} {a b:Nat} (h:zG1 t a=b) (hb:b=t.length):kZ t a=(0,b,b,false):=by unfold zG1 at h;unfold kZ;rw [h];simp only [lM hb]
theorem jB5 {t:List UInt8} {a b:Nat} (h:zG1 t a=b) (hb:b<t.length) (k e:Nat) (hk:zQ3 t b=(k,e)):kZ t a=if k=0 then(0,b,b,true) else(k,b,e,false):=by unfold zG1 at h;unfold zQ3 at hk;injection hk with h1 h2;unfold kZ;rw [h];simp only [lN (show ¬b=t.length by omega),h1,h2]
section
open Go.RowKit Go.PlainAid
theorem zR7 {a b:Nat} (h:a=b):Ending.returned (uI a)=.returned (uI b):=by rw [h]
theorem qK5 (c:UInt8) (w:World):Calls prog 136 #[uB c.toNat] w fun e w'=>e=.returned (.bool (qM c))∧w=w':=by
 have hE:qM c=(decide (97≤c.toNat) && decide (c.toNat≤122)):=rfl;obtain⟨n,hn⟩:∃ n,c.toNat=n:=⟨_,rfl⟩;rw [hn]at hE ⊢;clear hn;by_cases h1:97≤n
 ·by_cases h2:n≤122
  ·have e1:decide ((97:Int)≤(n:Int))=true:=by simp;omega
   have e2:decide ((n:Int)≤122)=true:=Yp;have E:Ud (qM c=true):=by show _=_;rw [hE];simp [h1,h2]
   clear hE;go_enter func136,ntmps136
   go_wp2
   go_ret;exact⟨yT E.o.symm,rfl⟩
  ·have e1:decide ((97:Int)≤(n:Int))=true:=by simp;omega
   have e2:decide ((n:Int)≤122)=false:=Yp;have E:Ud (qM c=false):=by show _=_;rw [hE];simp [h2]
   clear hE;go_enter func136,ntmps136
   go_wp2
   go_ret;exact⟨yT E.o.symm,rfl⟩
 ·have e1:decide ((97:Int)≤(n:Int))=false:=by simp;omega
  have E:Ud (qM c=false):=by show _=_;rw [hE];simp [h1]
  clear hE;go_enter func136,ntmps136
  go_wp2
  go_ret;exact⟨yT E.o.symm,rfl⟩
theorem zX4 (c:UInt8) (w:World):Calls prog 138 #[uB c.toNat] w fun e w'=>e=.returned (.bool (zV c))∧w=w':=by
 have hE:zV c=(decide (48≤c.toNat) && decide (c.toNat≤57)):=rfl;obtain⟨n,hn⟩:∃ n,c.toNat=n:=⟨_,rfl⟩;rw [hn]at hE ⊢;clear hn;by_cases h1:48≤n
 ·by_cases h2:n≤57
  ·have e1:decide ((48:Int)≤(n:Int))=true:=by simp;omega
   have e2:decide ((n:Int)≤57)=true:=Yp;have E:Ud (zV c=true):=by show _=_;rw [hE];simp [h1,h2]
   clear hE;go_enter func138,ntmps138
   go_wp2
   go_ret;exact⟨yT E.o.symm,rfl⟩
  ·have e1:decide ((48:Int)≤(n:Int))=true:=by simp;omega
   have e2:decide ((n:Int)≤57)=false:=Yp;have E:Ud (zV c=false):=by show _=_;rw [hE];simp [h2]
   clear hE;go_enter func138,ntmps138
   go_wp2
   go_ret;exact⟨yT E.o.symm,rfl⟩
 ·have e1:decide ((48:Int)≤(n:Int))=false:=by simp;omega
  have E:Ud (zV c=false):=by show _=_;rw [hE];simp [h1]
  clear hE;go_enter func138,ntmps138
  go_wp2
  go_ret;exact⟨yT E.o.symm,rfl⟩
theorem kE5 (c:UInt8) (w:World):Calls prog 137 #[uB c.toNat] w fun e w'=>e=.returned (.bool (yU c))∧w=w':=by
 have hE:yU c=(decide (c.toNat=46) || (decide (c.toNat=95) || (qM c || zV c))):=rfl;have HLC:=Ph fun w=>qK5 c w;have HDC:=Ph fun w=>zX4 c w;obtain⟨n,hn⟩:∃ n,c.toNat=n:=⟨_,rfl⟩;obtain⟨lb,hlb⟩:∃ b,qM c=b:=⟨_,rfl⟩;obtain⟨db,hdb⟩:∃ b,zV c=b:=⟨_,rfl⟩;rw [hn,hlb]at HLC;rw [hn,hdb]at HDC;rw [hn,hlb,hdb]at hE;rw [hn];clear hn hlb hdb;by_cases h1:n=46
 ·have e1:((n:Int) == 46)=true:=by simp;omega
  have E:Ud (yU c=true):=by show _=_;rw [hE];simp [h1]
  clear hE h1;go_enter func137,ntmps137
  go_wp2
  go_ret;exact⟨yT E.o.symm,rfl⟩
 ·have e1:((n:Int) == 46)=false:=by simp;omega
  by_cases h2:n=95
  ·have e2:((n:Int) == 95)=true:=by simp;omega
   have E:Ud (yU c=true):=by show _=_;rw [hE];simp [h2]
   clear hE h1 h2;go_enter func137,ntmps137
   go_wp2
   go_ret;exact⟨yT E.o.symm,rfl⟩
  ·have e2:((n:Int) == 95)=false:=by simp;omega
   have E:Ud (yU c=(lb || db)):=by show _=_;rw [hE];simp [h1,h2]
   clear hE h1 h2;cases lb with
   | true =>
     go_enter func137,ntmps137
     go_wp2_with fail
     refine(HLC.o w).mono ?_;rintro e w' ⟨rfl,rfl⟩;go_wp2
     go_ret;exact⟨yT E.o.symm,rfl⟩
   | false =>
     go_enter func137,ntmps137
     go_wp2_with fail
     refine(HLC.o w).mono ?_;rintro e w' ⟨rfl,rfl⟩;go_wp2_with fail
     refine(HDC.o w).mono ?_;rintro e w' ⟨rfl,rfl⟩;cases db with
     | true =>
       go_wp2
       go_ret;exact⟨yT E.o.symm,rfl⟩
     | false =>
       go_wp2
       go_ret;exact⟨yT E.o.symm,rfl⟩
theorem qK6 (s:ByteArray) (a:Nat) (w:World) (ha:a≤s.size) (hs:s.size≤100000000) :
 Calls prog 139 #[.string s,uI a] w fun e w'=>e=.returned (uI (zH9 s.data.toList a:Int))∧w=w':=by
 go_enter func139,ntmps139
 go_wp2_with fail
 go_loopw [1] (fun v1 wr=>∃ k:Nat,v1=uI k∧k≤s.size∧Ud (zH9 s.data.toList k=zH9 s.data.toList a)∧w=wr) (fun v1 _=>s.size-(intOf v1).toNat)
 case atStart=>exact⟨a,rfl,ha,rfl,rfl⟩
 case round =>
  obtain⟨k,rfl,hk,HK,rfl⟩:=hrel;by_cases hlt:k<s.size
  ·have e1:decide ((k:Int)<(s.size:Int))=true:=by simp;omega
   have hki:(k:Int)<(s.size:Int):=Yo;obtain⟨c,hc,hbc⟩:=zO9 hlt;have hg:=get_bt s k hlt;cases hd:zV c with
   | true =>
     have HK2:Ud (zH9 s.data.toList (k+1)=zH9 s.data.toList a):=(jM4 hc hd).symm.trans HK.o;have HC:=Ph fun w=>hd▸zX4 c w;clear hc hd;go_wp2_with fail
     refine(HC.o w).mono ?_;rintro e w' ⟨rfl,rfl⟩;go_wp2_with fail
     go_roundw
     case rel=>exact⟨k+1,by go_num,Yo,HK2,trivial⟩
     case measure=>simp [intOf];omega
   | false =>
     have E:Ud (zH9 s.data.toList a=k):=HK.o.symm.trans (jA8 hc hd);have HC:=Ph fun w=>hd▸zX4 c w;clear hc hd;go_wp2_with fail
     refine(HC.o w).mono ?_;rintro e w' ⟨rfl,rfl⟩;go_wp2_with fail
     go_ret;exact⟨zR7 E.o.symm,rfl⟩
  ·have e1:decide ((k:Int)<(s.size:Int))=false:=by simp;omega
   have E:Ud (zH9 s.data.toList a=k):=HK.o.symm.trans (jM5 (by rw [qK];omega));go_wp2_with fail
   go_ret;exact⟨zR7 E.o.symm,rfl⟩
theorem kL8 (s:ByteArray) (a:Nat) (w:World) (ha:a≤s.size) (hs:s.size≤100000000) :
 Calls prog 108 #[.string s,uI a] w fun e w'=>e=.returned (uI (zG1 s.data.toList a:Int))∧w=w':=by
 go_enter func108,ntmps108
 go_wp2_with fail
 go_step3
 go_wp2_with fail
 go_step3
 go_wp2_with fail
 go_loopw [1] (fun v1 wr=>∃ k:Nat,v1=uI k∧k≤s.size∧Ud (zG1 s.data.toList k=zG1 s.data.toList a)∧w=wr) (fun v1 _=>s.size-(intOf v1).toNat)
 case atStart=>exact⟨a,rfl,ha,rfl,rfl⟩
 case round =>
  obtain⟨k,rfl,hk,HK,rfl⟩:=hrel;by_cases hlt:k<s.size
  ·have e1:decide ((k:Int)<(s.size:Int))=true:=by simp;omega
   have hki:(k:Int)<(s.size:Int):=Yo;obtain⟨c,hc,hbc⟩:=zO9 hlt;have hg:=get_bt s k hlt;by_cases h35:c.toNat=35
   ·have e2:((c.toNat:Int) == 35)=true:=by simp;omega
    have hr:=jM3 hc h35;have hx:=zZ3 s k;obtain⟨t,ht⟩:∃ t,s.extract k s.size=t:=⟨_,rfl⟩;rw [ht]at hx;rw [←hx]at hr;have HI:=Ph fun w=>Tryz.strings_IndexByte t 10 w;rcases hr with⟨h1,h2⟩ | ⟨n,h1,hn,hn2,h2⟩
    ·have E:Ud (zG1 s.data.toList s.size=zG1 s.data.toList a):=by show _=_;rw [←HK.o,h2,qP2 (by rw [qK];exact lF _),qK]
     have HI2:Ud (∀ w,Calls prog 135 #[.string t,uB 10] w fun e w'=>e=.returned (uI (-1))∧w'=w):=fun w=>by have:=HI.o w;rw [show Lib.indexByte t.data.toList (10:Int).toNat.toUInt8=-1 from h1]at this;exact this
     clear hx h1 h2 hc HI;go_wp2_with fail
     refine(HI2.o w).mono ?_;rintro e w' ⟨rfl,rfl⟩;go_wp2_with fail
     go_roundw
     case rel=>exact⟨s.size,rfl,lF _,E,trivial⟩
     case measure=>simp [intOf];omega
    ·have E:Ud (zG1 s.data.toList (k+n)=zG1 s.data.toList a):=h2.symm.trans HK.o;have hn3:k+n≤s.size:=by rw [qK]at hn2;omega
     have e4:decide ((0:Int)≤(n:Int))=true:=Ym;have HI2:Ud (∀ w,Calls prog 135 #[.string t,uB 10] w fun e w'=>e=.returned (uI n)∧w'=w):=fun w=>by have:=HI.o w;rw [show Lib.indexByte t.data.toList (10:Int).toNat.toUInt8=(n:Int) from h1]at this;exact this
     clear hx h1 h2 hc HI hn2;go_wp2_with fail
     refine(HI2.o w).mono ?_;rintro e w' ⟨rfl,rfl⟩;go_wp2_with fail
     go_roundw
     case rel=>exact⟨k+n,by go_num,hn3,E,trivial⟩
     case measure=>simp [intOf];omega
   ·have e2:((c.toNat:Int) == 35)=false:=by simp;omega
    cases hb:yJ c with
    | true =>
      have E:Ud (zG1 s.data.toList (k+1)=zG1 s.data.toList a):=(qV1 hc h35 hb).symm.trans HK.o;have hor:c.toNat=9∨c.toNat=10∨c.toNat=13∨c.toNat=32:=by unfold yJ at hb;simpa using hb
      clear hc hb h35;rcases hor with h | h | h | h
      all_goals
       rw [h]at e2 hbc;go_wp2_with fail
       go_roundw
       case rel=>exact⟨k+1,by go_num,Yo,E,trivial⟩
       case measure=>simp [intOf];omega
    | false =>
      have E:Ud (zG1 s.data.toList a=k):=HK.o.symm.trans (jA7 hc h35 hb);have hor:c.toNat≠9∧c.toNat≠10∧c.toNat≠13∧c.toNat≠32:=by unfold yJ at hb;simpa using hb
      have e3:((c.toNat:Int) == 9)=false:=Yp;have e4:((c.toNat:Int) == 10)=false:=Yp;have e5:((c.toNat:Int) == 13)=false:=Yp;have e6:((c.toNat:Int) == 32)=false:=Yp;clear hc hb h35 hor;go_wp2_with fail
      try rw [Exit.noGoto_ret]
      go_ret;exact⟨zR7 E.o.symm,rfl⟩
  ·have e1:decide ((k:Int)<(s.size:Int))=false:=by simp;omega
   have E:Ud (zG1 s.data.toList a=k):=HK.o.symm.trans (qP2 (by rw [qK];omega));go_wp2_with fail
   try rw [Exit.noGoto_ret]
   go_ret;exact⟨zR7 E.o.symm,rfl⟩
theorem zC8 {t:List UInt8} {f k:Nat} (h:(vT k).isPrefixOf t=true):yG t (f+1) k=2:=by simp only [yG,lM h]
theorem vU {t:List UInt8} {f k:Nat} (h:(vT k).isPrefixOf t=false):yG t (f+1) k=yG t f (k+1):=by simp only [yG,h];rfl
theorem qE3 (l p:List UInt8):Lib.hasPrefix l p=p.isPrefixOf l:=by first | rfl | (unfold Lib.hasPrefix;rfl) | skip
theorem kL9 (s:ByteArray) (w:World) (hs0:0<s.size) (hs:s.size≤100000000) :
 Calls prog 140 #[.string s] w fun e w'=>e=.returned (uI (xG s.data.toList:Int))∧w=w':=by
 have hx0:(⟨#[60,60,62,62,61,61,33,61,60,61]⟩:ByteArray).extract 0 2=str (vT 0):=rfl;have hx1:(⟨#[60,60,62,62,61,61,33,61,60,61]⟩:ByteArray).extract 2 4=str (vT 1):=rfl;have hx2:(⟨#[60,60,62,62,61,61,33,61,60,61]⟩:ByteArray).extract 4 6=str (vT 2):=rfl;have hx3:(⟨#[60,60,62,62,61,61,33,61,60,61]⟩:ByteArray).extract 6 8=str (vT 3):=rfl;have hx4:(⟨#[60,60,62,62,61,61,33,61,60,61]⟩:ByteArray).extract 8 10=str (vT 4):=rfl;have HP:Ud (∀ k w,Calls prog 56 #[.string s,.string (str (vT k))] w fun e w'=>e=.returned (.bool ((vT k).isPrefixOf s.data.toList))∧w'=w):=fun k w=>by have h:=Tryz.strings_HasPrefix s (str (vT k)) w;rw [qE3]at h;exact h
 go_enter func140,ntmps140
 go_wp2_with fail
 go_loopw [3] (fun v3 wr=>∃ k:Nat,v3=uI ((2*k:Nat):Int)∧k≤5∧Ud (xG s.data.toList=yG s.data.toList (5-k) k)∧w=wr) (fun v3 _=>10-(intOf v3).toNat)
 case atStart=>exact⟨0,rfl,Yo,rfl,rfl⟩
 case round =>
  obtain⟨k,rfl,hk,HK,rfl⟩:=hrel;by_cases hk5:k=5
  ·subst hk5;obtain⟨c,hc,hbc⟩:=zO9 hs0;have hg:=get_bt s 0 hs0;have HI:=Ph fun w=>Tryz.strings_IndexByte (str yF) (c.toNat:Int) w;have hcc:((c.toNat:Int)).toNat.toUInt8=c:=by rw [Int.toNat_natCast];exact UInt8.ofNat_toNat
   have hxb:=kE4 yF c;have hd:∃ r,s.data.toList=c :: r:=by
    cases hl:s.data.toList with
    | nil=>rw [hl]at hc;cases hc
    | cons d r=>rw [hl]at hc;injection hc with hc;subst hc;exact⟨r,rfl⟩
   obtain⟨r,hd⟩:=hd;have E:Ud (xG s.data.toList=if yF.contains c then 1 else 0):=by show _=_;rw [HK.o,hd];simp [yG]
   rw [←hxb]at E;obtain⟨x,hx⟩:∃ x,Lib.indexByte yF c=x:=⟨_,rfl⟩;have HI2:Ud (∀ w,Calls prog 135 #[uR yF,uB c.toNat] w fun e w'=>e=.returned (uI x)∧w'=w):=fun w=>by have h1:=HI.o w;rw [hcc,qE,hx]at h1;exact h1
   rw [hx]at E;have hsi:(⟨#[43,45,42,47,37,38,124,94,60,126,63,58,61,44,64,40,41,91,93,123,125]⟩:ByteArray)=str yF:=rfl;clear hx hxb hcc HI hd hc HK hx0 hx1 hx2 hx3 hx4;by_cases hx0:0≤x
   ·have e1:decide (0≤x)=true:=by simpa using hx0
    have E2:Ud (xG s.data.toList=1):=by show _=_;rw [E.o,e1];rfl
    go_wp2_with fail
    refine(HI2.o w).mono ?_;rintro e w' ⟨rfl,rfl⟩;go_wp2_with fail
    go_ret;exact⟨zR7 E2.o.symm,rfl⟩
   ·have e1:decide (0≤x)=false:=by simpa using hx0
    have E2:Ud (xG s.data.toList=0):=by show _=_;rw [E.o,e1];rfl
    go_wp2_with fail
    refine(HI2.o w).mono ?_;rintro e w' ⟨rfl,rfl⟩;go_wp2_with fail
    go_ret;exact⟨zR7 E2.o.symm,rfl⟩
  ·rcases(by omega:k=0∨k=1∨k=2∨k=3∨k=4)with rfl | rfl | rfl | rfl | rfl
   ·have HPK:=Ph (HP.o 0);cases hp:(vT 0).isPrefixOf s.data.toList with
    | true =>
      have E:Ud (xG s.data.toList=2):=HK.o.trans (zC8 hp);rw [hp]at HPK;clear hp HP HK;go_wp2_with fail
      refine(HPK.o w).mono ?_;rintro e w' ⟨rfl,rfl⟩;go_wp2_with fail
      go_ret;exact⟨zR7 E.o.symm,rfl⟩
    | false =>
      have E:Ud (xG s.data.toList=yG s.data.toList (5-(0+1)) (0+1)):=HK.o.trans (vU hp);rw [hp]at HPK;clear hp HP HK;go_wp2_with fail
      refine(HPK.o w).mono ?_;rintro e w' ⟨rfl,rfl⟩;go_wp2_with fail
      go_roundw
      case rel=>exact⟨0+1,rfl,Yo,E,trivial⟩
      case measure=>simp [intOf]
   ·have HPK:=Ph (HP.o 1);cases hp:(vT 1).isPrefixOf s.data.toList with
    | true =>
      have E:Ud (xG s.data.toList=2):=HK.o.trans (zC8 hp);rw [hp]at HPK;clear hp HP HK;go_wp2_with fail
      refine(HPK.o w).mono ?_;rintro e w' ⟨rfl,rfl⟩;go_wp2_with fail
      go_ret;exact⟨zR7 E.o.symm,rfl⟩
    | false =>
      have E:Ud (xG s.data.toList=yG s.data.toList (5-(1+1)) (1+1)):=HK.o.trans (vU hp);rw [hp]at HPK;clear hp HP HK;go_wp2_with fail
      refine(HPK.o w).mono ?_;rintro e w' ⟨rfl,rfl⟩;go_wp2_with fail
      go_roundw
      case rel=>exact⟨1+1,rfl,Yo,E,trivial⟩
      case measure=>simp [intOf]
   ·have HPK:=Ph (HP.o 2);cases hp:(vT 2).isPrefixOf s.data.toList with
    | true =>
      have E:Ud (xG s.data.toList=2):=HK.o.trans (zC8 hp);rw [hp]at HPK;clear hp HP HK;go_wp2_with fail
      refine(HPK.o w).mono ?_;rintro e w' ⟨rfl,rfl⟩;go_wp2_with fail
      go_ret;exact⟨zR7 E.o.symm,rfl⟩
    | false =>
      have E:Ud (xG s.data.toList=yG s.data.toList (5-(2+1)) (2+1)):=HK.o.trans (vU hp);rw [hp]at HPK;clear hp HP HK;go_wp2_with fail
      refine(HPK.o w).mono ?_;rintro e w' ⟨rfl,rfl⟩;go_wp2_with fail
      go_roundw
      case rel=>exact⟨2+1,rfl,Yo,E,trivial⟩
      case measure=>simp [intOf]
   ·have HPK:=Ph (HP.o 3);cases hp:(vT 3).isPrefixOf s.data.toList with
    | true =>
      have E:Ud (xG s.data.toList=2):=HK.o.trans (zC8 hp);rw [hp]at HPK;clear hp HP HK;go_wp2_with fail
      refine(HPK.o w).mono ?_;rintro e w' ⟨rfl,rfl⟩;go_wp2_with fail
      go_ret;exact⟨zR7 E.o.symm,rfl⟩
    | false =>
      have E:Ud (xG s.data.toList=yG s.data.toList (5-(3+1)) (3+1)):=HK.o.trans (vU hp);rw [hp]at HPK;clear hp HP HK;go_wp2_with fail
      refine(HPK.o w).mono ?_;rintro e w' ⟨rfl,rfl⟩;go_wp2_with fail
      go_roundw
      case rel=>exact⟨3+1,rfl,Yo,E,trivial⟩
      case measure=>simp [intOf]
   ·have HPK:=Ph (HP.o 4);cases hp:(vT 4).isPrefixOf s.data.toList with
    | true =>
      have E:Ud (xG s.data.toList=2):=HK.o.trans (zC8 hp);rw [hp]at HPK;clear hp HP HK;go_wp2_with fail
      refine(HPK.o w).mono ?_;rintro e w' ⟨rfl,rfl⟩;go_wp2_with fail
      go_ret;exact⟨zR7 E.o.symm,rfl⟩
    | false =>
      have E:Ud (xG s.data.toList=yG s.data.toList (5-(4+1)) (4+1)):=HK.o.trans (vU hp);rw [hp]at HPK;clear hp HP HK;go_wp2_with fail
      refine(HPK.o w).mono ?_;rintro e w' ⟨rfl,rfl⟩;go_wp2_with fail
      go_roundw
      case rel=>exact⟨4+1,rfl,Yo,E,trivial⟩
      case measure=>simp [intOf]
def kW (k a b:Nat):Value:=.agg #[uB k,uI a,uI b]
theorem zC9 {k a b k' a' b':Nat} (h:(k,b)=(k',b')) (ha:a=a'):Ending.returned (kW k a b)=.returned (kW k' a' b'):=by obtain⟨rfl,rfl⟩:=Prod.mk.inj h;rw [ha]
theorem kE6 (s:ByteArray) (a:Nat) (w:World) (ha:a<s.size) (hs:s.size≤100000000) :
 Calls prog 109 #[.string s,uI a] w fun e w'=>e=.returned (kW (zQ3 s.data.toList a).1 a (zQ3 s.data.toList a).2)∧Below w.heap.size w w':=by
 obtain⟨c,hc,hbc⟩:=zO9 ha;have hg:=get_bt s a ha;have hai:(a:Int)<(s.size:Int):=Yo;have HB0:Ud (Below w.heap.size w (w.alloc (.cells #[uB 0,uI 0,uI 0] 44))):=zG (lB _ _) _;cases hl:qM c with
 | true =>
   have E:Ud (zQ3 s.data.toList a=(1,qP3 s.data.toList (a+1))):=jB1 hc hl;have HL:=Ph fun w=>hl▸qK5 c w;clear hc hl;go_enter func109,ntmps109
   go_wp2_with fail
   refine(HL.o _).mono ?_;rintro e w' ⟨rfl,rfl⟩;go_wp2_with fail
   obtain⟨W0,hW0⟩:∃ W0,W0=(w.alloc (.cells #[uB 0,uI 0,uI 0] 44)):=⟨_,rfl⟩;rw [←hW0];have HW0:=Ph hW0;clear hW0;go_loopw [5] (fun v5 wr=>∃ k:Nat,v5=uI k∧k≤s.size∧Ud (qP3 s.data.toList k=qP3 s.data.toList (a+1))∧W0=wr) (fun v5 _=>s.size-(intOf v5).toNat)
   case atStart=>exact⟨a+1,by go_num,Yo,rfl,rfl⟩
   case round =>
    obtain⟨k,rfl,hk,HK,rfl⟩:=hrel;by_cases hlt:k<s.size
    ·have e1:decide ((k:Int)<(s.size:Int))=true:=by simp;omega
     have hki:(k:Int)<(s.size:Int):=Yo;obtain⟨d,hd,hbd⟩:=zO9 hlt;have hgd:=get_bt s k hlt;cases hp:yU d with
     | true =>
       have HK2:Ud (qP3 s.data.toList (k+1)=qP3 s.data.toList (a+1)):=(jM6 hd hp).symm.trans HK.o;have HC:=Ph fun w=>hp▸kE5 d w;clear hd hp;go_wp2_with fail
       refine(HC.o W0).mono ?_;rintro e w' ⟨rfl,rfl⟩;go_wp2_with fail
       go_roundw
       case rel=>exact⟨k+1,by go_num,Yo,HK2,trivial⟩
       case measure=>simp [intOf];omega
     | false =>
       have E:Ud ((1,k)=zQ3 s.data.toList a):=by show _=_;rw [E.o,←HK.o,jA9 hd hp]
       have HC:=Ph fun w=>hp▸kE5 d w;clear hd hp;go_wp2_with fail
       refine(HC.o W0).mono ?_;rintro e w' ⟨rfl,rfl⟩;have hW0:=HW0.o;subst hW0;go_wp2_with fail
       refine lK (v:=kW 1 a k) (by simp [results,results109,go_sem,kW]) rfl ?_;exact⟨zC9 E.o rfl,zG (lB _ _) _⟩
    ·have e1:decide ((k:Int)<(s.size:Int))=false:=by simp;omega
     have E:Ud ((1,k)=zQ3 s.data.toList a):=by show _=_;rw [E.o,←HK.o,jM7 (by rw [qK];omega)]
     have hW0:=HW0.o;subst hW0;go_wp2_with fail
     refine lK (v:=kW 1 a k) (by simp [results,results109,go_sem,kW]) rfl ?_;exact⟨zC9 E.o rfl,zG (lB _ _) _⟩
 | false =>
   have HL:=Ph fun w=>hl▸qK5 c w;cases hd:zV c with
   | true =>
     have HD:=Ph fun w=>hd▸zX4 c w;obtain⟨d,hdd⟩:∃ d,zH9 s.data.toList a=d:=⟨_,rfl⟩;have hle:=qK4 (t:=s.data.toList) (a:=a) (by rw [qK];omega);rw [qK,hdd]at hle;have HG:Ud (∀ w,Calls prog 139 #[.string s,uI a] w fun e w'=>e=.returned (uI d)∧w=w'):=fun w=>by have h1:=qK6 s a w Yo hs;rw [hdd]at h1;exact h1
     by_cases h1:d+1<s.size
     ·have e1:decide ((d:Int)+1<(s.size:Int))=true:=by simp;omega
      obtain⟨x,hx,hbx⟩:=zO9 (show d<s.size by omega);obtain⟨y,hy,hby⟩:=zO9 h1;have hgx:=get_bt s d Yo;have hgy:=get_bt s (d+1) h1;have T:=jB2 hc hl hd d hdd hx hy;have hdi:(d:Int)<(s.size:Int):=Yo;have hdi1:(d:Int)+1<(s.size:Int):=Yo;have wd1:IntKind.i64.wrap ((d:Int)+1)=((d+1:Nat):Int):=by rw [lL];omega
      by_cases h58:x.toNat=58
      ·have e2:((x.toNat:Int) == 58)=true:=by simp;omega
       have HY:=Ph fun w=>zX4 y w;cases hdy:zV y with
       | true =>
         rw [hdy]at HY;rw [lM ⟨h58,hdy⟩]at T;have E:Ud ((3,zH9 s.data.toList (d+1))=zQ3 s.data.toList a):=T.symm;have HG2:=Ph fun w=>qK6 s (d+1) w Yo hs;obtain⟨d2,hd2⟩:∃ d2,zH9 s.data.toList (d+1)=d2:=⟨_,rfl⟩;have hle2:=qK4 (t:=s.data.toList) (a:=d+1) (by rw [qK];omega);rw [qK,hd2]at hle2;rw [hd2]at HG2 E;clear T hd2 hdy hx hy hdd hd hl hc;go_enter func109,ntmps109
         go_wp2_with fail
         refine(HL.o _).mono ?_;rintro e w' ⟨rfl,rfl⟩;go_wp2_with fail
         refine(HD.o _).mono ?_;rintro e w' ⟨rfl,rfl⟩;go_wp2_with fail
         refine(HG.o _).mono ?_;rintro e w' ⟨rfl,rfl⟩;go_wp2_with fail
         refine(HY.o _).mono ?_;rintro e w' ⟨rfl,rfl⟩;go_wp2_with fail
         refine(HG2.o _).mono ?_;rintro e w' ⟨rfl,rfl⟩;go_wp2_with fail
         refine lK (v:=kW 3 a d2) (by simp [results,results109,go_sem,kW]) rfl ?_;exact⟨zC9 E.o rfl,zG (lB _ _) _⟩
       | false =>
         rw [hdy]at HY;rw [lN (fun h=>by rw [hdy]at h;exact absurd h.2 Yd)]at T;have E:Ud ((2,d)=zQ3 s.data.toList a):=T.symm;clear T hdy hx hy hdd hd hl hc;go_enter func109,ntmps109
         go_wp2_with fail
         refine(HL.o _).mono ?_;rintro e w' ⟨rfl,rfl⟩;go_wp2_with fail
         refine(HD.o _).mono ?_;rintro e w' ⟨rfl,rfl⟩;go_wp2_with fail
         refine(HG.o _).mono ?_;rintro e w' ⟨rfl,rfl⟩;go_wp2_with fail
         refine(HY.o _).mono ?_;rintro e w' ⟨rfl,rfl⟩;go_wp2_with fail
         refine lK (v:=kW 2 a d) (by simp [results,results109,go_sem,kW]) rfl ?_;exact⟨zC9 E.o rfl,zG (lB _ _) _⟩
      ·have e2:((x.toNat:Int) == 58)=false:=by simp;omega
       rw [lN (fun h=>h58 h.1)]at T;have E:Ud ((2,d)=zQ3 s.data.toList a):=T.symm;clear T hx hy hdd hd hl hc;go_enter func109,ntmps109
       go_wp2_with fail
       refine(HL.o _).mono ?_;rintro e w' ⟨rfl,rfl⟩;go_wp2_with fail
       refine(HD.o _).mono ?_;rintro e w' ⟨rfl,rfl⟩;go_wp2_with fail
       refine(HG.o _).mono ?_;rintro e w' ⟨rfl,rfl⟩;go_wp2_with fail
       refine lK (v:=kW 2 a d) (by simp [results,results109,go_sem,kW]) rfl ?_;exact⟨zC9 E.o rfl,zG (lB _ _) _⟩
     ·have e1:decide ((d:Int)+1<(s.size:Int))=false:=by simp;omega
      have wd1:IntKind.i64.wrap ((d:Int)+1)=(d:Int)+1:=by rw [lL];omega
      have E:Ud ((2,d)=zQ3 s.data.toList a):=(jM8 hc hl hd d hdd (by rw [qK];omega)).symm;clear hdd hd hl hc;go_enter func109,ntmps109
      go_wp2_with fail
      refine(HL.o _).mono ?_;rintro e w' ⟨rfl,rfl⟩;go_wp2_with fail
      refine(HD.o _).mono ?_;rintro e w' ⟨rfl,rfl⟩;go_wp2_with fail
      refine(HG.o _).mono ?_;rintro e w' ⟨rfl,rfl⟩;go_wp2_with fail
      refine lK (v:=kW 2 a d) (by simp [results,results109,go_sem,kW]) rfl ?_;exact⟨zC9 E.o rfl,zG (lB _ _) _⟩
   | false =>
     have HD:=Ph fun w=>hd▸zX4 c w;obtain⟨n,hn⟩:∃ n,xG (s.data.toList.drop a)=n:=⟨_,rfl⟩;have T:=jB3 hc hl hd n hn;have hx:=zZ3 s a;have hnl:n≤2∧a+n≤s.size:=by
      have h1:=zZ4 (s.data.toList.drop a) 5 0;have h2:xG (s.data.toList.drop a)=yG (s.data.toList.drop a) 5 0:=rfl;rw [h2]at hn;rw [cU,qK,hn]at h1;refine⟨?_,Yo⟩;have:∀ (t:List UInt8) (f k:Nat),yG t f k≤2:=by
       intro t f;induction f with
       | zero =>
         intro k;unfold yG;split
         ·omega
         ·split <;> omega
       | succ f ih =>
         intro k;unfold yG;split
         ·exact lF _
         ·exact ih _
      rw [←hn];exact this _ _ _
     obtain⟨t,ht⟩:∃ t,s.extract a s.size=t:=⟨_,rfl⟩;have hts:t.size=s.size-a:=by rw [←ht,←qK,zZ3,cU,qK]
     rw [ht]at hx;have HS:Ud (∀ w,Calls prog 140 #[.string t] w fun e w'=>e=.returned (uI n)∧w=w'):=fun w=>by have h1:=kL9 t w Yo Yo;rw [hx,hn]at h1;exact h1
     clear hx hn hts;by_cases h0:0<n
     ·have e1:decide ((0:Int)<(n:Int))=true:=by simp;omega
      rw [lM h0]at T;have E:Ud ((4,a+n)=zQ3 s.data.toList a):=T.symm;have wa:IntKind.i64.wrap ((a:Int)+(n:Int))=((a+n:Nat):Int):=by rw [lL];omega
      clear T hd hl hc;go_enter func109,ntmps109
      go_wp2_with fail
      refine(HL.o _).mono ?_;rintro e w' ⟨rfl,rfl⟩;go_wp2_with fail
      refine(HD.o _).mono ?_;rintro e w' ⟨rfl,rfl⟩;go_wp2_with fail
      refine(HS.o _).mono ?_;rintro e w' ⟨rfl,rfl⟩;go_wp2_with fail
      refine lK (v:=kW 4 a (a+n)) (by simp [results,results109,go_sem,kW]) rfl ?_;exact⟨zC9 E.o rfl,zG (lB _ _) _⟩
     ·have e1:decide ((0:Int)<(n:Int))=false:=by simp;omega
      rw [lN h0]at T;have E:Ud ((0,a)=zQ3 s.data.toList a):=T.symm;clear T hd hl hc;go_enter func109,ntmps109
      go_wp2_with fail
      refine(HL.o _).mono ?_;rintro e w' ⟨rfl,rfl⟩;go_wp2_with fail
      refine(HD.o _).mono ?_;rintro e w' ⟨rfl,rfl⟩;go_wp2_with fail
      refine(HS.o _).mono ?_;rintro e w' ⟨rfl,rfl⟩;go_wp2_with fail
      refine lK (v:=kW 0 a a) (by simp [results,results109,go_sem,kW]) rfl ?_;exact⟨zC9 E.o rfl,zG (lB _ _) _⟩
end
section
open Go.RowKit Go.PlainAid
def qZ5 (b:Bool):Nat:=if b then 280 else 0
def zW7 (q:Nat×Nat×Nat×Bool):Value:=.tuple #[kW q.1 q.2.1 q.2.2.1,uI (qZ5 q.2.2.2:Int)]
theorem zZ7 {q q':Nat×Nat×Nat×Bool} (h:q=q'):Ending.returned (zW7 q)=.returned (zW7 q'):=by rw [h]
theorem jB6 (l:List UInt8) (h:(zC1 l).1=0):(zC1 l).2=0:=by
 cases l with
 | nil=>rfl
 | cons c r =>
   rw [zC1]at h ⊢;split at h
   ·cases h
   ·rename_i h1;rw [lN h1];split at h
    ·exfalso;revert h;split
     ·split <;> simp
     ·simp
    ·rename_i h2;rw [lN h2];split at h
     ·cases h
     ·rename_i h3;rw [lN h3]
theorem jB7 {t:List UInt8} {b f:Nat} (h:zQ3 t b=(0,f)):f=b:=by unfold zQ3 at h;injection h with h1 h2;rw [jB6 _ h1]at h2;omega
theorem kE7 {w w1:World} {p:Nat} {v0 v1 v2:Value} (h:Below w.heap.size w w1) (hp:w.heap.size≤p):Below w.heap.size w (((w1.setCell ⟨p,0,none⟩ v0).setCell ⟨p,1,none⟩ v1).setCell ⟨p,2,none⟩ v2) :=
 ((h.setCell (p:=⟨p,0,none⟩) hp v0).setCell (p:=⟨p,1,none⟩) hp v1).setCell (p:=⟨p,2,none⟩) hp v2
theorem kD8 {w:World} {g:Nat} {t:TypeId} {u0 u1 u2 v0 v1 v2:Value} (h:Bk w g t #[u0,u1,u2]):Bk (((w.setCell ⟨g,0,none⟩ v0).setCell ⟨g,1,none⟩ v1).setCell ⟨g,2,none⟩ v2) g t #[v0,v1,v2]:=((h.put 0 v0).put 1 v1).put 2 v2
theorem jS7 {w:World} {g p:Nat} {t:TypeId} {cs:Array Value} {v0 v1 v2:Value} (h:Bk w g t cs) (hp:g≠p):Bk (((w.setCell ⟨p,0,none⟩ v0).setCell ⟨p,1,none⟩ v1).setCell ⟨p,2,none⟩ v2) g t cs:=((h.far (p:=⟨p,0,none⟩) hp v0).far (p:=⟨p,1,none⟩) hp v1).far (p:=⟨p,2,none⟩) hp v2
theorem zJ {w:World} {g:Nat} {t:TypeId} {u0 u1 u2:Value} (h:Bk w g t #[u0,u1,u2]):w.cell? ⟨g,0,none⟩=some u0∧w.cell? ⟨g,1,none⟩=some u1∧w.cell? ⟨g,2,none⟩=some u2:=⟨h.cell 0,h.cell 1,h.cell 2⟩
theorem qE4 {w:World} {g:Nat} {t:TypeId} {u0 u1 u2:Value} (h:Bk w g t #[u0,u1,u2]):w.frozen? ⟨g,0,none⟩=false∧w.frozen? ⟨g,1,none⟩=false∧w.frozen? ⟨g,2,none⟩=false:=⟨h.frozen 0,h.frozen 1,h.frozen 2⟩
theorem kE8 (s:ByteArray) (a:Nat) (w:World) (ha:a≤s.size) (hs:s.size≤100000000) :
 Calls prog 81 #[.string s,uI a] w fun e w'=>e=.returned (zW7 (kZ s.data.toList a))∧Below w.heap.size w w':=by
 have e1:decide ((a:Int)<0)=false:=Ym;have e2:decide ((s.size:Int)<(a:Int))=false:=Yp;obtain⟨b,hb⟩:∃ b,zG1 s.data.toList a=b:=⟨_,rfl⟩;have hle:=jX3 (t:=s.data.toList) (a:=a) (by rw [qK];omega);rw [qK,hb]at hle;have HS:Ud (∀ w,Calls prog 108 #[.string s,uI a] w fun e w'=>e=.returned (uI b)∧w=w'):=fun w=>by have h1:=kL8 s a w ha hs;rw [hb]at h1;exact h1
 by_cases h1:b<s.size
 ·obtain⟨⟨k,f⟩,hk⟩:∃ q,zQ3 s.data.toList b=q:=⟨_,rfl⟩;have hT:=jB5 hb (by rw [qK];exact h1) k f hk;have HT:Ud (∀ w,Calls prog 109 #[.string s,uI b] w fun e w'=>e=.returned (kW k b f)∧Ue w w'):=fun w=>by have h2:=kE6 s b w h1 hs;rw [hk]at h2;exact h2
  have e3:((b:Int) == (s.size:Int))=false:=Yp;have HB0:Ud (Ue w (w.alloc (.cells #[uB 0,uI 0,uI 0] 44))):=zG (lB _ _) _;have HK0:=Ph (Bk.new w 44 #[uB 0,uI 0,uI 0]);have hrest:∀ (w2:World),Below (w.alloc (.cells #[uB 0,uI 0,uI 0] 44)).heap.size (w.alloc (.cells #[uB 0,uI 0,uI 0] 44)) w2→Ue w w2∧Bk w2 w.heap.size 44 #[uB 0,uI 0,uI 0]∧w.heap.size<w2.heap.size:=fun w2 h=>by have h3:=zD HK0.o h;exact⟨zU HB0.o h,h3,h3.lt⟩
  have HR:=Ph hrest;clear hrest;by_cases hk0:k=0
  ·subst hk0;rw [lM rfl]at hT;have hf:b=f:=(jB7 hk).symm;have E:Ud ((0,b,b,true)=kZ s.data.toList a):=hT.symm;clear hT hb hk;subst hf;go_enter func81,ntmps81
   go_wp2_with fail
   refine(HS.o _).mono ?_;rintro e w' ⟨rfl,rfl⟩;go_wp2_with fail
   refine(HT.o _).mono ?_;rintro e w2 ⟨rfl,h⟩;have HR2:=Ph (HR.o w2 h);have hlt:=HR2.o.2.2;clear h;obtain⟨y0,y1,y2⟩:=zJ HR2.o.2.1;obtain⟨z0,z1,z2⟩:=qE4 HR2.o.2.1;dsimp only [kW];go_wp2_with fail
   have HF:=Ph ((kD8 (v0:=uB 0) (v1:=uI b) (v2:=uI b) HR2.o.2.1).alloc (.cells #[uB 0,uI b,uI b] 44));have HFB:=Ph (zG (kE7 (v0:=uB 0) (v1:=uI b) (v2:=uI b) HR2.o.1 (lF _)) (.cells #[uB 0,uI b,uI b] 44));clear y0 y1 y2 z0 z1 z2;generalize ((World.alloc _ _))=WF at HF HFB ⊢;obtain⟨r0,r1,r2⟩:=zJ HF.o;refine lK (v:=zW7 (0,b,b,true)) (by simp [results,results81,go_sem,zW7,kW,qZ5,r0,r1,r2]) rfl ?_;exact⟨zZ7 E.o,HFB.o⟩
  ·rw [lN hk0]at hT;have E:Ud ((k,b,f,false)=kZ s.data.toList a):=hT.symm;have ek:((k:Int) == 0)=false:=Yp;clear hT hb hk;go_enter func81,ntmps81
   go_wp2_with fail
   refine(HS.o _).mono ?_;rintro e w' ⟨rfl,rfl⟩;go_wp2_with fail
   refine(HT.o _).mono ?_;rintro e w2 ⟨rfl,h⟩;have HR2:=Ph (HR.o w2 h);have hlt:=HR2.o.2.2;clear h;obtain⟨y0,y1,y2⟩:=zJ HR2.o.2.1;obtain⟨z0,z1,z2⟩:=qE4 HR2.o.2.1;dsimp only [kW];go_wp2_with fail
   have HF:=Ph ((kD8 (v0:=uB k) (v1:=uI b) (v2:=uI f) HR2.o.2.1).alloc (.cells #[uB k,uI b,uI f] 44));have HFB:=Ph (zG (kE7 (v0:=uB k) (v1:=uI b) (v2:=uI f) HR2.o.1 (lF _)) (.cells #[uB k,uI b,uI f] 44));clear y0 y1 y2 z0 z1 z2;generalize ((World.alloc _ _))=WF at HF HFB ⊢;obtain⟨r0,r1,r2⟩:=zJ HF.o;refine lK (v:=zW7 (k,b,f,false)) (by simp [results,results81,go_sem,zW7,kW,qZ5,r0,r1,r2]) rfl ?_;exact⟨zZ7 E.o,HFB.o⟩
 ·have hbe:b=s.size:=by omega
  have e3:((b:Int) == (s.size:Int))=true:=Yp;have E:Ud ((0,b,b,false)=kZ s.data.toList a):=(jB4 hb (by rw [qK];exact hbe)).symm;subst hbe;clear hb;go_enter func81,ntmps81
  go_wp2_with fail
  refine(HS.o _).mono ?_;rintro e w' ⟨rfl,rfl⟩;go_wp2_with fail
  refine lK (v:=zW7 (0,s.size,s.size,false)) (by simp [results,results81,go_sem,zW7,kW,qZ5]) rfl ?_;exact⟨zZ7 E.o,zG (lB _ _) _⟩
end
section
open Go.RowKit Go.Shelf
attribute [local go_sem] Oper.semAt_some
def wE (b:Nat) (W:World):Option Nat:=match W.cell? ⟨b,0,none⟩with
 | some v=>v.ownBlock
 | none=>none
structure KpT (b:Nat) (A B:World):Prop where
 size:A.heap.size≤B.heap.size
 keep:∀ (k:Nat) cs t fr,A.heap[k]?=some (.cells cs t fr)→k≠b→k≠b+1→wE b A≠some k→B.heap[k]?=A.heap[k]?
 row:∀ k,wE b B=some k→wE b A=some k∨A.heap.size≤k
 valid:(∀ k,wE b A=some k→k<A.heap.size)→∀ k,wE b B=some k→k<B.heap.size
theorem KpT.refl (b:Nat) (W:World):KpT b W W:=⟨lF _,fun _ _ _ _ _ _ _ _=>rfl,fun k h=>.inl h,fun h=>h⟩
theorem KpT.trans {b:Nat} {A B C:World} (h:KpT b A B) (k:KpT b B C):KpT b A C :=
 ⟨lE h.size k.size,fun j cs t fr hj h1 h2 h3=>by
   have hB:=h.keep j cs t fr hj h1 h2 h3;refine(k.keep j cs t fr (hB.trans hj) h1 h2 (fun e=>?_)).trans hB;rcases h.row j e with h4 | h4
   ·exact h3 h4
   ·have:=zO hj;omega,fun j e=>by
   rcases k.row j e with h4 | h4
   ·exact h.row j h4
   ·exact .inr (lE h.size h4),fun hv=>k.valid (h.valid hv)⟩
theorem zE1 {b:Nat} {A B:World} (h:B.cell? ⟨b,0,none⟩=A.cell? ⟨b,0,none⟩):wE b B=wE b A:=by unfold wE;rw [h]
theorem KpT.below {b:Nat} {A B:World} (h:Below A.heap.size A B) (hb:b<A.heap.size):KpT b A B:=by have hr:wE b B=wE b A:=zE1 (h.cell (p:=⟨b,0,none⟩) hb);exact⟨h.size,fun k cs t fr hk _ _ _=>h.block k (zO hk),fun k e=>.inl (hr▸e),fun hv k e=>lX (hv k (hr▸e)) h.size⟩
theorem KpT.putObj {b:Nat} {cs:Array Value} {t:TypeId} (W:World) (l:Nat) (o o':Obj) (hb:Bk W b t cs∨b<l) (ho:W.heap[l]?=some o) (hc:o.isCells=false):KpT b W (W.putObj l o'):=by
 have hne:∀ k cs t fr,W.heap[k]?=some (.cells cs t fr)→l≠k:=by rintro k cs t fr hk rfl;rw [hk]at ho;injection ho with ho;subst ho;cases hc
 have hbl:l≠b:=by
  rcases hb with hb | hb
  ·exact hne b _ _ _ hb
  ·omega
 have hr:wE b (W.putObj l o')=wE b W:=zE1 (World.cell?_of_block (a:=⟨b,0,none⟩) (by show(W.putObj l o').heap[b]?=_;simp [World.putObj,cP,hbl]));exact⟨by simp [World.putObj],fun k cs t fr hk _ _ _=>by
  have:=hne k _ _ _ hk;simp [World.putObj,cP,this],fun k e=>.inl (hr▸e),fun hv k e=>by
  have:=hv k (hr▸e);simpa [World.putObj]using this⟩
def jN1 (x:Yt):Array Value:=#[kW x.1 x.2.1 x.2.2.1,uI (qZ5 x.2.2.2:Int)]
def jN2 (L pre:List Yt):Prop:=∃ r,pre++r=L
theorem qP5 (t:List UInt8) (f a:Nat):ylT t (f+1) a=kZ t a :: (if (kZ t a).1=0 then [] else ylT t f (kZ t a).2.2.1):=rfl
theorem jX8 (n l tb b:Nat) (s:ByteArray) (U W0:World) (L:List Yt) (hL:Ud (kG s.data.toList=L)) (hs:s.size≤65536) (hn:1≤n) (hbU:b+1<U.heap.size) (hrow:Ud (∀ k,wE b U=some k→k<U.heap.size))
 (hIt:Ud (∀ W,KpT b U W→W.cell? ⟨tb,0,none⟩=some (.string s))) (h00:Ud (KpT b U W0))
 (J Jx:List Yt→World→Prop) (hJ:Ud (∀ pre W W',J pre W→Below W.heap.size W W'→J pre W'))
 (hY:Ud (∀ pre x W,J pre W→pre.length<L.length→YieldAt Fence.wide (n-1) prog l (jN1 x) W fun e W' =>
   (e=.returned (.bool true)∧J (pre++[x]) W'∧KpT b W W')∨(e=.returned (.bool false)∧Jx (pre++[x]) W')))
 (h0:Ud (J [] W0)) :
 CallsIn Fence.wide n prog 80 #[.func (.yield l) #[] #[],uQ tb 0] W0 fun e W'=>(∃ v,e=.returned v) ∧
  ((∃ ys,ys=L∧J ys W')∨(∃ pre,jN2 L pre∧Jx pre W')):=by
 refine callsIn_of_wp func80 rfl trivial ?_ rfl;simp only [ntmps80,List.size_toArray,Yc,Yn,Nat.reduceAdd,Nat.reduceSub,Array.replicate_succ,Array.replicate_zero,List.push_toArray,List.append_toArray,cF,lR];gi_wp2
 gi_loopw [3] (fun v3 wr=>∃ (f a:Nat) (pre:List Yt),v3=uI a∧a≤s.size∧s.size+1≤f+a∧Ud (pre++ylT s.data.toList f a=L)∧Ud (J pre wr)∧Ud (KpT b U wr)) (fun v3 _=>s.size+1-(intOf v3).toNat)
 case atStart =>
  refine⟨s.data.toList.length+2,0,[],rfl,lV _,by rw [qK];omega,?_,h0,h00⟩;exact hL
 case round =>
  obtain⟨f,a,pre,rfl,ha,hf,HP,HJ,HK⟩:=hrel;obtain⟨f,rfl⟩:∃ g,f=g+1:=⟨f-1,Yo⟩;have y0:=hIt.o wr HK.o;have HNX:=Ph (kE8 s a wr ha Yo);have hok:=qO8 s.data.toList a (by rw [qK];exact ha);have hP2:=HP.o;rw [qP5]at hP2;obtain⟨⟨k,p,e,bd⟩,hq⟩:∃ q,kZ s.data.toList a=q:=⟨_,rfl⟩;rw [hq]at HNX hok hP2;(try dsimp only at hok hP2);rw [qK]at hok;obtain⟨o1,o2,o3,o4,o5⟩:=hok;have hlen:pre.length<L.length:=by have:=congrArg List.length hP2;simp only [Ya,Yc]at this;omega
  have HPP:=Ph hP2;have hbw:b+1<wr.heap.size:=lX hbU HK.o.size;have hval:=HK.o.valid hrow.o
  have hYY:∀ w1,Ue wr w1→(w1.alloc (.cells #[uB k,uI p,uI e] 44)).heap.size=w1.heap.size+1∧KpT b U (w1.alloc (.cells #[uB k,uI p,uI e] 44))∧(∀ W3,KpT b (w1.alloc (.cells #[uB k,uI p,uI e] 44)) W3→Bk W3 w1.heap.size 44 #[uB k,uI p,uI e]) ∧
   YieldAt Fence.wide (n-1) prog l #[.agg #[uB k,uI p,uI e],uI (qZ5 bd:Int)] (w1.alloc (.cells #[uB k,uI p,uI e] 44)) fun e' W' =>
   (e'=.returned (.bool true)∧J (pre++[(k,p,e,bd)]) W'∧KpT b (w1.alloc (.cells #[uB k,uI p,uI e] 44)) W')∨(e'=.returned (.bool false)∧Jx (pre++[(k,p,e,bd)]) W'):=fun w1 h1=>by
   have h2:Ue wr (w1.alloc (.cells #[uB k,uI p,uI e] 44)):=zG h1 _;have h3:Ue w1 (w1.alloc (.cells #[uB k,uI p,uI e] 44)):=zG (lB _ _) _;have hb1:b+1<w1.heap.size:=lX hbw h1.size;have hr1:wE b (w1.alloc (.cells #[uB k,uI p,uI e] 44))=wE b wr:=zE1 (h2.cell (p:=⟨b,0,none⟩) (show b<wr.heap.size by omega));refine⟨Ym,HK.o.trans (KpT.below h2 Yo),fun W3 hW3=>?_,?_⟩
   ·have hnew:Bk (w1.alloc (.cells #[uB k,uI p,uI e] 44)) w1.heap.size 44 #[uB k,uI p,uI e]:=Bk.new _ _ _;refine(hW3.keep w1.heap.size _ _ _ hnew Yo Yo (fun hr=>?_)).trans hnew;rw [hr1]at hr;have:=hval _ hr;have:=h1.size;omega
   ·exact hY.o pre (k,p,e,bd) _ (hJ.o pre _ _ HJ.o h2) hlen
  have HYY:=Ph hYY;clear hYY hval hP2 hq HP HJ;dsimp only [zW7,kW]at HNX;gi_wp2_with (refine⟨trivial,?_⟩;gi_at_call 81;refine(callsIn_wide.2 HNX.o).mono ?_;rintro e' w1 ⟨rfl,hb1⟩;obtain⟨q1,q2,q3,fn,tmps,assign,body,hy,hRn⟩:=HYY.o w1 hb1;have HQ2:=Ph q2;have HQ3:=Ph q3;have HRn:=Ph hRn;clear hb1 q2 q3 hRn y0)
  gi_wp2
  refine HRn.o.mono ?_;clear hy;rintro e3 W3 (⟨rfl,hJ3,hk3⟩ | ⟨rfl,hJx3⟩)
  ·have hbx:=HQ3.o W3 hk3;have HK3:=Ph (HQ2.o.trans hk3);have HJ3:=Ph hJ3;obtain⟨x0,x1,x2⟩:=zJ hbx;clear hJ3 hk3 hbx HRn HQ3 HYY HQ2 HK HNX;by_cases hk0:k=0
   ·subst hk0;have HALL:Ud (pre++[(0,p,e,bd)]=L):=by have h1:=HPP.o;rw [lM rfl]at h1;exact h1
    clear HPP;gi_wp2
    refine lK (results_none rfl _ _ _) rfl ?_;exact⟨⟨_,rfl⟩,.inl ⟨_,HALL.o,HJ3.o⟩⟩
   ·have ek:((k:Int) == 0)=false:=by simp;omega
    have HPQ:Ud ((pre++[(k,p,e,bd)])++ylT s.data.toList f e=L):=by have h1:=HPP.o;rw [lN hk0]at h1;rw [lS];exact h1
    have he:=o4 hk0;clear HPP;gi_wp2
    go_roundw
    case rel=>exact⟨f,e,_,rfl,Yo,Yo,HPQ,HJ3,HK3⟩
    case measure=>simp [intOf];omega
  ·have HP3:Ud (jN2 L (pre++[(k,p,e,bd)])):=⟨_,(lS _ _ _).trans HPP.o⟩;have HJX:=Ph hJx3;clear hJx3 HRn HQ3 HYY HQ2 HK HNX HPP;gi_wp2
   refine lK (results_none rfl _ _ _) rfl ?_;exact⟨⟨_,rfl⟩,.inr ⟨_,HP3.o,HJX.o⟩⟩
theorem kM2 (s:ByteArray) (w:World):Calls prog 41 #[.string s] w fun e w'=>e=.returned (.func (.func 80) #[] #[uQ w.heap.size 0])∧w.alloc (.cells #[.string s] 9)=w':=by
 go_enter func41,ntmps41
 go_wp2
 go_ret;exact⟨rfl,rfl⟩
theorem jX9 (n tb b:Nat) (s:ByteArray) (U:World) (L:List Yt) (hL:kG s.data.toList=L) (hs:s.size≤65536) (hn:1≤n) (hbU:b+1<U.heap.size) (hrow:∀ k,wE b U=some k→k<U.heap.size)
 (hIt:∀ W,KpT b U W→W.cell? ⟨tb,0,none⟩=some (.string s)) :
 SeqStopsK Fence.wide n prog 80 #[uQ tb 0] jN1 (KpT b) (fun ys=>ys=L) (jN2 L) L.length U:=by
 intro l J Jx W hW hJ _ hY h0
 exact jX8 n l tb b s U W L (Ph hL) hs hn hbU (Ph hrow) (Ph hIt) (Ph (KpT.below hW Yo)) J Jx
  (Ph fun pre W1 W2 hj hb=>hJ pre W1 W2 none hj ⟨hb.os,hb.tape,hb.output,hb.size,fun k hk _=>hb.block k hk⟩ (fun r e=>by cases e)) (Ph hY) (Ph h0)
end
section
open Go.RowKit Go.Shelf
theorem zS7 {W:World} {l:Nat} {o':Obj} {k:Nat} {o:Obj} (hk:k≠l) (h:W.heap[k]?=some o):(W.putObj l o').heap[k]?=some o:=(World.putObj_heap_other hk).trans h
theorem jD7 {α:Type} {F:Fence} {n:Nat} {P:Program} {g:Operand} {ps:Array Tmp} {assign body:Code} {Q:Exit→Act→World→Prop} {a:Act} {w:World}
 (hro:F.round=none) (h1:1≤n) {gf:Nat} {lb:Array Value} (hg:a.eval g=.func (.func gf) #[] lb) (hFg:F.fn gf) (eg:∀ args w,(callFunc gf args).run P w=.ok (.enter gf args) w)
 {encs:α→Array Value} (hps:∀ x,(encs x).size=ps.size) (I:List α→World→Prop) (G:List α→α→World→World→Prop) (R:α→World→Prop) (S:List α→Prop) (Rf:World→Prop)
 (hI:∀ pre W l o o',w.heap.size≤l→I pre W→W.heap[l]?=some o→o.isCells=false→I pre (W.putObj l o'))
 (hR:∀ x W l o o',w.heap.size≤l→R x W→W.heap[l]?=some o→o.isCells=false→R x (W.putObj l o'))
 (hRf:∀ W l o o',w.heap.size≤l→Rf W→W.heap[l]?=some o→o.isCells=false→Rf (W.putObj l o'))
 (h0:∀ o,I [] ((w.alloc (.deferred (some []))).alloc (.loop o)))
 (hseq:∀ (l:Nat) (J:List α→World→Prop) (o:Loop),(∀ pre W,J pre W→I pre W)→(∀ pre W W',J pre W→KeepsOthers W W'→I pre W'→J pre W') →
   (∀ pre x W0 W,J pre W0→J pre W→G pre x W0 W→YieldAt F (n-1-1) P l (encs x) W fun e W'=>e=.returned (.bool true)∧J (pre++[x]) W'∧R x W') →
   J [] ((w.alloc (.deferred (some []))).alloc (.loop o)) →
   CallsIn F (n-1) P gf (#[.func (.yield l) #[] #[]]++lb) ((w.alloc (.deferred (some []))).alloc (.loop o)) fun e W'=>(∃ v,e=.returned v)∧∃ xs,S xs∧J xs W'∧Rf W')
 (hround:∀ (l:Nat) (pre:List α) (x:α) (W0 W:World),I pre W0→G pre x W0 W→assign.wpIn (F.inRound l) (n-1-1) P (Exit.then (fun a' W'=>KeepsOthers W W' ∧
   ∀ o o',w.heap.size≤l→W'.heap[l]?=some o→o.isCells=false→body.wpIn (F.inRound l) (n-1-1) P (fun e _ W3=>e=.normal∧KeepsOthers (W'.putObj l o') W3∧I (pre++[x]) W3∧R x W3) a' (W'.putObj l o')) (fun _ _ _=>False))
   { tmps:=(ps.zip (encs x)).foldl (fun t (p,v)=>t.setIfInBounds p v) a.tmps,defers:=[] } W)
 (hdone:∀ (D:Nat) (xs:List α) (W:World),w.heap.size≤D→S xs→I xs W→Rf W→W.heap[D]?=some (.deferred (some []))→Q .normal { a with defers:={ target:=.collected D,args:=#[] } :: a.defers } W) :
 (Code.rangeFunc g ps assign body).wpIn F n P Q a w:=by
 refine wpIn_rangeFunc fun fn hfn=>?_;rw [hro];let rc:Loop:={ state:=.ready,pending:=none,fn,tmps:=a.tmps,params:=ps,assign,body,defers:=w.heap.size }
 have hl0:((w.alloc (.deferred (some []))).alloc (.loop rc)).heap[w.heap.size+1]?=some (.loop rc):=by have:=World.alloc_heap_new (w.alloc (.deferred (some []))) (.loop rc);rwa [lO]at this
 have hd0:((w.alloc (.deferred (some []))).alloc (.loop rc)).heap[w.heap.size]?=some (.deferred (some [])):=(Below.heap_alloc _ _ _ Ym).trans (World.alloc_heap_new w _)
 refine⟨w.heap.size+1,[{ target:=.collected w.heap.size,args:=#[] }],((w.alloc (.deferred (some []))).alloc (.loop rc)),{ target:=.fn (.func gf) lb,args:=#[.func (.yield (w.heap.size+1)) #[] #[]] },((w.alloc (.deferred (some []))).alloc (.loop rc)),gf,#[.func (.yield (w.heap.size+1)) #[] #[]]++lb,((w.alloc (.deferred (some []))).alloc (.loop rc)),
  run_enterLoop_outer fn a.tmps ps assign body,?_,?_,?_,fun _=>h1,?_⟩
 ·simp only [resolve,hg];simp [go_sem]
 ·intro f' hf';simp [Target.leads]at hf';subst hf';exact hFg
 ·simp [invoke,go_sem,eg]
 ·refine(hseq (w.heap.size+1) (fun pre W=>I pre W∧W.heap[w.heap.size+1]?=some (.loop rc)∧W.heap[w.heap.size]?=some (.deferred (some []))) rc (fun pre W h=>h.1)
   (fun pre W W' h hk hi=>⟨hi,hk.same _ _ h.2.1 rfl,hk.same _ _ h.2.2 rfl⟩) ?_ ⟨h0 rc,hl0,hd0⟩).mono ?_
  ·rintro pre x W0 W ⟨hi0,_,_⟩ ⟨hi,hl,hd⟩ hgx;refine⟨fn,_,assign,body,run_yield (P:=P) (args:=encs x) hl (hps x),roundIn_of_wpIn hfn (wpIn_mono (hround _ pre x W0 W hi0 hgx) ?_)⟩;rintro e a' W' he;cases e with
   | normal =>
     obtain⟨hk,hb⟩:=he;have hl':=hk.same _ _ hl rfl;have hd':=hk.same _ _ hd rfl;have hlt:w.heap.size+1<W'.heap.size:=zO hl';refine⟨_,run_beginRound hl' rfl,wpIn_mono (hb _ _ Yo hl' rfl) ?_⟩;rintro e a3 W3 ⟨rfl,hk3,hi3,hr3⟩;have hl2:(W'.putObj (w.heap.size+1) (.loop { rc with state:=.busy })).heap[w.heap.size+1]?=some (.loop { rc with state:=.busy }):=World.putObj_heap_same hlt;have hl3:=hk3.same _ _ hl2 rfl;have hd3:=hk3.same _ _ (zS7 (l:=w.heap.size+1) (o':=.loop { rc with state:=.busy }) Yo hd') rfl;have hlt3:w.heap.size+1<W3.heap.size:=zO hl3;refine⟨_,_,run_endRound (P:=P) none hl3,rfl,⟨hI _ _ _ _ _ Yo hi3 hl3 rfl,World.putObj_heap_same hlt3,zS7 Yo hd3⟩,hR _ _ _ _ _ Yo hr3 hl3 rfl⟩
   | ret=>exact he.elim
   | exit id=>exact he.elim
   | goto t=>exact he.elim
   | panic ch=>exact he.elim
   | outgrown=>exact he.elim
  ·rintro e W2 ⟨⟨v,rfl⟩,xs,hS,⟨hi,hl,hd⟩,hrf⟩;exact⟨none,_,run_endLoop (P:=P) hl (by simp [rc]),hdone _ xs _ (lF _) hS (hI _ _ _ _ _ Yo hi hl rfl) (hRf _ _ _ _ Yo hrf hl rfl) (zS7 Yo hd)⟩
end
end Go.Proofs.YtfdaebgllibphaaGreatDoor
