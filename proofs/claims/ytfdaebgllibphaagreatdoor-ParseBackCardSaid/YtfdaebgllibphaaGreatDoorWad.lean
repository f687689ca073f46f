import Derived.Maps.OwnIn
import Derived.Deep.WholeRow
import Derived.Deep.DeepCutAuto
import Derived.Test.YtfdaebgllibphaaGreatDoorWac
set_option linter.unusedVariables false
set_option linter.unusedSimpArgs false
set_option maxRecDepth 100000
set_option maxHeartbeats 16000000
namespace Go.Proofs.YtfdaebgllibphaaGreatDoor
open Go.Proofs.Tryz
section
open Go.RowKit Go.Shelf
attribute [local go_sem] Oper.semAt_some
theorem qE6 {P:Program} {F:Fence} {nF:Nat} {t e:TypeId} {size:Nat} {w:World} {ops:Array Oper} {rest:List Oper} {o:Oper} {a:Act} {Q:Exit→Act→World→Prop} (E:El P t e size) (hgd:o.guard=none) (s x:Operand) (ho:o.op=.call { callee:=.builtin .append,args:=#[s,x],argTypes:=#[t,t] })
 (base:Nat) (v:Value) (n:Nat) (xs:List Value) (hs:a.eval s=v) (hown:w.ownsRow base e size v n xs)
 (A:Option Addr) (m c:Nat) (news:List Value) (hx:a.eval x=.slice A m c) (hr:Rd w A news) (hl:news.length=m*size) (h1:∀ u∈news,u.oneCell'=true) (hnm:n+m≤1000000000) (hbase:base≤w.heap.size)
 (h:∀ A' c' w',w'.ownsRow base e size (.slice A' (n+m) c') (n+m) (xs++news)→w.grownBy w' v.ownBlock→((Value.slice A' (n+m) c').ownBlock=v.ownBlock∨(Value.slice A' (n+m) c').ownBlock=some w.heap.size)→wpListIn F nF P ops Q rest (a.put o.dst (.slice A' (n+m) c')) w'):wpListIn F nF P ops Q (o :: rest) a w:=by
 refine wpListIn_plain hgd fun K hK=>?_;obtain⟨A',c',w',hrun,h2,h3,h4⟩:=zG6 (P:=P) E o.type base v n xs hown A m c news hr hl h1 hnm hbase;unfold Oper.wpIn;refine⟨by simp [Oper.about,ho,resolve,Target.leads,Sem.run_pure],?_⟩;rw [Oper.semAt_plain F _ _ (by rw [ho];intro c hc';cases hc')];simp [execOp,ho,resolve,invoke,builtin,hs,hx,hrun,Result.andThen];exact hK _ _ (h A' c' w' h2 h3 h4)
theorem wP (W:World) (D:Nat) (o:Obj):Fr (fun q=>q=D) W (W.putObj D o):=by refine⟨rfl,rfl,rfl,by simp [World.putObj],fun k _ hk=>?_⟩;simp [World.putObj,cP];omega
theorem kF2:El prog 39 44 3:=El.mk' (z:=.agg #[uB 0,uI 0,uI 0]) (bytes:=24) underlying39 Yk rfl Yo Yo
theorem qF {W:World} {B:Nat} {e:TypeId} {size n:Nat} {v:Value} {xs:List Value} (h:W.ownsRow B e size v n xs):∀ k,v.ownBlock=some k→B≤k∧∃ cs,Bk W k e cs:=by
 intro k hk;rcases h.2 with⟨rfl,_⟩ | ⟨g,cap,cur,rfl,hB,hh,_⟩
 ·simp [Value.ownBlock]at hk
 ·obtain rfl:g=k:=by simpa [Value.ownBlock]using hk
  exact⟨hB,cur,hh⟩
theorem zM4 (t:List UInt8) (pre:List Yt) (x:Yt):zY t (pre++[x])=zY t pre++(if x.1=0 then [] else [tkY t x]):=by
 unfold zY;rw [List.filter_append,cB];congr 1;by_cases h:x.1=0
 ·simp [h]
 ·simp [h]
structure PScan (w U:World) (b:Nat) (t:List UInt8) (pre:List Yt) (W:World):Prop where
 o:∃ A c,Bk W b 39 #[.slice A (zY t pre).length c]∧W.ownsRow (b+3) 44 3 (.slice A (zY t pre).length c) (zY t pre).length ((zY t pre).flatMap zQ1)
 wrong:Bk W (b+1) 3 #[uI (-1)]
 kp:KpT b U W
 bel:Below w.heap.size w W
 good:∀ x∈pre,x.2.2.2=false
theorem KpT.grownNC {b:Nat} {W W':World} {row:Option Nat} {cs:Array Value} {t:TypeId} (hb:Bk W b t cs) (hg:W.grownBy W' row) (hr:∀ r,row=some r→∃ o:Obj,W.heap[r]?=some o∧o.isCells=false):KpT b W W':=by
 have nc:∀ {k:Nat} {t:TypeId} {cs:Array Value} {fr:Nat×Nat},W.heap[k]?=some (.cells cs t fr)→¬some k=row:=fun hk e=>by obtain⟨o,ho,hc⟩:=hr _ e.symm;rw [hk]at ho;injection ho with ho;subst ho;cases hc
 have hrr:wE b W'=wE b W:=zE1 (World.cell?_of_block (a:=⟨b,0,none⟩) (hg.block b hb.lt (nc hb)));exact⟨hg.size,fun k cs t fr hk _ _ _=>hg.block k (zO hk) (nc hk),fun k e=>.inl (hrr▸e),fun hv k e=>lX (hv k (hrr▸e)) hg.size⟩
section
variable {w U W W':World} {b:Nat} {t:List UInt8} {pre:List Yt}
theorem PScan.lt (h:PScan w U b t pre W):b+1<W.heap.size:=h.wrong.lt
theorem PScan.below (h:PScan w U b t pre W) (hb:Below W.heap.size W W'):PScan w U b t pre W':=by have hlt:=h.lt;obtain⟨⟨A,c,h1,h1'⟩,h2,h3,h4,h5⟩:=h;exact⟨⟨A,c,zD h1 hb,jP (F:=fun _=>False) h1' (Fr.of_below hb) (fun _ _ h=>h)⟩,zD h2 hb,h3.trans (KpT.below hb Yo),zU h4 hb,h5⟩
theorem PScan.own {row:Option Nat} (h:PScan w U b t pre W) (hwU:w.heap.size≤U.heap.size) (hg:W.grownBy W' row) (hr:∀ r,row=some r→U.heap.size≤r∧∃ o:Obj,W.heap[r]?=some o∧o.isCells=false):PScan w U b t pre W':=by
 have hlt:=h.lt;obtain⟨⟨A,c,h1,h1'⟩,h2,h3,h4,h5⟩:=h;have nc:∀ {k:Nat} {t:TypeId} {cs:Array Value} {fr:Nat×Nat},W.heap[k]?=some (.cells cs t fr)→¬row=some k:=fun hk e=>by obtain⟨_,o,ho,hc⟩:=hr _ e;rw [hk]at ho;injection ho with ho;subst ho;cases hc
 have hf:Fr (fun k=>row=some k) W W':=(Fr.refl _ W).grown hg (fun k hk=>.inl hk);refine⟨⟨A,c,h1.fr hf (nc h1),jP h1' hf (fun k hk=>?_)⟩,h2.fr hf (nc h2),h3.trans (KpT.grownNC h1 hg (fun r e=>(hr r e).2)),h4.grown hg (lE hwU h3.size) (fun k hk=>by have:=(hr k hk).1;omega),h5⟩;obtain⟨_,cs,hk2⟩:=qF h1' k hk;exact nc hk2
theorem PScan.push {x:Yt} {A:Option Addr} {c:Nat} {A':Option Addr} {c':Nat} {W5:World} (h:PScan w U b t pre W) (hwb:w.heap.size≤b) (hx:x.2.2.2=false) (hk:x.1≠0)
 (h1:Bk W b 39 #[.slice A (zY t pre).length c]) (h1':W.ownsRow (b+3) 44 3 (.slice A (zY t pre).length c) (zY t pre).length ((zY t pre).flatMap zQ1))
 (hg:(W.alloc (.cells #[uB x.1,uI x.2.1,uI x.2.2.1] 44)).grownBy W5 (Value.slice A (zY t pre).length c).ownBlock)
 (hw:W5.ownsRow (b+3) 44 3 (.slice A' ((zY t pre).length+1) c') ((zY t pre).length+1) ((zY t pre).flatMap zQ1++[uB x.1,uI x.2.1,uI x.2.2.1]))
 (hat:(Value.slice A' ((zY t pre).length+1) c').ownBlock=(Value.slice A (zY t pre).length c).ownBlock∨(Value.slice A' ((zY t pre).length+1) c').ownBlock=some (W.alloc (.cells #[uB x.1,uI x.2.1,uI x.2.2.1] 44)).heap.size) :
 PScan w U b t (pre++[x]) (W5.setCell ⟨b,0,none⟩ (.slice A' ((zY t pre).length+1) c'))∧KpT b W (W5.setCell ⟨b,0,none⟩ (.slice A' ((zY t pre).length+1) c'))∧KeepsOthers W (W5.setCell ⟨b,0,none⟩ (.slice A' ((zY t pre).length+1) c')):=by
 have hlt:=h.lt;have hba:Ue W (W.alloc (.cells #[uB x.1,uI x.2.1,uI x.2.2.1] 44)):=zG (lB _ _) _;have h1a:=zD h1 hba;have h2a:=zD h.wrong hba;have hwa:(W.alloc (.cells #[uB x.1,uI x.2.1,uI x.2.2.1] 44)).ownsRow (b+3) 44 3 (.slice A (zY t pre).length c) (zY t pre).length ((zY t pre).flatMap zQ1):=jP (F:=fun _=>False) h1' (Fr.of_below hba) (fun _ _ h=>h);have h15:Bk W5 b 39 #[.slice A (zY t pre).length c]:=h1a.grown hg (yR hwa h1a Yd);have h25:Bk W5 (b+1) 3 #[uI (-1)]:=h2a.grown hg (yR hwa h2a Yd);have h16:=h15.put 0 (.slice A' ((zY t pre).length+1) c');have hr0:wE b W=(Value.slice A (zY t pre).length c).ownBlock:=by unfold wE;rw [show W.cell? ⟨b,0,none⟩=some (.slice A (zY t pre).length c) from h1.cell 0]
 have hr6:wE b (W5.setCell ⟨b,0,none⟩ (.slice A' ((zY t pre).length+1) c'))=(Value.slice A' ((zY t pre).length+1) c').ownBlock:=by unfold wE;rw [show(W5.setCell ⟨b,0,none⟩ (.slice A' ((zY t pre).length+1) c')).cell? ⟨b,0,none⟩=some (.slice A' ((zY t pre).length+1) c') from h16.cell 0]
 have hlen:(zY t (pre++[x])).length=(zY t pre).length+1:=by rw [zM4,lN hk,Ya];rfl
 have hK:KpT b W (W5.setCell ⟨b,0,none⟩ (.slice A' ((zY t pre).length+1) c')):=by
  refine⟨?_,fun k cs ty fr hk h0 h0' hrow=>?_,fun k e=>?_,fun hv k e=>?_⟩
  ·have:=hg.size;simp [World.setCell]at this ⊢;omega
  ·refine(Below.heap_setCell W5 ⟨b,0,none⟩ _ k (fun e=>h0 e)).trans ((hg.block k (lX (zO hk) hba.size) (fun e=>?_)).trans (hba.block k (zO hk)));exact hrow (hr0.trans e.symm)
  ·rw [hr6]at e;rcases hat with h' | h'
   ·exact .inl (hr0.trans (h'.symm.trans e))
   ·rw [h']at e;injection e with e;exact .inr (by rw [←e];simp)
  ·rw [hr6]at e;obtain⟨_,cs,h3⟩:=qF hw k e;have:=h3.lt;simpa [World.setCell]using this
 refine⟨⟨⟨A',c',?_,?_⟩,?_,h.kp.trans hK,?_,fun y hy=>?_⟩,hK,?_⟩
 ·rw [hlen];exact h16
 ·rw [hlen,zM4,lN hk,List.flatMap_append];exact jP hw ((Fr.refl (fun k=>k=b) W5).setCell (p:=⟨b,0,none⟩) (.inl rfl) _) (fun k hk e=>by have:=(qF hw k hk).1;omega)
 ·exact h25.far (p:=⟨b,0,none⟩) (by show b+1≠b;omega) _
 ·refine Below.setCell (p:=⟨b,0,none⟩) ((zU h.bel hba).grown hg ?_ (fun k hk=>?_)) hwb _
  ·have:=(zU h.bel hba).size;exact this
  ·have:=(qF hwa k hk).1;omega
 ·rcases List.mem_append.1 hy with hy | hy
  ·exact h.good y hy
  ·rw [cQ.1 hy];exact hx
 ·refine((KeepsOthers.alloc _ _).trans (KeepsOthers.of_grownBy hg (fun j o hj hh=>?_))).trans (KeepsOthers.setCell _ _ _);obtain⟨_,cs,h3⟩:=qF hwa j hj;have h4:(W.alloc (.cells #[uB x.1,uI x.2.1,uI x.2.2.1] 44)).heap[j]?=_:=h3;rw [h4]at hh;injection hh with hh;subst hh;rfl
theorem PScan.skip {x:Yt} (h:PScan w U b t pre W) (hx:x.2.2.2=false) (hk:x.1=0):PScan w U b t (pre++[x]) W:=by
 have e:zY t (pre++[x])=zY t pre:=by rw [zM4,lM hk,cT]
 obtain⟨h1,h2,h3,h4,h5⟩:=h;refine⟨by rw [e];exact h1,h2,h3,h4,fun y hy=>?_⟩;rcases List.mem_append.1 hy with hy | hy
 ·exact h5 y hy
 ·rw [cQ.1 hy];exact hx
end
def PXs (id:Nat) (w U:World) (b:Nat) (t:List UInt8) (c:Code) (pre:List Yt) (W:World):Prop:=c=.exit id∧∃ pre' x,pre=pre'++[x]∧(∀ y∈pre',y.2.2.2=false)∧x.2.2.2=true∧Bk W (b+1) 3 #[uI x.2.1]∧Below w.heap.size w W
def kF3 (tm:Array Value) (p:Nat) (x:Yt):Array Value:=(((tm.setIfInBounds 14 (kW x.1 x.2.1 x.2.2.1)).setIfInBounds 15 (uI (qZ5 x.2.2.2:Int))).setIfInBounds 7 (uQ p 0)).setIfInBounds 8 (uI (qZ5 x.2.2.2:Int))
def AxT (tm:Array Value) (x:Yt) (a':Act) (W:World):Prop:=∃ p,a'=⟨kF3 tm p x,[]⟩∧Bk W p 44 #[uB x.1,uI x.2.1,uI x.2.2.1]
theorem jC1 {tm:Array Value} {assign body:Code} {g:Operand} {Q:Exit→Act→World→Prop} (id m b:Nat) (s:ByteArray) (w U:World) (L:List Yt) (hL:kG s.data.toList=L) (hs:s.size≤65536)
 (hg:(Act.mk tm []).eval g=.func (.func 80) #[] #[.pointer (some ⟨b+2,0,none⟩)]) (hm:3≤m) (hbU:b+2<U.heap.size) (hwU:w.heap.size≤U.heap.size)
 (htx:Bk U (b+2) 9 #[.string s]) (hU0:Bk U b 39 #[uN]) (h0:PScan w U b s.data.toList [] U)
 (hassign:∀ (l:Nat) (x:Yt) (W:World) (K:Act→World→Prop),K ⟨kF3 tm W.heap.size x,[]⟩ (W.alloc (.cells #[uB x.1,uI x.2.1,uI x.2.2.1] 44))→assign.wpIn (Fence.wide.inRound l) (m-1-1) prog (Exit.then K (fun _ _ _=>False)) { tmps:=(tm.setIfInBounds 14 (kW x.1 x.2.1 x.2.2.1)).setIfInBounds 15 (uI (qZ5 x.2.2.2:Int)),defers:=[] } W)
 (hbody:∀ (l:Nat) (pre:List Yt) (x:Yt) (p:Nat) (W:World),PScan w U b s.data.toList pre W→Bk W p 44 #[uB x.1,uI x.2.1,uI x.2.2.1]→pre.length<L.length →
   body.wpIn (Fence.wide.inRound l) (m-1-1) prog (ownPostG U.heap.size (KpT b) (PScan w U b s.data.toList) (PXs id w U b s.data.toList) (pre++[x]) W) ⟨kF3 tm p x,[]⟩ W)
 (hdone:∀ (D:Nat) (W:World),U.heap.size≤D→PScan w U b s.data.toList L W→W.heap[D]?=some (.deferred (some []))→Q .normal { tmps:=tm,defers:=[{ target:=.collected D,args:=#[] }] } W)
 (hstop:∀ (D:Nat) (pre:List Yt) (W:World),U.heap.size≤D→jN2 L pre→PXs id w U b s.data.toList (.exit id) pre W→W.heap[D]?=some (.deferred (some []))→(Code.exit id).wpIn Fence.wide m prog Q { tmps:=tm,defers:=[{ target:=.collected D,args:=#[] }] } W) :
 (Code.rangeFunc g #[14,15] assign body).wpIn Fence.wide m prog Q ⟨tm,[]⟩ U:=by
 have hrow:wE b U=none:=by unfold wE;rw [show U.cell? ⟨b,0,none⟩=some (uN) from hU0.cell 0];rfl
 refine wpIn_rangeFunc_ownH (α:=Yt) rfl Yo hg trivial (enters_of func80 Yk rfl)
  (jX9 (m-1) (b+2) b s U L hL hs Yo Yo (fun k e=>by rw [hrow]at e;cases e) (fun W hk=>by refine(World.cell?_of_block (a:=⟨b+2,0,none⟩) (hk.keep (b+2) _ _ _ htx Yo Yo (by rw [hrow];exact fun e=>by cases e))).trans (htx.cell 0))) (fun h k=>h.trans k)
  (fun W l o o' hl ho hc _=>KpT.putObj (cs:=#[]) (t:=0) W l o o' (.inr Yo) ho hc) (lB _ _) (fun _=>rfl)
  (PScan w U b s.data.toList) (PXs id w U b s.data.toList) (fun s W W' row h hg hr=>h.own hwU hg hr) (fun c' s W W' row h hg hr=>by
    obtain⟨h1,pre',x,h2,h3,h4,h5,h6⟩:=h;have nc:¬row=some (b+1):=fun e=>by obtain⟨_,o,ho,hc⟩:=hr _ e;have h7:W.heap[b+1]?=_:=h5;rw [h7]at ho;injection ho with ho;subst ho;cases hc
    exact⟨h1,pre',x,h2,h3,h4,h5.fr ((Fr.refl (fun k=>row=some k) W).grown hg (fun k hk=>.inl hk)) nc,h6.grown hg h6.size (fun k hk=>by have:=(hr k hk).1;omega)⟩) h0
  (AxT tm)
  (fun x a' u W W' row h hg hr=>by
    obtain⟨p,h1,h2⟩:=h;have nc:¬row=some p:=fun e=>by obtain⟨_,o,ho,hc⟩:=hr _ e;have h7:W.heap[p]?=_:=h2;rw [h7]at ho;injection ho with ho;subst ho;cases hc
    exact⟨p,h1,h2.fr ((Fr.refl (fun k=>row=some k) W).grown hg (fun k hk=>.inl hk)) nc⟩) ?_ ?_ ?_ ?_
 ·intro l pre x W K hi hK;have hb:Ue W (W.alloc (.cells #[uB x.1,uI x.2.1,uI x.2.2.1] 44)):=zG (lB _ _) _;have h9:=hassign l x W K (hK _ _ ((KeepsOthers.alloc _ _).from _) (KpT.below hb (by have:=hi.lt;omega)) (hi.below hb) ⟨_,rfl,Bk.new _ _ _⟩);have e:((#[14,15]:Array Tmp).zip (jN1 x)).foldl (fun t (q:Tmp×Value)=>t.setIfInBounds q.1 q.2) tm=(tm.setIfInBounds 14 (kW x.1 x.2.1 x.2.2.1)).setIfInBounds 15 (uI (qZ5 x.2.2.2:Int)):=by simp [jN1]
  rw [←e]at h9;exact h9
 ·rintro l pre x a' W _ _ hi ⟨p,rfl,hp⟩ hlt;exact hbody l pre x p W hi hp hlt
 ·intro D xs W hD hS hi hK;subst hS;exact hdone D W hD hi hK
 ·intro D c' pre W hD hY h hK;obtain⟨rfl,h2⟩:=h;exact hstop D pre W hD hY ⟨rfl,h2⟩ hK
def jN3 (w:World) (t:List UInt8) (e:Ending) (w':World):Prop :=
 Below w.heap.size w w'∧((∃ a,zI3 (kG t)=some a∧e=.returned (.tuple #[uN,uI a,uI 280])) ∨
  (zI3 (kG t)=none∧∃ A c,e=.returned (.tuple #[.slice A (zY t (kG t)).length c,uI t.length,uI 0])∧RdT w' A 44 ((zY t (kG t)).flatMap zQ1)))
theorem jN4 (s:ByteArray) (w:World) (hs:s.size≤65536):Calls prog 10 #[.string s] w (jN3 w s.data.toList):=by
 have e1:decide ((65536:Int)<(s.size:Int))=false:=Yp;have hi65:(s.size:Int)≤65536:=Yo;have HB0:Ud (Below w.heap.size w (((w.alloc (.cells #[uN] 39)).alloc (.cells #[uI (-1)] 3)).alloc (.cells #[.string s] 9))):=zG (zG (zG (lB _ _) _) _) _;have HK0:=Ph (((Bk.new w 39 #[uN]).alloc (.cells #[uI (-1)] 3)).alloc (.cells #[.string s] 9));have HK1:=Ph ((Bk.new (w.alloc (.cells #[uN] 39)) 3 #[uI (-1)]).alloc (.cells #[.string s] 9));have HK2:=Ph (Bk.new ((w.alloc (.cells #[uN] 39)).alloc (.cells #[uI (-1)] 3)) 9 #[.string s]);have HU3:Ud ((((w.alloc (.cells #[uN] 39)).alloc (.cells #[uI (-1)] 3)).alloc (.cells #[.string s] 9)).heap.size=w.heap.size+3):=by show _=_;simp
 refine(callsIn_wide (n:=6)).1 ?_;refine callsIn_of_wp_marks func10 rfl trivial ?_ rfl;simp only [ntmps10,List.size_toArray,Yc,Yn,Nat.reduceAdd,Nat.reduceSub,Array.replicate_succ,Array.replicate_zero,List.push_toArray,List.append_toArray,cF,lR];refine wpIn_wide.2 ?_;go_wp2_with fail
 go_step3
 go_wp2_with fail
 go_step3
 go_wp2_with fail
 refine(kM2 s _).mono ?_;rintro e w' ⟨rfl,rfl⟩;have hsz:((w.alloc (.cells #[uN] 39)).alloc (.cells #[uI (-1)] 3)).heap.size=w.heap.size+2:=Ym;have hsz1:(w.alloc (.cells #[uN] 39)).heap.size=w.heap.size+1:=Ym;rw [hsz]at HK2 ⊢;rw [hsz1]at HK1;clear hsz hsz1;generalize ((World.alloc _ _))=U at *;obtain⟨b,hb⟩:∃ b,w.heap.size=b:=⟨_,rfl⟩;have HBW:=Ph hb;rw [hb]at HK0 HK1 HK2 HU3 ⊢;clear hb;have hbU:b+2<U.heap.size:=by have:=HU3.o;omega
 have hbe:b+3=U.heap.size:=HU3.o.symm;obtain⟨L,hL⟩:∃ L,kG s.data.toList=L:=⟨_,rfl⟩;have HL:=Ph hL;have hLl:L.length≤s.size+2:=by
  have:∀ (t:List UInt8) (f a:Nat),(ylT t f a).length≤f:=by
   intro t f;induction f with
   | zero=>intro a;exact lF _
   | succ f ih =>
     intro a;rw [qP5,Yc];split
     ·simp
     ·have:=ih (kZ t a).2.2.1;omega
  rw [←hL];have h1:=this s.data.toList (s.data.toList.length+2) 0;rw [qK]at h1;exact h1
 clear hL;go_wp2_with fail
 refine(wpIn_wide (n:=6)).1 ?_;refine jC1 0 6 b s w U L HL.o hs rfl Yo hbU (by have:=HBW.o;omega) HK2.o HK0.o ?hI0 ?hassign ?hbody ?hdone ?hstop
 case hI0=>exact⟨⟨none,0,HK0.o,World.ownsRow_nil _ _ _ _⟩,HK1.o,KpT.refl _ _,HB0.o,fun _ h=>by cases h⟩
 case hassign =>
  intro l x W K hK;unfold kF3 at hK;simp only [List.setIfInBounds_toArray,List.set_cons_succ,List.set_cons_zero]at hK;go_frame;unfold kW at hK ⊢;gi_wp2
  exact hK
 case hbody =>
  intro l pre x p W hi hp hlt;obtain⟨k,pl,en,bd⟩:=x;obtain⟨x0,x1,x2⟩:=zJ hp;have HI:=Ph hi;have hbW:=hi.lt;obtain⟨A,c,hA,hown⟩:=hi.o;have y0:W.cell? ⟨b,0,none⟩=some (.slice A (zY s.data.toList pre).length c):=hA.cell 0;have yf:=hA.frozen 0;have z1:=hi.wrong.cell 0;have zf:=hi.wrong.frozen 0;have HA:=Ph hA;have HOWN:=Ph hown;clear hi hA hown hp;unfold kF3;simp only [List.setIfInBounds_toArray,List.set_cons_succ,List.set_cons_zero];(try dsimp only at x0 x1 x2 ⊢);dsimp only [kW];cases bd with
  | true =>
    have hw9:Bk (W.setCell ⟨b+1,0,none⟩ (uI pl)) (b+1) 3 #[uI pl]:=HI.o.wrong.put 0 _;have hb9:Below w.heap.size w (W.setCell ⟨b+1,0,none⟩ (uI pl)):=HI.o.bel.setCell (p:=⟨b+1,0,none⟩) (by have:=HBW.o;show w.heap.size≤b+1;omega) _;have HW9:=Ph hw9;have HB9:=Ph hb9;clear hw9 hb9;have ee:((qZ5 true:Nat):Int)=280:=rfl;rw [ee];gi_wp2
    refine⟨(KeepsOthers.setCell _ _ _).from _,rfl,pre,_,rfl,HI.o.good,rfl,HW9.o,HB9.o⟩
  | false =>
    have ee:((qZ5 false:Nat):Int)=0:=rfl;rw [ee];by_cases hk:k=0
    ·subst hk;gi_wp2
     exact⟨(KeepsOthers.refl _).from _,KpT.refl _ _,HI.o.skip rfl rfl⟩
    ·have ek:((k:Int) != 0)=true:=by simp;omega
     have hn9:(zY s.data.toList pre).length≤100000:=by
      have h1:(zY s.data.toList pre).length≤pre.length:=by unfold zY;rw [lW];exact List.length_filter_le _ _
      omega
     have hbW2:b+3≤W.heap.size:=by have:=HI.o.kp.size;omega
     have hwb9:w.heap.size≤b:=by have:=HBW.o;omega
     have HRD:=Ph (Rd.new W #[uB k,uI pl,uI en] 44);have HOA:=Ph (HOWN.o.alloc (.cells #[uB k,uI pl,uI en] 44));have HON:=Ph (yR HOA.o (HA.o.alloc (.cells #[uB k,uI pl,uI en] 44)) Yd);have HAA:=Ph (HA.o.alloc (.cells #[uB k,uI pl,uI en] 44));have hbb:b+3≤(W.alloc (.cells #[uB k,uI pl,uI en] 44)).heap.size:=Yp;have HBB:=Ph hbb;have HN9:=Ph (show(zY s.data.toList pre).length+1≤1000000000 by omega);clear hbb;gi_wp2_with (gi_at_builtin;refine qE6 kF2 rfl (.tmp 23) (.tmp 25) rfl (b+3) (.slice A (zY s.data.toList pre).length c) (zY s.data.toList pre).length ((zY s.data.toList pre).flatMap zQ1) rfl HOA.o (some ⟨W.heap.size,0,none⟩) 1 1 [uB k,uI pl,uI en] rfl HRD.o rfl (fun u hu=>by simp at hu;rcases hu with rfl | rfl | rfl <;> rfl) HN9.o HBB.o ?_;intro A2 c2 w5 hown1 hgr1 hat1;have Ho1:=Ph hown1;have Hg1:=Ph hgr1;have Ha1:=Ph hat1;have hq1:=HAA.o.grown hgr1 HON.o;have q0:=hq1.cell 0;have qf:=hq1.frozen 0;clear hown1 hgr1 hat1 hq1)
     obtain⟨p1,p2,p3⟩:=HI.o.push (x:=(k,pl,en,false)) hwb9 rfl hk HA.o HOWN.o Hg1.o Ho1.o Ha1.o;exact⟨p3.from _,p2,p1⟩
 case hdone =>
  intro D W hD hi hK;obtain⟨A,c,hA,hown⟩:=hi.o;have z1:=hi.wrong.cell 0;have y0:=hA.cell 0;have hgood:=hi.good;have HLL:=HL.o;have E:Ud (zI3 (kG s.data.toList)=none):=by
   show _=_;unfold zI3;rw [HLL];cases hf:L.find? (fun y=>y.2.2.2)with
   | none=>rfl
   | some y =>
     have h1:=List.find?_some hf;rw [hgood y (List.mem_of_find?_eq_some hf)]at h1;cases h1
  have HOWN:=Ph hown;have HB:=Ph hi.bel;have hDd:=hK;have hr:=RdT.of_own hown;have hf:=wP W D (.deferred none);have hk2:Keeps 44 W (W.putObj D (.deferred none)):=Keeps.fr hf (fun k cs fr hk e=>by subst e;rw [hk]at hDd;cases hDd);have HR:=Ph (hr.keeps hk2);have HBF:Ud (Below w.heap.size w (W.putObj D (.deferred none))):=HB.o.trans (hf.below w.heap.size HB.o.size (fun k hk e=>by have:=HB0.o.size;omega));have HDD:=Ph hDd;rw [←HLL]at y0 HR;clear hi hA hown hgood hr hf hk2 hDd;go_wp2_with fail
  rw [Exit.noGoto_ret];have hsl:=qK s;refine⟨Ym,.inl ⟨D,_,rfl,run_takeDeferred HDD.o,⟨.tuple #[.slice A (zY s.data.toList (kG s.data.toList)).length c,uI s.size,uI 0],by simp [results,results10,go_sem,HLL],HBF.o,.inr ⟨E.o,A,c,?_,HR.o⟩⟩⟩⟩;rw [hsl]
 case hstop =>
  intro D pre W hD hY hx hK;obtain⟨_,pre',x,h2,h3,h4,h5,h6⟩:=hx;obtain⟨r,hr⟩:=hY;have E:Ud (zI3 (kG s.data.toList)=some x.2.1):=by show _=_;unfold zI3;rw [HL.o,←hr,h2,lS,List.find?_append];have h0:pre'.find? (fun y=>y.2.2.2)=none:=List.find?_eq_none.2 (fun y hy=>by rw [h3 y hy];simp);rw [h0,lR,List.find?_cons_of_pos (by exact h4)];rfl
  have z1:=h5.cell 0;have HB:=Ph h6;have HBF:Ud (∀ n,Below w.heap.size w ((W.drewN n).putObj D (.deferred none))):=fun n=>(jA1 HB.o n).trans ((wP (W.drewN n) D (.deferred none)).below w.heap.size HB.o.size (fun k hk e=>by have:=HB0.o.size;omega));have hDd:∀ n,(W.drewN n).heap[D]?=some (.deferred (some [])):=fun _=>hK;have HDD:=Ph hDd;have e3:decide ((0:Int)≤(x.2.1:Int))=true:=Ym;clear h2 h3 h4 h5 h6 hDd hr;gi_wp2
  go_upto_region 13 with fail
  go_quiet (fail)
  go_wp2_with fail
  rw [Exit.noGoto_ret];refine⟨Ym,.inl ⟨D,_,rfl,run_takeDeferred (w:=W.drewN _) (HDD.o _),⟨.tuple #[uN,uI x.2.1,uI 280],by simp [results,results10,go_sem],HBF.o _,.inl ⟨_,E.o,rfl⟩⟩⟩⟩
end
section
open Go.RowKit Go.PlainAid
theorem zB {w:World} {o:Obj}:Below w.heap.size w (w.alloc o):=zG (lB _ _) _
def yO (x:Nd) (S Q:SV):Value:=.agg (jW9 x S Q).toArray
theorem kF4:El prog 29 31 6:=El.mk' (z:=.agg uZ) (bytes:=56) underlying29 Yk rfl Yo Yo
theorem jN5:El prog 45 3 1:=El.mk' (z:=uI 0) (bytes:=8) underlying45 Yk rfl Yo Yo
theorem qL {w:World} {g:Nat} {t:TypeId} {u0 u1 u2 u3 u4 u5 u6:Value} (h:Bk w g t #[u0,u1,u2,u3,u4,u5,u6]):w.cell? ⟨g,0,none⟩=some u0∧w.cell? ⟨g,1,none⟩=some u1∧w.cell? ⟨g,2,none⟩=some u2∧w.cell? ⟨g,3,none⟩=some u3∧w.cell? ⟨g,4,none⟩=some u4∧w.cell? ⟨g,5,none⟩=some u5∧w.cell? ⟨g,6,none⟩=some u6:=⟨h.cell 0,h.cell 1,h.cell 2,h.cell 3,h.cell 4,h.cell 5,h.cell 6⟩
theorem zZ {w:World} {g:Nat} {t:TypeId} {cs:Array Value} (h:Bk w g t cs):w.frozen? ⟨g,0,none⟩=false∧w.frozen? ⟨g,1,none⟩=false∧w.frozen? ⟨g,2,none⟩=false∧w.frozen? ⟨g,3,none⟩=false∧w.frozen? ⟨g,4,none⟩=false∧w.frozen? ⟨g,5,none⟩=false∧w.frozen? ⟨g,6,none⟩=false:=⟨h.frozen 0,h.frozen 1,h.frozen 2,h.frozen 3,h.frozen 4,h.frozen 5,h.frozen 6⟩
theorem kM3 (x:Nd) (S Q:SV) (w:World) (h:Ud (AtsAt w Q x.2)):Calls prog 124 #[yO x S Q] w fun e w'=>e=.returned (uI (yK x:Int))∧Below w.heap.size w w':=by
 obtain⟨ex,l⟩:=x;obtain⟨QA,Qn,Qc⟩:=Q;have hl:=h.o.len;(try dsimp only at hl);unfold yO jW9 qX;simp only [lR,cF];generalize Ex.kind ex=k0;generalize Ex.op ex=k1;generalize Ex.value ex=k2;generalize Ex.width ex=k3;generalize Ex.name ex=k4;cases l with
 | nil =>
   have e1:((Qn:Int) == 0)=true:=by simp at hl;simp;omega
   have E:Ud (yK (ex,[])=0):=rfl;go_enter func124,ntmps124
   go_wp2_with fail
   go_ret;exact⟨rfl,zB⟩
 | cons a r =>
   have e1:((Qn:Int) == 0)=false:=by simp at hl;simp;omega
   have hq0:0<Qn:=by simp at hl;omega
   have hq1:(0:Int)<(Qn:Int):=Yo;obtain⟨b,off,hA,hb,hc⟩:=h.o.rd.rd.cells (by simp [yV]);(try dsimp only at hA);subst hA;have c0:w.cell? ⟨b,off,none⟩=some (uI a):=hc 0 _ rfl;have E:Ud (yK (ex,a :: r)=a):=rfl;clear hc;go_enter func124,ntmps124
   go_wp2_with fail
   go_ret;exact⟨rfl,zB⟩
end
section
open Go.RowKit Go.PlainAid
abbrev NdV:=Nd×SV×SV
def qE7 (q:NdV):List Value:=jW9 q.1 q.2.1 q.2.2
theorem qV2 (q:NdV):(qE7 q).length=7:=rfl
structure NdsAt (B:Nat) (w:World) (A:Option Addr) (n:Nat) (L:List NdV):Prop where
 rd:Rd w A (L.flatMap qE7)
 len:L.length=n
 base:B≤w.heap.size
 all:∀ q∈L,NdAt B w q.1 q.2.1 q.2.2
theorem NdsAt.below {B:Nat} {w w':World} {A:Option Addr} {n:Nat} {L:List NdV} (h:NdsAt B w A n L) (hb:Below w.heap.size w w'):NdsAt B w' A n L:=⟨h.rd.below hb,h.len,lE h.base hb.size,fun q hq=>(h.all q hq).below hb⟩
def kL (at':Nat) (L:List NdV):List Nat:=at' :: L.flatMap fun q=>q.1.2
def qZ6 (L:List NdV):List Value:=L.flatMap fun q=>qX q.1.1 q.2.1
def jN6 (k o v:Nat) (wd:Int) (nm:List UInt8) (S R:Value):Array Value:=#[uB k,uB o,uW v,uI wd,uR nm,S,R]
def zN:Array Value:=#[uB 0,uB 0,uW 0,uI 0,uT,uN,uN]
structure WhB (w:World) (r b k o v:Nat) (wd:Int) (nm:List UInt8) (at':Nat) (L:List NdV) (W:World):Prop where
 res:Bk W r 168 zN
 o:∃ A1 c1 A2 c2,Bk W b 168 (jN6 k o v wd nm (.slice A1 L.length c1) (.slice A2 (kL at' L).length c2))∧W.ownsRow w.heap.size 31 6 (.slice A1 L.length c1) L.length (qZ6 L)∧W.ownsRow w.heap.size 3 1 (.slice A2 (kL at' L).length c2) (kL at' L).length (yV (kL at' L))
 bel:Below w.heap.size w W
theorem zR9 (a b:List Nat):yV (a++b)=yV a++yV b:=cB
theorem zS1 (at':Nat) (L:List NdV) (q:NdV):kL at' (L++[q])=kL at' L++q.1.2:=by unfold kL;simp
theorem jC2 (L:List NdV) (q:NdV):qZ6 (L++[q])=qZ6 L++qX q.1.1 q.2.1:=by unfold qZ6;simp
section
variable {w W W1 W5 W7:World} {r b k o v:Nat} {wd:Int} {nm:List UInt8} {at':Nat} {L:List NdV} {q:NdV} {A1 A2 A1' A2':Option Addr} {c1 c2 c1' c2':Nat}
theorem WhB.push1 (h:WhB w r b k o v wd nm at' L W) (hrb:r≠b) (hwb:w.heap.size≤b) (hW1:Below W.heap.size W W1)
 (h1:Bk W b 168 (jN6 k o v wd nm (.slice A1 L.length c1) (.slice A2 (kL at' L).length c2))) (h2:W.ownsRow w.heap.size 31 6 (.slice A1 L.length c1) L.length (qZ6 L)) (h3:W.ownsRow w.heap.size 3 1 (.slice A2 (kL at' L).length c2) (kL at' L).length (yV (kL at' L)))
 (hg:W1.grownBy W5 (Value.slice A1 L.length c1).ownBlock) (hw:W5.ownsRow w.heap.size 31 6 (.slice A1' (L.length+1) c1') (L.length+1) (qZ6 L++qX q.1.1 q.2.1)) :
 Bk W5 b 168 (jN6 k o v wd nm (.slice A1 L.length c1) (.slice A2 (kL at' L).length c2))∧Bk W5 r 168 zN∧W5.ownsRow w.heap.size 3 1 (.slice A2 (kL at' L).length c2) (kL at' L).length (yV (kL at' L))∧Below w.heap.size w W5∧(∀ g cs,Bk W1 g 168 cs→Bk W5 g 168 cs):=by
 have h2':W1.ownsRow w.heap.size 31 6 (.slice A1 L.length c1) L.length (qZ6 L):=jP (F:=fun _=>False) h2 (Fr.of_below hW1) (fun _ _ h=>h);have h3':W1.ownsRow w.heap.size 3 1 (.slice A2 (kL at' L).length c2) (kL at' L).length (yV (kL at' L)):=jP (F:=fun _=>False) h3 (Fr.of_below hW1) (fun _ _ h=>h);have hn:∀ g cs,Bk W1 g 168 cs→Bk W5 g 168 cs:=fun g cs hb=>hb.grown hg (yR h2' hb Yd);have hB:Ue w W5:=(zU h.bel hW1).grown hg ((zU h.bel hW1).size) (fun j hj=>(qF h2' j hj).1);refine⟨hn _ _ (zD h1 hW1),hn _ _ (zD h.res hW1),?_,hB,hn⟩;refine jP (F:=fun j=>(Value.slice A1 L.length c1).ownBlock=some j) h3' ((Fr.refl _ W1).grown hg (fun j hj=>.inl hj)) (fun j hj e=>?_);obtain⟨_,cs,hk⟩:=qF h3' j hj;exact yR h2' hk Yd e.symm
theorem WhB.push2 (hrb:r≠b) (hwb:w.heap.size≤b) (h1:Bk W5 b 168 (jN6 k o v wd nm (.slice A1 L.length c1) (.slice A2 (kL at' L).length c2))) (hr:Bk W5 r 168 zN) (h2:W5.ownsRow w.heap.size 31 6 (.slice A1' (L.length+1) c1') (L.length+1) (qZ6 L++qX q.1.1 q.2.1)) (h3:W5.ownsRow w.heap.size 3 1 (.slice A2 (kL at' L).length c2) (kL at' L).length (yV (kL at' L))) (hB:Below w.heap.size w W5) :
 Bk (W5.setCell ⟨b,5,none⟩ (.slice A1' (L.length+1) c1')) b 168 (jN6 k o v wd nm (.slice A1' (L.length+1) c1') (.slice A2 (kL at' L).length c2))∧(W5.setCell ⟨b,5,none⟩ (.slice A1' (L.length+1) c1')).ownsRow w.heap.size 3 1 (.slice A2 (kL at' L).length c2) (kL at' L).length (yV (kL at' L))∧(∀ Q l,AtsAt w Q l→Rd (W5.setCell ⟨b,5,none⟩ (.slice A1' (L.length+1) c1')) Q.A (yV l)) ∧
 ((W5.setCell ⟨b,5,none⟩ (.slice A1' (L.length+1) c1')).grownBy W7 (Value.slice A2 (kL at' L).length c2).ownBlock→W7.ownsRow w.heap.size 3 1 (.slice A2' ((kL at' L).length+q.1.2.length) c2') ((kL at' L).length+q.1.2.length) (yV (kL at' L)++yV q.1.2) →
   Bk W7 b 168 (jN6 k o v wd nm (.slice A1' (L.length+1) c1') (.slice A2 (kL at' L).length c2))∧WhB w r b k o v wd nm at' (L++[q]) (W7.setCell ⟨b,6,none⟩ (.slice A2' ((kL at' L).length+q.1.2.length) c2'))):=by
 have h6:=h1.put 5 (.slice A1' (L.length+1) c1');have hf6:Fr (fun j=>j=b) W5 (W5.setCell ⟨b,5,none⟩ (.slice A1' (L.length+1) c1')):=(Fr.refl (fun j=>j=b) W5).setCell (p:=⟨b,5,none⟩) (.inl rfl) _;have nb:∀ {e:TypeId} {size n:Nat} {V:Value} {xs:List Value},W5.ownsRow w.heap.size e size V n xs→e≠168→∀ j,V.ownBlock=some j→¬j=b:=fun ho he j hj e=>yR ho h1 he (by rw [hj,e]);have h26:=jP h2 hf6 (nb h2 Yd);have h36:=jP h3 hf6 (nb h3 Yd);have hr6:Bk (W5.setCell ⟨b,5,none⟩ (.slice A1' (L.length+1) c1')) r 168 zN:=hr.far (p:=⟨b,5,none⟩) hrb _;have hB6:Ue w (W5.setCell ⟨b,5,none⟩ (.slice A1' (L.length+1) c1')):=hB.setCell (p:=⟨b,5,none⟩) hwb _;refine⟨h6,h36,fun Q l ha=>(ha.rd.below hB6).rd,fun hg hw=>?_⟩;have h17:=Bk.grown h6 hg (yR h36 h6 Yd);have hr7:=hr6.grown hg (yR h36 hr6 Yd);have h27:W7.ownsRow w.heap.size 31 6 (.slice A1' (L.length+1) c1') (L.length+1) (qZ6 L++qX q.1.1 q.2.1):=by refine jP (F:=fun j=>(Value.slice A2 (kL at' L).length c2).ownBlock=some j) h26 ((Fr.refl _ _).grown hg (fun j hj=>.inl hj)) (fun j hj e=>?_);obtain⟨_,cs,hk⟩:=qF h26 j hj;exact yR h36 hk Yd e.symm
 have hB7:Ue w W7:=hB6.grown hg hB6.size (fun j hj=>(qF h36 j hj).1);have hf8:Fr (fun j=>j=b) W7 (W7.setCell ⟨b,6,none⟩ (.slice A2' ((kL at' L).length+q.1.2.length) c2')):=(Fr.refl (fun j=>j=b) W7).setCell (p:=⟨b,6,none⟩) (.inl rfl) _;have nb7:∀ {e:TypeId} {size n:Nat} {V:Value} {xs:List Value},W7.ownsRow w.heap.size e size V n xs→e≠168→∀ j,V.ownBlock=some j→¬j=b:=fun ho he j hj e=>yR ho h17 he (by rw [hj,e]);have hl1:(L++[q]).length=L.length+1:=Ym;have hl2:(kL at' (L++[q])).length=(kL at' L).length+q.1.2.length:=by rw [zS1,Ya]
 refine⟨h17,hr7.far (p:=⟨b,6,none⟩) hrb _,⟨A1',c1',A2',c2',?_,?_,?_⟩,hB7.setCell (p:=⟨b,6,none⟩) hwb _⟩
 ·rw [hl1,hl2];exact h17.put 6 _
 ·rw [hl1,jC2];exact jP h27 hf8 (nb7 h27 Yd)
 ·rw [hl2,zS1,zR9];exact jP hw hf8 (nb7 hw Yd)
end
theorem qP6 {w:World} {base:Nat} {e:TypeId} {size n c m:Nat} {A:Option Addr} {xs:List Value} (h:w.ownsRow base e size (.slice A n c) m xs) {b off:Nat} (hA:A=some ⟨b,off,none⟩):base≤b:=by subst hA;exact(qF h b rfl).1
theorem jN7 {W:World} {e:TypeId} {size B:Nat} {cs:Array Value} (hs:cs.size=size) (hB:B≤W.heap.size):(W.alloc (.cells cs e)).ownsRow B e size (.slice (some ⟨W.heap.size,0,none⟩) 1 1) 1 cs.toList:=by
 refine⟨by simp [hs],.inr ⟨W.heap.size,1,cs,rfl,hB,?_,?_⟩⟩
 ·exact heap_alloc_new W _
 ·exact⟨lF _,by unfold maxLen;omega,Yo,cJ (by simp [hs])⟩
theorem jN8 (L:List NdV) (k:Nat):(kL 0 (L.take k)).length≤(kL 0 L).length:=by
 unfold kL;rw [Yc,Yc];have:∀ (L:List NdV) (k:Nat),((L.take k).flatMap fun q=>q.1.2).length≤(L.flatMap fun q=>q.1.2).length:=by
  intro L;induction L with
  | nil=>intro k;simp
  | cons x L ih =>
    intro k;cases k with
    | zero=>simp
    | succ k =>
      rw [cR,lQ,lQ,Ya,Ya];have:=ih k;omega
 have:=this L k;omega
theorem jY1 (a a':Nat) (L:List NdV):(kL a L).length=(kL a' L).length:=rfl
theorem kR4 (k o v:Nat) (wd:Int) (nm:List UInt8) (at':Nat) (w:World) (cs:Array Value):WhB w (w.heap.size+1) (w.heap.size+1+1+1) k o v wd nm at' []
 ((((w.alloc (.cells cs 31)).alloc (.cells zN 168)).alloc (.cells #[uI at'] 3)).alloc (.cells (jN6 k o v wd nm (uN) (.slice (some ⟨w.heap.size+1+1,0,none⟩) 1 1)) 168)):=by
 have hB:Ue w (w.alloc (.cells cs 31)):=zG (lB _ _) _;have h1:=(Bk.new (w.alloc (.cells cs 31)) 168 zN).alloc (.cells #[uI at'] 3);have h2:=Bk.new (((w.alloc (.cells cs 31)).alloc (.cells zN 168)).alloc (.cells #[uI at'] 3)) 168 (jN6 k o v wd nm (uN) (.slice (some ⟨w.heap.size+1+1,0,none⟩) 1 1));have h3:=jN7 (W:=(w.alloc (.cells cs 31)).alloc (.cells zN 168)) (e:=3) (size:=1) (B:=w.heap.size) (cs:=#[uI at']) rfl Yp;simp only [lO]at h1 h2 h3;exact⟨h1.alloc _,⟨none,0,_,1,h2,World.ownsRow_nil _ _ _ _,h3.alloc _⟩,zG (zG (zG hB _) _) _⟩
section
variable {w w1:World} {g:Nat} {t:TypeId} {u0 u1 u2 u3 u4 u5 u6 v0 v1 v2 v3 v4 v5 v6:Value}
theorem fr7 (w:World) (g:Nat) (v0 v1 v2 v3 v4 v5 v6:Value):Fr (fun k=>k=g) w (((((((w.setCell ⟨g,0,none⟩ v0).setCell ⟨g,1,none⟩ v1).setCell ⟨g,2,none⟩ v2).setCell ⟨g,3,none⟩ v3).setCell ⟨g,4,none⟩ v4).setCell ⟨g,5,none⟩ v5).setCell ⟨g,6,none⟩ v6) :=
 (((((((Fr.refl (fun k=>k=g) w).setCell (p:=⟨g,0,none⟩) (.inl rfl) v0).setCell (p:=⟨g,1,none⟩) (.inl rfl) v1).setCell (p:=⟨g,2,none⟩) (.inl rfl) v2).setCell (p:=⟨g,3,none⟩) (.inl rfl) v3).setCell (p:=⟨g,4,none⟩) (.inl rfl) v4).setCell (p:=⟨g,5,none⟩) (.inl rfl) v5).setCell (p:=⟨g,6,none⟩) (.inl rfl) v6
theorem zZ9 (h:Bk w g t #[u0,u1,u2,u3,u4,u5,u6]):Bk (((((((w.setCell ⟨g,0,none⟩ v0).setCell ⟨g,1,none⟩ v1).setCell ⟨g,2,none⟩ v2).setCell ⟨g,3,none⟩ v3).setCell ⟨g,4,none⟩ v4).setCell ⟨g,5,none⟩ v5).setCell ⟨g,6,none⟩ v6) g t #[v0,v1,v2,v3,v4,v5,v6]:=by have h7:=((((((h.put 0 v0).put 1 v1).put 2 v2).put 3 v3).put 4 v4).put 5 v5).put 6 v6;simp only [List.setIfInBounds_toArray,List.set_cons_succ,List.set_cons_zero]at h7;exact h7
end
theorem qK8 {W:World} {n:Nat} (h:n≤W.heap.size) (b i:Nat) (v:Value):n≤(W.setCell ⟨b,i,none⟩ v).heap.size:=by simpa [World.setCell]using h
theorem zS2 (l:List Nat):∀ u∈yV l,u.oneCell'=true:=by intro u hu;unfold yV at hu;obtain⟨n,_,rfl⟩:=List.mem_map.1 hu;rfl
theorem jN9 (P:List NdV):((P.map fun q=>q.1.1).zip (P.map fun q=>q.2.1)).flatMap (fun p=>qX p.1 p.2)=qZ6 P:=by
 unfold qZ6;induction P with
 | nil=>rfl
 | cons x P ih=>rw [lY,lY,List.zip_cons_cons,lQ,lQ,ih]
theorem zS3 {B:Nat} (k o v:Nat) (wd:Int) (nm:List UInt8) (at':Nat) (A:Option Addr) (n c:Nat) (L:List NdV) (w:World) (h:Ud (NdsAt B w A n L)) (hn:n≤3) (hs:(kL 0 L).length≤100000000) (hat:at'≤1000000)
 (hk:k≤255) (ho:o≤255) (hv:v≤4294967295) (hw0:-9223372036854775808≤wd) (hw1:wd≤9223372036854775807) (hnm:nm.length≤1000000) :
 Calls prog 123 #[.agg #[uB k,uB o,uW v,uI wd,uR nm,uN],uI at',.slice A n c] w fun e w'=>∃ S R,e=.returned (yO (qI k o v wd nm at' (L.map (·.1))) S R)∧NdAt B w' (qI k o v wd nm at' (L.map (·.1))) S R∧Below w.heap.size w w':=by
 have hl:=h.o.len;have HW:=Ph (kR4 k o v wd nm at' w #[uB k,uB o,uW v,uI wd,uR nm,uN]);unfold zN jN6 at HW;go_enter func123,ntmps123
 go_upto_region 2 with fail
 generalize ((World.alloc _ _))=W0 at HW ⊢;obtain⟨r,hr⟩:∃ r,w.heap.size+1=r:=⟨_,rfl⟩;obtain⟨b,hb⟩:∃ b,w.heap.size+1+1+1=b:=⟨_,rfl⟩;rw [hb,hr]at HW;rw [hb];have hrb:r≠b:=Yo;have hwb:w.heap.size≤b:=Yo;have hwr:w.heap.size≤r:=Yo;rw [hr];clear hr hb;go_upto_region 3 with fail
 go_loopw [16] (fun v16 wr=>∃ (j:Nat) (P:List NdV),j≤n∧v16=uI j∧Ud (L.take j=P)∧Ud (WhB w r b k o v wd nm at' P wr)) (fun v16 _=>n-(intOf v16).toNat)
 case atStart=>exact⟨0,[],lV _,rfl,rfl,HW⟩
 case round =>
  obtain⟨j,P,hj,rfl,HP,HWB⟩:=hrel;clear HW;by_cases hlt:j<n
  ·have e1:decide ((j:Int)<(n:Int))=true:=by simp;omega
   have hji:(j:Int)<(n:Int):=Yo;have hrd:=h.o.rd.below HWB.o.bel;obtain⟨bb,off,q,hA,hx,hbb,hc⟩:=hrd.flat (f:=qE7) qV2 Yo (i:=j) Yo;obtain⟨⟨ex,l⟩,⟨SA,Sn,Sc⟩,⟨QA,Qn,Qc⟩⟩:=q;have hq:=h.o.all _ (cD hx);obtain rfl:l.length=Qn:=hq.a.len;have c0:wr.cell? ⟨bb,off+j*7,none⟩=some (uB ex.kind):=hc 0 _ Yo rfl;have c1:wr.cell? ⟨bb,off+j*7+1,none⟩=some (uB ex.op):=hc 1 _ Yo rfl;have c2:wr.cell? ⟨bb,off+j*7+2,none⟩=some (uW ex.value):=hc 2 _ Yo rfl;have c3:wr.cell? ⟨bb,off+j*7+3,none⟩=some (uI ex.width):=hc 3 _ Yo rfl;have c4:wr.cell? ⟨bb,off+j*7+4,none⟩=some (uR ex.name):=hc 4 _ Yo rfl;have c5:wr.cell? ⟨bb,off+j*7+5,none⟩=some (.slice SA Sn Sc):=hc 5 _ Yo rfl;have c6:wr.cell? ⟨bb,off+j*7+6,none⟩=some (.slice QA l.length Qc):=hc 6 _ Yo rfl;have HX:=Ph hx;have HQ:=Ph hq;have hsum:=jN8 L (j+1);rw [zI1 hx,HP.o]at hsum;have hsum2:(kL at' P).length+l.length≤1000000000:=by
    have h2:(kL 0 (P++[((ex,l),⟨SA,Sn,Sc⟩,⟨QA,l.length,Qc⟩)])).length=(kL at' P).length+l.length:=by rw [zS1,Ya];rfl
    omega
   have hPl:P.length=j:=by rw [←HP.o,cL];omega
   obtain⟨A1,k1,A2,k2,h1,h2,h3⟩:=HWB.o.o;obtain⟨x0,x1,x2,x3,x4,x5,x6⟩:=qL h1;have hbl:b<wr.heap.size:=h1.lt;have H1:=Ph h1;have H2:=Ph h2;have H3:=Ph h3;subst hA;have hW1:Below wr.heap.size wr ((wr.alloc (.cells #[uB ex.kind,uB ex.op,uW ex.value,uI ex.width,uR ex.name,.slice SA Sn Sc,.slice QA l.length Qc] 168)).alloc (.cells #[uB ex.kind,uB ex.op,uW ex.value,uI ex.width,uR ex.name,.slice SA Sn Sc] 31)):=zG (zG (lB _ _) _) _;have HW1:=Ph hW1;have HBX:=Ph ((Bk.new wr 168 #[uB ex.kind,uB ex.op,uW ex.value,uI ex.width,uR ex.name,.slice SA Sn Sc,.slice QA l.length Qc]).alloc (.cells #[uB ex.kind,uB ex.op,uW ex.value,uI ex.width,uR ex.name,.slice SA Sn Sc] 31));have HO1:=Ph (jP (F:=fun _=>False) h2 (Fr.of_below hW1) (fun _ _ h=>h));have hRD:=Rd.new (wr.alloc (.cells #[uB ex.kind,uB ex.op,uW ex.value,uI ex.width,uR ex.name,.slice SA Sn Sc,.slice QA l.length Qc] 168)) #[uB ex.kind,uB ex.op,uW ex.value,uI ex.width,uR ex.name,.slice SA Sn Sc] 31;rw [lO]at hRD;have HRD:=Ph hRD;have HN9:=Ph (show P.length+1≤1000000000 by omega);have HBB:=Ph (lE HWB.o.bel.size hW1.size);have HONE:=Ph (qE2 ex ⟨SA,Sn,Sc⟩);have HHQ:=Ph hsum2;clear h1 h2 h3 hW1 hRD hsum hsum2 hq hx hc hrd x0 x1 x2 x3 x4 hPl
   go_wp2_with (first
    | (at_builtin;refine zL9 kF4 rfl (.tmp 22) (.tmp 25) rfl w.heap.size (.slice A1 P.length k1) P.length (qZ6 P) rfl HO1.o (some ⟨wr.heap.size+1,0,none⟩) 1 1 [.int .u8 ex.kind,.int .u8 ex.op,.int .u32 ex.value,.int .i64 ex.width,.string (str ex.name),.slice SA Sn Sc] rfl HRD.o rfl HONE.o HN9.o HBB.o ?_;intro A1' k1' w5 hown hgr hat1;have tok1:True:=trivial;obtain⟨p1,p2,p3,p4,p5⟩:=HWB.o.push1 (q:=((ex,l),⟨SA,Sn,Sc⟩,⟨QA,l.length,Qc⟩)) hrb hwb HW1.o H1.o H2.o H3.o hgr hown;have z5:w5.cell? ⟨b,5,none⟩=some (.slice A1 P.length k1):=p1.cell 5;have z6:w5.cell? ⟨b,6,none⟩=some (.slice A2 (kL at' P).length k2):=p1.cell 6;have f5:=p1.frozen 5;have y6:w5.cell? ⟨wr.heap.size,6,none⟩=some (.slice QA l.length Qc):=(p5 _ _ HBX.o).cell 6;have hbl5:b<w5.heap.size:=p1.lt;have hne:b≠wr.heap.size:=Nat.ne_of_lt hbl;have hne':wr.heap.size≠b:=(Nat.ne_of_lt hbl).symm;have HP2:=Ph (WhB.push2 (W7:=w5) (q:=((ex,l),⟨SA,Sn,Sc⟩,⟨QA,l.length,Qc⟩)) (A1':=A1') (c1':=k1') (A2':=none) (c2':=0) hrb hwb p1 p2 hown p3 p4);have HPP:=Ph (fun w7 a2 d2=>WhB.push2 (W7:=w7) (q:=((ex,l),⟨SA,Sn,Sc⟩,⟨QA,l.length,Qc⟩)) (A1':=A1') (c1':=k1') (A2':=a2) (c2':=d2) hrb hwb p1 p2 hown p3 p4);have HB6:=Ph (qK8 p4.size b 5 (.slice A1' (P.length+1) k1'));clear hown hgr hat1 p1 p2 p3 p4 p5)
    | (at_builtin;have _t:=tok1;obtain⟨g1,g2,g3,_⟩:=HP2.o;have HG1:=Ph g1;have HG2:=Ph g2;have HG3:=Ph (g3 _ _ HQ.o.a);refine zL9 jN5 rfl (.tmp 30) (.tmp 32) rfl w.heap.size (.slice A2 (kL at' P).length k2) (kL at' P).length (yV (kL at' P)) rfl HG2.o QA l.length Qc (yV l) rfl HG3.o (by rw [Nat.mul_one];unfold yV;rw [lW]) (zS2 l) HHQ.o HB6.o ?_;intro A2' k2' w7 hown hgr hat2;have h9:=(HPP.o w7 A2' k2').2.2.2 hgr hown;have v6:w7.cell? ⟨b,6,none⟩=some (.slice A2 (kL at' P).length k2):=h9.1.cell 6;have vf:=h9.1.frozen 6;have HFIN:=Ph h9.2;clear hown hgr hat2 g1 g2 g3 tok1 h9))
   go_roundw
   case rel=>exact⟨j+1,P++[((ex,l),⟨SA,Sn,Sc⟩,⟨QA,l.length,Qc⟩)],Yo,by go_num,(zI1 HX.o).trans (by rw [HP.o]),HFIN⟩
   case measure=>simp [intOf];omega
  ·obtain rfl:j=n:=by omega
   have e1:decide ((j:Int)<(j:Int))=false:=Ym;obtain rfl:L=P:=by rw [←HP.o];exact(cJ Yo).symm
   obtain⟨A1,k1,A2,k2,h1,h2,h3⟩:=HWB.o.o;obtain⟨x0,x1,x2,x3,x4,x5,x6⟩:=qL h1;have hrr:=HWB.o.res;unfold zN at hrr;obtain⟨y0,y1,y2,y3,y4,y5,y6⟩:=qL hrr;obtain⟨f0,f1,f2,f3,f4,f5,f6⟩:=zZ hrr;have H2:=Ph h2;have H3:=Ph h3;have HRR:=Ph hrr;have hb':b≠r:=cX hrb;clear h1 h2 h3 hrr;have HK:=Ph (zZ9 (v0:=uB k) (v1:=uB o) (v2:=uW v) (v3:=uI wd) (v4:=uR nm) (v5:=.slice A1 j k1) (v6:=.slice A2 (kL at' L).length k2) HRR.o);have HF:=Ph (fr7 wr r (uB k) (uB o) (uW v) (uI wd) (uR nm) (.slice A1 j k1) (.slice A2 (kL at' L).length k2));have HLJ:=Ph hl;go_wp2_with fail
   generalize (World.setCell _ _ _)=WF at HK HF ⊢;obtain⟨r0,r1,r2,r3,r4,r5,r6⟩:=qL HK.o;refine lK (v:=.agg #[uB k,uB o,uW v,uI wd,uR nm,.slice A1 j k1,.slice A2 (kL at' L).length k2]) (by simp [results,results123,go_sem,r0,r1,r2,r3,r4,r5,r6]) rfl ?_;have nb:∀ {e:TypeId} {size n:Nat} {V:Value} {xs:List Value},wr.ownsRow w.heap.size e size V n xs→e≠168→∀ i,V.ownBlock=some i→¬i=r:=fun ho he i hi e=>yR ho HWB.o.res he (by rw [hi,e]);have o2:=jP H2.o HF.o (nb H2.o Yd);have o3:=jP H3.o HF.o (nb H3.o Yd);have hB:Below w.heap.size w WF:=HWB.o.bel.trans (HF.o.below w.heap.size HWB.o.bel.size (fun i hi e=>Yo));have hsub:(qI k o v wd nm at' (L.map (·.1))).1.subs=L.map fun q=>q.1.1:=by show((L.map (·.1)).map (·.1))=_;rw [List.map_map];rfl
   have hats:(qI k o v wd nm at' (L.map (·.1))).2=kL at' L:=by show at' :: (L.map (·.1)).flatMap (·.2)=_;unfold kL;rw [List.flatMap_map]
   refine⟨⟨A1,j,k1⟩,⟨A2,(kL at' L).length,k2⟩,rfl,⟨.mk _ _ (L.map fun q=>q.2.1) ⟨hk,ho,hv,hw0,hw1,hnm,?_⟩ ?_ ?_ (fun b off e=>lE h.o.base (qP6 o2 e)) ?_ ?_,⟨?_,?_,?_,?_⟩,lE h.o.base hB.size⟩,hB⟩
   ·rw [hsub,lW];omega
   ·rw [hsub,lW,lW]
   ·rw [hsub,lW];exact hl.symm
   ·rw [hsub,jN9];exact RdT.of_own (hl▸o2)
   ·intro i y vv hy hvv;rw [hsub,cS]at hy;rw [cS]at hvv;cases hq:L[i]? with
    | none=>rw [hq]at hy;cases hy
    | some q =>
      rw [hq]at hy hvv;injection hy with hy;injection hvv with hvv;subst hy hvv;exact((h.o.all q (cD hq)).below hB).t
   ·rw [hats];exact RdT.of_own o3
   ·rw [hats]
   ·rw [hats];intro m hm;unfold kL at hm;rcases lU.1 hm with rfl | hm
    ·exact hat
    ·obtain⟨q,hq,hmq⟩:=List.mem_flatMap.1 hm;exact(h.o.all q hq).a.all m hmq
   ·show(kL at' L).length≤_;rw [jY1 at' 0];exact hs
end
section
open Go.RowKit Go.PlainAid
def kR:Array Value:=#[uT,uI 0,.bool false,.nilFunc,.string ⟨#[126]⟩,uI 0,.bool false,uF 164,.string ⟨#[45]⟩,uI 0,.bool false,uF 165,.string ⟨#[43]⟩,uI 5,.bool false,uF 166,.string ⟨#[45]⟩,uI 5,.bool false,uF 167,.string ⟨#[42]⟩,uI 6,.bool false,uF 168,.string ⟨#[47]⟩,uI 6,.bool false,uF 169,.string ⟨#[37]⟩,uI 6,.bool false,uF 170,.string ⟨#[38]⟩,uI 2,.bool false,uF 171,.string ⟨#[124]⟩,uI 1,.bool false,uF 172,.string ⟨#[94]⟩,uI 1,.bool false,uF 173,.string ⟨#[60,60]⟩,uI 4,.bool false,uF 174,.string ⟨#[62,62]⟩,uI 4,.bool false,uF 175,.string ⟨#[61,61]⟩,uI 3,.bool true,uF 176,.string ⟨#[33,61]⟩,uI 3,.bool true,uF 178,.string ⟨#[60]⟩,uI 3,.bool true,uF 179,.string ⟨#[60,61]⟩,uI 3,.bool true,uF 180]
theorem jT1 (w:World):Calls prog 157 #[] w fun e w'=>e=.returned (.agg kR)∧w'=w.alloc (.cells kR 219):=by
 go_enter func157,ntmps157
 go_wp2_with (refine wpList_store_row rfl 219 (.tmp 0) (.tmp 18) rfl w.heap.size kR rfl rfl 219 Tryz.zeroCells219 (heap_alloc_last _ _) Yk Yk Yk ?_)
 rw [World.setRow_alloc_new];refine lK (results_cell_row results157 _ _ w.heap.size 219 kR (0,0) _ rfl (heap_alloc_last _ _) underlying219 rfl Yk) rfl ?_;exact⟨rfl,rfl⟩
theorem jO1:∀ k,k≤16→kR[k*4]?=some (.string (str (kK k))):=by intro k hk;rcases(by omega:k=0∨k=1∨k=2∨k=3∨k=4∨k=5∨k=6∨k=7∨k=8∨k=9∨k=10∨k=11∨k=12∨k=13∨k=14∨k=15∨k=16)with rfl | rfl | rfl | rfl | rfl | rfl | rfl | rfl | rfl | rfl | rfl | rfl | rfl | rfl | rfl | rfl | rfl <;> rfl
theorem qE8 (k:Nat) (hk:k≤16) (w:World):Calls prog 155 #[uB k] w fun e w'=>e=.returned (.string (str (kK k)))∧Below w.heap.size w w':=by
 have e1:decide ((17:Int)≤(k:Int))=false:=Yp;have hk17:(k:Int)<17:=Yo;have wk:IntKind.i64.wrap (k:Int)=(k:Int):=by rw [lL];omega
 go_enter func155,ntmps155
 go_wp2_with fail
 refine(jT1 w).mono ?_;rintro e w' ⟨rfl,rfl⟩;have HB:Ud (∀ o,Ue w ((w.alloc (.cells kR 219)).alloc o)):=fun o=>zG (zG (lB _ _) _) o;generalize w.alloc (.cells kR 219)=w1 at HB ⊢;have c0:(w1.alloc (.cells kR 219)).cell? ⟨w1.heap.size,k*4,none⟩=some (.string (str (kK k))):=by rw [(Bk.new w1 219 kR).cell];exact jO1 k hk
 go_wp2_with (refine wpList_store_row rfl 219 (.tmp 3) (.tmp 4) rfl w1.heap.size kR rfl rfl 219 Tryz.zeroCells219 (heap_alloc_last _ _) Yk Yk Yk ?_;rw [World.setRow_alloc_new])
 go_ret;exact⟨rfl,HB.o _⟩
end
section
open Go.RowKit Go.PlainAid
def kF5 (k:Nat):Array Value:=((kR.toList.drop (k*4)).take 4).toArray
theorem jC3:∀ k:Nat,k≤16→∀ w,(Instr.index 219 (.agg kR) (uB k)).run prog w=.ok (.agg (kF5 k)) w:=by intro k hk;rcases(by omega:k=0∨k=1∨k=2∨k=3∨k=4∨k=5∨k=6∨k=7∨k=8∨k=9∨k=10∨k=11∨k=12∨k=13∨k=14∨k=15∨k=16)with rfl | rfl | rfl | rfl | rfl | rfl | rfl | rfl | rfl | rfl | rfl | rfl | rfl | rfl | rfl | rfl | rfl <;> exact fun w=>Yk
theorem jC4:∀ k:Nat,k≤16→∀ w,(Instr.field 218 (.agg (kF5 k)) 1).run prog w=.ok (uI (kD k:Int)) w:=by intro k hk;rcases(by omega:k=0∨k=1∨k=2∨k=3∨k=4∨k=5∨k=6∨k=7∨k=8∨k=9∨k=10∨k=11∨k=12∨k=13∨k=14∨k=15∨k=16)with rfl | rfl | rfl | rfl | rfl | rfl | rfl | rfl | rfl | rfl | rfl | rfl | rfl | rfl | rfl | rfl | rfl <;> exact fun w=>Yk
theorem jO2:∀ k,1≤k→k≤16→kK k≠[]:=by intro k h1 hk;rcases(by omega:k=1∨k=2∨k=3∨k=4∨k=5∨k=6∨k=7∨k=8∨k=9∨k=10∨k=11∨k=12∨k=13∨k=14∨k=15∨k=16)with rfl | rfl | rfl | rfl | rfl | rfl | rfl | rfl | rfl | rfl | rfl | rfl | rfl | rfl | rfl | rfl <;> decide
theorem jO3 (k:Nat):kD k≤6:=by unfold kD;split <;> omega
theorem kF6 (k:Nat) (hk:k≤16) (w:World):Calls prog 145 #[uB k] w fun e w'=>e=.returned (uI (kD k:Int))∧Below w.heap.size w w':=by
 by_cases h0:k=0
 ·subst h0;have e1:(str (kK 0)).toList.isEmpty=true:=by rw [qB,qE];rfl
  have e2:((str (kK 0)).toList == [])=true:=by rw [qB,qE];rfl
  go_enter func145,ntmps145
  go_wp2_with fail
  refine(qE8 0 Yo w).mono ?_;rintro e w1 ⟨rfl,hb⟩;have HB:=Ph hb;clear hb;go_wp2_with fail
  go_ret;exact⟨rfl,HB.o⟩
 ·have hne:=jO2 k Yo hk;have e1:(str (kK k)).toList.isEmpty=false:=by rw [qB,qE];simpa using hne
  have e2:((str (kK k)).toList == [])=false:=by rw [qB,qE];simpa using hne
  have hI:=jC3 k hk;have hF:=jC4 k hk;go_enter func145,ntmps145
  go_wp2_with fail
  refine(qE8 k hk w).mono ?_;rintro e w1 ⟨rfl,hb⟩;have HB:=Ph hb;clear hb;go_wp2_with fail
  refine(jT1 w1).mono ?_;rintro e w' ⟨rfl,rfl⟩;have HB2:Ud (Ue w (w1.alloc (.cells kR 219))):=zG HB.o _;generalize w1.alloc (.cells kR 219)=w2 at HB2 ⊢;go_wp2_with fail
  go_ret;exact⟨rfl,HB2.o⟩
theorem kQ2 (k:Nat) (hk:k≤16) (w:World):Calls prog 156 #[uB k] w fun e w'=>e=.returned (.bool (decide (0<kD k)))∧Below w.heap.size w w':=by
 have hd:decide ((0:Int)<(kD k:Int))=decide (0<kD k):=Ym;go_enter func156,ntmps156
 go_wp2_with fail
 refine(kF6 k hk w).mono ?_;rintro e w1 ⟨rfl,hb⟩;have HB:=Ph hb;clear hb;go_wp2_with fail
 go_ret;exact⟨rfl,HB.o⟩
def jC5 (q:Option Nat):Value:=match q with
 | some o=>.tuple #[uB o,.bool true]
 | none=>.tuple #[uB 0,.bool false]
theorem zX6 (t:List UInt8) (two:Bool) (f o:Nat):qD8 t two (f+1) o=if isO t two o then some o else qD8 t two f (o+1):=rfl
theorem qV3 (t:List UInt8) (two:Bool) (w:World):Calls prog 144 #[uR t,.bool two] w fun e w'=>e=.returned (jC5 (jY t two))∧Below w.heap.size w w':=by
 go_enter func144,ntmps144
 go_wp2_with fail
 go_loopw [6] (fun v6 wr=>∃ k:Nat,v6=uB k∧1≤k∧k≤17∧Ud (qD8 t two (17-k) k=jY t two)∧Ud (Below w.heap.size w wr)) (fun v6 _=>17-(intOf v6).toNat)
 case atStart=>exact⟨1,rfl,Yo,Yo,rfl,lB _ _⟩
 case round =>
  obtain⟨k,rfl,h1,h17,HK,HB⟩:=hrel;by_cases hk:k≤16
  ·have e1:decide ((k:Int)≤16)=true:=by simp;omega
   have hki:(k:Int)≤16:=Yo;have wk:IntKind.u8.wrap ((k:Int)+1)=((k+1:Nat):Int):=by rw [IntKind.wrap_u8];omega
   have hK:=HK.o;rw [show 17-k=(16-k)+1 by omega,zX6]at hK;have hO:isO t two k=(decide (kK k=t) && (decide (0<kD k) == two)):=rfl;have hbq:=zR3 (kK k) t;by_cases hn:kK k=t
   ·have e2:((str (kK k)).toList == (str t).toList)=true:=by rw [hbq,lH hn]
    cases hr:(decide (0<kD k) == two)with
    | true =>
      rw [hO,hr,lH hn]at hK;have E:Ud (some k=jY t two):=hK;have HT:Ud (∀ w,Calls prog 156 #[uB k] w fun e w'=>e=.returned (.bool two)∧Below w.heap.size w w'):=fun w=>by have h2:=kQ2 k hk w;rw [show decide (0<kD k)=two by simpa using hr]at h2;exact h2
      clear hK hO hbq hn hr HK;go_wp2_with fail
      refine(qE8 k hk _).mono ?_;rintro e w1 ⟨rfl,hb⟩;have HB1:=Ph (zU HB.o hb);clear hb;go_wp2_with fail
      refine(HT.o _).mono ?_;rintro e w2 ⟨rfl,hb⟩;have HB2:=Ph (zU HB1.o hb);clear hb;have e3:(two == two)=true:=Ym;go_wp2_with fail
      go_ret2
      rw [←E.o];exact⟨rfl,HB2.o⟩
    | false =>
      rw [hO,hr,Bool.and_false]at hK;have E:Ud (qD8 t two (17-(k+1)) (k+1)=jY t two):=by rw [show 17-(k+1)=16-k by omega];exact hK
      obtain⟨tw,htw⟩:∃ tw,decide (0<kD k)=tw:=⟨_,rfl⟩;have HT:Ud (∀ w,Calls prog 156 #[uB k] w fun e w'=>e=.returned (.bool tw)∧Below w.heap.size w w'):=fun w=>htw▸kQ2 k hk w;have e3:(tw == two)=false:=by rw [←htw];exact hr
      clear hK hO hbq hn hr HK htw;go_wp2_with fail
      refine(qE8 k hk _).mono ?_;rintro e w1 ⟨rfl,hb⟩;have HB1:=Ph (zU HB.o hb);clear hb;go_wp2_with fail
      refine(HT.o _).mono ?_;rintro e w2 ⟨rfl,hb⟩;have HB2:=Ph (zU HB1.o hb);clear hb;go_wp2_with fail
      go_roundw
      case rel=>exact⟨k+1,by go_num,Yo,Yo,E,HB2⟩
      case measure=>simp [intOf];omega
   ·have e2:((str (kK k)).toList == (str t).toList)=false:=by rw [hbq,lG hn]
    rw [hO,lG hn,Bool.false_and]at hK;have E:Ud (qD8 t two (17-(k+1)) (k+1)=jY t two):=by rw [show 17-(k+1)=16-k by omega];exact hK
    clear hK hO hbq hn HK;go_wp2_with fail
    refine(qE8 k hk _).mono ?_;rintro e w1 ⟨rfl,hb⟩;have HB1:=Ph (zU HB.o hb);clear hb;go_wp2_with fail
    go_roundw
    case rel=>exact⟨k+1,by go_num,Yo,Yo,E,HB1⟩
    case measure=>simp [intOf];omega
  ·have e1:decide ((k:Int)≤16)=false:=by simp;omega
   obtain rfl:k=17:=Yo;have E:Ud (none=jY t two):=HK.o;go_wp2_with fail
   go_ret2
   rw [←E.o];exact⟨rfl,HB.o⟩
end
section
open Go.RowKit Go.PlainAid
def vG (w:World) (p:Nat) (E:Env) (T:TV) (Q:SV) (x:Nd) (s:PSt) (e:Ending) (w':World):Prop:=∃ S R,e=.returned (yO x S R)∧NdAt T.base w' x S R∧PP w p E T Q s w'
structure Sp (p:Nat) (E:Env) (T:TV) (Q:SV) (f:Nat):Prop where
 choice:∀ s x s' w,zM E f s=some (x,s')→Ud (Ps w p E T Q s)→Calls prog 95 #[uQ p 0] w (vG w p E T Q x s')
 chain:∀ (r:Nat) s x s' w,r≤7→qN E f r s=some (x,s')→Ud (Ps w p E T Q s)→Calls prog 121 #[uQ p 0,uI r] w (vG w p E T Q x s')
 operand:∀ s x s' w,zR E f s=some (x,s')→Ud (Ps w p E T Q s)→Calls prog 143 #[uQ p 0] w (vG w p E T Q x s')
 basis:∀ s x s' w,qJ E f s=some (x,s')→Ud (Ps w p E T Q s)→Calls prog 154 #[uQ p 0] w (vG w p E T Q x s')
 within:∀ s a b x s' w,zX E f s a b=some (x,s')→Ud (Ps w p E T Q s)→Calls prog 163 #[uQ p 0,uR a,uR b] w (vG w p E T Q x s')
def ndC (x:Nd) (S R:SV):Array Value:=#[uB x.1.kind,uB x.1.op,uW x.1.value,uI x.1.width,uR x.1.name,.slice S.A S.n S.c,.slice R.A R.n R.c]
theorem zS (x:Nd) (S R:SV):yO x S R=.agg #[uB x.1.kind,uB x.1.op,uW x.1.value,uI x.1.width,uR x.1.name,.slice S.A S.n S.c,.slice R.A R.n R.c]:=rfl
theorem PP.bk {w w':World} {p:Nat} {E:Env} {T:TV} {Q:SV} {s:PSt} {g:Nat} {t:TypeId} {cs:Array Value} (h:PP w p E T Q s w') (hb:Bk w g t cs) (hg:g≠p):Bk w' g t cs:=hb.fr h.fr hg
theorem PP.nd {w w':World} {p:Nat} {E:Env} {T:TV} {Q:SV} {s s0:PSt} (h:PP w p E T Q s w') (h0:Ps w p E T Q s0) {B:Nat} {x:Nd} {S R:SV} (hx:NdAt B w x S R):NdAt B w' x S R:=h0.nd h.fr hx
theorem PP.fin {w w4 WF:World} {p r:Nat} {E:Env} {T:TV} {Q:SV} {s s0:PSt} {cs:Array Value} (h:PP w p E T Q s w4) (h0:Ps w p E T Q s0) (hr:Bk w4 r 168 cs) (hrp:r≠p) (hwr:w.heap.size≤r) (hf:Fr (fun k=>k=r) w4 WF):PP w p E T Q s WF:=by obtain⟨l0,l1⟩:=h0.vr.lt;exact⟨⟨h.ps.bk.fr hf (cX hrp),h.ps.rd.keeps (Keeps.box hf hr Yd),h.ps.ok,h.ps.n,h.ps.vr.fr hf Yo Yo,h.ps.g0,h.ps.g1,lE h.ps.base hf.size⟩,h.fr.then hf (fun i hi e=>Yo)⟩
theorem NdAt.box {B:Nat} {w w':World} {r:Nat} {cs:Array Value} {x:Nd} {S R:SV} (h:NdAt B w x S R) (hr:Bk w r 168 cs) (hf:Fr (fun k=>k=r) w w'):NdAt B w' x S R:=h.keeps hf.size (Keeps.box hf hr Yd) (Keeps.box hf hr Yd)
theorem xZ {w w4 WF:World} {p r:Nat} {E:Env} {T:TV} {Q:SV} {s s0:PSt} {cs:Array Value} {x:Nd} {S R:SV} (h:PP w p E T Q s w4) (h0:Ps w p E T Q s0) (hr:Bk w4 r 168 cs) (hrp:r≠p) (hwr:w.heap.size≤r) (hf:Fr (fun k=>k=r) w4 WF) (hn:NdAt T.base w4 x S R):vG w p E T Q x s (.returned (yO x S R)) WF:=⟨S,R,rfl,hn.box hr hf,h.fin h0 hr hrp hwr hf⟩
section
variable {p:Nat} {E:Env} {T:TV} {Q:SV}
theorem qK9 {f:Nat} {s s':PSt} {a b:List UInt8} {x:Nd} (h:zX E (f+1) s a b=some (x,s')):okP s=true∧∃ s2,zM E f (kV E s a)=some (x,s2)∧okP s2=true∧s'=wN E s2 b:=by
 unfold zX at h;cases h1:okP s with
 | false=>rw [h1]at h;cases h
 | true =>
   rw [h1]at h;(try dsimp only at h);cases h2:zM E f (kV E s a)with
   | none=>rw [h2]at h;cases h
   | some q =>
     obtain⟨y,s2⟩:=q;rw [h2]at h;(try dsimp only at h);cases h3:okP s2 with
     | false=>rw [h3]at h;cases h
     | true =>
       rw [h3]at h;(try dsimp only at h);injection h with h;injection h with h4 h5;subst h4 h5;exact⟨rfl,s2,rfl,h3,rfl⟩
theorem qL1 {f:Nat} (IH:Sp p E T Q f) (s:PSt) (a b:List UInt8) (x:Nd) (s':PSt) (w:World) (hx:zX E (f+1) s a b=some (x,s')) (h:Ud (Ps w p E T Q s)) :
 Calls prog 163 #[uQ p 0,uR a,uR b] w (vG w p E T Q x s'):=by
 obtain⟨ok1,s2,hc,ok2,rfl⟩:=qK9 hx;have HC:=Ph hc;have HIH:=Ph IH;have hpl:p<w.heap.size:=h.o.lt;have HB0:Ud (Ue w (w.alloc (.cells #[uB 0,uB 0,uW 0,uI 0,uT,uN,uN] 168))):=zB;have HX0:=Ph (Bk.new w 168 #[uB 0,uB 0,uW 0,uI 0,uT,uN,uN]);clear hx hc IH;go_enter func163,ntmps163
 go_upto_region 1 with fail
 generalize (w.alloc _)=W at HB0 HX0 ⊢;obtain⟨r,hr⟩:∃ r,w.heap.size=r:=⟨_,rfl⟩;rw [hr]at HX0 ⊢;have hrp:r≠p:=Yo;have hwr:w.heap.size≤r:=Yo;clear hr hpl;have HP0:=Ph (h.o.below HB0.o);go_wp2_with fail
 refine(jX7 p E T Q s a W HP0 ok1).mono ?_;rintro e w1 ⟨⟨v,rfl⟩,hp⟩;have HX1:=Ph (hp.bk HX0.o hrp);have HP1:=Ph (PP.after HB0.o hp);clear hp HX0 HP0;go_wp2_with fail
 refine(HIH.o.choice _ _ _ w1 HC.o (Ph HP1.o.ps)).mono ?_;rintro e w2 ⟨S,R,rfl,hn,hp⟩;rw [zS];have HX2:=Ph (hp.bk HX1.o hrp);have HP2:=Ph (HP1.o.trans hp);have HN2:=Ph hn;clear hp hn HX1 HP1;have hw2:r<w2.heap.size:=HX2.o.lt;have hpw2:p<w2.heap.size:=HP2.o.ps.lt;have HBX:Ud (Ue w2 (w2.alloc (.cells #[uB x.1.kind,uB x.1.op,uW x.1.value,uI x.1.width,uR x.1.name,uL S,uL R] 168))):=zB;have HY:=Ph (Bk.new w2 168 #[uB x.1.kind,uB x.1.op,uW x.1.value,uI x.1.width,uR x.1.name,uL S,uL R]);go_upto_region 3 with fail
 generalize (w2.alloc _)=W2 at HBX HY ⊢;obtain⟨b3,hb3⟩:∃ b3,w2.heap.size=b3:=⟨_,rfl⟩;rw [hb3]at HY ⊢;have hb3p:b3≠p:=Yo;have hrb3:b3≠r:=Yo;clear hb3 hw2 hpw2;have HP3:=Ph (HP2.o.then HBX.o);have HX3:=Ph (zD HX2.o HBX.o);have HN3:=Ph (HN2.o.below HBX.o);clear HP2 HX2 HN2 HBX;go_wp2_with fail
 refine(kF1 p E T Q s2 b W2 (Ph HP3.o.ps) ok2).mono ?_;rintro e w4 ⟨⟨v,rfl⟩,hp⟩;have HP4:=Ph (HP3.o.trans hp);have HX4:=Ph (hp.bk HX3.o hrp);have HY4:=Ph (hp.bk HY.o hb3p);have HN4:=Ph (hp.nd HP3.o.ps HN3.o);clear hp HP3 HX3 HY HN3;obtain⟨x0,x1,x2,x3,x4,x5,x6⟩:=qL HY4.o;obtain⟨y0,y1,y2,y3,y4,y5,y6⟩:=qL HX4.o;obtain⟨f0,f1,f2,f3,f4,f5,f6⟩:=zZ HX4.o;have HF:=Ph (fr7 w4 r (uB x.1.kind) (uB x.1.op) (uW x.1.value) (uI x.1.width) (uR x.1.name) (uL S) (uL R));have HK:=Ph (zZ9 (v0:=uB x.1.kind) (v1:=uB x.1.op) (v2:=uW x.1.value) (v3:=uI x.1.width) (v4:=uR x.1.name) (v5:=uL S) (v6:=uL R) HX4.o);go_wp2_with fail
 generalize (World.setCell _ _ _)=WF at HF HK ⊢;obtain⟨r0,r1,r2,r3,r4,r5,r6⟩:=qL HK.o;refine lK (v:=yO x S R) (by rw [zS];simp [results,results163,go_sem,r0,r1,r2,r3,r4,r5,r6]) rfl ?_;exact xZ HP4.o h.o HX4.o hrp hwr HF.o HN4.o
end
end
end Go.Proofs.YtfdaebgllibphaaGreatDoor
