import Derived.Test.YtfdaebgllibphaaGreatDoorZay
set_option linter.unusedVariables false
set_option linter.unusedSimpArgs false
set_option maxRecDepth 100000
set_option maxHeartbeats 16000000
namespace Go.Proofs.YtfdaebgllibphaaGreatDoor
section
open Go.RowKit Go.PlainAid
def qR8 (L:SV) (a:Nat) (x:Gx) (v:GV) (par:Bool):Array Value:=#[.slice L.A L.n L.c,uI a,uI x.blocks,uI x.width,.slice v.is.A v.is.n v.is.c,.slice v.gs.A v.gs.n v.gs.c,.slice v.vs.A v.vs.n v.vs.c,.slice v.ar.A v.ar.n v.ar.c,uB x.require.kind,uB x.require.op,uW x.require.value,uI x.require.width,uR x.require.name,.slice v.rq.A v.rq.n v.rq.c,.slice v.ins.A v.ins.n v.ins.c,.slice v.ps.A v.ps.n v.ps.c,.slice v.wk.A v.wk.n v.wk.c,.slice v.rc.A v.rc.n v.rc.c,uB x.invariant.kind,uB x.invariant.op,uW x.invariant.value,uI x.invariant.width,uR x.invariant.name,.slice v.iv.A v.iv.n v.iv.c,.bool par]
def kQ7 (L:SV) (Lb:List UInt8) (x:Gx) (v:GV) (par:Bool):MD:=⟨L,Lb,x.width.toNat,v.is,x.inputs,v.gs,x.ghosts,v.vs,x.vars,v.ps.n,par,fun i=>(qR8 L 0 x v par)[i]?⟩
structure UG (x:Gx):Prop where
 w:∃ k:Nat,x.width=(k:Int)∧k≤3
 is:(∀ d∈x.inputs,DOk d)∧x.inputs.length≤2
 gs:(∀ d∈x.ghosts,DOk d)∧x.ghosts.length≤2
 vs:(∀ d∈x.vars,DOk d)∧x.vars.length≤2
 ps:x.procs.length≤1
def z22:Array Value:=uP
abbrev GxN (P:Nat→Prop) (W:World) (x:Gx) (v:GV):Prop:=GxP P W { x with inits:=[] } { v with ins:=zK }
structure MB (w0:World) (P:Nat→Prop) (r m:Nat) (L:SV) (Lb:List UInt8) (x:Gx) (v:GV) (par:Bool) (W:World):Prop where
 bx:∃ a:Nat,a≤L.n∧Bk W m 84 (qR8 L a x v par)
 rd:Rd W L.A (Lb.map fun b=>uB b.toNat)
 lA:Lb≠[]→∀ b off,L.A=some ⟨b,off,none⟩→b<w0.heap.size
 ln:L.n=Lb.length
 few:L.n≤200
 g:GxN P W x v
 ok:UG x
 fr:Below w0.heap.size w0 W
 wm:w0.heap.size≤m
 rb:Bk W r 36 z22
 rm:r≠m
 wr:w0.heap.size≤r
theorem jI1 {P:Nat→Prop} {w:World} {l:List Dx} {S:SV} (h:zE2 P w l S) (ok:(∀ d∈l,DOk d)∧l.length≤2):DRow w S l:=by
 have key:∀ (l:List Dx) (vs:List Unit),vs.length=l.length→((l.zip vs).flatMap fun p=>yX p.1 p.2)=l.flatMap fun d=>yX d ():=by
  intro l;induction l with
  | nil=>intro vs h;rfl
  | cons d l ih =>
    intro vs h;cases vs with
    | nil=>cases h
    | cons u vs=>rw [List.zip_cons_cons,lQ,lQ,ih vs (by simpa using h)]
 cases h with
 | mk vs hl hn hP rd all=>exact⟨by rw [←key _ _ hl];exact rd,hn,ok.2,ok.1⟩
section
variable {w0 W W':World} {P P':Nat→Prop} {r m:Nat} {L:SV} {Lb:List UInt8} {x x':Gx} {v v':GV} {par par':Bool}
theorem qN2 (a:Nat) (i:Nat) (hi:i≠1):(qR8 L a x v par)[i]?=(qR8 L 0 x v par)[i]?:=by
 match i,hi with
 | 0,_=>rfl
 | n+2,_=>simp [qR8]
theorem MB.mk' (h:MB w0 P r m L Lb x v par W):Mk W m (kQ7 L Lb x v par):=by
 obtain⟨a,ha,hb⟩:=h.bx;obtain⟨k,hk,hk3⟩:=h.ok.w;refine⟨⟨qR8 L a x v par,a,⟨hb,rfl,rfl,rfl,ha,?_,rfl,rfl,rfl,⟨v.ps.A,v.ps.c,rfl⟩,rfl,fun i hi=>qN2 a i hi⟩⟩,h.rd,fun hne b off e=>lX (h.lA hne b off e) h.wm,h.ln,h.few,?_,jI1 h.g.is h.ok.is,jI1 h.g.gs h.ok.gs,jI1 h.g.vs h.ok.vs,?_⟩
 ·show some (uI x.width)=some (uI ((x.width.toNat:Nat):Int));rw [hk];rfl
 ·show x.width.toNat≤3;omega
 ·have e:v.ps.n=x.procs.length:=h.g.ps.len;show v.ps.n≤1;rw [e];exact h.ok.ps
theorem MB.cell (h:MB w0 P r m L Lb x v par W) (i:Nat) (hi:i≠1):W.cell? ⟨m,i,none⟩=(qR8 L 0 x v par)[i]?:=by obtain⟨a,_,hb⟩:=h.bx;rw [hb.cell i,qN2 a i hi]
theorem MB.mono (h:MB w0 P r m L Lb x v par W) (hp:∀ b,b<W.heap.size→P b→P' b):MB w0 P' r m L Lb x v par W:={ h with g:=itG.mono _ _ _ _ _ hp h.g }
theorem MB.cells (h:MB w0 P r m L Lb x v par W):W.cell? ⟨m,2,none⟩=some (uI x.blocks)∧W.cell? ⟨m,3,none⟩=some (uI x.width)∧W.cell? ⟨m,14,none⟩=some (.slice v.ins.A v.ins.n v.ins.c):=by obtain⟨a,_,hb⟩:=h.bx;exact⟨(hb.cell 2).trans rfl,(hb.cell 3).trans rfl,(hb.cell 14).trans rfl⟩
theorem MB.frozen (h:MB w0 P r m L Lb x v par W) (i:Nat):W.frozen? ⟨m,i,none⟩=false:=by obtain⟨a,_,hb⟩:=h.bx;exact hb.frozen i
theorem MB.lt (h:MB w0 P r m L Lb x v par W):m<W.heap.size:=by obtain⟨a,_,hb⟩:=h.bx;exact hb.lt
theorem MB.of (h:MB w0 P r m L Lb x v par W) (k:MQ W m (kQ7 L Lb x v par) W'):MB w0 P r m L Lb x v par W':=by
 obtain⟨cs,a,hb⟩:=k.k.ex;have e:cs=qR8 L a x v par:=by
  apply Array.ext_getElem?;intro i;by_cases hi:i=1
  ·subst hi;rw [hb.at'];rfl
  ·rw [hb.oth i hi,qN2 a i hi];rfl
 refine⟨⟨a,hb.le,e▸hb.bk⟩,k.k.rd,h.lA,h.ln,h.few,itG.stay _ _ _ _ _ (k.staysP h.mk') h.g,h.ok,?_,h.wm,k.bk h.mk' h.rb h.rm,h.rm,h.wr⟩;exact((Fr.of_below (F:=fun k=>k=m) h.fr).then (G:=fun k=>k=m) k.fr (fun i _ e=>e)).below _ (lF _) (fun k hk e=>by have:=h.wm;omega)
theorem MB.below (h:MB w0 P r m L Lb x v par W) (k:Below W.heap.size W W'):MB w0 P r m L Lb x v par W':=h.of ((MQ.refl h.mk').then h.mk' k)
theorem MB.drew (h:MB w0 P r m L Lb x v par W):MB w0 P r m L Lb x v par W.drew:=h.below ((lB _ W).drew)
theorem zK5:¬TTy 84:=by unfold TTy;decide
theorem MB.put (h:MB w0 P r m L Lb x v par W) (hf:Fr (fun k=>k=m) W W') (hb:∀ a,Bk W m 84 (qR8 L a x v par)→Bk W' m 84 (qR8 L a x' v' par')) (hg:GxN P W x' v') (ok:UG x'):MB w0 P r m L Lb x' v' par' W':=by obtain⟨a,ha,hbk⟩:=h.bx;refine⟨⟨a,ha,hb a hbk⟩,fun hx=>h.rd.fr hf (fun b _ ⟨off,e⟩ e2=>by have:=h.lA (by simpa using hx) b off e;have:=h.wm;omega) hx,h.lA,h.ln,h.few,itG.stay _ _ _ _ _ (Stays.box hf hbk zK5) hg,ok,?_,h.wm,h.rb.fr hf h.rm,h.rm,h.wr⟩;exact((Fr.of_below (F:=fun k=>k=m) h.fr).then (G:=fun k=>k=m) hf (fun i _ e=>e)).below _ (lF _) (fun k hk e=>by have:=h.wm;omega)
theorem MB.put1 (h:MB w0 P r m L Lb x v par W) (i:Nat) (u:Value) (hc:∀ a,(qR8 L a x v par).setIfInBounds i u=qR8 L a x' v' par') (hg:GxN P W x' v') (ok:UG x'):MB w0 P r m L Lb x' v' par' (W.setCell ⟨m,i,none⟩ u) :=
 h.put ((Fr.refl (fun k=>k=m) W).setCell (p:=⟨m,i,none⟩) (.inl rfl) u) (fun a hb=>hc a▸hb.put i u) hg ok
theorem MB.put6 (h:MB w0 P r m L Lb x v par W) (i:Nat) (u0 u1 u2 u3 u4 u5:Value) (hc:∀ a,((((((qR8 L a x v par).setIfInBounds i u0).setIfInBounds (i+1) u1).setIfInBounds (i+2) u2).setIfInBounds (i+3) u3).setIfInBounds (i+4) u4).setIfInBounds (i+5) u5=qR8 L a x' v' par') (hg:GxN P W x' v') (ok:UG x') :
 MB w0 P r m L Lb x' v' par' ((((((W.setCell ⟨m,i,none⟩ u0).setCell ⟨m,i+1,none⟩ u1).setCell ⟨m,i+2,none⟩ u2).setCell ⟨m,i+3,none⟩ u3).setCell ⟨m,i+4,none⟩ u4).setCell ⟨m,i+5,none⟩ u5) :=
 h.put (kL5 W m i u0 u1 u2 u3 u4 u5) (fun a hb=>hc a▸(((((hb.put i u0).put (i+1) u1).put (i+2) u2).put (i+3) u3).put (i+4) u4).put (i+5) u5) hg ok
theorem MB.data {F:Nat→Prop} (h:MB w0 P r m L Lb x v par W) (hf:Fr F W W') (hF:∀ k,k<W.heap.size→F k→w0.heap.size≤k∧∃ t cs,Bk W k t cs∧TTy t) (hP:∀ k,k<W.heap.size→P k→¬F k):MB w0 P r m L Lb x v par W':=by
 have key:∀ g ty c,Bk W g ty c→¬TTy ty→¬F g:=by intro g ty c hb hn e;obtain⟨_,t2,c2,hb2,ht2⟩:=hF g hb.lt e;unfold Bk at hb hb2;rw [hb]at hb2;injection hb2 with hb2;injection hb2 with _ e2;exact hn (e2▸ht2)
 obtain⟨a,ha,hbk⟩:=h.bx;refine⟨⟨a,ha,hbk.fr hf (key _ _ _ hbk zK5)⟩,fun hx=>h.rd.fr hf (fun b hb ⟨off,e⟩ e2=>by have:=h.lA (by simpa using hx) b off e;have:=(hF b hb e2).1;omega) hx,h.lA,h.ln,h.few,itG.stay _ _ _ _ _ (Stays.fr hf hP) h.g,h.ok,?_,h.wm,h.rb.fr hf (key _ _ _ h.rb xT),h.rm,h.wr⟩;exact((Fr.of_below (F:=fun k=>w0.heap.size≤k) h.fr).then (G:=F) hf (fun i hi e=>(hF i (lX hi h.fr.size) e).1)).below _ (lF _) (fun k hk e=>by have:w0.heap.size≤k:=e;omega)
end
def g0:Gx:=⟨0,0,[],[],[],[],.mk 0 0 0 0 [] [],[],[],[],[],.mk 0 0 0 0 [] []⟩
def v0:GV:=⟨zK,zK,zK,zK,zK,zK,zK,zK,zK,zK⟩
theorem jI2 {P:Nat→Prop} {w:World}:TX P w (.mk 0 0 0 0 [] []) zK:=.mk _ _ [] ⟨by show(0:Nat)≤255;omega,by show(0:Nat)≤255;omega,by show(0:Nat)≤4294967295;omega,by show(-9223372036854775808:Int)≤0;omega,by show(0:Int)≤9223372036854775807;omega,by show 0≤1000000;omega,by show(0:Nat)≤1000;omega⟩ rfl rfl (fun _ _ h=>by cases h) RdT.nil (fun i y v h _=>by simp [Ex.subs]at h)
theorem kR9 {P:Nat→Prop} {w:World}:GxN P w g0 v0:=⟨.nil,.nil,.nil,.nil,jI2,.nil,.nil,StsP.nil,StsP.nil,jI2⟩
theorem ug0:UG g0:=⟨⟨0,rfl,Yo⟩,⟨fun d h=>(by cases h),by simp [g0]⟩,⟨fun d h=>(by cases h),by simp [g0]⟩,⟨fun d h=>(by cases h),by simp [g0]⟩,by simp [g0]⟩
theorem kB8 {P:Nat→Prop} {w:World}:TX P w (.mk 1 0 1 1 [] []) zK:=.mk _ _ [] ⟨by show(1:Nat)≤255;omega,by show(0:Nat)≤255;omega,by show(1:Nat)≤4294967295;omega,by show(-9223372036854775808:Int)≤1;omega,by show(1:Int)≤9223372036854775807;omega,by show 0≤1000000;omega,by show(0:Nat)≤1000;omega⟩ rfl rfl (fun _ _ h=>by cases h) RdT.nil (fun i y v h _=>by simp [Ex.subs]at h)
theorem MB.range {w0 W:World} {P:Nat→Prop} {r m:Nat} {L:SV} {Lb:List UInt8} {x:Gx} {v:GV} {par:Bool} (h:MB w0 P r m L Lb x v par W):W.rangeAt m 2 (zN5 x v):=fun j u hj=>by
 obtain⟨a,_,hb⟩:=h.bx;rw [hb.cell];show((.slice L.A L.n L.c :: uI a :: (zN5 x v++[.bool par])).toArray:Array Value)[2+j]?=some u;rw [Nat.add_comm];have hlt:j<(zN5 x v).length:=by
  rcases Nat.lt_or_ge j (zN5 x v).length with h | h
  ·exact h
  ·rw [cW h]at hj;cases hj
 simp only [List.getElem?_toArray,List.getElem?_cons_succ];rw [cI hlt];exact hj
theorem jQ5 {P:Nat→Prop} {W:World} {x:Rx} {S1 S2:SV} {c:Nat} (hd:zE2 P W x.params S1) (hb:StsP P W x.body S2) (hn:x.name.length≤1000000) (hP:P W.heap.size):jT6 P (W.alloc (.cells (zP2 x (S1,S2)).toArray 93)) [x] ⟨some ⟨W.heap.size,0,none⟩,1,c⟩:=by
 have h:=RdT.new W (zP2 x (S1,S2)).toArray 93;refine .mk _ _ [(S1,S2)] rfl rfl (fun b off e=>by injection e with e;injection e with e;exact e▸hP) h (fun i y v hy hv=>?_);match i,hy,hv with
 | 0,hy,hv =>
   injection hy with hy;injection hv with hv;subst hy hv;exact⟨hn,hd.stay itD qC (Stays.below zB),hb.stay (Stays.below zB)⟩
theorem qH7 {α β:Type} {f:α→List β} {m:Nat} (hf:∀ x,(f x).length=m):∀ (l:List α) (k:Nat),(l.take k).flatMap f=(l.flatMap f).take (k*m)
 | [],k=>Ym
 | x :: l,0=>Ym
 | x :: l,k+1=>by have e:(f x).take (m+k*m)=f x:=cJ (by rw [hf x];omega);rw [cR,lQ,lQ,qH7 hf l k,Nat.succ_mul,Nat.add_comm,List.take_append,hf x,e,Nat.add_sub_cancel_left]
theorem zK6 {W:World} (l:List Dx) (k c:Nat) (hk:k≤l.length) (ok:∀ d∈l,jO4 d):zE2 (fun b=>W.heap.size≤b) (W.alloc (.cells (l.flatMap fun d=>yX d ()).toArray 87)) (l.take k) ⟨some ⟨W.heap.size,0,none⟩,k,c⟩:=by
 have h:=RdT.new W (l.flatMap fun d=>yX d ()).toArray 87;have hz:∀ (l:List Dx) (vs:List Unit),vs.length=l.length→((l.zip vs).flatMap fun p=>yX p.1 p.2)=l.flatMap fun d=>yX d ():=by
  intro l;induction l with
  | nil=>intro vs h;rfl
  | cons d l ih =>
    intro vs h;cases vs with
    | nil=>cases h
    | cons u vs=>rw [List.zip_cons_cons,lQ,lQ,ih vs (by simpa using h)]
 refine .mk _ _ (List.replicate k ()) Yp Yp (fun b off e=>by injection e with e;injection e with e;exact Nat.le_of_eq e) ?_ (fun i d u hd _=>ok d (List.mem_of_mem_take (cD hd)));rw [hz _ _ Yp,qH7 (m:=3) (fun _=>rfl)];exact⟨h.rd.take _,h.ty⟩
theorem zU8 {d:Dx} (h:DOk d) (hs:d.size=0∨d.size=2∨d.size=3):jO4 d:=⟨by have:=h.l;omega,by have:=h.w1;omega,by have:=h.w3;omega,Yo,Yo⟩
end
end Go.Proofs.YtfdaebgllibphaaGreatDoor
