import Derived.Test.YtfdaebgllibphaaGreatDoorWat
import Derived.Test.YtfdaebgllibphaaGreatDoorWaw
set_option linter.unusedVariables false
set_option linter.unusedSimpArgs false
set_option maxRecDepth 100000
set_option maxHeartbeats 16000000
namespace Go.Proofs.YtfdaebgllibphaaGreatDoor
open Go.Proofs.Tryz
section
open Go.RowKit Go.PlainAid
theorem kP3:El prog 142 144 6:=El.mk' (z:=.agg #[uI 0,uI 0,uI 0,uI 0,uT,uN]) (bytes:=72) underlying142 Yk rfl Yo Yo
theorem qC3 {w:World} {o:Obj}:Below w.heap.size w (w.alloc o):=zG (lB _ _) _
def zRx:Array Value:=#[uI 0,uI 0,uI 0,uI 0,uT,uN]
def qC4 (x:Ex) (V:Value):Array Value:=#[uI x.kind,uI x.op,uI x.value,uI x.width,uR x.name,V]
abbrev PV:=Ex×SV
def qI1 (P:List PV):List Value:=P.flatMap fun q=>zM2 q.1 q.2
theorem qX9 (P:List PV) (q:PV):qI1 (P++[q])=qI1 P++zM2 q.1 q.2:=by unfold qI1;simp
theorem kJ8 (P:List PV):((P.map fun q=>q.1).zip (P.map fun q=>q.2)).flatMap (fun p=>zM2 p.1 p.2)=qI1 P:=by
 unfold qI1;induction P with
 | nil=>rfl
 | cons x P ih=>rw [lY,lY,List.zip_cons_cons,lQ,lQ,ih]
structure CvB (w:World) (G r b:Nat) (x:Ex) (P:List PV) (A:Option Addr) (c:Nat) (W:World):Prop where
 res:Bk W r 144 zRx
 o:Bk W b 144 (qC4 x (.slice A P.length c))
 own:W.ownsRow G 144 6 (.slice A P.length c) P.length (qI1 P)
 trees:∀ q∈P,TreeP (fun k=>G≤k∧(Value.slice A P.length c).ownBlock≠some k) zM2 144 W q.1 q.2
 bel:Below w.heap.size w W
 size:G≤W.heap.size
section
variable {w W W1 W2 W3 WF:World} {G r b:Nat} {x y:Ex} {P:List PV} {S':SV} {A A':Option Addr} {c c':Nat}
theorem CvB.to (h:CvB w G r b x P A c W) (hb:Below W.heap.size W W1):CvB w G r b x P A c W1 :=
 ⟨zD h.res hb,zD h.o hb,jP (F:=fun _=>False) h.own (Fr.of_below hb) (fun _ _ h=>h),fun q hq=>(h.trees q hq).bel hb,zU h.bel hb,lE h.size hb.size⟩
theorem CvB.cel (h:CvB w G r b x P A c W):W.cell? ⟨b,5,none⟩=some (.slice A P.length c):=h.o.cell 5
theorem CvB.cal (h:CvB w G r b x P A c W) (o:Obj):(W.alloc o).cell? ⟨b,5,none⟩=some (.slice A P.length c):=(zD h.o qC3).cell 5
theorem CvB.push (h:CvB w G r b x P A c W) (hr:r<G) (hb:b<G) (hwb:w.heap.size≤b) (hrb:r≠b) (hb1:Below W.heap.size W W1) (hT:TrR W.heap.size W1 y S') (hb2:Below W1.heap.size W1 W2)
 (hg:W2.grownBy W3 (Value.slice A P.length c).ownBlock) (ho:W3.ownsRow G 144 6 (.slice A' (P.length+1) c') (P.length+1) (qI1 P++zM2 y S')) (hat:(Value.slice A' (P.length+1) c').ownBlock=(Value.slice A P.length c).ownBlock∨(Value.slice A' (P.length+1) c').ownBlock=some W2.heap.size) :
 Bk W3 b 144 (qC4 x (.slice A P.length c))∧CvB w G r b x (P++[(y,S')]) A' c' (W3.setCell ⟨b,5,none⟩ (.slice A' (P.length+1) c')):=by
 have h12:=zU hb1 hb2;have h2:=h.to h12;have hown:∀ k,(Value.slice A P.length c).ownBlock=some k→G≤k∧k<W.heap.size:=fun k hk=>by obtain⟨h3,cs,h4⟩:=qF h.own k hk;exact⟨h3,h4.lt⟩
 have hf3:Fr (fun k=>(Value.slice A P.length c).ownBlock=some k) W2 W3:=(Fr.refl _ W2).grown hg (fun j hj=>.inl hj);have hout3:=h2.o.fr hf3 (fun e=>by have:=(hown b e).1;omega);have hres3:=h2.res.fr hf3 (fun e=>by have:=(hown r e).1;omega);have hL:(P++[(y,S')]).length=P.length+1:=Ym;have hf4:Fr (fun k=>k=b) W3 (W3.setCell ⟨b,5,none⟩ (.slice A' (P.length+1) c')):=(Fr.refl (fun k=>k=b) W3).setCell (p:=⟨b,5,none⟩) (.inl rfl) _;have hB3:Ue w W3:=h2.bel.grown hg h2.bel.size (fun j hj=>by have:=(hown j hj).1;omega);have key:∀ q:PV,TreeP (fun k=>G≤k∧(Value.slice A P.length c).ownBlock≠some k) zM2 144 W2 q.1 q.2→TreeP (fun k=>G≤k∧(Value.slice A' (P.length+1) c').ownBlock≠some k) zM2 144 (W3.setCell ⟨b,5,none⟩ (.slice A' (P.length+1) c')) q.1 q.2:=fun q hq=>by
  have h5:TreeP (fun k=>(G≤k∧(Value.slice A P.length c).ownBlock≠some k)∧(Value.slice A' (P.length+1) c').ownBlock≠some k) zM2 144 W2 q.1 q.2:=hq.mono fun k hk hp=>⟨hp,fun e=>by
   rcases hat with h6 | h6
   ·exact hp.2 (h6.symm.trans e)
   ·rw [h6]at e;injection e with e;omega⟩
  exact((h5.fr hf3 fun k _ hp e=>hp.1.2 e).mono fun k _ hp=>⟨hp.1.1,hp.2⟩).fr hf4 fun k _ hp e=>by have:=hp.1;omega
 refine⟨hout3,hres3.fr hf4 hrb,?_,?_,?_,hB3.setCell (p:=⟨b,5,none⟩) hwb _,?_⟩
 ·rw [hL];exact hout3.put 5 _
 ·rw [hL,qX9];exact jP ho hf4 (fun k hk e=>by have:=(qF ho k hk).1;omega)
 ·rw [hL];intro q hq;rcases List.mem_append.1 hq with hq | hq
  ·exact key q (h2.trees q hq)
  ·rw [cQ.1 hq];refine key (y,S') ((hT.toP.bel hb2).mono fun k hk hp=>⟨lE h.size hp,fun e=>?_⟩);have:=(hown k e).2;omega
 ·exact lE h2.size (lE hf3.size hf4.size)
theorem CvB.tree (h:CvB w G r b x P A c W) (hr:r<G) (hwr:w.heap.size≤r) (hok:zX3 x) (hP:P.map (fun q=>q.1)=x.subs) (hf:Fr (fun k=>k=r) W WF):TrR w.heap.size WF x ⟨A,P.length,c⟩∧Below w.heap.size w WF:=by
 have ho:=jP h.own hf (fun k hk e=>by have:=(qF h.own k hk).1;omega);refine⟨.mk x _ (P.map fun q=>q.2) hok (by rw [←hP,lW,lW]) (by rw [←hP,lW]) (fun k off e=>lE hwr (Nat.le_of_lt (lX hr (qP6 ho e)))) ?_ ?_,h.bel.trans (hf.below w.heap.size h.bel.size (fun i hi e=>Yo))⟩
 ·rw [←hP,kJ8];exact RdT.of_own ho
 ·intro i y v hy hv;rw [←hP,cS]at hy;rw [cS]at hv;cases hq:P[i]? with
  | none=>rw [hq]at hy;cases hy
  | some q =>
    rw [hq]at hy hv;injection hy with hy;injection hv with hv;subst hy hv;exact((h.trees q (cD hq)).fr hf fun k _ hp e=>by have:=hp.1;omega).toAt fun k hp=>by have:=hp.1;omega
end
theorem kC2 (B:Nat):∀ (N:Nat) (x:Ex) (S:SV) (w:World),zQ5 x≤N→Ud (TrT B w x S) →
 Calls prog 75 #[.agg (uE x S)] w fun e w'=>∃ S',e=.returned (.agg #[uI x.kind,uI x.op,uI x.value,uI x.width,uR x.name,.slice S'.A S'.n S'.c])∧TrR w.heap.size w' x S'∧Below w.heap.size w w'
 | 0,x,S,w,hN,_=>by have:=zS4 x;omega
 | N+1,x,S,w,hN,h=>by
   have IH:=Ph (kC2 B N);obtain⟨SA,Sn,Sc⟩:=S;have HL:Ud (Sn=x.subs.length):=Ph h.o.len;have hok:=h.o.ok;have hS1:Sn≤1000:=by have:=HL.o;have:=hok.s;omega
   have wk:IntKind.i64.wrap (x.kind:Int)=(x.kind:Int):=by rw [lL];have:=hok.k;omega
   have wo:IntKind.i64.wrap (x.op:Int)=(x.op:Int):=by rw [lL];have:=hok.o;omega
   have wv:IntKind.i64.wrap (x.value:Int)=(x.value:Int):=by rw [lL];have:=hok.v;omega
   have HOK:=Ph hok;have h1:=(Bk.new (w.alloc (.cells #[uB x.kind,uB x.op,uW x.value,uI x.width,uR x.name,.slice SA Sn Sc] 31)) 144 zRx).alloc (.cells (qC4 x (uN)) 144);have h2:=Bk.new ((w.alloc (.cells #[uB x.kind,uB x.op,uW x.value,uI x.width,uR x.name,.slice SA Sn Sc] 31)).alloc (.cells zRx 144)) 144 (qC4 x (uN));have hWs:(((w.alloc (.cells #[uB x.kind,uB x.op,uW x.value,uI x.width,uR x.name,.slice SA Sn Sc] 31)).alloc (.cells zRx 144)).alloc (.cells (qC4 x (uN)) 144)).heap.size=w.heap.size+3:=Ym;have hB0:Below w.heap.size w (((w.alloc (.cells #[uB x.kind,uB x.op,uW x.value,uI x.width,uR x.name,.slice SA Sn Sc] 31)).alloc (.cells zRx 144)).alloc (.cells (qC4 x (uN)) 144)):=zG (zG (zG (lB _ _) _) _) _;simp only [lO]at h1 h2;have HV0:Ud (CvB w (w.heap.size+3) (w.heap.size+1) (w.heap.size+1+1) x [] none 0 (((w.alloc (.cells #[uB x.kind,uB x.op,uW x.value,uI x.width,uR x.name,.slice SA Sn Sc] 31)).alloc (.cells zRx 144)).alloc (.cells (qC4 x (uN)) 144))):=Ph ⟨h1,h2,World.ownsRow_nil _ _ _ _,fun q hq=>(by cases hq),hB0,by rw [hWs];exact lF _⟩;unfold zRx qC4 at HV0;clear hok h1 h2 hWs hB0;go_enter func75,ntmps75
   go_wp2_with fail
   generalize ((World.alloc _ _))=W at HV0 ⊢;obtain⟨r,hr⟩:∃ r,w.heap.size+1=r:=⟨_,rfl⟩;obtain⟨b,hb⟩:∃ b,w.heap.size+1+1=b:=⟨_,rfl⟩;obtain⟨G,hG⟩:∃ G,w.heap.size+3=G:=⟨_,rfl⟩;rw [hb,hr,hG]at HV0;rw [hb,hr];have hrb:r≠b:=Yo;have hwb:w.heap.size≤b:=Yo;have hwr:w.heap.size≤r:=Yo;have hrG:r<G:=Yo;have hbG:b<G:=Yo;clear hr hb hG;go_loopw [23] (fun v23 wr=>∃ (j:Nat) (P:List PV) (A:Option Addr) (c:Nat),j≤Sn∧v23=uI j∧Ud (P.map (fun q=>q.1)=x.subs.take j)∧Ud (CvB w G r b x P A c wr)) (fun v23 _=>Sn-(intOf v23).toNat)
   case atStart=>exact⟨0,[],none,0,lV _,rfl,rfl,HV0⟩
   case round =>
    obtain⟨j,P,A,c,hj,rfl,HP,HV⟩:=hrel;clear HV0;by_cases hlt:j<Sn
    ·have e1:decide ((j:Int)<(Sn:Int))=true:=by simp;omega
     have hji:(j:Int)<(Sn:Int):=Yo;have wj:IntKind.i64.wrap ((j:Int)+1)=((j+1:Nat):Int):=by rw [lL];omega
     obtain⟨bb,off,y,v,hA,hx,hty,hbb,hc⟩:=(h.o.bel HV.o.bel).sub wO (i:=j) hlt;obtain⟨vA,vn,vc⟩:=v;(try dsimp only at hA);subst hA;have c0:wr.cell? ⟨bb,off+j*6,none⟩=some (uB y.kind):=hc 0 _ Yo rfl;have c1:wr.cell? ⟨bb,off+j*6+1,none⟩=some (uB y.op):=hc 1 _ Yo rfl;have c2:wr.cell? ⟨bb,off+j*6+2,none⟩=some (uW y.value):=hc 2 _ Yo rfl;have c3:wr.cell? ⟨bb,off+j*6+3,none⟩=some (uI y.width):=hc 3 _ Yo rfl;have c4:wr.cell? ⟨bb,off+j*6+4,none⟩=some (uR y.name):=hc 4 _ Yo rfl;have c5:wr.cell? ⟨bb,off+j*6+5,none⟩=some (.slice vA vn vc):=hc 5 _ Yo rfl;have hyN:zQ5 y≤N:=by have:=qA3 hx;omega
     have HX:=Ph hx;have HTY:=Ph (hty.bel (qC3 (o:=.cells #[uB y.kind,uB y.op,uW y.value,uI y.width,uR y.name,.slice vA vn vc] 31)));have HY:=Ph (Bk.new wr 31 #[uB y.kind,uB y.op,uW y.value,uI y.width,uR y.name,.slice vA vn vc]);have HV1:=Ph (HV.o.to (qC3 (o:=.cells #[uB y.kind,uB y.op,uW y.value,uI y.width,uR y.name,.slice vA vn vc] 31)));clear hc hx hty;go_upto_region 5 with fail
     generalize (wr.alloc _)=V at HTY HY HV1 ⊢;clear c0 c1 c2 c3 c4 c5;have HV2:=Ph (HV1.o.to (lB _ _).drew);have HTV:=Ph (HTY.o.bel (lB _ _).drew);have HYV:=Ph (zD HY.o (lB _ _).drew);have HC:=Ph (IH.o y ⟨vA,vn,vc⟩ _ hyN HTV);(try dsimp only at HC);obtain⟨y0,y1,y2,y3,y4,y5⟩:=zH HYV.o;have x5:=HV2.o.cel;have HPn:Ud (P.length+1≤1000000000):=Ph (by have h1:=congrArg List.length HP.o;rw [lW,cL]at h1;omega)
     go_region_law (first
      | (go_simp;go_at_call 75
         with_reducible refine HC.o.mono ?_
         rintro e w1 ⟨S',rfl,ht,hb1⟩;have HT1:=Ph ht;have HB1:=Ph hb1;have HV3:=Ph (HV2.o.to hb1);clear ht hb1 y0 y1 y2 y3 y4 y5 x5;have x5:=HV3.o.cel;have xa:=HV3.o.cal)
      | (refine zZ2 kP3 rfl (.tmp 28) (.tmp 31) rfl G (.slice A P.length c) P.length (qI1 P) rfl ?_ (some ⟨_,0,none⟩) 1 1 (zM2 y S') rfl ?_ rfl (jA4 y S') HPn.o ?_ ?_
         ·(first | exact(HV3.o.to qC3).own | exact((HV3.o.to qC3).to (lB _ _).drew).own)
         ·(first | exact Rd.new _ #[_,_,_,_,_,_] _ | exact(Rd.new _ #[_,_,_,_,_,_] _).below (lB _ _).drew)
         ·(first | exact(HV3.o.to qC3).size | exact((HV3.o.to qC3).to (lB _ _).drew).size)
         intro A3 c3 w4 ho4 hg4 hat4;have hpu:=CvB.push HV2.o hrG hbG hwb hrb HB1.o HT1.o (by first | exact qC3 | exact qC3.drew) hg4 ho4 hat4;have HPU:=Ph hpu.2;have z5:w4.cell? ⟨b,5,none⟩=some (.slice A P.length c):=hpu.1.cell 5;have zf:w4.frozen? ⟨b,5,none⟩=false:=hpu.1.frozen 5;clear ho4 hg4 hat4 hpu x5 xa))
     all_goals
      generalize (World.setCell _ _ _)=W5 at HPU ⊢;clear z5 zf;go_wp2_with fail
      go_roundw
      case rel=>exact⟨j+1,P++[(y,S')],A3,c3,Yo,by go_num,by show _=_;rw [cB,HP.o,zI1 HX.o];rfl,HPU⟩
      case measure=>simp [intOf];omega
    ·obtain rfl:j=Sn:=by omega
     have e1:decide ((j:Int)<(j:Int))=false:=Ym;obtain rfl:P.length=j:=by have h1:=congrArg List.length HP.o;rw [lW,cL,←HL.o]at h1;omega
     have HPx:Ud (P.map (fun q=>q.1)=x.subs):=Ph (by rw [HP.o,HL.o];exact List.take_length);have hbx:=HV.o.o;have hrx:=HV.o.res;unfold qC4 at hbx;unfold zRx at hrx;obtain⟨x0,x1,x2,x3,x4,x5⟩:=zH hbx;obtain⟨y0,y1,y2,y3,y4,y5⟩:=zH hrx;obtain⟨f0,f1,f2,f3,f4,f5,_⟩:=zZ hrx;have HF:=Ph (fr6 wr r (uI x.kind) (uI x.op) (uI x.value) (uI x.width) (uR x.name) (.slice A P.length c));have HK:=Ph (put6 (v0:=uI x.kind) (v1:=uI x.op) (v2:=uI x.value) (v3:=uI x.width) (v4:=uR x.name) (v5:=.slice A P.length c) hrx);clear hbx hrx;have hbr:b≠r:=cX hrb;go_wp2_with fail
     generalize (World.setCell _ _ _)=WF at HF HK ⊢;obtain⟨r0,r1,r2,r3,r4,r5⟩:=zH HK.o;refine lK (v:=.agg #[uI x.kind,uI x.op,uI x.value,uI x.width,uR x.name,.slice A P.length c]) (by simp [results,results75,go_sem,r0,r1,r2,r3,r4,r5]) rfl ?_;obtain⟨ht,hb⟩:=HV.o.tree hrG hwr HOK.o HPx.o HF.o;exact⟨⟨A,P.length,c⟩,rfl,ht,hb⟩
end
section
open Go.RowKit Go.PlainAid
theorem jV7 (B1 B2:Nat):∀ (N:Nat) (x:Ex) (S U:SV) (w:World),zQ5 x≤N→Ud (TrR B1 w x S)→Ud (TrR B2 w x U) →
 Calls prog 106 #[.agg #[.int .i64 x.kind,.int .i64 x.op,.int .i64 x.value,.int .i64 x.width,.string (str x.name),.slice S.A S.n S.c],.agg #[.int .i64 x.kind,.int .i64 x.op,.int .i64 x.value,.int .i64 x.width,.string (str x.name),.slice U.A U.n U.c]] w fun e w'=>e=.returned (.bool true)∧Below w.heap.size w w'
 | 0,x,S,U,w,hN,_,_=>by have:=zS4 x;omega
 | N+1,x,S,U,w,hN,hS,hU=>by
   have IH:=Ph (jV7 B1 B2 N);obtain⟨SA,n,Sc⟩:=S;obtain⟨UA,m,Uc⟩:=U;have HL:Ud (n=x.subs.length):=Ph hS.o.len;have HM:Ud (m=x.subs.length):=Ph hU.o.len;obtain rfl:n=m:=by rw [HL.o,HM.o]
   have hn1:n≤1000:=by have:=HL.o;have:=hS.o.ok.s;omega
   obtain⟨k0,hk0⟩:∃ k,(x.kind:Int)=k:=⟨_,rfl⟩;obtain⟨k1,hk1⟩:∃ k,(x.op:Int)=k:=⟨_,rfl⟩;obtain⟨k2,hk2⟩:∃ k,(x.value:Int)=k:=⟨_,rfl⟩;obtain⟨k3,hk3⟩:∃ k,x.width=k:=⟨_,rfl⟩;obtain⟨k4,hk4⟩:∃ k,str x.name=k:=⟨_,rfl⟩;rw [hk0,hk1,hk2,hk3,hk4];clear hk0 hk1 hk2 hk3 hk4;have h1:=(Bk.new w 144 #[.int .i64 k0,.int .i64 k1,.int .i64 k2,.int .i64 k3,.string k4,.slice SA n Sc]).alloc (.cells #[.int .i64 k0,.int .i64 k1,.int .i64 k2,.int .i64 k3,.string k4,.slice UA n Uc] 144);have h2:=Bk.new (w.alloc (.cells #[.int .i64 k0,.int .i64 k1,.int .i64 k2,.int .i64 k3,.string k4,.slice SA n Sc] 144)) 144 #[.int .i64 k0,.int .i64 k1,.int .i64 k2,.int .i64 k3,.string k4,.slice UA n Uc];simp only [lO]at h2;have H1:=Ph h1;have H2:=Ph h2;have HB0:Ud (Below w.heap.size w ((w.alloc (.cells #[.int .i64 k0,.int .i64 k1,.int .i64 k2,.int .i64 k3,.string k4,.slice SA n Sc] 144)).alloc (.cells #[.int .i64 k0,.int .i64 k1,.int .i64 k2,.int .i64 k3,.string k4,.slice UA n Uc] 144))):=zG (zG (lB _ _) _) _;clear h1 h2;go_enter func106,ntmps106
   go_wp2_with fail
   generalize ((World.alloc _ _))=W at H1 H2 HB0 ⊢;obtain⟨b1,hb1⟩:∃ b,w.heap.size=b:=⟨_,rfl⟩;obtain⟨b2,hb2⟩:∃ b,w.heap.size+1=b:=⟨_,rfl⟩;rw [hb1]at H1;rw [hb2]at H2;rw [hb2,hb1];clear hb1 hb2;go_loopw [5] (fun v5 wr=>∃ j:Nat,j≤n∧v5=.int .i64 j∧Ud (Below w.heap.size w wr)∧Ud (Bk wr b1 144 #[.int .i64 k0,.int .i64 k1,.int .i64 k2,.int .i64 k3,.string k4,.slice SA n Sc])∧Ud (Bk wr b2 144 #[.int .i64 k0,.int .i64 k1,.int .i64 k2,.int .i64 k3,.string k4,.slice UA n Uc])) (fun v5 _=>n-(intOf v5).toNat)
   case atStart=>exact⟨0,lV _,rfl,HB0,H1,H2⟩
   case round =>
    obtain⟨j,hj,rfl,HB,HX1,HX2⟩:=hrel;clear HB0 H1 H2;have x5:=HX1.o.cell 5;have u5:=HX2.o.cell 5;simp only [List.getElem?_toArray,List.getElem?_cons_succ,List.getElem?_cons_zero]at x5 u5;by_cases hlt:j<n
    ·have e1:decide ((j:Int)<(n:Int))=true:=by simp;omega
     have hji:(j:Int)<(n:Int):=Yo;have wj:IntKind.i64.wrap ((j:Int)+1)=((j+1:Nat):Int):=by rw [lL];omega
     obtain⟨bb,off,y,v,hA,hx,hty,hbb,hc⟩:=(hS.o.bel HB.o).sub qE1 (i:=j) hlt;obtain⟨vA,vn,vc⟩:=v;obtain⟨bc,of2,y2,v2,hA2,hx2,hty2,hbb2,hc2⟩:=(hU.o.bel HB.o).sub qE1 (i:=j) hlt;obtain⟨zA,zn,zc⟩:=v2;(try dsimp only at hA hA2);subst hA hA2;obtain rfl:y=y2:=by rw [hx]at hx2;injection hx2
     have hyN:zQ5 y≤N:=by have:=qA3 hx;omega
     have c0:wr.cell? ⟨bb,off+j*6,none⟩=some (.int .i64 y.kind):=hc 0 _ Yo rfl;have c1:wr.cell? ⟨bb,off+j*6+1,none⟩=some (.int .i64 y.op):=hc 1 _ Yo rfl;have c2:wr.cell? ⟨bb,off+j*6+2,none⟩=some (.int .i64 y.value):=hc 2 _ Yo rfl;have c3:wr.cell? ⟨bb,off+j*6+3,none⟩=some (.int .i64 y.width):=hc 3 _ Yo rfl;have c4:wr.cell? ⟨bb,off+j*6+4,none⟩=some (.string (str y.name)):=hc 4 _ Yo rfl;have c5:wr.cell? ⟨bb,off+j*6+5,none⟩=some (.slice vA vn vc):=hc 5 _ Yo rfl;have d0:wr.cell? ⟨bc,of2+j*6,none⟩=some (.int .i64 y.kind):=hc2 0 _ Yo rfl;have d1:wr.cell? ⟨bc,of2+j*6+1,none⟩=some (.int .i64 y.op):=hc2 1 _ Yo rfl;have d2:wr.cell? ⟨bc,of2+j*6+2,none⟩=some (.int .i64 y.value):=hc2 2 _ Yo rfl;have d3:wr.cell? ⟨bc,of2+j*6+3,none⟩=some (.int .i64 y.width):=hc2 3 _ Yo rfl;have d4:wr.cell? ⟨bc,of2+j*6+4,none⟩=some (.string (str y.name)):=hc2 4 _ Yo rfl;have d5:wr.cell? ⟨bc,of2+j*6+5,none⟩=some (.slice zA zn zc):=hc2 5 _ Yo rfl;have HC:=Ph (IH.o y ⟨vA,vn,vc⟩ ⟨zA,zn,zc⟩ _ hyN (Ph (hty.bel (lB _ _).drew)) (Ph (hty2.bel (lB _ _).drew)));(try dsimp only at HC);clear hc hx hty hc2 hx2 hty2;go_upto_region 6 with fail
     refine xR 10 Yk Yk ?_;simp only [cR,List.take_zero,List.drop_succ_cons,List.drop_zero];repeat (go_big_quiet_step (fail))
     refine wpQuiet_nil ?_;refine wT rfl rfl (fun K hK=>?_);go_simp;go_at_call 106
     refine HC.o.mono ?_;rintro e w1 ⟨rfl,hb1⟩;have HB1:=Ph (zU (HB.o.trans (lB _ _).drew) hb1);have HY1:=Ph (zD (zD HX1.o (lB _ _).drew) hb1);have HY2:=Ph (zD (zD HX2.o (lB _ _).drew) hb1);clear hb1 c0 c1 c2 c3 c4 c5 d0 d1 d2 d3 d4 d5 x5 u5;refine hK _ _ ?_;clear hK K;try go_frame
     repeat (go_big_quiet_step (fail))
     refine wpQuiet_nil ?_;go_wp2_with fail
     go_roundw
     case rel=>exact⟨j+1,Yo,by go_num,HB1,HY1,HY2⟩
     case measure=>simp [intOf];omega
    ·obtain rfl:j=n:=by omega
     have e1:decide ((j:Int)<(j:Int))=false:=Ym;go_wp2_with fail
     go_ret;exact⟨rfl,HB.o⟩
end
section
open Go.RowKit Go.PlainAid
def SIE (x:Ex) (S U:SV) (b1 b2:Nat) (w':World):Prop:=w'.cell? ⟨b1,0,none⟩=some (uB x.kind)∧w'.cell? ⟨b1,1,none⟩=some (uB x.op)∧w'.cell? ⟨b1,2,none⟩=some (uW x.value)∧w'.cell? ⟨b1,3,none⟩=some (uI x.width)∧w'.cell? ⟨b1,4,none⟩=some (uR x.name)∧w'.cell? ⟨b1,5,none⟩=some (.slice S.A S.n S.c)∧w'.cell? ⟨b2,0,none⟩=some (uI x.kind)∧w'.cell? ⟨b2,1,none⟩=some (uI x.op)∧w'.cell? ⟨b2,2,none⟩=some (uI x.value)∧w'.cell? ⟨b2,3,none⟩=some (uI x.width)∧w'.cell? ⟨b2,4,none⟩=some (uR x.name)∧w'.cell? ⟨b2,5,none⟩=some (.slice U.A U.n U.c)
theorem kJ9 {W w':World} {x:Ex} {S U:SV} {b1 b2:Nat} (h1:Bk W b1 31 (uE x S)) (h2:Bk W b2 144 #[uI x.kind,uI x.op,uI x.value,uI x.width,uR x.name,.slice U.A U.n U.c]) (hb:Below W.heap.size W w'):SIE x S U b1 b2 w':=by obtain⟨x0,x1,x2,x3,x4,x5⟩:=zH (zD h1 hb);obtain⟨y0,y1,y2,y3,y4,y5⟩:=zH (zD h2 hb);exact⟨x0,x1,x2,x3,x4,x5,y0,y1,y2,y3,y4,y5⟩
theorem kS1 (B1 B2:Nat) (x:Ex) (S U:SV) (w:World) (hm:zQ5 x≤100000) (hS:Ud (TrT B1 w x S)) (hU:Ud (TrR B2 w x U)) :
 Calls prog 74 #[.agg (uE x S),.agg #[uI x.kind,uI x.op,uI x.value,uI x.width,uR x.name,.slice U.A U.n U.c]] w fun e w'=>e=.returned (.bool true)∧Below w.heap.size w w':=by
 have h1:=(Bk.new w 31 (uE x S)).alloc (.cells #[uI x.kind,uI x.op,uI x.value,uI x.width,uR x.name,uL U] 144);have h2:=Bk.new (w.alloc (.cells (uE x S) 31)) 144 #[uI x.kind,uI x.op,uI x.value,uI x.width,uR x.name,uL U];rw [lO]at h2;have H1:=Ph h1;have H2:=Ph h2;have HB0:Ud (Ue w ((w.alloc (.cells (uE x S) 31)).alloc (.cells #[uI x.kind,uI x.op,uI x.value,uI x.width,uR x.name,uL U] 144))):=zG (zG (lB _ _) _) _;clear h1 h2;go_enter func74,ntmps74
 go_upto_region 1 with fail
 generalize ((World.alloc _ _))=W at H1 H2 HB0 ⊢;obtain⟨b1,hb1⟩:∃ b,w.heap.size=b:=⟨_,rfl⟩;obtain⟨b2,hb2⟩:∃ b,w.heap.size+1=b:=⟨_,rfl⟩;rw [hb1]at H1;rw [hb2]at H2;rw [hb2,hb1];clear hb1 hb2;have HS1:=Ph (hS.o.bel HB0.o);have HU1:=Ph (hU.o.bel HB0.o);have HSS:Ud (∀ w',Ue W w'→SIE x S U b1 b2 w'):=fun w' hb=>kJ9 H1.o H2.o hb;have HFE:=Ph fun(w':World) (hb:Ue W w')=>kP2 B1 x S w' hm (Ph (HS1.o.bel hb));have HCE:=Ph fun(w':World) (hb:Ue W w')=>kC2 B1 _ x S w' (lF _) (Ph (HS1.o.bel hb));have HSE:=Ph fun(B3:Nat) (w':World) (U':SV) (ht:TrR B3 w' x U') (hb:Ue W w')=>jV7 B3 B2 _ x U' U w' (lF _) (Ph ht) (Ph (HU1.o.bel hb));have HBC:Ud (Ue W W.drew):=(lB _ _).drew;clear hm hS hU HS1 HU1 H1 H2
 go_region_held3 (fun w'=>w'.cell? ⟨b1,0,none⟩=some (uB x.kind)∧w'.cell? ⟨b1,1,none⟩=some (uB x.op)∧w'.cell? ⟨b1,2,none⟩=some (uW x.value)∧w'.cell? ⟨b1,3,none⟩=some (uI x.width)∧w'.cell? ⟨b1,4,none⟩=some (uR x.name)∧w'.cell? ⟨b1,5,none⟩=some (uL S)∧w'.cell? ⟨b2,0,none⟩=some (uI x.kind)∧w'.cell? ⟨b2,1,none⟩=some (uI x.op)∧w'.cell? ⟨b2,2,none⟩=some (uI x.value)∧w'.cell? ⟨b2,3,none⟩=some (uI x.width)∧w'.cell? ⟨b2,4,none⟩=some (uR x.name)∧w'.cell? ⟨b2,5,none⟩=some (uL U))
  ((refine(show SIE x S U b1 b2 _ from ?_);with_reducible exact HSS.o _ HBC.o))
  (first
    | (go_at_call 105
       with_reducible refine(HFE.o _ HBC.o).mono ?_
       rintro e v1 ⟨rfl,hb⟩;have HB1:=Ph (zU HBC.o hb);clear HBC hb;have HBC:=HB1;clear HB1)
    | (go_at_call 75
       with_reducible refine(HCE.o _ HBC.o).mono ?_
       rintro e v2 ⟨U',rfl,ht,hb⟩;have HT2:=Ph ht;have HB2:=Ph (zU HBC.o hb);clear HBC hb ht;have HBC:=HB2;clear HB2)
    | (go_at_call 106
       with_reducible refine(HSE.o _ _ _ HT2.o HBC.o).mono ?_
       rintro e v3 ⟨rfl,hb⟩;have HB3:=Ph (zU HBC.o hb);clear HBC hb;have HBC:=HB3;clear HB3))
 all_goals
  have HBF:=Ph (zU HB0.o HBC.o);go_wp2
  go_ret;exact⟨rfl,HBF.o⟩
end
section
open Go.RowKit Go.PlainAid
def SSY (x:Ex) (S V:SV) (b1 b5:Nat) (w':World):Prop:=w'.cell? ⟨b1,0,none⟩=some (uB x.kind)∧w'.cell? ⟨b1,1,none⟩=some (uB x.op)∧w'.cell? ⟨b1,2,none⟩=some (uW x.value)∧w'.cell? ⟨b1,3,none⟩=some (uI x.width)∧w'.cell? ⟨b1,4,none⟩=some (uR x.name)∧w'.cell? ⟨b1,5,none⟩=some (.slice S.A S.n S.c)∧w'.cell? ⟨b5,0,none⟩=some (uB x.kind)∧w'.cell? ⟨b5,1,none⟩=some (uB x.op)∧w'.cell? ⟨b5,2,none⟩=some (uW x.value)∧w'.cell? ⟨b5,3,none⟩=some (uI x.width)∧w'.cell? ⟨b5,4,none⟩=some (uR x.name)∧w'.cell? ⟨b5,5,none⟩=some (.slice V.A V.n V.c)
theorem kK1 {W w':World} {x:Ex} {S V:SV} {b1 b5:Nat} (h1:Bk W b1 31 (uE x S)) (h2:Bk W b5 31 (uE x V)) (hb:Below W.heap.size W w'):SSY x S V b1 b5 w':=by obtain⟨x0,x1,x2,x3,x4,x5⟩:=zH (zD h1 hb);obtain⟨y0,y1,y2,y3,y4,y5⟩:=zH (zD h2 hb);exact⟨x0,x1,x2,x3,x4,x5,y0,y1,y2,y3,y4,y5⟩
theorem kC3 (f B:Nat) (t:List UInt8) (x:Ex) (S:SV) (w:World) (hx:xW f t=some (x,t.length,0)) (hs:t.length≤65536) (hm:zQ5 x≤100000) (hv:Ud (Vars w)) (hS:Ud (TrT B w x S)) :
 Calls prog 33 #[uR t,.agg (uE x S)] w fun e w'=>e=.returned (.bool true)∧Below w.heap.size w w':=by
 have H1:=Ph (Bk.new w 31 (uE x S));have HB0:Ud (Ue w (w.alloc (.cells (uE x S) 31))):=zB;have HC:=Ph (qC2 f t x t.length 0 hx hs (w.alloc (.cells (uE x S) 31)) (Ph (hv.o.below HB0.o)));have HS1:=Ph (hS.o.bel HB0.o);have hls:(str t).size=t.length:=jV t;clear hx hS;go_enter func33,ntmps33
 go_wp2_with fail
 generalize (w.alloc _)=W at H1 HB0 HC HS1 ⊢;obtain⟨b1,hb1⟩:∃ b,w.heap.size=b:=⟨_,rfl⟩;rw [hb1]at H1;rw [hb1];clear hb1;refine HC.o.mono ?_;rintro en w1 ⟨V,rfl,ht,hb⟩;unfold qX;have HV2:=Ph (ht.bel (zB (o:=(.cells (uE x V) 31))));have H2:=Ph ((zD H1.o hb).alloc (.cells (uE x V) 31));have H5:=Ph (Bk.new w1 31 (uE x V));have HS2:=Ph ((HS1.o.bel hb).bel (zB (o:=(.cells (uE x V) 31))));have HB2:=Ph (zG (zU HB0.o hb) (.cells (uE x V) 31));clear ht hb HC HS1 H1 HB0;go_upto_region 2 with fail
 generalize (w1.alloc _)=W2 at HV2 H2 H5 HS2 HB2 ⊢;obtain⟨b5,hb5⟩:∃ b,w1.heap.size=b:=⟨_,rfl⟩;rw [hb5]at H5;rw [hb5];clear hb5;have HSS:Ud (∀ w',Ue W2 w'→SSY x S V b1 b5 w'):=fun w' hb=>kK1 H2.o H5.o hb;have HCE:=Ph fun(w':World) (hb:Ue W2 w')=>kC2 B _ x S w' (lF _) (Ph (HS2.o.bel hb));have HIE:=Ph fun(B3:Nat) (w':World) (U':SV) (ht:TrR B3 w' x U') (hb:Ue W2 w')=>kS1 _ B3 x V U' w' hm (Ph (HV2.o.bel hb)) (Ph ht);have HBC:Ud (Ue W2 W2.drew):=(lB _ _).drew;clear hm HS2 HV2 H2 H5
 go_region_held3 (fun w'=>w'.cell? ⟨b1,0,none⟩=some (uB x.kind)∧w'.cell? ⟨b1,1,none⟩=some (uB x.op)∧w'.cell? ⟨b1,2,none⟩=some (uW x.value)∧w'.cell? ⟨b1,3,none⟩=some (uI x.width)∧w'.cell? ⟨b1,4,none⟩=some (uR x.name)∧w'.cell? ⟨b1,5,none⟩=some (uL S)∧w'.cell? ⟨b5,0,none⟩=some (uB x.kind)∧w'.cell? ⟨b5,1,none⟩=some (uB x.op)∧w'.cell? ⟨b5,2,none⟩=some (uW x.value)∧w'.cell? ⟨b5,3,none⟩=some (uI x.width)∧w'.cell? ⟨b5,4,none⟩=some (uR x.name)∧w'.cell? ⟨b5,5,none⟩=some (uL V))
  ((refine(show SSY x S V b1 b5 _ from ?_);with_reducible exact HSS.o _ HBC.o))
  (first
    | (go_at_call 75
       with_reducible refine(HCE.o _ HBC.o).mono ?_
       rintro e v2 ⟨U',rfl,ht,hb⟩;have HT2:=Ph ht;have HB3:=Ph (zU HBC.o hb);clear HBC hb ht;have HBC:=HB3;clear HB3)
    | (go_at_call 74
       with_reducible refine(HIE.o _ _ _ HT2.o HBC.o).mono ?_
       rintro e v3 ⟨rfl,hb⟩;have HB3:=Ph (zU HBC.o hb);clear HBC hb;have HBC:=HB3;clear HB3))
 all_goals
  have HBF:=Ph (zU HB2.o HBC.o);go_wp2
  go_ret;exact⟨rfl,HBF.o⟩
theorem zK8 (f:Nat) (t:List UInt8) (a e:Nat) (w:World) (hx:xW f t=some (ex0,a,e)) (hs:t.length≤65536) (hv:Ud (Vars w)) :
 Calls prog 35 #[uR t,uI a,uI e] w fun en w'=>en=.returned (.bool true)∧Below w.heap.size w w':=by
 have HC:=Ph (qC2 f t ex0 a e hx hs w hv);clear hx;go_enter func35,ntmps35
 go_wp2_with fail
 refine HC.o.mono ?_;rintro en w1 ⟨V,rfl,ht,hb⟩;have HB1:Ud (Ue w (w1.alloc (.cells #[uB 0,uB 0,uW 0,uI 0,uT,uL V] 31))):=Ph (zG hb _);have h0:(qX ex0 V).toArray=#[uB 0,uB 0,uW 0,uI 0,uT,uL V]:=rfl;rw [h0];clear ht hb HC h0;go_wp2_with fail
 go_ret;exact⟨rfl,HB1.o⟩
end
def vrX (c:UInt8):Ex:=.mk 2 0 0 0 [c] []
def zW5 (v:Nat) (w:Int):Ex:=.mk 1 0 v w [] []
def zD8 (o:Nat) (x y:Ex):Ex:=.mk 6 o 0 0 [] [x,y]
def unX (o:Nat) (x:Ex):Ex:=.mk 5 o 0 0 [] [x]
def zF8 (w:Int) (x:Ex):Ex:=.mk 8 0 0 w [] [x]
def kC4 (x y z:Ex):Ex:=.mk 7 0 0 0 [] [x,y,z]
def qN3 (n:List UInt8) (x:Ex):Ex:=.mk 3 0 0 0 n [x]
def zA3:Nat:=60
def isX (t:List UInt8) (w:Ex):Bool:=match xW zA3 t with
 | some (x,a,e)=>jM2 x w && (decide (a=t.length) && decide (e=0))
 | none=>false
theorem jI7 {t:List UInt8} {w:Ex} (h:isX t w=true):xW zA3 t=some (w,t.length,0):=by
 unfold isX at h;split at h
 ·rename_i x a e he;simp only [lZ,cC]at h;rw [he,qO9 x w h.1,h.2.1,h.2.2]
 ·cases h
def a1T:List UInt8:=[49,58,52,32,43,32,120,32,42,32,121,32,64,32,50,32,61,61,32,126,122,32,38,32,97,91,48,58,49,93]
def a1X:Ex:=zD8 8 (zD8 13 (zD8 3 (zW5 1 4) (zD8 5 (vrX 120) (zF8 2 (vrX 121)))) (unX 1 (vrX 122))) (qN3 [97] (zW5 0 1))
def a2T:List UInt8:=[99,32,63,32,49,58,50,32,58,32,100,32,63,32,120,32,58,32,121]
def a2X:Ex:=kC4 (vrX 99) (zW5 1 2) (kC4 (vrX 100) (vrX 120) (vrX 121))
def a3T:List UInt8:=[45,32,45,32,120]
def a3X:Ex:=unX 2 (unX 2 (vrX 120))
def noX (t:List UInt8) (a e:Nat):Bool:=match xW zA3 t with
 | some (.mk 0 0 0 0 [] [],a',e')=>decide (a'=a) && decide (e'=e)
 | _=>false
theorem qI2 {t:List UInt8} {a e:Nat} (h:noX t a e=true):xW zA3 t=some (ex0,a,e):=by
 unfold noX at h;split at h
 ·rename_i a' e' he;simp only [lZ,cC]at h;rw [he,h.1,h.2];rfl
 ·cases h
structure kC5:Prop where
 h1:xW zA3 a1T=some (a1X,a1T.length,0)
 h2:xW zA3 a2T=some (a2X,a2T.length,0)
 h3:xW zA3 a3T=some (a3X,a3T.length,0)
 h4:xW zA3 [120,32,43]=some (ex0,3,300)
 h5:xW zA3 [40,120]=some (ex0,2,300)
 h6:xW zA3 [120,32,121]=some (ex0,2,300)
 h7:xW zA3 [119,104,105,108,101]=some (ex0,0,300)
 h8:xW zA3 [49,58,57,57,57,57,57,57,57,57,57,57]=some (ex0,0,302)
theorem vM:kC5 :=
 ⟨jI7 (by decide +kernel),jI7 (by decide +kernel),jI7 (by decide +kernel),qI2 (by decide +kernel),qI2 (by decide +kernel),qI2 (by decide +kernel),qI2 (by decide +kernel),qI2 (by decide +kernel)⟩
section
open Go.RowKit Go.PlainAid
theorem RdT.fr' {w w':World} {A:Option Addr} {t:TypeId} {xs:List Value} {F:Nat→Prop} (h:RdT w A t xs) (hf:Fr F w w') (hA:∀ b off,A=some ⟨b,off,none⟩→¬F b):RdT w' A t xs :=
 ⟨fun hx=>by obtain⟨b,off,cs,t0,fr,e,hb,hc⟩:=h.rd hx;exact⟨b,off,cs,t0,fr,e,(hf.block b (zO hb) (hA b off e)).trans hb,hc⟩,
 fun b off he=>by obtain⟨cs,fr,hb⟩:=h.ty b off he;exact⟨cs,fr,(hf.block b (zO hb) (hA b off he)).trans hb⟩⟩
theorem jI8 {B:Nat} {W:World} {x:Ex} {A:Option Addr} {c:Nat} (L:List (Ex×SV)) (ok:zX3 x) (hx:x.subs=L.map fun q=>q.1) (hrd:RdT W A 31 (L.flatMap fun q=>qX q.1 q.2)) (hA:∀ b off,A=some ⟨b,off,none⟩→B≤b) (hL:∀ q∈L,TrT B W q.1 q.2):TrT B W x ⟨A,L.length,c⟩:=by
 have hz:∀ L:List (Ex×SV),((L.map fun q=>q.1).zip (L.map fun q=>q.2)).flatMap (fun p=>qX p.1 p.2)=L.flatMap fun q=>qX q.1 q.2:=fun L=>by
  induction L with
  | nil=>rfl
  | cons x P ih=>rw [lY,lY,List.zip_cons_cons,lQ,lQ,ih]
 refine .mk x _ (L.map fun q=>q.2) ok (by rw [hx,lW,lW]) (by rw [hx,lW]) hA ?_ ?_
 ·rw [hx,hz];exact hrd
 ·intro i y v hy hv;rw [hx,cS]at hy;rw [cS]at hv;cases hq:L[i]? with
  | none=>rw [hq]at hy;cases hy
  | some q =>
    rw [hq]at hy hv;injection hy with hy;injection hv with hv;subst hy hv;exact hL q (cD hq)
theorem nmC (s:ByteArray) (w:World):Calls prog 31 #[.string s] w fun e w'=>e=.returned (.agg #[uB 2,uB 0,uW 0,uI 0,.string s,uN])∧Below w.heap.size w w':=by
 have HB0:Ud (Ue w (w.alloc (.cells #[uB 2,uB 0,uW 0,uI 0,.string s,uN] 31))):=zB;have h0:=Bk.new w 31 #[uB 2,uB 0,uW 0,uI 0,.string s,uN];obtain⟨r0,r1,r2,r3,r4,r5⟩:=zH h0;clear h0;go_enter func31,ntmps31
 go_wp2_with fail
 refine lK (v:=.agg #[uB 2,uB 0,uW 0,uI 0,.string s,uN]) (by simp [results,results31,go_sem,r0,r1,r2,r3,r4,r5]) rfl ?_;exact⟨rfl,HB0.o⟩
theorem nuC (v:Int) (k:Int) (w:World):Calls prog 32 #[uW v,uI k] w fun e w'=>e=.returned (.agg #[uB 1,uB 0,uW v,uI k,uT,uN])∧Below w.heap.size w w':=by
 have HB0:Ud (Ue w (w.alloc (.cells #[uB 1,uB 0,uW v,uI k,uT,uN] 31))):=zB;have h0:=Bk.new w 31 #[uB 1,uB 0,uW v,uI k,uT,uN];obtain⟨r0,r1,r2,r3,r4,r5⟩:=zH h0;clear h0;go_enter func32,ntmps32
 go_wp2_with fail
 refine lK (v:=.agg #[uB 1,uB 0,uW v,uI k,uT,uN]) (by simp [results,results32,go_sem,r0,r1,r2,r3,r4,r5]) rfl ?_;exact⟨rfl,HB0.o⟩
theorem biC (B:Nat) (o:Nat) (x y:Ex) (S V:SV) (ho:o≤255) (w:World) (hB:B≤w.heap.size) (h0:Ud (TrT B w x S)) (h1:Ud (TrT B w y V)):Calls prog 34 #[uB o,.agg (uE x S),.agg (uE y V)] w fun e w'=>∃ U:SV,e=.returned (.agg #[uB 6,uB o,uW 0,uI 0,uT,.slice U.A U.n U.c])∧TrT B w' (zD8 o x y) U∧Below w.heap.size w w':=by
 have hb:Ue w ((((w.alloc (.cells (uE x S) 31)).alloc (.cells (uE y V) 31)).alloc (.cells #[uB 6,uB o,uW 0,uI 0,uT,.slice (some ⟨w.heap.size+1+1+1,0,none⟩) 2 2] 31)).alloc (.cells #[uB x.kind,uB x.op,uW x.value,uI x.width,uR x.name,uL S,uB y.kind,uB y.op,uW y.value,uI y.width,uR y.name,uL V] 31)):=zG (zG (zG (zG (lB _ _) _) _) _) _;have h1:=(Bk.new ((w.alloc (.cells (uE x S) 31)).alloc (.cells (uE y V) 31)) 31 #[uB 6,uB o,uW 0,uI 0,uT,.slice (some ⟨w.heap.size+1+1+1,0,none⟩) 2 2]).alloc (.cells #[uB x.kind,uB x.op,uW x.value,uI x.width,uR x.name,uL S,uB y.kind,uB y.op,uW y.value,uI y.width,uR y.name,uL V] 31);have h2:=RdT.new (((w.alloc (.cells (uE x S) 31)).alloc (.cells (uE y V) 31)).alloc (.cells #[uB 6,uB o,uW 0,uI 0,uT,.slice (some ⟨w.heap.size+1+1+1,0,none⟩) 2 2] 31)) #[uB x.kind,uB x.op,uW x.value,uI x.width,uR x.name,uL S,uB y.kind,uB y.op,uW y.value,uI y.width,uR y.name,uL V] 31;simp only [lO]at h1 h2;have HB:=Ph hb;have H2:=Ph h2;obtain⟨r0,r1,r2,r3,r4,r5⟩:=zH h1;clear h1 h2 hb;go_enter func34,ntmps34
 go_wp2_with fail
 refine lK (v:=.agg #[uB 6,uB o,uW 0,uI 0,uT,.slice (some ⟨w.heap.size+1+1+1,0,none⟩) 2 2]) (by simp [results,results34,go_sem,r0,r1,r2,r3,r4,r5]) rfl ?_;refine⟨⟨some ⟨w.heap.size+1+1+1,0,none⟩,2,2⟩,rfl,jI8 (B:=B) [(x,S),(y,V)] ⟨(by show(6:Nat)≤255;decide),ho,(by show(0:Nat)≤4294967295;decide),(by show(-9223372036854775808:Int)≤0;decide),(by show(0:Int)≤9223372036854775807;decide),(by show(0:Nat)≤1000000;decide),(by show(2:Nat)≤1000;decide)⟩ rfl H2.o (fun b off e=>?_) (fun q hq=>?_),HB.o⟩
 ·injection e with e;injection e with e;omega
 ·simp only [lU,lT,or_false]at hq;rcases hq with rfl | rfl
  ·exact h0.o.bel HB.o
  ·exact h1.o.bel HB.o
end
section
open Go.RowKit Go.PlainAid
theorem zU9 {B:Nat} {w:World} {x:Ex} (ok:zX3 x) (hs:x.subs=[]):TrT B w x ⟨none,0,0⟩:=.leaf ok hs 0
theorem zB8 {v:World} {x:Ex} (L:List (Ex×SV)) (ok:zX3 x) (hx:x.subs=L.map fun q=>q.1) (hL:∀ q∈L,TrT 0 v q.1 q.2):TrT 0 (v.alloc (.cells (L.flatMap fun q=>qX q.1 q.2).toArray 31)) x ⟨some ⟨v.heap.size,0,none⟩,L.length,L.length⟩:=by have h:=RdT.new v (L.flatMap fun q=>qX q.1 q.2).toArray 31;rw [List.toList_toArray]at h;exact jI8 L ok hx h (fun _ _ _=>lV _) (fun q hq=>(hL q hq).bel zB)
theorem okV (c:UInt8):zX3 (vrX c):=⟨by show(2:Nat)≤255;decide,by show(0:Nat)≤255;decide,by show(0:Nat)≤4294967295;decide,by show(-9223372036854775808:Int)≤0;decide,by show(0:Int)≤9223372036854775807;decide,by show(1:Nat)≤1000000;decide,by show(0:Nat)≤1000;decide⟩
theorem okN (v:Nat) (k:Int) (hv:v≤4294967295) (h0:-9223372036854775808≤k) (h1:k≤9223372036854775807):zX3 (zW5 v k):=⟨by show(1:Nat)≤255;decide,by show(0:Nat)≤255;decide,hv,h0,h1,by show(0:Nat)≤1000000;decide,by show(0:Nat)≤1000;decide⟩
theorem okC (k:Int) (x:Ex) (h0:-9223372036854775808≤k) (h1:k≤9223372036854775807):zX3 (zF8 k x):=⟨by show(8:Nat)≤255;decide,by show(0:Nat)≤255;decide,by show(0:Nat)≤4294967295;decide,h0,h1,by show(0:Nat)≤1000000;decide,by show(1:Nat)≤1000;decide⟩
theorem okU (o:Nat) (x:Ex) (ho:o≤255):zX3 (unX o x):=⟨by show(5:Nat)≤255;decide,ho,by show(0:Nat)≤4294967295;decide,by show(-9223372036854775808:Int)≤0;decide,by show(0:Int)≤9223372036854775807;decide,by show(0:Nat)≤1000000;decide,by show(1:Nat)≤1000;decide⟩
theorem okE (n:UInt8) (x:Ex):zX3 (qN3 [n] x):=⟨by show(3:Nat)≤255;decide,by show(0:Nat)≤255;decide,by show(0:Nat)≤4294967295;decide,by show(-9223372036854775808:Int)≤0;decide,by show(0:Int)≤9223372036854775807;decide,by show(1:Nat)≤1000000;decide,by show(1:Nat)≤1000;decide⟩
theorem okM (x y z:Ex):zX3 (kC4 x y z):=⟨by show(7:Nat)≤255;decide,by show(0:Nat)≤255;decide,by show(0:Nat)≤4294967295;decide,by show(-9223372036854775808:Int)≤0;decide,by show(0:Int)≤9223372036854775807;decide,by show(0:Nat)≤1000000;decide,by show(3:Nat)≤1000;decide⟩
theorem qI3 {w:World} {x:Ex} {S:SV} (h:TrT 0 w x S):∀ q∈[(x,S)],TrT 0 w q.1 q.2:=fun q hq=>by rw [cQ.1 hq];exact h
theorem qS4 {w:World} {x y z:Ex} {S V U:SV} (h1:TrT 0 w x S) (h2:TrT 0 w y V) (h3:TrT 0 w z U):∀ q∈[(x,S),(y,V),(z,U)],TrT 0 w q.1 q.2:=fun q hq=>by
 simp only [lU,lT,or_false]at hq;rcases hq with rfl | rfl | rfl
 ·exact h1
 ·exact h2
 ·exact h3
def SAW (b1 b2 b3 b4 b5:Nat) (S1 S2 S3 S4 S5:SV) (w':World):Prop:=w'.cell? ⟨b1,0,none⟩=some (uB 8)∧w'.cell? ⟨b1,1,none⟩=some (uB 0)∧w'.cell? ⟨b1,2,none⟩=some (uW 0)∧w'.cell? ⟨b1,3,none⟩=some (uI 2)∧w'.cell? ⟨b1,4,none⟩=some (uT)∧w'.cell? ⟨b1,5,none⟩=some (.slice S1.A S1.n S1.c)∧w'.cell? ⟨b2,0,none⟩=some (uB 5)∧w'.cell? ⟨b2,1,none⟩=some (uB 1)∧w'.cell? ⟨b2,2,none⟩=some (uW 0)∧w'.cell? ⟨b2,3,none⟩=some (uI 0)∧w'.cell? ⟨b2,4,none⟩=some (uT)∧w'.cell? ⟨b2,5,none⟩=some (.slice S2.A S2.n S2.c)∧w'.cell? ⟨b3,0,none⟩=some (uB 3)∧w'.cell? ⟨b3,1,none⟩=some (uB 0)∧w'.cell? ⟨b3,2,none⟩=some (uW 0)∧w'.cell? ⟨b3,3,none⟩=some (uI 0)∧w'.cell? ⟨b3,4,none⟩=some (.string ⟨#[97]⟩)∧w'.cell? ⟨b3,5,none⟩=some (.slice S3.A S3.n S3.c)∧w'.cell? ⟨b4,0,none⟩=some (uB 5)∧w'.cell? ⟨b4,1,none⟩=some (uB 2)∧w'.cell? ⟨b4,2,none⟩=some (uW 0)∧w'.cell? ⟨b4,3,none⟩=some (uI 0)∧w'.cell? ⟨b4,4,none⟩=some (uT)∧w'.cell? ⟨b4,5,none⟩=some (.slice S4.A S4.n S4.c)∧w'.cell? ⟨b5,0,none⟩=some (uB 7)∧w'.cell? ⟨b5,1,none⟩=some (uB 0)∧w'.cell? ⟨b5,2,none⟩=some (uW 0)∧w'.cell? ⟨b5,3,none⟩=some (uI 0)∧w'.cell? ⟨b5,4,none⟩=some (uT)∧w'.cell? ⟨b5,5,none⟩=some (.slice S5.A S5.n S5.c)
theorem kK2 {W w':World} {b1 b2 b3 b4 b5:Nat} {S1 S2 S3 S4 S5:SV} (h1:Bk W b1 31 #[uB 8,uB 0,uW 0,uI 2,uT,.slice S1.A S1.n S1.c]) (h2:Bk W b2 31 #[uB 5,uB 1,uW 0,uI 0,uT,.slice S2.A S2.n S2.c]) (h3:Bk W b3 31 #[uB 3,uB 0,uW 0,uI 0,.string ⟨#[97]⟩,.slice S3.A S3.n S3.c]) (h4:Bk W b4 31 #[uB 5,uB 2,uW 0,uI 0,uT,.slice S4.A S4.n S4.c]) (h5:Bk W b5 31 #[uB 7,uB 0,uW 0,uI 0,uT,.slice S5.A S5.n S5.c]) (hb:Below W.heap.size W w'):SAW b1 b2 b3 b4 b5 S1 S2 S3 S4 S5 w':=by obtain⟨x10,x11,x12,x13,x14,x15⟩:=zH (zD h1 hb);obtain⟨x20,x21,x22,x23,x24,x25⟩:=zH (zD h2 hb);obtain⟨x30,x31,x32,x33,x34,x35⟩:=zH (zD h3 hb);obtain⟨x40,x41,x42,x43,x44,x45⟩:=zH (zD h4 hb);obtain⟨x50,x51,x52,x53,x54,x55⟩:=zH (zD h5 hb);exact⟨x10,x11,x12,x13,x14,x15,x20,x21,x22,x23,x24,x25,x30,x31,x32,x33,x34,x35,x40,x41,x42,x43,x44,x45,x50,x51,x52,x53,x54,x55⟩
theorem kK3 (w:World) (hv:Ud (Vars w)):Calls prog 7 #[] w fun e w'=>e=.returned (.bool true)∧Below w.heap.size w w':=by
 go_enter func7,ntmps7
 have HB0:Ud (Ue w w):=lB _ _;go_wp2_with fail
 refine(nmC ⟨#[121]⟩ w).mono ?_;rintro e w1 ⟨rfl,hb⟩;have HB1:=Ph (zU HB0.o hb);clear HB0;clear hb;have ht0:TrT 0 (w1.alloc (.cells #[uB 2,uB 0,uW 0,uI 0,.string ⟨#[121]⟩,uN] 31)) (zF8 2 (vrX 121)) ⟨some ⟨w1.heap.size,0,none⟩,1,1⟩:=zB8 [((vrX 121),⟨none,0,0⟩)] (okC 2 _ Yd Yd) rfl (qI3 (zU9 (okV 121) rfl));have HTn:=Ph (ht0.bel (zB (o:=.cells #[uB 8,uB 0,uW 0,uI 2,uT,.slice (some ⟨w1.heap.size,0,none⟩) 1 1] 31)));have hx:=Bk.new (w1.alloc (.cells #[uB 2,uB 0,uW 0,uI 0,.string ⟨#[121]⟩,uN] 31)) 31 #[uB 8,uB 0,uW 0,uI 2,uT,.slice (some ⟨w1.heap.size,0,none⟩) 1 1];simp only [lO]at hx;have HXn:=Ph hx;clear hx ht0;have hb:Ue w1 ((w1.alloc (.cells #[uB 2,uB 0,uW 0,uI 0,.string ⟨#[121]⟩,uN] 31)).alloc (.cells #[uB 8,uB 0,uW 0,uI 2,uT,.slice (some ⟨w1.heap.size,0,none⟩) 1 1] 31)):=zG (zG (lB _ _) _) _;have HB2:=Ph (zU HB1.o hb);clear HB1;clear hb;go_upto_region 2 with fail
 generalize ((World.alloc _ _))=w2 at HB2 HTn HXn ⊢;obtain⟨b1,hbn⟩:∃ b,w1.heap.size+1=b:=⟨_,rfl⟩;rw [hbn]at HXn;rw [hbn];clear hbn;obtain⟨S1,hSn⟩:∃ S:SV,S=⟨some ⟨w1.heap.size,0,none⟩,1,1⟩:=⟨_,rfl⟩;rw [←hSn]at HTn;have hSl:Value.slice (some ⟨w1.heap.size,0,none⟩) 1 1=uL S1:=by rw [hSn]
 rw [hSl]at HXn;try rw [hSl]
 clear hSn hSl;have HT1:=HTn;have HX1:=HXn;clear HTn HXn;go_wp2_with fail
 refine(nmC ⟨#[122]⟩ w2).mono ?_;rintro e w3 ⟨rfl,hb⟩;have HB3:=Ph (zU HB2.o hb);have HTx:=Ph (HT1.o.bel hb);clear HT1;have HT1:=HTx;clear HTx;have HXx:=Ph (zD HX1.o hb);clear HX1;have HX1:=HXx;clear HXx;clear HB2;clear hb;have ht0:TrT 0 (w3.alloc (.cells #[uB 2,uB 0,uW 0,uI 0,.string ⟨#[122]⟩,uN] 31)) (unX 1 (vrX 122)) ⟨some ⟨w3.heap.size,0,none⟩,1,1⟩:=zB8 [((vrX 122),⟨none,0,0⟩)] (okU 1 _ Yd) rfl (qI3 (zU9 (okV 122) rfl));have HTn:=Ph (ht0.bel (zB (o:=.cells #[uB 5,uB 1,uW 0,uI 0,uT,.slice (some ⟨w3.heap.size,0,none⟩) 1 1] 31)));have hx:=Bk.new (w3.alloc (.cells #[uB 2,uB 0,uW 0,uI 0,.string ⟨#[122]⟩,uN] 31)) 31 #[uB 5,uB 1,uW 0,uI 0,uT,.slice (some ⟨w3.heap.size,0,none⟩) 1 1];simp only [lO]at hx;have HXn:=Ph hx;clear hx ht0;have hb:Ue w3 ((w3.alloc (.cells #[uB 2,uB 0,uW 0,uI 0,.string ⟨#[122]⟩,uN] 31)).alloc (.cells #[uB 5,uB 1,uW 0,uI 0,uT,.slice (some ⟨w3.heap.size,0,none⟩) 1 1] 31)):=zG (zG (lB _ _) _) _;have HB4:=Ph (zU HB3.o hb);have HTx:=Ph (HT1.o.bel hb);clear HT1;have HT1:=HTx;clear HTx;have HXx:=Ph (zD HX1.o hb);clear HX1;have HX1:=HXx;clear HXx;clear HB3;clear hb;go_upto_region 3 with fail
 generalize ((World.alloc _ _))=w4 at HB4 HTn HXn HT1 HX1 ⊢;obtain⟨b2,hbn⟩:∃ b,w3.heap.size+1=b:=⟨_,rfl⟩;rw [hbn]at HXn;rw [hbn];clear hbn;obtain⟨S2,hSn⟩:∃ S:SV,S=⟨some ⟨w3.heap.size,0,none⟩,1,1⟩:=⟨_,rfl⟩;rw [←hSn]at HTn;have hSl:Value.slice (some ⟨w3.heap.size,0,none⟩) 1 1=uL S2:=by rw [hSn]
 rw [hSl]at HXn;try rw [hSl]
 clear hSn hSl;have HT2:=HTn;have HX2:=HXn;clear HTn HXn;go_wp2_with fail
 refine(nuC 0 1 w4).mono ?_;rintro e w5 ⟨rfl,hb⟩;have HB5:=Ph (zU HB4.o hb);have HTx:=Ph (HT1.o.bel hb);clear HT1;have HT1:=HTx;clear HTx;have HXx:=Ph (zD HX1.o hb);clear HX1;have HX1:=HXx;clear HXx;have HTx:=Ph (HT2.o.bel hb);clear HT2;have HT2:=HTx;clear HTx;have HXx:=Ph (zD HX2.o hb);clear HX2;have HX2:=HXx;clear HXx;clear HB4;clear hb;have ht0:TrT 0 (w5.alloc (.cells #[uB 1,uB 0,uW 0,uI 1,uT,uN] 31)) (qN3 [97] (zW5 0 1)) ⟨some ⟨w5.heap.size,0,none⟩,1,1⟩:=zB8 [((zW5 0 1),⟨none,0,0⟩)] (okE 97 _) rfl (qI3 (zU9 (okN 0 1 Yd Yd Yd) rfl));have HTn:=Ph (ht0.bel (zB (o:=.cells #[uB 3,uB 0,uW 0,uI 0,.string ⟨#[97]⟩,.slice (some ⟨w5.heap.size,0,none⟩) 1 1] 31)));have hx:=Bk.new (w5.alloc (.cells #[uB 1,uB 0,uW 0,uI 1,uT,uN] 31)) 31 #[uB 3,uB 0,uW 0,uI 0,.string ⟨#[97]⟩,.slice (some ⟨w5.heap.size,0,none⟩) 1 1];simp only [lO]at hx;have HXn:=Ph hx;clear hx ht0;have hb:Ue w5 ((w5.alloc (.cells #[uB 1,uB 0,uW 0,uI 1,uT,uN] 31)).alloc (.cells #[uB 3,uB 0,uW 0,uI 0,.string ⟨#[97]⟩,.slice (some ⟨w5.heap.size,0,none⟩) 1 1] 31)):=zG (zG (lB _ _) _) _;have HB6:=Ph (zU HB5.o hb);have HTx:=Ph (HT1.o.bel hb);clear HT1;have HT1:=HTx;clear HTx;have HXx:=Ph (zD HX1.o hb);clear HX1;have HX1:=HXx;clear HXx;have HTx:=Ph (HT2.o.bel hb);clear HT2;have HT2:=HTx;clear HTx;have HXx:=Ph (zD HX2.o hb);clear HX2;have HX2:=HXx;clear HXx;clear HB5;clear hb;go_upto_region 4 with fail
 generalize ((World.alloc _ _))=w6 at HB6 HTn HXn HT1 HX1 HT2 HX2 ⊢;obtain⟨b3,hbn⟩:∃ b,w5.heap.size+1=b:=⟨_,rfl⟩;rw [hbn]at HXn;rw [hbn];clear hbn;obtain⟨S3,hSn⟩:∃ S:SV,S=⟨some ⟨w5.heap.size,0,none⟩,1,1⟩:=⟨_,rfl⟩;rw [←hSn]at HTn;have hSl:Value.slice (some ⟨w5.heap.size,0,none⟩) 1 1=uL S3:=by rw [hSn]
 rw [hSl]at HXn;try rw [hSl]
 clear hSn hSl;have HT3:=HTn;have HX3:=HXn;clear HTn HXn;go_wp2_with fail
 refine(nmC ⟨#[120]⟩ w6).mono ?_;rintro e w7 ⟨rfl,hb⟩;have HB7:=Ph (zU HB6.o hb);have HTx:=Ph (HT1.o.bel hb);clear HT1;have HT1:=HTx;clear HTx;have HXx:=Ph (zD HX1.o hb);clear HX1;have HX1:=HXx;clear HXx;have HTx:=Ph (HT2.o.bel hb);clear HT2;have HT2:=HTx;clear HTx;have HXx:=Ph (zD HX2.o hb);clear HX2;have HX2:=HXx;clear HXx;have HTx:=Ph (HT3.o.bel hb);clear HT3;have HT3:=HTx;clear HTx;have HXx:=Ph (zD HX3.o hb);clear HX3;have HX3:=HXx;clear HXx;clear HB6;clear hb;have ht0:TrT 0 (w7.alloc (.cells #[uB 2,uB 0,uW 0,uI 0,.string ⟨#[120]⟩,uN] 31)) (unX 2 (vrX 120)) ⟨some ⟨w7.heap.size,0,none⟩,1,1⟩:=zB8 [((vrX 120),⟨none,0,0⟩)] (okU 2 _ Yd) rfl (qI3 (zU9 (okV 120) rfl));have ht1:TrT 0 ((w7.alloc (.cells #[uB 2,uB 0,uW 0,uI 0,.string ⟨#[120]⟩,uN] 31)).alloc (.cells #[uB 5,uB 2,uW 0,uI 0,uT,.slice (some ⟨w7.heap.size,0,none⟩) 1 1] 31)) (unX 2 (unX 2 (vrX 120))) ⟨some ⟨w7.heap.size+1,0,none⟩,1,1⟩:=by have hq:=zB8 [((unX 2 (vrX 120)),⟨some ⟨w7.heap.size,0,none⟩,1,1⟩)] (okU 2 _ Yd) rfl (qI3 ht0);rw [lO]at hq;exact hq
 have HTn:=Ph (ht1.bel (zB (o:=.cells #[uB 5,uB 2,uW 0,uI 0,uT,.slice (some ⟨w7.heap.size+1,0,none⟩) 1 1] 31)));have hx:=Bk.new ((w7.alloc (.cells #[uB 2,uB 0,uW 0,uI 0,.string ⟨#[120]⟩,uN] 31)).alloc (.cells #[uB 5,uB 2,uW 0,uI 0,uT,.slice (some ⟨w7.heap.size,0,none⟩) 1 1] 31)) 31 #[uB 5,uB 2,uW 0,uI 0,uT,.slice (some ⟨w7.heap.size+1,0,none⟩) 1 1];simp only [lO]at hx;have HXn:=Ph hx;clear hx ht0 ht1;have hb:Ue w7 (((w7.alloc (.cells #[uB 2,uB 0,uW 0,uI 0,.string ⟨#[120]⟩,uN] 31)).alloc (.cells #[uB 5,uB 2,uW 0,uI 0,uT,.slice (some ⟨w7.heap.size,0,none⟩) 1 1] 31)).alloc (.cells #[uB 5,uB 2,uW 0,uI 0,uT,.slice (some ⟨w7.heap.size+1,0,none⟩) 1 1] 31)):=zG (zG (zG (lB _ _) _) _) _;have HB8:=Ph (zU HB7.o hb);have HTx:=Ph (HT1.o.bel hb);clear HT1;have HT1:=HTx;clear HTx;have HXx:=Ph (zD HX1.o hb);clear HX1;have HX1:=HXx;clear HXx;have HTx:=Ph (HT2.o.bel hb);clear HT2;have HT2:=HTx;clear HTx;have HXx:=Ph (zD HX2.o hb);clear HX2;have HX2:=HXx;clear HXx;have HTx:=Ph (HT3.o.bel hb);clear HT3;have HT3:=HTx;clear HTx;have HXx:=Ph (zD HX3.o hb);clear HX3;have HX3:=HXx;clear HXx;clear HB7;clear hb;go_upto_region 5 with fail
 generalize ((World.alloc _ _))=w8 at HB8 HTn HXn HT1 HX1 HT2 HX2 HT3 HX3 ⊢;obtain⟨b4,hbn⟩:∃ b,w7.heap.size+1+1=b:=⟨_,rfl⟩;rw [hbn]at HXn;rw [hbn];clear hbn;obtain⟨S4,hSn⟩:∃ S:SV,S=⟨some ⟨w7.heap.size+1,0,none⟩,1,1⟩:=⟨_,rfl⟩;rw [←hSn]at HTn;have hSl:Value.slice (some ⟨w7.heap.size+1,0,none⟩) 1 1=uL S4:=by rw [hSn]
 rw [hSl]at HXn;try rw [hSl]
 clear hSn hSl;have HT4:=HTn;have HX4:=HXn;clear HTn HXn;go_wp2_with fail
 refine(nmC ⟨#[100]⟩ w8).mono ?_;rintro e w9 ⟨rfl,hb⟩;have HB9:=Ph (zU HB8.o hb);have HTx:=Ph (HT1.o.bel hb);clear HT1;have HT1:=HTx;clear HTx;have HXx:=Ph (zD HX1.o hb);clear HX1;have HX1:=HXx;clear HXx;have HTx:=Ph (HT2.o.bel hb);clear HT2;have HT2:=HTx;clear HTx;have HXx:=Ph (zD HX2.o hb);clear HX2;have HX2:=HXx;clear HXx;have HTx:=Ph (HT3.o.bel hb);clear HT3;have HT3:=HTx;clear HTx;have HXx:=Ph (zD HX3.o hb);clear HX3;have HX3:=HXx;clear HXx;have HTx:=Ph (HT4.o.bel hb);clear HT4;have HT4:=HTx;clear HTx;have HXx:=Ph (zD HX4.o hb);clear HX4;have HX4:=HXx;clear HXx;clear HB8;clear hb;go_wp2_with fail
 refine(nmC ⟨#[120]⟩ w9).mono ?_;rintro e w10 ⟨rfl,hb⟩;have HB10:=Ph (zU HB9.o hb);have HTx:=Ph (HT1.o.bel hb);clear HT1;have HT1:=HTx;clear HTx;have HXx:=Ph (zD HX1.o hb);clear HX1;have HX1:=HXx;clear HXx;have HTx:=Ph (HT2.o.bel hb);clear HT2;have HT2:=HTx;clear HTx;have HXx:=Ph (zD HX2.o hb);clear HX2;have HX2:=HXx;clear HXx;have HTx:=Ph (HT3.o.bel hb);clear HT3;have HT3:=HTx;clear HTx;have HXx:=Ph (zD HX3.o hb);clear HX3;have HX3:=HXx;clear HXx;have HTx:=Ph (HT4.o.bel hb);clear HT4;have HT4:=HTx;clear HTx;have HXx:=Ph (zD HX4.o hb);clear HX4;have HX4:=HXx;clear HXx;clear HB9;clear hb;go_wp2_with fail
 refine(nmC ⟨#[121]⟩ w10).mono ?_;rintro e w11 ⟨rfl,hb⟩;have HB11:=Ph (zU HB10.o hb);have HTx:=Ph (HT1.o.bel hb);clear HT1;have HT1:=HTx;clear HTx;have HXx:=Ph (zD HX1.o hb);clear HX1;have HX1:=HXx;clear HXx;have HTx:=Ph (HT2.o.bel hb);clear HT2;have HT2:=HTx;clear HTx;have HXx:=Ph (zD HX2.o hb);clear HX2;have HX2:=HXx;clear HXx;have HTx:=Ph (HT3.o.bel hb);clear HT3;have HT3:=HTx;clear HTx;have HXx:=Ph (zD HX3.o hb);clear HX3;have HX3:=HXx;clear HXx;have HTx:=Ph (HT4.o.bel hb);clear HT4;have HT4:=HTx;clear HTx;have HXx:=Ph (zD HX4.o hb);clear HX4;have HX4:=HXx;clear HXx;clear HB10;clear hb;have ht0:TrT 0 (w11.alloc (.cells #[uB 2,uB 0,uW 0,uI 0,.string ⟨#[100]⟩,uN,uB 2,uB 0,uW 0,uI 0,.string ⟨#[120]⟩,uN,uB 2,uB 0,uW 0,uI 0,.string ⟨#[121]⟩,uN] 31)) (kC4 (vrX 100) (vrX 120) (vrX 121)) ⟨some ⟨w11.heap.size,0,none⟩,3,3⟩:=zB8 [((vrX 100),⟨none,0,0⟩),((vrX 120),⟨none,0,0⟩),((vrX 121),⟨none,0,0⟩)] (okM _ _ _) rfl (qS4 (zU9 (okV 100) rfl) (zU9 (okV 120) rfl) (zU9 (okV 121) rfl));have HTn:=Ph (ht0.bel (zB (o:=.cells #[uB 7,uB 0,uW 0,uI 0,uT,.slice (some ⟨w11.heap.size,0,none⟩) 3 3] 31)));have hx:=Bk.new (w11.alloc (.cells #[uB 2,uB 0,uW 0,uI 0,.string ⟨#[100]⟩,uN,uB 2,uB 0,uW 0,uI 0,.string ⟨#[120]⟩,uN,uB 2,uB 0,uW 0,uI 0,.string ⟨#[121]⟩,uN] 31)) 31 #[uB 7,uB 0,uW 0,uI 0,uT,.slice (some ⟨w11.heap.size,0,none⟩) 3 3];simp only [lO]at hx;have HXn:=Ph hx;clear hx ht0;have hb:Ue w11 ((w11.alloc (.cells #[uB 2,uB 0,uW 0,uI 0,.string ⟨#[100]⟩,uN,uB 2,uB 0,uW 0,uI 0,.string ⟨#[120]⟩,uN,uB 2,uB 0,uW 0,uI 0,.string ⟨#[121]⟩,uN] 31)).alloc (.cells #[uB 7,uB 0,uW 0,uI 0,uT,.slice (some ⟨w11.heap.size,0,none⟩) 3 3] 31)):=zG (zG (lB _ _) _) _;have HB12:=Ph (zU HB11.o hb);have HTx:=Ph (HT1.o.bel hb);clear HT1;have HT1:=HTx;clear HTx;have HXx:=Ph (zD HX1.o hb);clear HX1;have HX1:=HXx;clear HXx;have HTx:=Ph (HT2.o.bel hb);clear HT2;have HT2:=HTx;clear HTx;have HXx:=Ph (zD HX2.o hb);clear HX2;have HX2:=HXx;clear HXx;have HTx:=Ph (HT3.o.bel hb);clear HT3;have HT3:=HTx;clear HTx;have HXx:=Ph (zD HX3.o hb);clear HX3;have HX3:=HXx;clear HXx;have HTx:=Ph (HT4.o.bel hb);clear HT4;have HT4:=HTx;clear HTx;have HXx:=Ph (zD HX4.o hb);clear HX4;have HX4:=HXx;clear HXx;clear HB11;clear hb;go_upto_region 6 with fail
 generalize ((World.alloc _ _))=w12 at HB12 HTn HXn HT1 HX1 HT2 HX2 HT3 HX3 HT4 HX4 ⊢;obtain⟨b5,hbn⟩:∃ b,w11.heap.size+1=b:=⟨_,rfl⟩;rw [hbn]at HXn;rw [hbn];clear hbn;obtain⟨S5,hSn⟩:∃ S:SV,S=⟨some ⟨w11.heap.size,0,none⟩,3,3⟩:=⟨_,rfl⟩;rw [←hSn]at HTn;have hSl:Value.slice (some ⟨w11.heap.size,0,none⟩) 3 3=uL S5:=by rw [hSn]
 rw [hSl]at HXn;try rw [hSl]
 clear hSn hSl;have HT5:=HTn;have HX5:=HXn;clear HTn HXn;have HSS:Ud (∀ w',Ue w12 w'→SAW b1 b2 b3 b4 b5 S1 S2 S3 S4 S5 w'):=fun w' hb=>kK2 HX1.o HX2.o HX3.o HX4.o HX5.o hb;have HVV:=Ph (hv.o.below HB12.o);have HBC:Ud (Ue w12 w12.drew):=(lB _ _).drew;have H28:Ud (∀ w',Ue w12 w'→Calls prog 34 #[uB 5,.agg #[uB 2,uB 0,uW 0,uI 0,.string ⟨#[120]⟩,uN],.agg #[uB 8,uB 0,uW 0,uI 2,uT,uL S1]] w' (fun e w''=>∃ U:SV,e=.returned (.agg #[uB 6,uB 5,uW 0,uI 0,uT,uL U])∧TrT 0 w'' (zD8 5 (vrX 120) (zF8 2 (vrX 121))) U∧Below w'.heap.size w' w'')):=Ph fun w' hb=>biC 0 5 (vrX 120) (zF8 2 (vrX 121)) ⟨none,0,0⟩ S1 Yd w' (lV _) (zU9 (okV 120) rfl) (HT1.o.bel hb);have H29:Ud (∀ w' U,Ue w12 w'→TrT 0 w' (zD8 5 (vrX 120) (zF8 2 (vrX 121))) U→Calls prog 34 #[uB 3,.agg #[uB 1,uB 0,uW 1,uI 4,uT,uN],.agg #[uB 6,uB 5,uW 0,uI 0,uT,uL U]] w' (fun e w''=>∃ U:SV,e=.returned (.agg #[uB 6,uB 3,uW 0,uI 0,uT,uL U])∧TrT 0 w'' (zD8 3 (zW5 1 4) (zD8 5 (vrX 120) (zF8 2 (vrX 121)))) U∧Below w'.heap.size w' w'')):=Ph fun w' U hb hu=>biC 0 3 (zW5 1 4) (zD8 5 (vrX 120) (zF8 2 (vrX 121))) ⟨none,0,0⟩ U Yd w' (lV _) (zU9 (okN 1 4 Yd Yd Yd) rfl) hu;have H31:Ud (∀ w' U,Ue w12 w'→TrT 0 w' (zD8 3 (zW5 1 4) (zD8 5 (vrX 120) (zF8 2 (vrX 121)))) U→Calls prog 34 #[uB 13,.agg #[uB 6,uB 3,uW 0,uI 0,uT,uL U],.agg #[uB 5,uB 1,uW 0,uI 0,uT,uL S2]] w' (fun e w''=>∃ U:SV,e=.returned (.agg #[uB 6,uB 13,uW 0,uI 0,uT,uL U])∧TrT 0 w'' (zD8 13 (zD8 3 (zW5 1 4) (zD8 5 (vrX 120) (zF8 2 (vrX 121)))) (unX 1 (vrX 122))) U∧Below w'.heap.size w' w'')):=Ph fun w' U hb hu=>biC 0 13 (zD8 3 (zW5 1 4) (zD8 5 (vrX 120) (zF8 2 (vrX 121)))) (unX 1 (vrX 122)) U S2 Yd w' (lV _) hu (HT2.o.bel hb);have H33:Ud (∀ w' U,Ue w12 w'→TrT 0 w' (zD8 13 (zD8 3 (zW5 1 4) (zD8 5 (vrX 120) (zF8 2 (vrX 121)))) (unX 1 (vrX 122))) U→Calls prog 34 #[uB 8,.agg #[uB 6,uB 13,uW 0,uI 0,uT,uL U],.agg #[uB 3,uB 0,uW 0,uI 0,.string ⟨#[97]⟩,uL S3]] w' (fun e w''=>∃ U:SV,e=.returned (.agg #[uB 6,uB 8,uW 0,uI 0,uT,uL U])∧TrT 0 w'' (zD8 8 (zD8 13 (zD8 3 (zW5 1 4) (zD8 5 (vrX 120) (zF8 2 (vrX 121)))) (unX 1 (vrX 122))) (qN3 [97] (zW5 0 1))) U∧Below w'.heap.size w' w'')):=Ph fun w' U hb hu=>biC 0 8 (zD8 13 (zD8 3 (zW5 1 4) (zD8 5 (vrX 120) (zF8 2 (vrX 121)))) (unX 1 (vrX 122))) (qN3 [97] (zW5 0 1)) U S3 Yd w' (lV _) hu (HT3.o.bel hb);have H34:Ud (∀ w' U,Ue w12 w'→TrT 0 w' (zD8 8 (zD8 13 (zD8 3 (zW5 1 4) (zD8 5 (vrX 120) (zF8 2 (vrX 121)))) (unX 1 (vrX 122))) (qN3 [97] (zW5 0 1))) U→Calls prog 33 #[.string ⟨#[49,58,52,32,43,32,120,32,42,32,121,32,64,32,50,32,61,61,32,126,122,32,38,32,97,91,48,58,49,93]⟩,.agg #[uB 6,uB 8,uW 0,uI 0,uT,uL U]] w' (fun e w''=>e=.returned (.bool true)∧Below w'.heap.size w' w'')):=Ph fun w' U hb hu=>kC3 zA3 0 a1T (zD8 8 (zD8 13 (zD8 3 (zW5 1 4) (zD8 5 (vrX 120) (zF8 2 (vrX 121)))) (unX 1 (vrX 122))) (qN3 [97] (zW5 0 1))) U w' vM.h1 Yd (by decide +kernel) (Ph (HVV.o.below hb)) hu;have H41:Ud (∀ w',Ue w12 w'→Calls prog 33 #[.string ⟨#[99,32,63,32,49,58,50,32,58,32,100,32,63,32,120,32,58,32,121]⟩,.agg #[uB 7,uB 0,uW 0,uI 0,uT,.slice (some ⟨w'.heap.size,0,none⟩) 3 3]] (w'.alloc (.cells #[uB 2,uB 0,uW 0,uI 0,.string ⟨#[99]⟩,uN,uB 1,uB 0,uW 1,uI 2,uT,uN,uB 7,uB 0,uW 0,uI 0,uT,uL S5] 31)) (fun e w''=>e=.returned (.bool true)∧Below (w'.alloc (.cells #[uB 2,uB 0,uW 0,uI 0,.string ⟨#[99]⟩,uN,uB 1,uB 0,uW 1,uI 2,uT,uN,uB 7,uB 0,uW 0,uI 0,uT,uL S5] 31)).heap.size (w'.alloc (.cells #[uB 2,uB 0,uW 0,uI 0,.string ⟨#[99]⟩,uN,uB 1,uB 0,uW 1,uI 2,uT,uN,uB 7,uB 0,uW 0,uI 0,uT,uL S5] 31)) w'')):=Ph fun w' hb=>kC3 zA3 0 a2T (kC4 (vrX 99) (zW5 1 2) (kC4 (vrX 100) (vrX 120) (vrX 121))) ⟨some ⟨w'.heap.size,0,none⟩,3,3⟩ _ vM.h2 Yd (by decide +kernel) (Ph ((HVV.o.below hb).below zB)) (zB8 [((vrX 99),⟨none,0,0⟩),((zW5 1 2),⟨none,0,0⟩),((kC4 (vrX 100) (vrX 120) (vrX 121)),S5)] (okM _ _ _) rfl (qS4 (zU9 (okV 99) rfl) (zU9 (okN 1 2 Yd Yd Yd) rfl) (HT5.o.bel hb)));have H45:Ud (∀ w',Ue w12 w'→Calls prog 33 #[.string ⟨#[45,32,45,32,120]⟩,.agg #[uB 5,uB 2,uW 0,uI 0,uT,uL S4]] w' (fun e w''=>e=.returned (.bool true)∧Below w'.heap.size w' w'')):=Ph fun w' hb=>kC3 zA3 0 a3T (unX 2 (unX 2 (vrX 120))) S4 w' vM.h3 Yd (by decide +kernel) (Ph (HVV.o.below hb)) (HT4.o.bel hb);have HWA0:Ud (∀ w',Ue w12 w'→Calls prog 35 #[.string ⟨#[120,32,43]⟩,uI 3,uI 300] w' (fun e w''=>e=.returned (.bool true)∧Below w'.heap.size w' w'')):=Ph fun w' hb=>zK8 zA3 _ 3 300 w' vM.h4 Yd (Ph (HVV.o.below hb));have HWA1:Ud (∀ w',Ue w12 w'→Calls prog 35 #[.string ⟨#[40,120]⟩,uI 2,uI 300] w' (fun e w''=>e=.returned (.bool true)∧Below w'.heap.size w' w'')):=Ph fun w' hb=>zK8 zA3 _ 2 300 w' vM.h5 Yd (Ph (HVV.o.below hb));have HWA2:Ud (∀ w',Ue w12 w'→Calls prog 35 #[.string ⟨#[120,32,121]⟩,uI 2,uI 300] w' (fun e w''=>e=.returned (.bool true)∧Below w'.heap.size w' w'')):=Ph fun w' hb=>zK8 zA3 _ 2 300 w' vM.h6 Yd (Ph (HVV.o.below hb));have HWA3:Ud (∀ w',Ue w12 w'→Calls prog 35 #[.string ⟨#[119,104,105,108,101]⟩,uI 0,uI 300] w' (fun e w''=>e=.returned (.bool true)∧Below w'.heap.size w' w'')):=Ph fun w' hb=>zK8 zA3 _ 0 300 w' vM.h7 Yd (Ph (HVV.o.below hb));have HWA4:Ud (∀ w',Ue w12 w'→Calls prog 35 #[.string ⟨#[49,58,57,57,57,57,57,57,57,57,57,57]⟩,uI 0,uI 302] w' (fun e w''=>e=.returned (.bool true)∧Below w'.heap.size w' w'')):=Ph fun w' hb=>zK8 zA3 _ 0 302 w' vM.h8 Yd (Ph (HVV.o.below hb));clear HT1 HX1 HT2 HX2 HT3 HX3 HT4 HX4 HT5 HX5 HVV hv
 go_region_held3 (fun w'=>w'.cell? ⟨b1,0,none⟩=some (uB 8)∧w'.cell? ⟨b1,1,none⟩=some (uB 0)∧w'.cell? ⟨b1,2,none⟩=some (uW 0)∧w'.cell? ⟨b1,3,none⟩=some (uI 2)∧w'.cell? ⟨b1,4,none⟩=some (uT)∧w'.cell? ⟨b1,5,none⟩=some (uL S1)∧w'.cell? ⟨b2,0,none⟩=some (uB 5)∧w'.cell? ⟨b2,1,none⟩=some (uB 1)∧w'.cell? ⟨b2,2,none⟩=some (uW 0)∧w'.cell? ⟨b2,3,none⟩=some (uI 0)∧w'.cell? ⟨b2,4,none⟩=some (uT)∧w'.cell? ⟨b2,5,none⟩=some (uL S2)∧w'.cell? ⟨b3,0,none⟩=some (uB 3)∧w'.cell? ⟨b3,1,none⟩=some (uB 0)∧w'.cell? ⟨b3,2,none⟩=some (uW 0)∧w'.cell? ⟨b3,3,none⟩=some (uI 0)∧w'.cell? ⟨b3,4,none⟩=some (.string ⟨#[97]⟩)∧w'.cell? ⟨b3,5,none⟩=some (uL S3)∧w'.cell? ⟨b4,0,none⟩=some (uB 5)∧w'.cell? ⟨b4,1,none⟩=some (uB 2)∧w'.cell? ⟨b4,2,none⟩=some (uW 0)∧w'.cell? ⟨b4,3,none⟩=some (uI 0)∧w'.cell? ⟨b4,4,none⟩=some (uT)∧w'.cell? ⟨b4,5,none⟩=some (uL S4)∧w'.cell? ⟨b5,0,none⟩=some (uB 7)∧w'.cell? ⟨b5,1,none⟩=some (uB 0)∧w'.cell? ⟨b5,2,none⟩=some (uW 0)∧w'.cell? ⟨b5,3,none⟩=some (uI 0)∧w'.cell? ⟨b5,4,none⟩=some (uT)∧w'.cell? ⟨b5,5,none⟩=some (uL S5))
  ((refine(show SAW b1 b2 b3 b4 b5 S1 S2 S3 S4 S5 _ from ?_);first | with_reducible exact HSS.o _ HBC.o | with_reducible exact HSS.o _ (zG HBC.o _)))
  (first
    | (go_at_call 32
       with_reducible refine(nuC _ _ _).mono ?_
       rintro e v1 ⟨rfl,hb⟩;have HBn:=Ph (zU HBC.o hb);clear HBC hb;have HBC:=HBn;clear HBn)
    | (go_at_call 31
       with_reducible refine(nmC _ _).mono ?_
       rintro e v1 ⟨rfl,hb⟩;have HBn:=Ph (zU HBC.o hb);clear HBC hb;have HBC:=HBn;clear HBn)
    | (go_at_call 34
       first
        | with_reducible refine(H28.o _ HBC.o).mono ?_
        | with_reducible refine(H29.o _ _ HBC.o HU.o).mono ?_
        | with_reducible refine(H31.o _ _ HBC.o HU.o).mono ?_
        | with_reducible refine(H33.o _ _ HBC.o HU.o).mono ?_
       rintro e v1 ⟨U,rfl,ht,hb⟩;have HBn:=Ph (zU HBC.o hb);clear HBC hb;have HBC:=HBn;clear HBn;try clear HU
       have HU:=Ph ht;clear ht)
    | (go_at_call 33
       first
        | with_reducible refine(H34.o _ _ HBC.o HU.o).mono ?_
        | with_reducible refine(H41.o _ HBC.o).mono ?_
        | with_reducible refine(H45.o _ HBC.o).mono ?_
       rintro e v1 ⟨rfl,hb⟩
       first
        | (have HBn:=Ph (zU HBC.o hb))
        | (have HBn:=Ph (zU (zG HBC.o _) hb))
       clear HBC hb;have HBC:=HBn;clear HBn)
    | (go_at_call 35
       first
        | with_reducible refine(HWA0.o _ HBC.o).mono ?_
        | with_reducible refine(HWA1.o _ HBC.o).mono ?_
        | with_reducible refine(HWA2.o _ HBC.o).mono ?_
        | with_reducible refine(HWA3.o _ HBC.o).mono ?_
        | with_reducible refine(HWA4.o _ HBC.o).mono ?_
       rintro e v1 ⟨rfl,hb⟩;have HBn:=Ph (zU HBC.o hb);clear HBC hb;have HBC:=HBn;clear HBn))
 all_goals
  have HBF:=Ph (zU HB12.o HBC.o);go_wp2
  go_ret;exact⟨rfl,HBF.o⟩
end
theorem qY9:∀ l:List UInt8,vF (l++[32])=vF l
 | []=>Yd
 | c :: r=>by rw [lR];simp only [vF,qY9 r]
theorem qT6:∀ l:List UInt8,jT (l++[32])=jT l
 | []=>Yd
 | c :: r=>by rw [lR];simp only [jT,qT6 r]
theorem jR5:∀ l:List UInt8,jT l≤l.length
 | []=>by simp [jT]
 | c :: r=>by simp only [jT,Yc];have:=jR5 r;split <;> omega
theorem kU3 (c:UInt8) (r:List UInt8):xG (c :: (r++[32]))=xG (c :: r):=by
 cases r with
 | nil =>
   rw [cF,wW,zT4,qO1.s c];rfl
 | cons d r=>rw [lR,wW,wW]
theorem kW2 (l:List UInt8) (h:l≠[]):zC1 (l++[32])=zC1 l:=by
 cases l with
 | nil=>exact absurd rfl h
 | cons c r =>
   rw [lR,zC1,zC1,qY9,kU3];rw [←lR,qT6,List.drop_append_of_le_length (jR5 _)];generalize (c :: r).drop (jT (c :: r))=u;cases u with
   | nil=>rfl
   | cons d u =>
     cases u with
     | nil =>
       show(if qM c=true then _ else if zV c=true then(if d.toNat=58∧zV 32=true then _ else _) else _)=_;rw [lN (c:=d.toNat=58∧zV 32=true) (fun h=>by have:=h.2;revert this;decide)]
     | cons e u =>
       show(if qM c=true then _ else if zV c=true then(if d.toNat=58∧zV e=true then(3,jT (c :: r)+1+jT ((e :: u)++[32])) else _) else _)=_;rw [qT6]
theorem LexOk.un:∀ {A:List Pc} {u:List UInt8},LexOk A (u++[32])→LexOk A u
 | [],_,_=>trivial
 | p :: r,u,h=>by obtain⟨h1,h2,h3,h4,h5⟩:=h;obtain⟨g1,g2⟩:=zA5 h1 h4;refine⟨by rw [g1,g2];rfl,?_,h3,h4,h5.un⟩;rw [←lS,←lS,kW2 _ (by simp [h4])]at h2;rw [←h2,lS]
theorem LexOk.cut {A:List Pc} {c z:List UInt8} (h:LexOk A (c++z)):LexOk A c :=
 (h.sim ⟨c,z,32,[],rfl,rfl,qO1⟩).un
theorem kL6 {A B:List Pc} {p:Pc} (h:LexOk (A++p :: B) []):zY (jF A++p.gap) (kG (jF A++p.gap))=yI 0 A∧zI3 (kG (jF A++p.gap))=none:=by
 have hr:=LexOk.right A (p :: B) [] h;have hl:=LexOk.left A (p :: B) [] h;obtain⟨h1,h2,h3,h4,h5⟩:=hr;obtain⟨g1,g2⟩:=zA5 h1 h4;have hl':LexOk A p.gap:=by rw [zF,lS,lS]at hl;exact hl.cut
 refine zJ2 A p.gap hl' ?_;have:=g1 [];rw [cT]at this;rw [this];simp [jG]
section
open Go.RowKit Go.PlainAid
abbrev c23 (x:Gx) (v:GV) (u:Value):Array Value:=#[uI x.blocks,uI x.width,.slice v.is.A v.is.n v.is.c,.slice v.gs.A v.gs.n v.gs.c,.slice v.vs.A v.vs.n v.vs.c,.slice v.ar.A v.ar.n v.ar.c,uB x.require.kind,uB x.require.op,uW x.require.value,uI x.require.width,uR x.require.name,.slice v.rq.A v.rq.n v.rq.c,.slice v.ins.A v.ins.n v.ins.c,.slice v.ps.A v.ps.n v.ps.c,.slice v.wk.A v.wk.n v.wk.c,.slice v.rc.A v.rc.n v.rc.c,uB x.invariant.kind,uB x.invariant.op,uW x.invariant.value,uI x.invariant.width,uR x.invariant.name,.slice v.iv.A v.iv.n v.iv.c,u]
theorem jK8 {x:Gx} (h:MadeG x) (wide:Bool):(zH2 wide x).length≤60000:=by
 obtain⟨nb,hnb,_,_⟩:=h.b;obtain⟨wd,hwd,_,_⟩:=h.w;have a1:=jO nb Yo;have a2:=jO wd Yo;have a3:=qS2 h 4;have a4:=jS h.rq.sh wide;have a5:=h.rq.sz;have a6:=jS h.iv.sh wide;have a7:=h.iv.sz;have b1:=xQ (fun y hy=>(h.wk.all y hy).sh) wide (l:=x.work);have b2:=h.wk.sz;have b3:=xQ (fun y hy=>(h.rc.all y hy).sh) wide (l:=x.recover);have b4:=h.rc.sz;simp only [pd]at b2 b4;have c1:=zA2 (f:=zK7 wide) (M:=64) x.inits fun i hi=>by obtain⟨⟨kb,h2,h3⟩,h4⟩:=h.ins.1 i hi;have h5:=jS h4.sh wide;have h6:=h4.sz;have h7:=jO kb h3;unfold zK7;rw [h2];have h8:(bs " init ").length=6:=Yd;simp only [Int.toNat_natCast,Ya,Yc,Yn];omega
 have c2:=h.ins.2;have c3:64*x.inits.length≤64*3:=Nat.mul_le_mul_left _ c2;have c4:=zA2 (f:=zH6 wide) (M:=6000) x.procs fun r hr=>qH8 (h.ps.1 r hr) wide;have c5:=h.ps.2;have c6:6000*x.procs.length≤6000*1:=Nat.mul_le_mul_left _ c5;have e1:(bs "device ").length=7:=Yd;have e2:(bs " width ").length=7:=Yd;have e3:(bs " require ").length=9:=Yd;have e4:(bs "\nwork").length=5:=Yd;have e5:(bs "recover").length=7:=Yd;have e6:(bs "invariant ").length=10:=Yd;rw [qH9,vB,vB,hnb,hwd];simp only [Int.toNat_natCast,Ya,Yc,Yn];omega
end
section
open Go.RowKit Go.PlainAid
section
variable {w w':World} {kb gb mbx fb mb b off c k k':Nat} {l:List Nat} {toks:List Tk}
end
end
section
open Go.RowKit
section
variable {P:Program} {ops:Array Oper} {md:Region.Mode} {S:World→Prop} {Q:Exit→Act→World→Prop}
def qO6 (md:Region.Mode) (ops:Array Oper) (B:Array Bool→Bool):Nat→Nat→Array Bool→Bool
 | 0,_,listed=>B listed
 | f+1,k,listed=>(Region.ready md ops listed).contains k && Region.free md ops listed k && qO6 md ops B f (k+1) (listed.setIfInBounds k true)
theorem qJ8 (hsel:Region.noSelect ops=true) (hQ:∀ d v c (a:Act) w,Q (.panic c) (a.put d v) w→Q (.panic c) a w) {B:Array Bool→Bool} {g:Nat} {w:World} (hS:S w) {R:Act→Prop}
 (hfin:∀ listed a,B listed=true→R a→wpAnyH P md ops Q S g listed a w) :
 ∀ (l:List Oper) (k:Nat) (listed:Array Bool) (a:Act),(∀ j,j<l.length→l[j]?=ops[k+j]?)→qO6 md ops B l.length k listed=true→wpY P ops S R l a→wpAnyH P md ops Q S (l.length+g) listed a w
 | [],k,listed,a,_,hB,h=>by rw [Yn,Nat.zero_add];exact hfin listed a hB h
 | o :: l,k,listed,a,hl,hB,h=>by
   have h0:ops[k]?=some o:=by simpa using(hl 0 Ym).symm
   simp only [Yc,qO6,lZ]at hB;obtain⟨v,hy,hK⟩:=h;rw [Yc,show l.length+1+g=(l.length+g)+1 from by omega]
   exact wpAnyH_take h0 hsel hB.1.2 hB.1.1 (fun c a w=>hQ _ _ c a w) hy hS
    (qJ8 hsel hQ hS hfin l (k+1) _ _ (fun j hj=>by have:=hl (j+1) Yp;simpa [Nat.add_assoc,Nat.add_comm 1 j]using this) hB.2 hK)
def kT1 (md:Region.Mode) (ops:Array Oper) (n1 n2:Nat):Bool :=
 qO6 md ops (fun L=>decide (Region.ready md ops L=[n1]) && qO6 md ops (fun L2=>decide (Region.ready md ops L2=[n2]) && zK4 md ops (ops.size-n2-1) (n2+1) (L2.setIfInBounds n2 true)) (n2-n1-1) (n1+1) (L.setIfInBounds n1 true)) n1 0 (Array.replicate ops.size false)
theorem zW3 {id:Nat} {a:Act} {w:World} {l:List Oper} (n1 n2:Nat) (S:World→Prop) (hm:P.follows .mixedOrders=true) (hsel:Region.noSelect l.toArray=true) (hB:kT1 .any l.toArray n1 n2=true) (h12:n1<n2) (hn:n2<l.length) (hS:S w.drew)
 (h:wpY P l.toArray S (fun a1=>wpOp P l.toArray (kI9 Q) n1 (fun a2 w2=>S w2∧wpY P l.toArray S (fun a3=>wpOp P l.toArray (kI9 Q) n2 (fun a4 w4=>S w4∧wpY P l.toArray S (fun a5=>Q .normal a5 w4) (l.drop (n2+1)) a4) a3 w2) ((l.drop (n1+1)).take (n2-n1-1)) a2) a1 w.drew) (l.take n1) a) :
 (Code.region id l.toArray true).wp P Q a w:=by
 refine Code.wp_mono (Q:=kI9 Q) (fun e a w h=>by cases e <;> first | exact h | exact h.elim) ?_;have hQ:∀ d v c (a:Act) w,kI9 Q (.panic c) (a.put d v) w→kI9 Q (.panic c) a w:=fun _ _ _ _ _ h=>h.elim;have htl:(l.take n1).length=n1:=Yp;have hml:((l.drop (n1+1)).take (n2-n1-1)).length=n2-n1-1:=Yp;have hdl:(l.drop (n2+1)).length=l.toArray.size-n2-1:=Yp;refine wp_region_held (S:=S) hm ?_;unfold kT1 at hB
 have key:=qJ8 (P:=P) (ops:=l.toArray) (md:=.any) (S:=S) (Q:=kI9 Q) (B:=(fun L=>decide (Region.ready .any l.toArray L=[n1]) && qO6 .any l.toArray (fun L2=>decide (Region.ready .any l.toArray L2=[n2]) && zK4 .any l.toArray (l.toArray.size-n2-1) (n2+1) (L2.setIfInBounds n2 true)) (n2-n1-1) (n1+1) (L.setIfInBounds n1 true))) (g:=1+((n2-n1-1)+(1+(l.toArray.size-n2-1)))) hsel hQ hS
  (R:=fun a1=>wpOp P l.toArray (kI9 Q) n1 (fun a2 w2=>S w2∧wpY P l.toArray S (fun a3=>wpOp P l.toArray (kI9 Q) n2 (fun a4 w4=>S w4∧wpY P l.toArray S (fun a5=>Q .normal a5 w4) (l.drop (n2+1)) a4) a3 w2) ((l.drop (n1+1)).take (n2-n1-1)) a2) a1 w.drew)
  (fun listed a hL ha=>by
    simp only [lZ,cC]at hL;rw [Nat.add_comm 1];refine wpAnyH_all hL.1 Ym (fun i hi=>?_);obtain rfl:i=n1:=by simpa using hi
    refine wpOp_mono (fun a2 w2 h2=>⟨h2.1,?_⟩) ha
    have key2:=qJ8 (P:=P) (ops:=l.toArray) (md:=.any) (S:=S) (Q:=kI9 Q) (B:=(fun L2=>decide (Region.ready .any l.toArray L2=[n2]) && zK4 .any l.toArray (l.toArray.size-n2-1) (n2+1) (L2.setIfInBounds n2 true))) (g:=1+(l.toArray.size-n2-1)) hsel hQ h2.1
     (R:=fun a3=>wpOp P l.toArray (kI9 Q) n2 (fun a4 w4=>S w4∧wpY P l.toArray S (fun a5=>Q .normal a5 w4) (l.drop (n2+1)) a4) a3 w2)
     (fun listed a hL ha=>by
       simp only [lZ,cC]at hL;rw [Nat.add_comm 1];refine wpAnyH_all hL.1 Ym (fun i2 hi2=>?_);obtain rfl:i2=n2:=by simpa using hi2
       refine wpOp_mono (fun a4 w4 h4=>⟨h4.1,?_⟩) ha;rw [←hdl];exact qG7 (Q:=kI9 Q) hsel hQ h4.1 (fun a3 h3=>h3) (l.drop (i2+1)) (i2+1) _ a4 (fun j _=>by simp [List.getElem?_drop]) (by rw [hdl];exact hL.2) h4.2)
     ((l.drop (i+1)).take (n2-i-1)) (i+1) (listed.setIfInBounds i true) a2 (fun j hj=>by
       have hj':j<n2-i-1:=by rw [hml]at hj;exact hj
       simp [List.getElem?_take,List.getElem?_drop,hj']) (by rw [hml];exact hL.2) h2.2
    rw [hml]at key2;exact key2)
  (l.take n1) 0 (Array.replicate l.toArray.size false) a (fun j hj=>by
    have hj':j<n1:=by rw [htl]at hj;exact hj
    simp [hj']) (by rw [htl];exact hB) h
 rw [htl,show n1+(1+((n2-n1-1)+(1+(l.toArray.size-n2-1))))=l.toArray.size from by simp;omega]at key;exact key
end
end
section
open Go.RowKit Go.PlainAid
theorem MadeG.sz2 {x:Gx} (h:MadeG x):szG x≤20000:=by have:=h.sz;omega
theorem jR4:∀ (l:List Pc) (o:Nat) (t:Tk),t∈yI o l→t.fin=t.at'+t.text.length
 | [],o,t,h=>by simp [yI]at h
 | p :: l,o,t,h=>by
   simp only [yI,lU]at h;rcases h with rfl | h
   ·rfl
   ·exact jR4 l _ t h
theorem kE2 {p:Gx} {wide:Bool} (hg:zW8 p) (hf:kE1 p):∀ t∈yI 0 (pcG wide p),t.text=jL6 (zH2 wide p) t.at' t.fin∧t.at'≤t.fin∧t.fin≤(zH2 wide p).length:=by
 intro t ht;have h1:=(kI4 (wide:=wide) hg hf).2.1;have h2:t∈zY (zH2 wide p) (kG (zH2 wide p)):=by rw [h1];exact ht
 have h3:=jR4 _ 0 t ht;obtain⟨i,hi⟩:=List.getElem?_of_mem ht;have h4:=jJ9 _ 0 i t hi;rw [(qG6 hg).cat]at h4;unfold zY at h2;obtain⟨y,_,rfl⟩:=List.mem_map.1 h2;exact⟨rfl,Yo,Yo⟩
theorem jK1:∀ (l:List Tk) (j:Nat) (t:Tk) (i:Nat) (u:Value),l[j]?=some t→(zQ1 t)[i]?=some u→(l.flatMap zQ1)[j*3+i]?=some u
 | [],j,t,i,u,h,_=>by simp at h
 | s :: l,0,t,i,u,h,hu=>by
   obtain rfl:s=t:=by simpa using h
   have hi:i<3:=by
    rcases Nat.lt_or_ge i 3 with h | h
    ·exact h
    ·rw [cW (by rw [jA6];exact h)]at hu;cases hu
   rw [lQ,cI (by rw [jA6];omega)];simpa using hu
 | s :: l,j+1,t,i,u,h,hu=>by rw [lQ,cH (by rw [jA6];omega),jA6,show(j+1)*3+i-3=j*3+i from by omega];exact jK1 l j t i u (by simpa using h) hu
end
end Go.Proofs.YtfdaebgllibphaaGreatDoor
