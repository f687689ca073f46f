import Derived.Test.YtfdaebgllibphaaGreatDoorWap
set_option linter.unusedVariables false
set_option linter.unusedSimpArgs false
set_option maxRecDepth 100000
set_option maxHeartbeats 16000000
namespace Go.Proofs.YtfdaebgllibphaaGreatDoor
open Go.Proofs.Tryz
section
open Go.RowKit Go.PlainAid
def gx0:Gx:=⟨0,0,[],[],[],[],ex0,[],[],[],[],ex0⟩
inductive PgR (f:Nat) (t:List UInt8):Gx→List Nat→Nat→Nat→Prop where
 | bad (a:Nat) (h:zI3 (kG t)=some a):PgR f t gx0 [] a 280
 | ok (x:Gx) (q:QSt) (h:zI3 (kG t)=none) (hc:kH ⟨t,zY t (kG t)⟩ f ⟨⟨0,0,0,0⟩,[]⟩=some (x,q)) (he:q.s.e=0) (hn:(zY t (kG t)).length≤q.s.n):PgR f t x q.l t.length 0
 | rest (x:Gx) (q:QSt) (h:zI3 (kG t)=none) (hc:kH ⟨t,zY t (kG t)⟩ f ⟨⟨0,0,0,0⟩,[]⟩=some (x,q)) (he:q.s.e=0) (hn:q.s.n<(zY t (kG t)).length):PgR f t gx0 [] (qH ⟨t,zY t (kG t)⟩ q.s 300).fail 300
 | no (x:Gx) (q:QSt) (h:zI3 (kG t)=none) (hc:kH ⟨t,zY t (kG t)⟩ f ⟨⟨0,0,0,0⟩,[]⟩=some (x,q)) (he:q.s.e≠0):PgR f t gx0 [] q.s.fail q.s.e
def gv0:GV:=⟨⟨none,0,0⟩,⟨none,0,0⟩,⟨none,0,0⟩,⟨none,0,0⟩,⟨none,0,0⟩,⟨none,0,0⟩,⟨none,0,0⟩,⟨none,0,0⟩,⟨none,0,0⟩,⟨none,0,0⟩⟩
theorem kN8 (P:Nat→Prop) (w:World):GxP P w gx0 gv0:=⟨RowG.nil,RowG.nil,RowG.nil,RowG.nil,TX.leaf jG6 rfl,RowG.nil,RowG.nil,StsP.of RowG.nil,StsP.of RowG.nil,TX.leaf jG6 rfl⟩
theorem qB7 (B:Nat) (w:World):AtO B w ⟨none,0,0⟩ []:=World.ownsRow_nil _ _ _ _
theorem jU7 {g n r:Nat} (h:g<n) (hr:n≤r):g≠r:=Yo
def FrI (w w':World):Prop:=Fr (fun _=>False) w w'
section
variable {w w1 w':World} {B p r:Nat}
theorem FrI.refl (w:World):FrI w w:=Fr.refl _ w
theorem FrI.trans (h:FrI w w1) (k:FrI w1 w'):FrI w w':=Fr.trans h k
theorem FrI.of_below (h:Below w.heap.size w w'):FrI w w':=Fr.of_below h
theorem FrI.then (h:FrI w w1) (hb:Below w1.heap.size w1 w'):FrI w w':=h.trans (.of_below hb)
theorem FrI.box (h:FrI w w1) (hf:Fr (fun k=>k=r) w1 w') (hr:w.heap.size≤r):FrI w w':=Fr.then h hf fun i hi e=>Yo
theorem FrI.afterQ (h:FrI w w1) (k:FrQ B p w1 w') (hp:w.heap.size≤p) (hB:w.heap.size≤B):FrI w w':=Fr.then h k fun i hi e=>by rcases e with e | ⟨e,_⟩ <;> omega
theorem FrI.bk {t:TypeId} {cs:Array Value} (h:FrI w w') (hb:Bk w r t cs) (ht:t≠3):Bk w' r t cs:=hb.fr h (fun e=>e)
theorem FrI.stays {P:Nat→Prop} (h:FrI w w'):Stays P w w':=Stays.fr h (fun _ _ _ e=>e)
theorem FrI.keeps {t:TypeId} (h:FrI w w') (ht:t≠3):Keeps t w w':=Keeps.fr h fun b cs fr hb e=>e
theorem FrI.below (h:FrI w w'):Below w.heap.size w w':=Fr.below h _ (lF _) (fun _ _ e=>e)
end
def jG7 (w:World) (x:Gx) (l:List Nat) (a e:Nat) (en:Ending) (w':World):Prop:=∃ (v:GV) (Q:SV),en=.returned (.tuple #[.agg (zN5 x v).toArray,.slice Q.A Q.n Q.c,uI a,uI e])∧GxP (fun k=>w.heap.size≤k) w' x v∧AtO w.heap.size w' Q l∧Q.n=l.length∧FrI w w'∧Vars w'
theorem jG8 (f:Nat) (t:List UInt8) (a:Nat) (h:zI3 (kG t)=some a) (hs:t.length≤65536) (w:World) (hv:Ud (Vars w)) :
 Calls prog 42 #[uR t,uF 43] w (jG7 w gx0 [] a 280):=by
 have HS:Ud (∀ W,Calls prog 10 #[uR t] W (jN3 W t)):=Ph fun W=>jN4 (str t) W (by rw [jV];exact hs);obtain⟨h1,h2,h3,h4⟩:=qB1 w uP 36;have HR0:=Ph h1;have HN0:=Ph h2;have HB0:=Ph h3;have HZ0:=Ph h4;clear h1 h2 h3 h4;have HH:=Ph h;clear h;go_enter func42,ntmps42
 go_wp2_with fail
 generalize ((World.alloc _ _))=W at HR0 HN0 HB0 HZ0 ⊢;refine(HS.o W).mono ?_;rintro en w1 ⟨hb,⟨a1,h1,rfl⟩ | ⟨h1,_⟩⟩
 ·obtain rfl:a=a1:=by have:=HH.o;rw [h1]at this;injection this with this;exact this.symm
  have HR1:=Ph (zD HR0.o hb);have HN1:=Ph (zD HN0.o hb);have HB1:=Ph (zU HB0.o hb);clear hb h1;obtain⟨r,hr⟩:∃ r,w.heap.size=r:=⟨_,rfl⟩;obtain⟨m,hm⟩:∃ m,w.heap.size+1=m:=⟨_,rfl⟩;rw [hm]at HN1;rw [hr]at HR1;rw [hm,hr];have hrm:m≠r:=Yo;have hwr:w.heap.size≤r:=Yo;clear hr hm;have HRG:Ud (∀ W,W=w1.drew∨W=w1→W.rangeAt m 0 [uI 0,uI 0,uN,uN,uN,uN,uB 0,uB 0,uW 0,uI 0,uT,uN,uN,uN,uN,uN,uB 0,uB 0,uW 0,uI 0,uT,uN]):=Ph fun W h=>by rcases h with rfl | rfl <;> exact yM HN1.o
  have HTH:Ud (w1.there r 0 22):=Ph (zK2 HR1.o (lF _));have H1C:Ud ((uP:Array Value).all (·.oneCell')=true):=Ph (all_oneCell_toArray (xD gx0 gv0));go_wp2_with (first | (refine wpList_load_mid rfl 36 (.tmp 8) rfl m 0 rfl [uI 0,uI 0,uN,uN,uN,uN,uB 0,uB 0,uW 0,uI 0,uT,uN,uN,uN,uN,uN,uB 0,uB 0,uW 0,uI 0,uT,uN] _ (HRG.o _ (.inr rfl)) underlying36 rfl jR ?_) | (refine wpList_store_mid rfl 36 (.tmp 4) (.tmp 22) rfl r 0 uP rfl rfl HTH.o jR H1C.o ?_))
  have HF:=Ph (zO2 r [uI 0,uI 0,uN,uN,uN,uN,uB 0,uB 0,uW 0,uI 0,uT,uN,uN,uN,uN,uN,uB 0,uB 0,uW 0,uI 0,uT,uN] 0 w1);have HK:=Ph (zK3 (vs:=[uI 0,uI 0,uN,uN,uN,uN,uB 0,uB 0,uW 0,uI 0,uT,uN,uN,uN,uN,uN,uB 0,uB 0,uW 0,uI 0,uT,uN]) HR1.o rfl);generalize (w1.setCells r 0 [uI 0,uI 0,uN,uN,uN,uN,uB 0,uB 0,uW 0,uI 0,uT,uN,uN,uN,uN,uN,uB 0,uB 0,uW 0,uI 0,uT,uN])=WF at HF HK ⊢;have hld:=zA1 HK.o rfl;refine lK (v:=.tuple #[.agg uP,uN,uI a,uI 280]) (by exact wF (a:=4) (b:=5) (c:=6) (d:=7) results42 rfl hld) rfl ?_;exact⟨gv0,⟨none,0,0⟩,rfl,kN8 _ _,qB7 _ _,rfl,(FrI.of_below HB1.o).box HF.o hwr,hv.o.below (zB6 HB1.o hwr HF.o)⟩
 ·have:=HH.o;rw [h1]at this;cases this
theorem qB8 (f:Nat) (t:List UInt8) (x:Gx) (q:QSt) (h:zI3 (kG t)=none) (hc:kH ⟨t,zY t (kG t)⟩ f ⟨⟨0,0,0,0⟩,[]⟩=some (x,q)) (X:Gx) (l:List Nat) (a e:Nat) (hE:(q.s.e=0∧(zY t (kG t)).length≤q.s.n∧x=X∧q.l=l∧t.length=a∧0=e)∨(q.s.e=0∧q.s.n<(zY t (kG t)).length∧gx0=X∧[]=l∧(qH ⟨t,zY t (kG t)⟩ q.s 300).fail=a∧300=e)∨(q.s.e≠0∧gx0=X∧[]=l∧q.s.fail=a∧q.s.e=e)) (hs:t.length≤65536) (w:World) (hv:Ud (Vars w)) :
 Calls prog 42 #[uR t,uF 43] w (jG7 w X l a e):=by
 have HS:Ud (∀ W,Calls prog 10 #[uR t] W (jN3 W t)):=Ph fun W=>jN4 (str t) W (by rw [jV];exact hs);obtain⟨h1,h2,h3,h4⟩:=qB1 w uP 36;have HR0:=Ph h1;have HN0:=Ph h2;have HB0:=Ph h3;have HZ0:=Ph h4;clear h1 h2 h3 h4;have HC:=Ph hc;have HBD:=Ph h;have HEN:=Ph (qP8 t hs);obtain⟨T,hT⟩:∃ T,zY t (kG t)=T:=⟨_,rfl⟩;rw [hT]at HC HEN;have HE:=Ph hE;have HT:=Ph hT;clear hc h hE;clear hT;go_enter func42,ntmps42
 go_wp2_with fail
 generalize ((World.alloc _ _))=W at HR0 HN0 HB0 HZ0 ⊢;refine(HS.o W).mono ?_;rintro en w1 ⟨hb,⟨a1,h1,_⟩ | ⟨h1,A,c,rfl,hrd⟩⟩
 ·have:=HBD.o;rw [h1]at this;cases this
 rw [HT.o]at hrd ⊢;have HR1:=Ph (zD HR0.o hb);have HN1:=Ph (zD HN0.o hb);have HB1:=Ph (zU HB0.o hb);have HRD:=Ph hrd;have hz1:w.heap.size+2≤w1.heap.size:=by have:=HZ0.o;have:=hb.size;omega
 clear hb h1 hrd HR0 HN0 HB0 HZ0;have HWZ:Ud (w.heap.size≤w.heap.size):=Ph (lF _);obtain⟨B,hB⟩:∃ B,w.heap.size=B:=⟨_,rfl⟩;obtain⟨l0,l1⟩:=hv.o.lt;have hBp:=Bk.new w1 152 #[uR t,.slice A T.length c,uI 0,uI 0,uN,uI 0,uI 0];have HP2:Ud (Pq B (w1.alloc (.cells #[uR t,.slice A T.length c,uI 0,uI 0,uN,uI 0,uI 0] 152)) w1.heap.size ⟨t,T⟩ ⟨A,T.length,c,w1.heap.size⟩ ⟨⟨0,0,0,0⟩,[]⟩):=Ph ⟨⟨⟨none,0,0⟩,⟨hBp,HRD.o.below zB,HEN.o,lV _,(hv.o.below HB1.o).below zB,Yo,Yo,by rw [lO];exact Nat.le_succ _⟩,qB7 _ _,rfl⟩,Yo,Yo,by rw [lO];omega⟩;have HB2:Ud (Below w.heap.size w (w1.alloc (.cells #[uR t,.slice A T.length c,uI 0,uI 0,uN,uI 0,uI 0] 152))):=Ph (zG HB1.o _);have HR2:=Ph (HR1.o.alloc (.cells #[uR t,.slice A T.length c,uI 0,uI 0,uN,uI 0,uI 0] 152));have HN2:=Ph (HN1.o.alloc (.cells #[uR t,.slice A T.length c,uI 0,uI 0,uN,uI 0,uI 0] 152));obtain⟨r,hr⟩:∃ r,w.heap.size=r:=⟨_,rfl⟩;obtain⟨m,hm⟩:∃ m,w.heap.size+1=m:=⟨_,rfl⟩;rw [hm]at HN2;rw [hr]at HR2;rw [hm,hr];have hrm:m≠r:=Yo;have hwr:w.heap.size≤r:=Yo;have hBr:B≤r:=Yo;have hr1:r<w1.heap.size:=Yo;have hm1:m<w1.heap.size:=Yo;have HBW:Ud (w.heap.size=B):=Ph hB;clear hr hm hz1 hB;clear hBp HR1 HN1 HB1 HRD l0 l1;go_upto_region 6 with fail
 have hz2:(w1.alloc (.cells #[uR t,.slice A T.length c,uI 0,uI 0,uN,uI 0,uI 0] 152)).heap.size=w1.heap.size+1:=by rw [lO]
 generalize (w1.alloc _)=W2 at HP2 HB2 HR2 HN2 hz2 ⊢;obtain⟨p,hp⟩:∃ p,w1.heap.size=p:=⟨_,rfl⟩;rw [hp]at HP2;rw [hp];have hrp:r≠p:=Yo;have hmp:m≠p:=Yo;have hr2:r<W2.heap.size:=Yo;have hwp:w.heap.size≤p:=by have:=hr1;omega
 have hp2:p<W2.heap.size:=Yo;clear hp hz2 hr1 hm1;have HEC:=Ph (jQ1 f _ x q HC.o W2 HP2 (by show 0≤800000000;decide));go_wp2_with fail
 refine HEC.o.mono ?_;rintro en w3 ⟨v,rfl,ht,hpq⟩;unfold zN5;have hw2:w.heap.size≤W2.heap.size:=HB2.o.size;have HX3:Ud (GxP (fun k=>w.heap.size≤k) w3 x v):=Ph (itG.mono _ _ _ _ _ (fun k _ hk=>lE hw2 hk) ht);have HR3:=Ph (hpq.bk HR2.o Yd hrp);have HN3:=Ph (hpq.bk HN2.o Yd hmp);have HP3:=Ph hpq.pq;have HB3:Ud (FrI w w3):=Ph ((FrI.of_below HB2.o).afterQ hpq.fr hwp (Nat.le_of_eq HBW.o));have hw23:W2.heap.size≤w3.heap.size:=hpq.fr.size;clear ht hpq HEC HR2 HN2 hw2;have HYB:=Ph (Bk.new w3 36 (uG x v));have HP4:=Ph (HP3.o.below (zB (o:=(.cells (uG x v) 36))));have HR4:=Ph (HR3.o.alloc (.cells (uG x v) 36));have HN4:=Ph (HN3.o.alloc (.cells (uG x v) 36));have HB4:=Ph (HB3.o.then (zB (o:=(.cells (uG x v) 36))));have HX4:=Ph (itG.stay _ _ _ _ _ (Stays.below (zB (o:=(.cells (uG x v) 36)))) HX3.o);have hwx:r<w3.heap.size:=Yo;have hpx:p<w3.heap.size:=HP3.o.lt;clear HP3 HR3 HN3 HB3 HX3 hw23;have H1G:Ud (((uG x v):Array Value).all (·.oneCell')=true):=Ph (all_oneCell_toArray (xD x v));go_upto_region 7 with(refine yN rfl 36 (.tmp 13) (.tmp 31) rfl w3 uP (uG x v) rfl rfl jR rfl H1G.o ?_)
 clear H1G;generalize (w3.alloc _)=W4 at HYB HP4 HR4 HN4 HB4 HX4 ⊢;obtain⟨g,hg⟩:∃ g,w3.heap.size=g:=⟨_,rfl⟩;rw [hg]at HYB;rw [hg];have hgr:g≠r:=Yo;have hgp:g≠p:=Yo;have hpr:p≠r:=cX hrp;clear hg hwx hpx;obtain⟨Q',hps,hat,hQn⟩:=HP4.o.ex;have HPS:=Ph hps;have HAT:=Ph hat;have HQN:=Ph hQn;clear hps hat hQn;obtain⟨g0,g1,g2,g3,g4,g5,g6⟩:=HPS.o.cells;(try dsimp only at g0 g1 g2 g3 g4 g5 g6);rcases HE.o with⟨he,hn,rfl,rfl,rfl,rfl⟩ | ⟨he,hn,rfl,rfl,rfl,rfl⟩ | ⟨he,rfl,rfl,rfl,rfl⟩;all_goals clear HE
 ·rw [HT.o]at hn;have e1:((q.s.e:Int) == 0)=true:=Yp;have e2:((q.s.e:Int) != 0)=false:=Yp;have e3:decide (q.s.n<T.length)=false:=Yp;have hls:(str t).size=t.length:=jV t;clear he;have HVR:=Ph HPS.o.vr;have HVL:=Ph hv.o.lt;go_upto_region 11 with fail
  obtain⟨WS,hst,hsf,hsb⟩:=zO3 (w:=W4.drew) (vs:=[uI x.blocks,uI x.width,uL v.is,uL v.gs,uL v.vs,uL v.ar,uB x.require.kind,uB x.require.op,uW x.require.value,uI x.require.width,uR x.require.name,uL v.rq,uL v.ins,uL v.ps,uL v.wk,uL v.rc,uB x.invariant.kind,uB x.invariant.op,uW x.invariant.value,uI x.invariant.width,uR x.invariant.name,uL v.iv]) HR4.o rfl rfl (xD x v);have HST:=Ph hst;have HF:Ud (Fr (fun k=>k=r) W4 WS):=Ph (((Fr.refl (fun k=>k=r) W4).drew).trans hsf);have HK:=Ph hsb;have HPW:=(HPS.o.below (lB _ _).drew).cells;have HPS1:=(HPS.o.box HR4.o Yd hpr (by have:=hv.o.lt;omega) (by have:=hv.o.lt;omega) HF.o).cells;obtain⟨g0,g1,g2,g3,g4,g5,g6⟩:=HPW;obtain⟨k0,k1,k2,k3,k4,k5,k6⟩:=HPS1;(try dsimp only at g0 g1 g2 g3 g4 g5 g6 k0 k1 k2 k3 k4 k5 k6);clear hst hsf hsb;refine wY 7 (fun w'=>w'=W4.drew∨w'=WS) Yk Yk Yk Yd (.inl rfl) ?_;simp only [cR,List.take_zero,List.drop_succ_cons,List.drop_zero];refine⟨_,yieldsIf_load_mid Yr 36 (.tmp 13) rfl g 0 rfl [uI x.blocks,uI x.width,uL v.is,uL v.gs,uL v.vs,uL v.ar,uB x.require.kind,uB x.require.op,uW x.require.value,uI x.require.width,uR x.require.name,uL v.rq,uL v.ins,uL v.ps,uL v.wk,uL v.rc,uB x.invariant.kind,uB x.invariant.op,uW x.invariant.value,uI x.invariant.width,uR x.invariant.name,uL v.iv] _ (fun w hw=>?_) underlying36 rfl jR,?_⟩
  ·rcases hw with rfl | rfl
   ·exact yM (w:=W4.drew) HYB.o
   ·exact yM (HYB.o.fr HF.o (fun e=>hgr e))
  go_frame;refine⟨uQ p 0,Or.inl ⟨Yr,fun w hw=>?_⟩,?_⟩
  ·rcases hw with rfl | rfl <;> go_simp
  go_frame;refine⟨uQ p 0,Or.inl ⟨Yr,fun w hw=>?_⟩,?_⟩
  ·rcases hw with rfl | rfl <;> go_simp
  go_frame;refine⟨uQ p 4,Or.inl ⟨Yr,fun w hw=>?_⟩,?_⟩
  ·rcases hw with rfl | rfl <;> go_simp
  go_frame;refine⟨uL Q',Or.inl ⟨Yr,fun w hw=>?_⟩,?_⟩
  ·rcases hw with rfl | rfl <;> go_simp
  go_frame;refine⟨uR t,Or.inl ⟨Yr,fun w hw=>?_⟩,?_⟩
  ·rcases hw with rfl | rfl <;> go_simp
  go_frame;refine⟨uI t.length,Or.inl ⟨Yr,fun w hw=>?_⟩,?_⟩
  ·rcases hw with rfl | rfl <;> go_simp
  go_frame;refine zO4 ?_;refine wT rfl rfl (fun K hK=>?_);refine zU4 36 (.tmp 4) (.tmp 62) rfl _ _ rfl rfl HST.o ?_;refine hK _ _ ⟨.inr rfl,?_⟩;clear hK K;simp only [Act.put,List.getElem_toArray,List.getElem_cons_succ,List.getElem_cons_zero];refine⟨uL Q',Or.inl ⟨Yr,fun w hw=>?_⟩,?_⟩
  ·go_simp
  go_frame;refine⟨uI t.length,Or.inl ⟨Yr,fun w hw=>?_⟩,?_⟩
  ·go_simp
  go_frame;refine⟨uI 0,Or.inl ⟨Yr,fun w hw=>?_⟩,?_⟩
  ·go_simp
  go_frame;refine zO4 ?_;go_wp2_with fail
  have hld:=zA1 (cs:=[uI x.blocks,uI x.width,uL v.is,uL v.gs,uL v.vs,uL v.ar,uB x.require.kind,uB x.require.op,uW x.require.value,uI x.require.width,uR x.require.name,uL v.rq,uL v.ins,uL v.ps,uL v.wk,uL v.rc,uB x.invariant.kind,uB x.invariant.op,uW x.invariant.value,uI x.invariant.width,uR x.invariant.name,uL v.iv]) HK.o rfl;refine lK (v:=.tuple #[.agg (uG x v),uL Q',uI t.length,uI 0]) (by exact wF (a:=4) (b:=5) (c:=6) (d:=7) results42 rfl hld) rfl ?_;exact⟨v,Q',rfl,itG.stay _ _ _ _ _ (Stays.box HF.o HR4.o xT) HX4.o,HBW.o.symm▸jP HAT.o HF.o (fun k hk e=>yR HAT.o HR4.o Yd (by rw [hk,e])),HQN.o,HB4.o.box HF.o hwr,HVR.o.fr HF.o (fun e=>jU7 HVL.o.1 hwr e) (fun e=>jU7 HVL.o.2 hwr e)⟩
 ·rw [HT.o]at hn;obtain⟨s2,hs2⟩:∃ s2,qH ⟨t,T⟩ q.s 300=s2:=⟨_,rfl⟩;have HA:Ud ((qH ⟨t,zY t (kG t)⟩ q.s 300).fail=s2.fail):=Ph (by rw [HT.o,hs2]);have he3:Ud (s2.e=300):=Ph (by rw [←hs2];unfold qH;rw [lM he]);have HS2:=Ph hs2;clear hs2;have e1:((q.s.e:Int) == 0)=true:=Yp;have e3:decide (q.s.n<T.length)=true:=Yp;have HWC:=Ph (zG2 p ⟨t,T⟩ ⟨A,T.length,c,p⟩ Q' q.s 300 W4 HPS);rw [HS2.o]at HWC;clear he;go_wp2_with fail
  refine HWC.o.mono ?_;rintro en w5 ⟨⟨v9,rfl⟩,hp⟩;have HP5:=Ph hp.ps;have HR5:=Ph (hp.bk HR4.o hrp);have HN5:=Ph (hp.bk HN4.o hmp);have HB5:=Ph (HB4.o.box hp.fr hwp);clear hp HP4 HR4 HN4 HB4 HWC g0 g1 g2 g3 g4 g5 g6 HPS HAT HX4;obtain⟨g0,g1,g2,g3,g4,g5,g6⟩:=HP5.o.cells;(try dsimp only at g0 g1 g2 g3 g4 g5 g6);rw [he3.o]at g6;have HVR:=Ph HP5.o.vr;have HVL:=Ph hv.o.lt;go_upto_region 10 with fail
  obtain⟨WS,hst,hsf,hsb⟩:=zO3 (w:=w5.drew) (vs:=[uI 0,uI 0,uN,uN,uN,uN,uB 0,uB 0,uW 0,uI 0,uT,uN,uN,uN,uN,uN,uB 0,uB 0,uW 0,uI 0,uT,uN]) HR5.o rfl rfl (xD gx0 gv0);have HST:=Ph hst;have HF:Ud (Fr (fun k=>k=r) w5 WS):=Ph (((Fr.refl (fun k=>k=r) w5).drew).trans hsf);have HK:=Ph hsb;have HPW:=(HP5.o.below (lB _ _).drew).cells;have HPS1:=(HP5.o.box HR5.o Yd hpr (by have:=hv.o.lt;omega) (by have:=hv.o.lt;omega) HF.o).cells;obtain⟨g0,g1,g2,g3,g4,g5,g6⟩:=HPW;obtain⟨k0,k1,k2,k3,k4,k5,k6⟩:=HPS1;(try dsimp only at g0 g1 g2 g3 g4 g5 g6 k0 k1 k2 k3 k4 k5 k6);rw [he3.o]at g6 k6;clear hst hsf hsb;refine wY 9 (fun w'=>w'=w5.drew∨w'=WS) Yk Yk Yk Yd (.inl rfl) ?_;simp only [cR,List.take_zero,List.drop_succ_cons,List.drop_zero];refine⟨_,yieldsIf_load_mid Yr 36 (.tmp 8) rfl m 0 rfl [uI 0,uI 0,uN,uN,uN,uN,uB 0,uB 0,uW 0,uI 0,uT,uN,uN,uN,uN,uN,uB 0,uB 0,uW 0,uI 0,uT,uN] _ (fun w hw=>?_) underlying36 rfl jR,?_⟩
  ·rcases hw with rfl | rfl
   ·exact yM (w:=w5.drew) HN5.o
   ·exact yM (HN5.o.fr HF.o (fun e=>hrm e))
  go_frame;refine⟨uQ p 0,Or.inl ⟨Yr,fun w hw=>?_⟩,?_⟩
  ·rcases hw with rfl | rfl <;> go_simp
  go_frame;refine⟨uQ p 0,Or.inl ⟨Yr,fun w hw=>?_⟩,?_⟩
  ·rcases hw with rfl | rfl <;> go_simp
  go_frame;refine⟨uQ p 5,Or.inl ⟨Yr,fun w hw=>?_⟩,?_⟩
  ·rcases hw with rfl | rfl <;> go_simp
  go_frame;refine⟨uI s2.fail,Or.inl ⟨Yr,fun w hw=>?_⟩,?_⟩
  ·rcases hw with rfl | rfl <;> go_simp
  go_frame;refine⟨uQ p 0,Or.inl ⟨Yr,fun w hw=>?_⟩,?_⟩
  ·rcases hw with rfl | rfl <;> go_simp
  go_frame;refine⟨uQ p 0,Or.inl ⟨Yr,fun w hw=>?_⟩,?_⟩
  ·rcases hw with rfl | rfl <;> go_simp
  go_frame;refine⟨uQ p 6,Or.inl ⟨Yr,fun w hw=>?_⟩,?_⟩
  ·rcases hw with rfl | rfl <;> go_simp
  go_frame;refine⟨uI 300,Or.inl ⟨Yr,fun w hw=>?_⟩,?_⟩
  ·rcases hw with rfl | rfl <;> go_simp
  go_frame;refine zO4 ?_;refine wT rfl rfl (fun K hK=>?_);refine zU4 36 (.tmp 4) (.tmp 53) rfl _ _ rfl rfl HST.o ?_;refine hK _ _ ⟨.inr rfl,?_⟩;clear hK K;simp only [Act.put,List.getElem_toArray,List.getElem_cons_succ,List.getElem_cons_zero];refine⟨uN,Or.inl ⟨Yr,fun w hw=>?_⟩,?_⟩
  ·go_simp
  go_frame;refine⟨uI s2.fail,Or.inl ⟨Yr,fun w hw=>?_⟩,?_⟩
  ·go_simp
  go_frame;refine⟨uI 300,Or.inl ⟨Yr,fun w hw=>?_⟩,?_⟩
  ·go_simp
  go_frame;refine zO4 ?_;go_wp2_with fail
  have hld:=zA1 (cs:=[uI 0,uI 0,uN,uN,uN,uN,uB 0,uB 0,uW 0,uI 0,uT,uN,uN,uN,uN,uN,uB 0,uB 0,uW 0,uI 0,uT,uN]) HK.o rfl;refine lK (v:=.tuple #[.agg uP,uN,uI s2.fail,uI 300]) (by exact wF (a:=4) (b:=5) (c:=6) (d:=7) results42 rfl hld) rfl ?_;exact⟨gv0,⟨none,0,0⟩,by rw [HA.o];rfl,kN8 _ _,qB7 _ _,rfl,HB5.o.box HF.o hwr,HVR.o.fr HF.o (fun e=>jU7 HVL.o.1 hwr e) (fun e=>jU7 HVL.o.2 hwr e)⟩
 ·have e1:((q.s.e:Int) == 0)=false:=by simp;omega
  have e2:((q.s.e:Int) != 0)=true:=Yp;clear he;have HVR:=Ph HPS.o.vr;have HVL:=Ph hv.o.lt;go_upto_region 10 with fail
  obtain⟨WS,hst,hsf,hsb⟩:=zO3 (w:=W4.drew) (vs:=[uI 0,uI 0,uN,uN,uN,uN,uB 0,uB 0,uW 0,uI 0,uT,uN,uN,uN,uN,uN,uB 0,uB 0,uW 0,uI 0,uT,uN]) HR4.o rfl rfl (xD gx0 gv0);have HST:=Ph hst;have HF:Ud (Fr (fun k=>k=r) W4 WS):=Ph (((Fr.refl (fun k=>k=r) W4).drew).trans hsf);have HK:=Ph hsb;have HPW:=(HPS.o.below (lB _ _).drew).cells;have HPS1:=(HPS.o.box HR4.o Yd hpr (by have:=hv.o.lt;omega) (by have:=hv.o.lt;omega) HF.o).cells;obtain⟨g0,g1,g2,g3,g4,g5,g6⟩:=HPW;obtain⟨k0,k1,k2,k3,k4,k5,k6⟩:=HPS1;(try dsimp only at g0 g1 g2 g3 g4 g5 g6 k0 k1 k2 k3 k4 k5 k6);clear hst hsf hsb;refine wY 9 (fun w'=>w'=W4.drew∨w'=WS) Yk Yk Yk Yd (.inl rfl) ?_;simp only [cR,List.take_zero,List.drop_succ_cons,List.drop_zero];refine⟨_,yieldsIf_load_mid Yr 36 (.tmp 8) rfl m 0 rfl [uI 0,uI 0,uN,uN,uN,uN,uB 0,uB 0,uW 0,uI 0,uT,uN,uN,uN,uN,uN,uB 0,uB 0,uW 0,uI 0,uT,uN] _ (fun w hw=>?_) underlying36 rfl jR,?_⟩
  ·rcases hw with rfl | rfl
   ·exact yM (w:=W4.drew) HN4.o
   ·exact yM (HN4.o.fr HF.o (fun e=>hrm e))
  go_frame;refine⟨uQ p 0,Or.inl ⟨Yr,fun w hw=>?_⟩,?_⟩
  ·rcases hw with rfl | rfl <;> go_simp
  go_frame;refine⟨uQ p 0,Or.inl ⟨Yr,fun w hw=>?_⟩,?_⟩
  ·rcases hw with rfl | rfl <;> go_simp
  go_frame;refine⟨uQ p 5,Or.inl ⟨Yr,fun w hw=>?_⟩,?_⟩
  ·rcases hw with rfl | rfl <;> go_simp
  go_frame;refine⟨uI q.s.fail,Or.inl ⟨Yr,fun w hw=>?_⟩,?_⟩
  ·rcases hw with rfl | rfl <;> go_simp
  go_frame;refine⟨uQ p 0,Or.inl ⟨Yr,fun w hw=>?_⟩,?_⟩
  ·rcases hw with rfl | rfl <;> go_simp
  go_frame;refine⟨uQ p 0,Or.inl ⟨Yr,fun w hw=>?_⟩,?_⟩
  ·rcases hw with rfl | rfl <;> go_simp
  go_frame;refine⟨uQ p 6,Or.inl ⟨Yr,fun w hw=>?_⟩,?_⟩
  ·rcases hw with rfl | rfl <;> go_simp
  go_frame;refine⟨uI q.s.e,Or.inl ⟨Yr,fun w hw=>?_⟩,?_⟩
  ·rcases hw with rfl | rfl <;> go_simp
  go_frame;refine zO4 ?_;refine wT rfl rfl (fun K hK=>?_);refine zU4 36 (.tmp 4) (.tmp 53) rfl _ _ rfl rfl HST.o ?_;refine hK _ _ ⟨.inr rfl,?_⟩;clear hK K;simp only [Act.put,List.getElem_toArray,List.getElem_cons_succ,List.getElem_cons_zero];refine⟨uN,Or.inl ⟨Yr,fun w hw=>?_⟩,?_⟩
  ·go_simp
  go_frame;refine⟨uI q.s.fail,Or.inl ⟨Yr,fun w hw=>?_⟩,?_⟩
  ·go_simp
  go_frame;refine⟨uI q.s.e,Or.inl ⟨Yr,fun w hw=>?_⟩,?_⟩
  ·go_simp
  go_frame;refine zO4 ?_;go_wp2_with fail
  have hld:=zA1 (cs:=[uI 0,uI 0,uN,uN,uN,uN,uB 0,uB 0,uW 0,uI 0,uT,uN,uN,uN,uN,uN,uB 0,uB 0,uW 0,uI 0,uT,uN]) HK.o rfl;refine lK (v:=.tuple #[.agg uP,uN,uI q.s.fail,uI q.s.e]) (by exact wF (a:=4) (b:=5) (c:=6) (d:=7) results42 rfl hld) rfl ?_;exact⟨gv0,⟨none,0,0⟩,rfl,kN8 _ _,qB7 _ _,rfl,HB4.o.box HF.o hwr,HVR.o.fr HF.o (fun e=>jU7 HVL.o.1 hwr e) (fun e=>jU7 HVL.o.2 hwr e)⟩
theorem kN9 (f:Nat) (t:List UInt8) (x:Gx) (l:List Nat) (a e:Nat) (hx:PgR f t x l a e) (hs:t.length≤65536) (w:World) (hv:Ud (Vars w)) :
 Calls prog 42 #[uR t,uF 43] w (jG7 w x l a e):=by
 cases hx with
 | bad a h=>exact jG8 f t a h hs w hv
 | ok x q h hc he hn=>exact qB8 f t x q h hc _ _ _ _ (.inl ⟨he,hn,rfl,rfl,rfl,rfl⟩) hs w hv
 | rest x q h hc he hn=>exact qB8 f t x q h hc _ _ _ _ (.inr (.inl ⟨he,hn,rfl,rfl,rfl,rfl⟩)) hs w hv
 | no x q h hc he=>exact qB8 f t x q h hc _ _ _ _ (.inr (.inr ⟨he,rfl,rfl,rfl,rfl⟩)) hs w hv
end
section
open Go.RowKit Go.PlainAid
def qN1 (w:World) (x:Gx) (l:List Nat) (a e:Nat) (en:Ending) (w':World):Prop:=∃ (v:GV) (Q:SV),en=.returned (.tuple #[.agg #[uI x.blocks,uI x.width,.slice v.is.A v.is.n v.is.c,.slice v.gs.A v.gs.n v.gs.c,.slice v.vs.A v.vs.n v.vs.c,.slice v.ar.A v.ar.n v.ar.c,uB x.require.kind,uB x.require.op,uW x.require.value,uI x.require.width,uR x.require.name,.slice v.rq.A v.rq.n v.rq.c,.slice v.ins.A v.ins.n v.ins.c,.slice v.ps.A v.ps.n v.ps.c,.slice v.wk.A v.wk.n v.wk.c,.slice v.rc.A v.rc.n v.rc.c,uB x.invariant.kind,uB x.invariant.op,uW x.invariant.value,uI x.invariant.width,uR x.invariant.name,.slice v.iv.A v.iv.n v.iv.c,.slice Q.A Q.n Q.c],uI a,uI e])∧GxP (fun k=>w.heap.size≤k) w' x v∧AtO w.heap.size w' Q l∧Q.n=l.length∧FrI w w'∧Vars w'
theorem qG9 {B B':Nat} {w:World} {e:TypeId} {s n:Nat} {v:Value} {xs:List Value} (h:w.ownsRow B' e s v n xs) (hb:B≤B'):w.ownsRow B e s v n xs:=by
 refine⟨h.1,?_⟩;rcases h.2 with h0 | ⟨g',cap,cur,h0,h1,rest⟩
 ·exact .inl h0
 ·exact .inr ⟨g',cap,cur,h0,lE hb h1,rest⟩
theorem qB9:(prog.info? 47).map (·.size)=some 23:=Yk
theorem zY5 (x:Gx) (v:GV) (Q:SV):∀ u∈([uI x.blocks,uI x.width,.slice v.is.A v.is.n v.is.c,.slice v.gs.A v.gs.n v.gs.c,.slice v.vs.A v.vs.n v.vs.c,.slice v.ar.A v.ar.n v.ar.c,uB x.require.kind,uB x.require.op,uW x.require.value,uI x.require.width,uR x.require.name,.slice v.rq.A v.rq.n v.rq.c,.slice v.ins.A v.ins.n v.ins.c,.slice v.ps.A v.ps.n v.ps.c,.slice v.wk.A v.wk.n v.wk.c,.slice v.rc.A v.rc.n v.rc.c,uB x.invariant.kind,uB x.invariant.op,uW x.invariant.value,uI x.invariant.width,uR x.invariant.name,.slice v.iv.A v.iv.n v.iv.c,.slice Q.A Q.n Q.c]:List Value),u.oneCell'=true:=by intro u hu;simp only [lU,lT,or_false]at hu;rcases hu with rfl | rfl | rfl | rfl | rfl | rfl | rfl | rfl | rfl | rfl | rfl | rfl | rfl | rfl | rfl | rfl | rfl | rfl | rfl | rfl | rfl | rfl | rfl <;> rfl
theorem jQ2 {w:World} {r:Nat} {cs:List Value} (h:Bk w r 47 cs.toArray) (hl:cs.length=23):(loadVar 47 ⟨r,0,none⟩).run prog w=.ok (.agg cs.toArray) w :=
 run_loadVar_mid w r 0 _ cs _ (yM h) underlying47 rfl (by rw [hl];exact qB9)
theorem jU8 (f:Nat) (t:List UInt8) (x:Gx) (l:List Nat) (a e:Nat) (hx:PgR f t x l a e) (hs:t.length≤65536) (w:World) (hv:Ud (Vars w)):Calls prog 11 #[uR t] w (qN1 w x l a e):=by
 have HB0:Ud (Ue w (w.alloc (.cells #[uI 0,uI 0,uN,uN,uN,uN,uB 0,uB 0,uW 0,uI 0,uT,uN,uN,uN,uN,uN,uB 0,uB 0,uW 0,uI 0,uT,uN,uN] 47))):=zB;have HR0:=Ph (Bk.new w 47 #[uI 0,uI 0,uN,uN,uN,uN,uB 0,uB 0,uW 0,uI 0,uT,uN,uN,uN,uN,uN,uB 0,uB 0,uW 0,uI 0,uT,uN,uN]);have hz:(w.alloc (.cells #[uI 0,uI 0,uN,uN,uN,uN,uB 0,uB 0,uW 0,uI 0,uT,uN,uN,uN,uN,uN,uB 0,uB 0,uW 0,uI 0,uT,uN,uN] 47)).heap.size=w.heap.size+1:=lO _ _;have HRD:=Ph (kN9 f t x l a e hx hs (w.alloc (.cells #[uI 0,uI 0,uN,uN,uN,uN,uB 0,uB 0,uW 0,uI 0,uT,uN,uN,uN,uN,uN,uB 0,uB 0,uW 0,uI 0,uT,uN,uN] 47)) (Ph (hv.o.below HB0.o)));clear hx;go_enter func11,ntmps11
 go_wp2_with fail
 generalize (w.alloc _)=W at HB0 HR0 hz HRD ⊢;refine HRD.o.mono ?_;rintro en w1 ⟨v,Q,rfl,hg,hat,hqn,hfr,hvr⟩;unfold zN5;obtain⟨r,hr⟩:∃ r,w.heap.size=r:=⟨_,rfl⟩;rw [hr]at HR0;have HFR:Ud (FrI w w1):=Ph ((FrI.of_below HB0.o).trans hfr);have HR1:=Ph (hfr.bk HR0.o Yd);have HG1:Ud (GxP (fun k=>w.heap.size≤k) w1 x v):=Ph (itG.mono _ _ _ _ _ (fun k _ hk=>by have h9:W.heap.size≤k:=hk;show w.heap.size≤k;omega) hg);have HAT:Ud (AtO W.heap.size w1 Q l):=Ph hat;have HQN:=Ph hqn;have HVR:=Ph hvr;have hsz:W.heap.size≤w1.heap.size:=hfr.size;have H1G:Ud (((uG x v):Array Value).all (·.oneCell')=true):=Ph (all_oneCell_toArray (xD x v));rw [hr];have hwr:w.heap.size≤r:=Nat.le_of_eq hr;have hWr:r<W.heap.size:=Yo;have hWB:w.heap.size≤W.heap.size:=Yo;clear hg hat hqn hfr hvr HRD HR0 HB0 hr hz;go_upto_region 2 with(refine yN rfl 36 (.tmp 5) (.tmp 12) rfl w1 uP (uG x v) rfl rfl jR rfl H1G.o ?_)
 have HY:=Ph (Bk.new w1 36 (uG x v));have HR2:=Ph (HR1.o.alloc (.cells (uG x v) 36));have HFR2:=Ph (HFR.o.then (zB (o:=.cells (uG x v) 36)));have HG2:=Ph (itG.stay _ _ _ _ _ (Stays.below (zB (o:=.cells (uG x v) 36))) HG1.o);have HAT2:Ud (AtO W.heap.size (w1.alloc (.cells (uG x v) 36)) Q l):=Ph (jP HAT.o (Fr.of_below (F:=fun _=>False) (zB (o:=.cells (uG x v) 36))) (fun _ _ h=>h));have HVR2:=Ph (HVR.o.below (zB (o:=.cells (uG x v) 36)));generalize (w1.alloc _)=W2 at HY HR2 HFR2 HG2 HAT2 HVR2 ⊢;obtain⟨g,hg⟩:∃ g,w1.heap.size=g:=⟨_,rfl⟩;rw [hg]at HY;rw [hg];clear hg HFR HR1 HG1 HAT HVR H1G;have HRG:Ud (W2.rangeAt g 0 [uI x.blocks,uI x.width,uL v.is,uL v.gs,uL v.vs,uL v.ar,uB x.require.kind,uB x.require.op,uW x.require.value,uI x.require.width,uR x.require.name,uL v.rq,uL v.ins,uL v.ps,uL v.wk,uL v.rc,uB x.invariant.kind,uB x.invariant.op,uW x.invariant.value,uI x.invariant.width,uR x.invariant.name,uL v.iv]):=Ph (yM HY.o);have HTH:Ud (W2.there r 0 23):=Ph (zK2 HR2.o (lF _));have H1C:Ud ((#[uI x.blocks,uI x.width,uL v.is,uL v.gs,uL v.vs,uL v.ar,uB x.require.kind,uB x.require.op,uW x.require.value,uI x.require.width,uR x.require.name,uL v.rq,uL v.ins,uL v.ps,uL v.wk,uL v.rc,uB x.invariant.kind,uB x.invariant.op,uW x.invariant.value,uI x.invariant.width,uR x.invariant.name,uL v.iv,uL Q]:Array Value).all (·.oneCell')=true):=Ph (all_oneCell_toArray (zY5 x v Q));go_wp2_with (first | (refine wpList_load_mid rfl 36 (.tmp 5) rfl g 0 rfl [uI x.blocks,uI x.width,uL v.is,uL v.gs,uL v.vs,uL v.ar,uB x.require.kind,uB x.require.op,uW x.require.value,uI x.require.width,uR x.require.name,uL v.rq,uL v.ins,uL v.ps,uL v.wk,uL v.rc,uB x.invariant.kind,uB x.invariant.op,uW x.invariant.value,uI x.invariant.width,uR x.invariant.name,uL v.iv] _ HRG.o underlying36 rfl jR ?_) | (refine wpList_store_mid rfl 47 (.tmp 2) (.tmp 18) rfl r 0 #[uI x.blocks,uI x.width,uL v.is,uL v.gs,uL v.vs,uL v.ar,uB x.require.kind,uB x.require.op,uW x.require.value,uI x.require.width,uR x.require.name,uL v.rq,uL v.ins,uL v.ps,uL v.wk,uL v.rc,uB x.invariant.kind,uB x.invariant.op,uW x.invariant.value,uI x.invariant.width,uR x.invariant.name,uL v.iv,uL Q] rfl rfl HTH.o qB9 H1C.o ?_))
 have HF:=Ph (zO2 r [uI x.blocks,uI x.width,uL v.is,uL v.gs,uL v.vs,uL v.ar,uB x.require.kind,uB x.require.op,uW x.require.value,uI x.require.width,uR x.require.name,uL v.rq,uL v.ins,uL v.ps,uL v.wk,uL v.rc,uB x.invariant.kind,uB x.invariant.op,uW x.invariant.value,uI x.invariant.width,uR x.invariant.name,uL v.iv,uL Q] 0 W2);have HK:=Ph (zK3 (vs:=[uI x.blocks,uI x.width,uL v.is,uL v.gs,uL v.vs,uL v.ar,uB x.require.kind,uB x.require.op,uW x.require.value,uI x.require.width,uR x.require.name,uL v.rq,uL v.ins,uL v.ps,uL v.wk,uL v.rc,uB x.invariant.kind,uB x.invariant.op,uW x.invariant.value,uI x.invariant.width,uR x.invariant.name,uL v.iv,uL Q]) HR2.o rfl);generalize (W2.setCells r 0 [uI x.blocks,uI x.width,uL v.is,uL v.gs,uL v.vs,uL v.ar,uB x.require.kind,uB x.require.op,uW x.require.value,uI x.require.width,uR x.require.name,uL v.rq,uL v.ins,uL v.ps,uL v.wk,uL v.rc,uB x.invariant.kind,uB x.invariant.op,uW x.invariant.value,uI x.invariant.width,uR x.invariant.name,uL v.iv,uL Q])=WF at HF HK ⊢;have hld:=jQ2 HK.o rfl;have hlt:=hv.o.lt;refine lK (v:=.tuple #[.agg #[uI x.blocks,uI x.width,uL v.is,uL v.gs,uL v.vs,uL v.ar,uB x.require.kind,uB x.require.op,uW x.require.value,uI x.require.width,uR x.require.name,uL v.rq,uL v.ins,uL v.ps,uL v.wk,uL v.rc,uB x.invariant.kind,uB x.invariant.op,uW x.invariant.value,uI x.invariant.width,uR x.invariant.name,uL v.iv,uL Q],uI a,uI e]) (by exact qB6 (a:=2) (b:=3) (c:=4) results11 rfl hld) rfl ?_;exact⟨v,Q,rfl,itG.stay _ _ _ _ _ (Stays.box HF.o HR2.o (by unfold TTy;decide)) HG2.o,qG9 (jP HAT2.o HF.o (fun k hk e=>yR HAT2.o HR2.o Yd (by rw [hk,e]))) hWB,HQN.o,HFR2.o.box HF.o hwr,HVR2.o.fr HF.o (fun e=>jU7 hlt.1 hwr e) (fun e=>jU7 hlt.2 hwr e)⟩
end
section
open Go.RowKit Go.PlainAid
theorem nmM (s:ByteArray) (w:World):Calls prog 79 #[.string s] w fun e w'=>e=.returned (.agg #[uB 2,uB 0,uW 0,uI 0,.string s,uN])∧Below w.heap.size w w':=by
 have HB0:Ud (Ue w (w.alloc (.cells #[uB 2,uB 0,uW 0,uI 0,.string s,uN] 31))):=zB;have h0:=Bk.new w 31 #[uB 2,uB 0,uW 0,uI 0,.string s,uN];obtain⟨r0,r1,r2,r3,r4,r5⟩:=zH h0;clear h0;go_enter func79,ntmps79
 go_wp2_with fail
 refine lK (v:=.agg #[uB 2,uB 0,uW 0,uI 0,.string s,uN]) (by simp [results,results79,go_sem,r0,r1,r2,r3,r4,r5]) rfl ?_;exact⟨rfl,HB0.o⟩
theorem nuM (v:Int) (k:Int) (w:World):Calls prog 37 #[uW v,uI k] w fun e w'=>e=.returned (.agg #[uB 1,uB 0,uW v,uI k,uT,uN])∧Below w.heap.size w w':=by
 have HB0:Ud (Ue w (w.alloc (.cells #[uB 1,uB 0,uW v,uI k,uT,uN] 31))):=zB;have h0:=Bk.new w 31 #[uB 1,uB 0,uW v,uI k,uT,uN];obtain⟨r0,r1,r2,r3,r4,r5⟩:=zH h0;clear h0;go_enter func37,ntmps37
 go_wp2_with fail
 refine lK (v:=.agg #[uB 1,uB 0,uW v,uI k,uT,uN]) (by simp [results,results37,go_sem,r0,r1,r2,r3,r4,r5]) rfl ?_;exact⟨rfl,HB0.o⟩
theorem kJ1:NameOk [120]:=⟨⟨120,[],rfl,Yd,Ym⟩,Yd⟩
structure Lf (w:World) (m:Nat) (D:MD) (r:Nat) (S:SV) (l:List Dx) (W:World):Prop where
 q:MQ w m D W
 o:OwnN w.heap.size W S l
 n:l.length≤7
 b:Bk W r 31 uZ
 r:w.heap.size≤r
theorem Lf.below {w W W':World} {m r:Nat} {D:MD} {S:SV} {l:List Dx} (h0:Mk w m D) (h:Lf w m D r S l W) (hb:Below W.heap.size W W'):Lf w m D r S l W' :=
 ⟨h.q.then h0 hb,h.o.fr (Fr.of_below (F:=fun _=>False) hb) (fun _ _ _ _ e=>e),h.n,zD h.b hb,h.r⟩
theorem Lf.app {w W:World} {m r:Nat} {D:MD} {S:SV} {l:List Dx} (h0:Mk w m D) (h:Lf w m D r S l W) (l2:List Dx) (A:Option Addr) (n c:Nat) (hr:Rd W A (l2.flatMap fun d=>yX d ())) (hn:n=l2.length) (ok:∀ d∈l2,DOk d) (few:l.length+l2.length≤7) :
 ∃ A' c' w',(∀ ty,(Builtin.append_ #[25,25] ty #[.slice S.A S.n S.c,.slice A n c]).run prog W=.ok (.slice A' (S.n+n) c') w')∧Lf w m D r ⟨A',S.n+n,c'⟩ (l++l2) w':=by
 have hsz:w.heap.size≤W.heap.size:=h.q.fr.size;obtain⟨A',c',w',h1,h2,h3⟩:=h.o.app hsz l2 A n c hr hn ok (by have:=h.o.2.1;omega);refine⟨A',c',w',h1,h.q.data h0 h3 (fun k _ e=>(h.o.typed e).1),h2,by rw [Ya];exact few,h.b.fr h3 (fun e=>?_),h.r⟩;obtain⟨_,cs,hk⟩:=h.o.typed e;exact hk.ne h.b Yd rfl
theorem MQ.cells {w W:World} {m:Nat} {D:MD} (h:MQ w m D W):W.cell? ⟨m,3,none⟩=some (uI D.W)∧W.cell? ⟨m,4,none⟩=some (.slice D.I.A D.I.n D.I.c)∧W.cell? ⟨m,5,none⟩=some (.slice D.G.A D.G.n D.G.c)∧W.cell? ⟨m,6,none⟩=some (.slice D.V.A D.V.n D.V.c)∧W.cell? ⟨m,24,none⟩=some (.bool D.par)∧∃ A c,W.cell? ⟨m,15,none⟩=some (.slice A D.np c):=by obtain⟨cs,a,hb⟩:=h.k.ex;obtain⟨A,c,hp⟩:=hb.pr;exact⟨(hb.bk.cell 3).trans hb.wd,(hb.bk.cell 4).trans hb.i,(hb.bk.cell 5).trans hb.g,(hb.bk.cell 6).trans hb.v,(hb.bk.cell 24).trans hb.par,A,c,(hb.bk.cell 15).trans hp⟩
theorem kO1:∀ v k:Nat,v<8→k≤3→∃ q:Nat,q≤9∧bits .and .u32 (v:Int) ((2 ^ k-1) % 4294967296)=(q:Int):=by have key:∀ v<8,∀ k<4,0≤bits .and .u32 ((v:Nat):Int) ((2 ^ (k:Nat)-1) % 4294967296)∧bits .and .u32 ((v:Nat):Int) ((2 ^ (k:Nat)-1) % 4294967296)≤9:=Yd;intro v k hv hk;obtain⟨h1,h2⟩:=key v hv k Yo;exact⟨(bits .and .u32 (v:Int) ((2 ^ k-1) % 4294967296)).toNat,Yo,Yo⟩
structure Ln (w:World) (m:Nat) (D:MD) (r:Nat) (S:SV) (l:List Dx) (M:SV) (ml:List (List UInt8)) (W:World):Prop where
 lf:Lf w m D r S l W
 o:OwnM w.heap.size W M ml
theorem Ln.below {w W W':World} {m r:Nat} {D:MD} {S:SV} {l:List Dx} {M:SV} {ml:List (List UInt8)} (h0:Mk w m D) (h:Ln w m D r S l M ml W) (hb:Below W.heap.size W W'):Ln w m D r S l M ml W' :=
 ⟨h.lf.below h0 hb,h.o.fr (Fr.of_below (F:=fun _=>False) hb) (fun _ _ _ _ e=>e)⟩
theorem Ln.push {w W:World} {m r:Nat} {D:MD} {S:SV} {l:List Dx} {M:SV} {ml:List (List UInt8)} (h0:Mk w m D) (h:Ln w m D r S l M ml W) (s:List UInt8) (A:Option Addr) (c:Nat) (hr:Rd W A [uR s]) (ok:NameOk s∧s.length=1) (few:M.n<1000000000) :
 ∃ A' c' w',(∀ ty,(Builtin.append_ #[68,68] ty #[.slice M.A M.n M.c,.slice A 1 c]).run prog W=.ok (.slice A' (M.n+1) c') w')∧Ln w m D r S l ⟨A',M.n+1,c'⟩ (ml++[s]) w':=by
 have hsz:w.heap.size≤W.heap.size:=h.lf.q.fr.size;obtain⟨A',c',w',h1,h2,h3⟩:=h.o.push hsz s A c hr ok few;refine⟨A',c',w',h1,⟨⟨h.lf.q.data h0 h3 (fun k _ e=>(h.o.typed e).1),h.lf.o.fr h3 (fun k cs hk _ e=>?_),h.lf.n,h.lf.b.fr h3 (fun e=>?_),h.lf.r⟩,h2⟩⟩
 ·obtain⟨_,cs',hk'⟩:=h.o.typed e;exact hk'.ne hk Yd rfl
 ·obtain⟨_,cs,hk⟩:=h.o.typed e;exact hk.ne h.lf.b Yd rfl
structure Le (w:World) (m:Nat) (D:MD) (r:Nat) (M:SV) (ml:List (List UInt8)) (W:World):Prop where
 q:MQ w m D W
 o:OwnM w.heap.size W M ml
 b:Bk W r 31 uZ
 r:w.heap.size≤r
theorem Le.to {w W W':World} {m r:Nat} {D:MD} {M:SV} {ml:List (List UInt8)} (h0:Mk w m D) (h:Le w m D r M ml W) (hr:r≠m) (hq:MQ W m D W'):Le w m D r M ml W':=by refine⟨h.q.trans hq,h.o.fr hq.fr (fun k cs hk _ e=>?_),hq.bk h.q.k h.b hr,h.r⟩;subst e;obtain⟨c,a,hb⟩:=h.q.k.ex;exact hk.ne hb.bk Yd rfl
theorem Le.below {w W W':World} {m r:Nat} {D:MD} {M:SV} {ml:List (List UInt8)} (h0:Mk w m D) (h:Le w m D r M ml W) (hb:Below W.heap.size W W'):Le w m D r M ml W' :=
 ⟨h.q.then h0 hb,h.o.fr (Fr.of_below (F:=fun _=>False) hb) (fun _ _ _ _ e=>e),zD h.b hb,h.r⟩
theorem kO2 (m:Nat) (D:MD) (k wh:Nat) (hk1:1≤k) (hk3:k≤3) (hwh:wh≤2) (hW1:1≤D.W) (w:World) (h:Ud (Mk w m D)):Calls prog 76 #[uQ m 0,uI k,uI wh] w fun e w'=>∃ (x:Ex) (S:SV),e=.returned (.agg (qX x S).toArray)∧MdX 1 1 x∧TX (fun b=>w.heap.size≤b) w' x S∧MQ w m D w':=by
 have hQ0:MQ w m D (w.alloc (.cells uZ 31)):=(MQ.refl h.o).then h.o zB;have hR0:=Bk.new w 31 uZ;have hz:(w.alloc (.cells uZ 31)).heap.size=w.heap.size+1:=lO _ _;have hmw:m<w.heap.size:=h.o.lt;obtain⟨PW,hPW⟩:∃ P:Nat→Prop,P=fun b=>w.heap.size≤b:=⟨_,rfl⟩;rw [←hPW];clear hPW;have HQ:=Ph hQ0;have HR:=Ph hR0;clear hQ0 hR0;go_enter func76,ntmps76
 go_upto_region 2 with fail
 generalize (w.alloc _)=W0 at *;obtain⟨r,hr⟩:∃ r,w.heap.size=r:=⟨_,rfl⟩;rw [hr]at HR ⊢;have hwr:w.heap.size≤r:=Nat.le_of_eq hr;have hrm:r≠m:=Yo;have HWR:=Ph hwr;clear hr hz hmw hwr;obtain⟨c3,c4,c5,c6,c24,Ap,cp,c15⟩:=HQ.o.cells;go_wp2_with fail
 refine(qX3 D.I.A D.I.n D.I.c (D.Il.flatMap fun d=>yX d ()) W0 (Ph HQ.o.k.is.rd.rd) (Ph (by rw [zJ9,HQ.o.k.is.n])) (Ph (zK1 _)) (by have:=HQ.o.k.is.n;have:=HQ.o.k.is.few;omega)).mono ?_;rintro e w1 ⟨A,c,rfl,hown,hb⟩;have HL:Ud (Lf w m D r ⟨A,D.I.n,c⟩ D.Il w1):=Ph ⟨HQ.o.then h.o hb,⟨qG9 hown HQ.o.fr.size,HQ.o.k.is.n,HQ.o.k.is.ok⟩,by have:=HQ.o.k.is.few;omega,zD HR.o hb,HWR.o⟩;have HL2:Ud (D.Il.length≤2):=Ph HQ.o.k.is.few;clear hown hb HQ HR c3 c4 c5 c6 c24 c15;go_upto_if 19 with fail
 go_cut [8] (fun v8 wx=>∃ (S:SV) (l:List Dx),v8=.slice S.A S.n S.c∧Ud (Lf w m D r S l wx)∧Ud (l.length≤4))
 case first =>
  by_cases hc:wh≠1
  ·have e1:((wh:Int) != 1)=true:=by simp;omega
   clear hc;obtain⟨c3,c4,c5,c6,c24,Ap,cp,c15⟩:=HL.o.q.cells;obtain⟨A',c',w2,hrun,hlf⟩:=HL.o.app h.o D.Gl D.G.A D.G.n D.G.c HL.o.q.k.gs.rd.rd HL.o.q.k.gs.n HL.o.q.k.gs.ok (by have:=HL.o.q.k.gs.few;have:=HL2.o;omega);have HRUN:=Ph hrun;have HLn:=Ph hlf;have HF:=Ph (show(D.Il++D.Gl).length≤4 by rw [Ya];have:=HL.o.q.k.gs.few;have:=HL2.o;omega);clear hrun hlf;go_wp2_with (at_builtin;refine jL rfl (.tmp 20) (.tmp 25) rfl _ _ _ rfl rfl (HRUN.o _) ?_)
   go_meet
   exact⟨_,_,rfl,HLn,HF⟩
  ·have e1:((wh:Int) != 1)=false:=by simp;omega
   clear hc;go_wp2_with fail
   go_meet
   exact⟨_,_,rfl,HL,Ph (by have:=HL2.o;omega)⟩
 case rest =>
 obtain⟨S19,L19,rfl,HLn,HFn⟩:=hcut;clear HL HL2;have HL:=HLn;have HL2:=HFn;clear HLn HFn;generalize wc=W19 at *;go_upto_if 28 with fail
 go_cut [8] (fun v8 wx=>∃ (S:SV) (l:List Dx),v8=.slice S.A S.n S.c∧Ud (Lf w m D r S l wx)∧Ud (l.length≤7))
 case first =>
  by_cases hc:wh=0
  ·have e1:((wh:Int) == 0)=true:=by simp;omega
   clear hc;obtain⟨c3,c4,c5,c6,c24,Ap,cp,c15⟩:=HL.o.q.cells;obtain⟨A',c',w2,hrun,hlf⟩:=HL.o.app h.o D.Vl D.V.A D.V.n D.V.c HL.o.q.k.vs.rd.rd HL.o.q.k.vs.n HL.o.q.k.vs.ok (by have:=HL.o.q.k.vs.few;have:=HL2.o;omega);have HRUN:=Ph hrun;have HLn:=Ph hlf;have HF:=Ph (show(L19++D.Vl).length≤6 by rw [Ya];have:=HL.o.q.k.vs.few;have:=HL2.o;omega);clear hrun hlf;have HWd:Ud (1≤D.W∧D.W≤3):=Ph ⟨hW1,HL.o.q.k.w3⟩;clear HL HL2;obtain⟨d3,d4,d5,d6,d24,Ap2,cp2,d15⟩:=HLn.o.q.cells;generalize hl:L19++D.Vl=L20 at *;generalize hn:S19.n+D.V.n=n20 at *;clear hl hn;rcases Bool.eq_false_or_eq_true D.par with hp | hp
   ·rw [hp]at d24;have HL3:Ud (Lf w m D r ⟨A',n20,c'⟩ L20 (w2.alloc (.cells #[.string (str [120]),uI D.W,uI 0] 87))):=Ph (HLn.o.below h.o zB);have hrd:Rd (w2.alloc (.cells #[.string (str [120]),uI D.W,uI 0] 87)) (some ⟨w2.heap.size,0,none⟩) ([(⟨[120],D.W,0⟩:Dx)].flatMap fun d=>yX d ()):=Rd.new _ _ _;obtain⟨A3,c3',w3,hrun3,hlf3⟩:=HL3.o.app h.o [⟨[120],D.W,0⟩] _ 1 1 hrd rfl (fun d hd=>by simp at hd;subst hd;have hw:=HWd.o;exact⟨kJ1,rfl,(by show(1:Int)≤(D.W:Int);omega),(by show(D.W:Int)≤3;omega)⟩) (by have:=HF.o;simp;omega);have HRUN3:=Ph hrun3;have HL4:=Ph hlf3;have HF4:Ud ((L20++[(⟨[120],D.W,0⟩:Dx)]).length≤7):=Ph (by rw [Ya];have:=HF.o;simp;omega);clear hrun3 hlf3 hrd c3 c4 c5 c24 c15;go_wp2_with (at_builtin;first | refine jL rfl (.tmp 29) (.tmp 34) rfl _ _ _ rfl rfl (HRUN.o _) ?_ | refine jL rfl (.tmp 40) (.tmp 47) rfl _ _ _ rfl rfl (HRUN3.o _) ?_)
    go_meet
    exact⟨_,_,rfl,HL4,HF4⟩
   ·rw [hp]at d24;clear c3 c4 c5 c24 c15;have HF4:Ud (L20.length≤7):=Ph (by have:=HF.o;omega);go_wp2_with (at_builtin;refine jL rfl (.tmp 29) (.tmp 34) rfl _ _ _ rfl rfl (HRUN.o _) ?_)
    go_meet
    exact⟨_,_,rfl,HLn,HF4⟩
  ·have e1:((wh:Int) == 0)=false:=by simp;omega
   clear hc;go_wp2_with fail
   go_meet
   exact⟨_,_,rfl,HL,Ph (by have:=HL2.o;omega)⟩
 case rest =>
 obtain⟨S28,L28,rfl,HLn,HFn⟩:=hcut;clear HL HL2;have HL:=HLn;have HL2:=HFn;clear HLn HFn;generalize wc=W28 at *;obtain⟨SA,Sn,Sc⟩:=S28;have HSn:Ud (Sn=L28.length):=Ph HL.o.o.2.1;have hSn7:Sn≤7:=by have:=HSn.o;have:=HL2.o;omega
 have HN0:Ud (Ln w m D r ⟨SA,Sn,Sc⟩ L28 zK [] W28):=Ph ⟨HL.o,World.ownsRow_nil _ _ _ _,rfl,fun s hs=>by cases hs⟩;clear HL HL2;go_wp2_with fail
 go_loopw [7,51] (fun v7 v51 wr=>∃ (j:Nat) (M:SV) (ml:List (List UInt8)),j≤Sn∧v51=uI j∧v7=.slice M.A M.n M.c∧M.n≤j∧Ud (Ln w m D r ⟨SA,Sn,Sc⟩ L28 M ml wr)) (fun _ v51 _=>Sn-(intOf v51).toNat)
 case atStart=>exact⟨0,zK,[],lV _,rfl,rfl,lF _,HN0⟩
 case round =>
  obtain⟨j,M,ml,hj,rfl,rfl,hMj,HN⟩:=hrel;clear HN0;by_cases hlt:j<Sn
  ·have e1:decide ((j:Int)<(Sn:Int))=true:=by simp;omega
   have hji:(j:Int)<(Sn:Int):=Yo;have wj:IntKind.i64.wrap ((j:Int)+1)=((j+1:Nat):Int):=by rw [lL];omega
   obtain⟨bb,off,d,hA,hx,hbb,hc⟩:=Rd.flat (f:=fun d=>yX d ()) (m:=3) (fun _=>rfl) Yo (i:=j) (RdT.of_own HN.o.lf.o.1).rd (by rw [←HSn.o];exact hlt);subst hA;have hdk:=HN.o.lf.o.2.2 d (cD hx);have c0:wr.cell? ⟨bb,off+j*3,none⟩=some (uR d.name):=hc 0 _ Yo rfl;have c1:wr.cell? ⟨bb,off+j*3+1,none⟩=some (uI d.width):=hc 1 _ Yo rfl;have c2:wr.cell? ⟨bb,off+j*3+2,none⟩=some (uI d.size):=hc 2 _ Yo rfl;clear hc hx;have HDK:=Ph hdk;clear hdk;by_cases hw:d.width=(k:Int)
   ·rw [hw]at c1;have HN1:=Ph ((HN.o.below h.o (zB (o:=.cells #[uR d.name,uI k,uI d.size] 87))).below h.o (zB (o:=.cells #[uR d.name] 9)));have hz:(wr.alloc (.cells #[uR d.name,uI k,uI d.size] 87)).heap.size=wr.heap.size+1:=lO _ _;have hrd:=Rd.new (wr.alloc (.cells #[uR d.name,uI k,uI d.size] 87)) #[uR d.name] 9;rw [hz]at hrd;obtain⟨A',c',w3,hrun,hln⟩:=HN1.o.push h.o d.name _ 1 hrd ⟨HDK.o.n,HDK.o.l⟩ Yo;have HRUN:=Ph hrun;have HN2:=Ph hln;clear hrun hln hrd hz HN1;go_wp2_with (at_builtin;refine jL rfl (.tmp 59) (.tmp 62) rfl _ _ _ rfl rfl (HRUN.o _) ?_)
    go_roundw
    case rel=>exact⟨j+1,_,_,Yo,by go_num,rfl,by show M.n+1≤j+1;omega,HN2⟩
    case measure=>simp [intOf];omega
   ·have ew:(d.width == (k:Int))=false:=by simp;exact hw
    have HN1:=Ph (HN.o.below h.o (zB (o:=.cells #[uR d.name,uI d.width,uI d.size] 87)));go_wp2_with fail
    go_roundw
    case rel=>exact⟨j+1,_,_,Yo,by go_num,rfl,by show M.n≤j+1;omega,HN1⟩
    case measure=>simp [intOf];omega
  ·obtain rfl:j=Sn:=by omega
   have e1:decide ((j:Int)<(j:Int))=false:=Ym;have HE:Ud (Le w m D r M ml wr):=Ph ⟨HN.o.lf.q,HN.o.o,HN.o.lf.b,HN.o.lf.r⟩;clear HN;generalize wr=W9 at *;go_wp2_with fail
   refine(vR m D 8 Yo Yo _ (Ph HE.o.q.k)).mono ?_;rintro e w4 ⟨v,hv,rfl,hq⟩;have HE4:=Ph (HE.o.to h.o hrm hq);clear hq HE;obtain⟨f0,f1,f2,f3,f4,f5,_⟩:=zZ HE4.o.b;by_cases hc:2<v∧0<M.n
   ·have ec1:decide ((v:Int)>2)=true:=by simp;omega
    have ec2:decide ((M.n:Int)>0)=true:=Yp;have en:((M.n:Int) == 0)=false:=Yp;obtain⟨r7,hr7⟩:∃ r7:Nat,v % M.n=r7:=⟨_,rfl⟩;have hlt7:r7<M.n:=by rw [←hr7];exact Nat.mod_lt _ hc.2
    have et:(v:Int).tmod (M.n:Int)=(r7:Int):=by rw [←hr7,Int.ofNat_tmod]
    have e70:(0:Int)≤(r7:Int):=Yo;have e71:(r7:Int)<(M.n:Int):=Yo;obtain⟨bb,off,nm,hA,hx,hcl⟩:=Rd.getm (RdT.of_own HE4.o.o.1).rd HE4.o.o.2.1.symm hlt7;have HNM:=Ph (HE4.o.o.2.2 nm (cD hx));have HX:=Ph hx;clear hx hr7;rw [hA]at *;go_wp2_with fail
    refine(nmM _ _).mono ?_;rintro e w5 ⟨rfl,hb5⟩;have HE5:=Ph (HE4.o.below h.o hb5);clear hb5 HE4 hcl f0 f1 f2 f3 f4 f5;obtain⟨f0,f1,f2,f3,f4,f5,_⟩:=zZ HE5.o.b;obtain⟨g0,g1,g2,g3,g4,g5⟩:=zH HE5.o.b;have HF:=Ph (fr6 w5 r (uB 2) (uB 0) (uW 0) (uI 0) (uR nm) (uN));have HK:=Ph (put6 (v0:=uB 2) (v1:=uB 0) (v2:=uW 0) (v3:=uI 0) (v4:=uR nm) (v5:=uN) HE5.o.b);go_wp2_with fail
    generalize (World.setCell _ _ _)=WF at HF HK ⊢;obtain⟨r0,r1,r2,r3,r4,r5⟩:=zH HK.o;refine lK (v:=.agg #[uB 2,uB 0,uW 0,uI 0,uR nm,uN]) (by simp [results,results76,go_sem,r0,r1,r2,r3,r4,r5]) rfl ?_;have hsh:ShX (.mk 2 0 0 0 nm []):=.var nm HNM.o.1 HNM.o.2;exact⟨.mk 2 0 0 0 nm [],zK,rfl,⟨hsh,by simp [szX,kC],by simp [htX,vJ]⟩,TX.leaf ⟨by show(2:Nat)≤255;omega,by show(0:Nat)≤255;omega,by show(0:Nat)≤4294967295;omega,by show(-9223372036854775808:Int)≤0;omega,by show(0:Int)≤9223372036854775807;omega,by show nm.length≤1000000;have:=HNM.o.2;omega,by show(0:Nat)≤1000;omega⟩ rfl,HE5.o.q.box h.o HF.o HE5.o.r⟩
   ·obtain⟨q,hq9,hqe⟩:=kO1 v k hv hk3;obtain⟨q',hq9',hqe'⟩:∃ q':Nat,q'≤9∧bits .and .u32 (v:Int) ((2 ^ k-1) % 4294967296)=(q':Int):=⟨q,hq9,hqe⟩;have HQE:=Ph hqe';clear hqe hqe' hq9;by_cases hc2:2<v
    ·have ec1:decide ((v:Int)>2)=true:=by simp;omega
     have ec2:decide ((M.n:Int)>0)=false:=Yp;go_wp2_with fail
     rw [HQE.o];refine(nuM _ _ _).mono ?_;rintro e w5 ⟨rfl,hb5⟩;have HE5:=Ph (HE4.o.below h.o hb5);clear hb5 HE4 f0 f1 f2 f3 f4 f5;obtain⟨f0,f1,f2,f3,f4,f5,_⟩:=zZ HE5.o.b;obtain⟨g0,g1,g2,g3,g4,g5⟩:=zH HE5.o.b;have HF:=Ph (fr6 w5 r (uB 1) (uB 0) (uW q') (uI k) (uT) (uN));have HK:=Ph (put6 (v0:=uB 1) (v1:=uB 0) (v2:=uW q') (v3:=uI k) (v4:=uT) (v5:=uN) HE5.o.b);go_wp2_with fail
     generalize (World.setCell _ _ _)=WF at HF HK ⊢;obtain⟨r0,r1,r2,r3,r4,r5⟩:=zH HK.o;refine lK (v:=.agg #[uB 1,uB 0,uW q',uI k,uT,uN]) (by simp [results,results76,go_sem,r0,r1,r2,r3,r4,r5]) rfl ?_;have hsh:ShX (.mk 1 0 q' k [] []):=.num q' k hq9' Yo;exact⟨.mk 1 0 q' k [] [],zK,rfl,⟨hsh,by simp [szX,kC],by simp [htX,vJ]⟩,TX.leaf ⟨by show(1:Nat)≤255;omega,by show(0:Nat)≤255;omega,by show q'≤4294967295;omega,by show(-9223372036854775808:Int)≤(k:Int);omega,by show(k:Int)≤9223372036854775807;omega,by show(0:Nat)≤1000000;omega,by show(0:Nat)≤1000;omega⟩ rfl,HE5.o.q.box h.o HF.o HE5.o.r⟩
    ·have ec1:decide ((v:Int)>2)=false:=by simp;omega
     go_wp2_with fail
     rw [HQE.o];refine(nuM _ _ _).mono ?_;rintro e w5 ⟨rfl,hb5⟩;have HE5:=Ph (HE4.o.below h.o hb5);clear hb5 HE4 f0 f1 f2 f3 f4 f5;obtain⟨f0,f1,f2,f3,f4,f5,_⟩:=zZ HE5.o.b;obtain⟨g0,g1,g2,g3,g4,g5⟩:=zH HE5.o.b;have HF:=Ph (fr6 w5 r (uB 1) (uB 0) (uW q') (uI k) (uT) (uN));have HK:=Ph (put6 (v0:=uB 1) (v1:=uB 0) (v2:=uW q') (v3:=uI k) (v4:=uT) (v5:=uN) HE5.o.b);go_wp2_with fail
     generalize (World.setCell _ _ _)=WF at HF HK ⊢;obtain⟨r0,r1,r2,r3,r4,r5⟩:=zH HK.o;refine lK (v:=.agg #[uB 1,uB 0,uW q',uI k,uT,uN]) (by simp [results,results76,go_sem,r0,r1,r2,r3,r4,r5]) rfl ?_;have hsh:ShX (.mk 1 0 q' k [] []):=.num q' k hq9' Yo;exact⟨.mk 1 0 q' k [] [],zK,rfl,⟨hsh,by simp [szX,kC],by simp [htX,vJ]⟩,TX.leaf ⟨by show(1:Nat)≤255;omega,by show(0:Nat)≤255;omega,by show q'≤4294967295;omega,by show(-9223372036854775808:Int)≤(k:Int);omega,by show(k:Int)≤9223372036854775807;omega,by show(0:Nat)≤1000000;omega,by show(0:Nat)≤1000;omega⟩ rfl,HE5.o.q.box h.o HF.o HE5.o.r⟩
end
end Go.Proofs.YtfdaebgllibphaaGreatDoor
