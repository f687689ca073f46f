import Derived.OrdersHeld
import Derived.Test.YtfdaebgllibphaaGreatDoorZah
set_option linter.unusedVariables false
set_option linter.unusedSimpArgs false
set_option maxRecDepth 100000
set_option maxHeartbeats 16000000
namespace Go.Proofs.YtfdaebgllibphaaGreatDoor
section
open Go.RowKit Go.PlainAid
inductive ExR (f:Nat) (t:List UInt8):Ex→Nat→Nat→Prop where
 | bad (a:Nat) (h:zI3 (kG t)=some a):ExR f t ex0 a 280
 | ok (X:Nd) (s:PSt) (h:zI3 (kG t)=none) (hc:zM ⟨t,zY t (kG t)⟩ f ⟨0,0,0,0⟩=some (X,s)) (he:s.e=0) (hn:(zY t (kG t)).length≤s.n):ExR f t X.1 t.length 0
 | rest (X:Nd) (s:PSt) (h:zI3 (kG t)=none) (hc:zM ⟨t,zY t (kG t)⟩ f ⟨0,0,0,0⟩=some (X,s)) (he:s.e=0) (hn:s.n<(zY t (kG t)).length):ExR f t ex0 (qH ⟨t,zY t (kG t)⟩ s 300).fail 300
 | no (X:Nd) (s:PSt) (h:zI3 (kG t)=none) (hc:zM ⟨t,zY t (kG t)⟩ f ⟨0,0,0,0⟩=some (X,s)) (he:s.e≠0):ExR f t ex0 s.fail s.e
theorem qM9 {f:Nat} {t:List UInt8} {x:Ex} {a e:Nat} (h:xW f t=some (x,a,e)) (hs:t.length≤65536):ExR f t x a e:=by
 unfold xW at h;rw [lN Yo]at h;cases hb:zI3 (kG t)with
 | some b =>
   rw [hb]at h;injection h with h;injection h with h1 h;injection h with h2 h3;subst h1 h2 h3;exact .bad _ hb
 | none =>
   rw [hb]at h;(try dsimp only at h);cases hc:zM ⟨t,zY t (kG t)⟩ f ⟨0,0,0,0⟩with
   | none=>rw [hc]at h;cases h
   | some q =>
     obtain⟨X,s⟩:=q;rw [hc]at h;(try dsimp only at h);by_cases he:s.e=0
     ·by_cases hn:s.n<(zY t (kG t)).length
      ·have hr:zM1 ⟨t,zY t (kG t)⟩ s=qH ⟨t,zY t (kG t)⟩ s 300:=by unfold zM1;rw [lM ⟨he,hn⟩]
       have he3:(qH ⟨t,zY t (kG t)⟩ s 300).e=300:=by unfold qH;rw [lM he]
       rw [hr,lN (by rw [he3];omega),he3]at h;injection h with h;injection h with h1 h;injection h with h2 h3;subst h1 h2 h3;exact .rest X s hb hc he hn
      ·have hr:zM1 ⟨t,zY t (kG t)⟩ s=s:=by unfold zM1;rw [lN (fun h=>hn h.2)]
       rw [hr,lM he]at h;injection h with h;injection h with h1 h;injection h with h2 h3;subst h1 h2 h3;exact .ok X s hb hc he Yo
     ·have hr:zM1 ⟨t,zY t (kG t)⟩ s=s:=by unfold zM1;rw [lN (fun h=>he h.1)]
      rw [hr,lN he]at h;injection h with h;injection h with h1 h;injection h with h2 h3;subst h1 h2 h3;exact .no X s hb hc he
def kI8 (w:World) (x:Ex) (a e:Nat) (en:Ending) (w':World):Prop:=∃ S A n c,en=.returned (.tuple #[.agg (qX x S).toArray,.slice A n c,uI a,uI e])∧TrT w.heap.size w' x S∧Below w.heap.size w w'
theorem jG6:zX3 ex0:=⟨Yd,Yd,Yd,Yd,Yd,Yd,Yd⟩
def zTx:Array Value:=uZ
theorem qX5 (w:World):Bk ((w.alloc (.cells zTx 31)).alloc (.cells zTx 31)) w.heap.size 31 zTx∧Bk ((w.alloc (.cells zTx 31)).alloc (.cells zTx 31)) (w.heap.size+1) 31 zTx∧Below w.heap.size w ((w.alloc (.cells zTx 31)).alloc (.cells zTx 31))∧((w.alloc (.cells zTx 31)).alloc (.cells zTx 31)).heap.size=w.heap.size+2:=by have h2:=Bk.new (w.alloc (.cells zTx 31)) 31 zTx;simp only [lO]at h2;exact⟨(Bk.new w _ zTx).alloc _,h2,zG (zG (lB _ _) _) _,Ym⟩
theorem zB6 {w W WF:World} {r:Nat} (hb:Below w.heap.size w W) (hr:w.heap.size≤r) (hf:Fr (fun k=>k=r) W WF):Below w.heap.size w WF:=hb.trans (hf.below w.heap.size hb.size (fun i hi e=>Yo))
theorem kN7 (f:Nat) (t:List UInt8) (x:Ex) (a e:Nat) (hx:xW f t=some (x,a,e)) (hs:t.length≤65536) (w:World) (hv:Hid (Vars w)) :
 Calls Tryz.prog 53 #[uR t,uF 54] w (kI8 w x a e):=by
 have HS:Hid (∀ W,Calls Tryz.prog 10 #[uR t] W (jN3 W t)):=Ph fun W=>jN4 (str t) W (by rw [jV];exact hs);obtain⟨h1,h2,h3,h4⟩:=qX5 w;have HR0:=Ph h1;have HN0:=Ph h2;have HB0:=Ph h3;have HZ0:=Ph h4;unfold zTx at HR0 HN0 HB0 HZ0;clear h1 h2 h3 h4;have hcs:=qM9 hx hs;clear hx;cases hcs with
 | bad a h =>
   have HH:=Ph h;clear h;go_enter Tryz.func53,Tryz.ntmps53
   go_wp2_with fail
   generalize ((World.alloc _ _))=W at HR0 HN0 HB0 HZ0 ⊢;refine(HS.out W).mono ?_;rintro en w1 ⟨hb,⟨a1,h1,rfl⟩ | ⟨h1,_⟩⟩
   ·obtain rfl:a=a1:=by have:=HH.out;rw [h1]at this;injection this with this;exact this.symm
    have HR1:=Ph (zD HR0.out hb);have HN1:=Ph (zD HN0.out hb);have HB1:=Ph (zU HB0.out hb);clear hb h1;obtain⟨r,hr⟩:∃ r,w.heap.size=r:=⟨_,rfl⟩;obtain⟨m,hm⟩:∃ m,w.heap.size+1=m:=⟨_,rfl⟩;rw [hm]at HN1;rw [hr]at HR1;rw [hm,hr];have hrm:m≠r:=Yo;have hwr:w.heap.size≤r:=Yo;clear hr hm;obtain⟨x0,x1,x2,x3,x4,x5⟩:=zH HN1.out;obtain⟨y0,y1,y2,y3,y4,y5⟩:=zH HR1.out;obtain⟨f0,f1,f2,f3,f4,f5,_⟩:=zZ HR1.out;have HF:=Ph (fr6 w1 r (uB 0) (uB 0) (uW 0) (uI 0) (uT) (uN));have HK:=Ph (put6 (v0:=uB 0) (v1:=uB 0) (v2:=uW 0) (v3:=uI 0) (v4:=uT) (v5:=uN) HR1.out);go_wp2_with fail
    generalize (World.setCell _ _ _)=WF at HF HK ⊢;obtain⟨r0,r1,r2,r3,r4,r5⟩:=zH HK.out;refine lK (v:=.tuple #[.agg uZ,uN,uI a,uI 280]) (by simp [results,Tryz.results53,go_sem,r0,r1,r2,r3,r4,r5]) rfl ?_;exact⟨⟨none,0,0⟩,none,0,0,rfl,.leaf jG6 rfl 0,zB6 HB1.out hwr HF.out⟩
   ·have:=HH.out;rw [h1]at this;cases this
 | ok X s h hc he hn =>
   have HC:=Ph hc;have HBD:=Ph h;have HEN:=Ph (qP8 t hs);obtain⟨T,hT⟩:∃ T,zY t (kG t)=T:=⟨_,rfl⟩;rw [hT]at HC HEN hn;have HT:=Ph hT;clear hc h;clear hT;go_enter Tryz.func53,Tryz.ntmps53
   go_wp2_with fail
   generalize ((World.alloc _ _))=W at HR0 HN0 HB0 HZ0 ⊢;refine(HS.out W).mono ?_;rintro en w1 ⟨hb,⟨a1,h1,_⟩ | ⟨h1,A,c,rfl,hrd⟩⟩
   ·have:=HBD.out;rw [h1]at this;cases this
   rw [HT.out]at hrd ⊢;have HR1:=Ph (zD HR0.out hb);have HN1:=Ph (zD HN0.out hb);have HB1:=Ph (zU HB0.out hb);have HRD:=Ph hrd;have hz1:w.heap.size+2≤w1.heap.size:=by have:=HZ0.out;have:=hb.size;omega
   clear hb h1 hrd HR0 HN0 HB0 HZ0;obtain⟨r,hr⟩:∃ r,w.heap.size=r:=⟨_,rfl⟩;obtain⟨m,hm⟩:∃ m,w.heap.size+1=m:=⟨_,rfl⟩;rw [hm]at HN1;rw [hr]at HR1;rw [hm,hr];have hrm:m≠r:=Yo;have hwr:w.heap.size≤r:=Yo;have hr1:r<w1.heap.size:=Yo;have hm1:m<w1.heap.size:=Yo;clear hr hm hz1;obtain⟨l0,l1⟩:=(hv.out.below HB1.out).lt;have hBp:=Bk.new w1 152 #[uR t,.slice A T.length c,uI 0,uI 0,uN,uI 0,uI 0];have HP2:Hid (Ps (w1.alloc (.cells #[uR t,.slice A T.length c,uI 0,uI 0,uN,uI 0,uI 0] 152)) w1.heap.size ⟨t,T⟩ ⟨A,T.length,c,w1.heap.size⟩ ⟨none,0,0⟩ ⟨0,0,0,0⟩):=Ph ⟨hBp,HRD.out.below zB,HEN.out,lV _,(hv.out.below HB1.out).below zB,Yo,Yo,by rw [lO];exact Nat.le_succ _⟩;have HB2:Hid (Below w.heap.size w (w1.alloc (.cells #[uR t,.slice A T.length c,uI 0,uI 0,uN,uI 0,uI 0] 152))):=Ph (zG HB1.out _);have HR2:=Ph (HR1.out.alloc (.cells #[uR t,.slice A T.length c,uI 0,uI 0,uN,uI 0,uI 0] 152));have HN2:=Ph (HN1.out.alloc (.cells #[uR t,.slice A T.length c,uI 0,uI 0,uN,uI 0,uI 0] 152));clear hBp HR1 HN1 HB1 HRD l0 l1;go_upto_region 6 with fail
   have hz2:(w1.alloc (.cells #[uR t,.slice A T.length c,uI 0,uI 0,uN,uI 0,uI 0] 152)).heap.size=w1.heap.size+1:=by rw [lO]
   generalize (w1.alloc _)=W2 at HP2 HB2 HR2 HN2 hz2 ⊢;obtain⟨p,hp⟩:∃ p,w1.heap.size=p:=⟨_,rfl⟩;rw [hp]at HP2;rw [hp];have hrp:r≠p:=Yo;have hmp:m≠p:=Yo;have hr2:r<W2.heap.size:=Yo;have hwp:w.heap.size≤p:=Yo;clear hp hz2 hr1 hm1;have HEC:=Ph (jY4 f _ X s W2 HC.out HP2);go_wp2_with fail
   refine HEC.out.mono ?_;rintro en w3 ⟨S,Q',rfl,ht,hps,hfr⟩;unfold qX;have HX3:=Ph ht;have HP3:=Ph hps;have HR3:=Ph (HR2.out.fr hfr hrp);have HN3:=Ph (HN2.out.fr hfr hmp);have HB3:=Ph (HB2.out.trans (hfr.below w.heap.size HB2.out.size (fun i hi e=>Yo)));have hw23:W2.heap.size≤w3.heap.size:=hfr.size;clear ht hps hfr HEC HR2 HN2;have HYB:=Ph (Bk.new w3 31 (uE X.1 S));have HP4:=Ph (HP3.out.below (zB (o:=(.cells (uE X.1 S) 31))));have HR4:=Ph (HR3.out.alloc (.cells (uE X.1 S) 31));have HN4:=Ph (HN3.out.alloc (.cells (uE X.1 S) 31));have HB4:=Ph (zG HB3.out (.cells (uE X.1 S) 31));have HX4:=Ph (HX3.out.bel (zB (o:=(.cells (uE X.1 S) 31))));have hwx:r<w3.heap.size:=Yo;have hpx:p<w3.heap.size:=HP3.out.lt;clear HP3 HR3 HN3 HB3 HX3 hw23;go_upto_region 7 with fail
   generalize (w3.alloc _)=W4 at HYB HP4 HR4 HN4 HB4 HX4 ⊢;obtain⟨q,hq⟩:∃ q,w3.heap.size=q:=⟨_,rfl⟩;rw [hq]at HYB;rw [hq];have hqr:q≠r:=Yo;have hqp:q≠p:=Yo;have hpr:p≠r:=cX hrp;clear hq hwx hpx;obtain⟨g0,g1,g2,g3,g4,g5,g6⟩:=HP4.out.cells;(try dsimp only at g0 g1 g2 g3 g4 g5 g6);have e1:((s.e:Int) == 0)=true:=Yp;have e2:((s.e:Int) != 0)=false:=Yp;have e3:decide (s.n<T.length)=false:=Yp;obtain⟨x0,x1,x2,x3,x4,x5⟩:=zH HYB.out;have hls:(str t).size=t.length:=jV t;clear he;obtain⟨y0,y1,y2,y3,y4,y5⟩:=zH HR4.out;obtain⟨f0,f1,f2,f3,f4,f5,_⟩:=zZ HR4.out;have HF:=Ph (fr6 W4 r (uB X.1.kind) (uB X.1.op) (uW X.1.value) (uI X.1.width) (uR X.1.name) (uL S)).drew;have HK:=Ph (put6 (v0:=uB X.1.kind) (v1:=uB X.1.op) (v2:=uW X.1.value) (v3:=uI X.1.width) (v4:=uR X.1.name) (v5:=uL S) HR4.out).drew;go_upto_region 11 with fail
   go_region
   clear y0 y1 y2 y3 y4 y5 f0 f1 f2 f3 f4 f5;generalize ((((((W4.setCell ⟨r,0,none⟩ (uB X.1.kind)).setCell ⟨r,1,none⟩ (uB X.1.op)).setCell ⟨r,2,none⟩ (uW X.1.value)).setCell ⟨r,3,none⟩ (uI X.1.width)).setCell ⟨r,4,none⟩ (uR X.1.name)).setCell ⟨r,5,none⟩ (uL S)).drew=WF at HF HK ⊢;go_wp2_with fail
   obtain⟨r0,r1,r2,r3,r4,r5⟩:=zH HK.out;refine lK (v:=.tuple #[.agg (uE X.1 S),uL Q',uI t.length,uI 0]) (by simp [results,Tryz.results53,go_sem,r0,r1,r2,r3,r4,r5]) rfl ?_;exact⟨S,Q'.A,Q'.n,Q'.c,rfl,(HX4.out.far HF.out hr2).less (lE hwr (Nat.le_of_lt hr2)),zB6 HB4.out hwr HF.out⟩
 | rest X s h hc he hn =>
   have HC:=Ph hc;have HBD:=Ph h;have HEN:=Ph (qP8 t hs);obtain⟨T,hT⟩:∃ T,zY t (kG t)=T:=⟨_,rfl⟩;rw [hT]at HC HEN hn;have HT:=Ph hT;clear hc h;obtain⟨s2,hs2⟩:∃ s2,qH ⟨t,T⟩ s 300=s2:=⟨_,rfl⟩;rw [hT,hs2];have he3:Hid (s2.e=300):=Ph (by rw [←hs2];unfold qH;rw [lM he]);have HS2:=Ph hs2;clear hs2;clear hT;go_enter Tryz.func53,Tryz.ntmps53
   go_wp2_with fail
   generalize ((World.alloc _ _))=W at HR0 HN0 HB0 HZ0 ⊢;refine(HS.out W).mono ?_;rintro en w1 ⟨hb,⟨a1,h1,_⟩ | ⟨h1,A,c,rfl,hrd⟩⟩
   ·have:=HBD.out;rw [h1]at this;cases this
   rw [HT.out]at hrd ⊢;have HR1:=Ph (zD HR0.out hb);have HN1:=Ph (zD HN0.out hb);have HB1:=Ph (zU HB0.out hb);have HRD:=Ph hrd;have hz1:w.heap.size+2≤w1.heap.size:=by have:=HZ0.out;have:=hb.size;omega
   clear hb h1 hrd HR0 HN0 HB0 HZ0;obtain⟨r,hr⟩:∃ r,w.heap.size=r:=⟨_,rfl⟩;obtain⟨m,hm⟩:∃ m,w.heap.size+1=m:=⟨_,rfl⟩;rw [hm]at HN1;rw [hr]at HR1;rw [hm,hr];have hrm:m≠r:=Yo;have hwr:w.heap.size≤r:=Yo;have hr1:r<w1.heap.size:=Yo;have hm1:m<w1.heap.size:=Yo;clear hr hm hz1;obtain⟨l0,l1⟩:=(hv.out.below HB1.out).lt;have hBp:=Bk.new w1 152 #[uR t,.slice A T.length c,uI 0,uI 0,uN,uI 0,uI 0];have HP2:Hid (Ps (w1.alloc (.cells #[uR t,.slice A T.length c,uI 0,uI 0,uN,uI 0,uI 0] 152)) w1.heap.size ⟨t,T⟩ ⟨A,T.length,c,w1.heap.size⟩ ⟨none,0,0⟩ ⟨0,0,0,0⟩):=Ph ⟨hBp,HRD.out.below zB,HEN.out,lV _,(hv.out.below HB1.out).below zB,Yo,Yo,by rw [lO];exact Nat.le_succ _⟩;have HB2:Hid (Below w.heap.size w (w1.alloc (.cells #[uR t,.slice A T.length c,uI 0,uI 0,uN,uI 0,uI 0] 152))):=Ph (zG HB1.out _);have HR2:=Ph (HR1.out.alloc (.cells #[uR t,.slice A T.length c,uI 0,uI 0,uN,uI 0,uI 0] 152));have HN2:=Ph (HN1.out.alloc (.cells #[uR t,.slice A T.length c,uI 0,uI 0,uN,uI 0,uI 0] 152));clear hBp HR1 HN1 HB1 HRD l0 l1;go_upto_region 6 with fail
   have hz2:(w1.alloc (.cells #[uR t,.slice A T.length c,uI 0,uI 0,uN,uI 0,uI 0] 152)).heap.size=w1.heap.size+1:=by rw [lO]
   generalize (w1.alloc _)=W2 at HP2 HB2 HR2 HN2 hz2 ⊢;obtain⟨p,hp⟩:∃ p,w1.heap.size=p:=⟨_,rfl⟩;rw [hp]at HP2;rw [hp];have hrp:r≠p:=Yo;have hmp:m≠p:=Yo;have hr2:r<W2.heap.size:=Yo;have hwp:w.heap.size≤p:=Yo;clear hp hz2 hr1 hm1;have HEC:=Ph (jY4 f _ X s W2 HC.out HP2);go_wp2_with fail
   refine HEC.out.mono ?_;rintro en w3 ⟨S,Q',rfl,ht,hps,hfr⟩;unfold qX;have HX3:=Ph ht;have HP3:=Ph hps;have HR3:=Ph (HR2.out.fr hfr hrp);have HN3:=Ph (HN2.out.fr hfr hmp);have HB3:=Ph (HB2.out.trans (hfr.below w.heap.size HB2.out.size (fun i hi e=>Yo)));have hw23:W2.heap.size≤w3.heap.size:=hfr.size;clear ht hps hfr HEC HR2 HN2;have HYB:=Ph (Bk.new w3 31 (uE X.1 S));have HP4:=Ph (HP3.out.below (zB (o:=(.cells (uE X.1 S) 31))));have HR4:=Ph (HR3.out.alloc (.cells (uE X.1 S) 31));have HN4:=Ph (HN3.out.alloc (.cells (uE X.1 S) 31));have HB4:=Ph (zG HB3.out (.cells (uE X.1 S) 31));have HX4:=Ph (HX3.out.bel (zB (o:=(.cells (uE X.1 S) 31))));have hwx:r<w3.heap.size:=Yo;have hpx:p<w3.heap.size:=HP3.out.lt;clear HP3 HR3 HN3 HB3 HX3 hw23;go_upto_region 7 with fail
   generalize (w3.alloc _)=W4 at HYB HP4 HR4 HN4 HB4 HX4 ⊢;obtain⟨q,hq⟩:∃ q,w3.heap.size=q:=⟨_,rfl⟩;rw [hq]at HYB;rw [hq];have hqr:q≠r:=Yo;have hqp:q≠p:=Yo;have hpr:p≠r:=cX hrp;clear hq hwx hpx;obtain⟨g0,g1,g2,g3,g4,g5,g6⟩:=HP4.out.cells;(try dsimp only at g0 g1 g2 g3 g4 g5 g6);have e1:((s.e:Int) == 0)=true:=Yp;have e3:decide (s.n<T.length)=true:=Yp;have HWC:=Ph (zG2 p ⟨t,T⟩ ⟨A,T.length,c,p⟩ Q' s 300 W4 HP4);rw [HS2.out]at HWC;clear he;go_wp2_with fail
   refine HWC.out.mono ?_;rintro en w5 ⟨⟨v,rfl⟩,hp⟩;have HP5:=Ph hp.ps;have HR5:=Ph (hp.bk HR4.out hrp);have HN5:=Ph (hp.bk HN4.out hmp);have HB5:=Ph (zB6 HB4.out hwp hp.fr);clear hp HP4 HR4 HN4 HB4 HWC g0 g1 g2 g3 g4 g5 g6;obtain⟨g0,g1,g2,g3,g4,g5,g6⟩:=HP5.out.cells;(try dsimp only at g0 g1 g2 g3 g4 g5 g6);rw [he3.out]at g6;obtain⟨x0,x1,x2,x3,x4,x5⟩:=zH HN5.out;obtain⟨y0,y1,y2,y3,y4,y5⟩:=zH HR5.out;obtain⟨f0,f1,f2,f3,f4,f5,_⟩:=zZ HR5.out;have HF:=Ph (fr6 w5 r (uB 0) (uB 0) (uW 0) (uI 0) (uT) (uN)).drew;have HK:=Ph (put6 (v0:=uB 0) (v1:=uB 0) (v2:=uW 0) (v3:=uI 0) (v4:=uT) (v5:=uN) HR5.out).drew;go_upto_region 10 with fail
   go_region
   clear y0 y1 y2 y3 y4 y5 f0 f1 f2 f3 f4 f5;generalize ((((((w5.setCell ⟨r,0,none⟩ (uB 0)).setCell ⟨r,1,none⟩ (uB 0)).setCell ⟨r,2,none⟩ (uW 0)).setCell ⟨r,3,none⟩ (uI 0)).setCell ⟨r,4,none⟩ (uT)).setCell ⟨r,5,none⟩ (uN)).drew=WF at HF HK ⊢;go_wp2_with fail
   obtain⟨r0,r1,r2,r3,r4,r5⟩:=zH HK.out;refine lK (v:=.tuple #[.agg uZ,uN,uI s2.fail,uI 300]) (by simp [results,Tryz.results53,go_sem,r0,r1,r2,r3,r4,r5]) rfl ?_;exact⟨⟨none,0,0⟩,none,0,0,rfl,.leaf jG6 rfl 0,zB6 HB5.out hwr HF.out⟩
 | no X s h hc he =>
   have HC:=Ph hc;have HBD:=Ph h;have HEN:=Ph (qP8 t hs);obtain⟨T,hT⟩:∃ T,zY t (kG t)=T:=⟨_,rfl⟩;rw [hT]at HC HEN;have HT:=Ph hT;clear hc h;clear hT;go_enter Tryz.func53,Tryz.ntmps53
   go_wp2_with fail
   generalize ((World.alloc _ _))=W at HR0 HN0 HB0 HZ0 ⊢;refine(HS.out W).mono ?_;rintro en w1 ⟨hb,⟨a1,h1,_⟩ | ⟨h1,A,c,rfl,hrd⟩⟩
   ·have:=HBD.out;rw [h1]at this;cases this
   rw [HT.out]at hrd ⊢;have HR1:=Ph (zD HR0.out hb);have HN1:=Ph (zD HN0.out hb);have HB1:=Ph (zU HB0.out hb);have HRD:=Ph hrd;have hz1:w.heap.size+2≤w1.heap.size:=by have:=HZ0.out;have:=hb.size;omega
   clear hb h1 hrd HR0 HN0 HB0 HZ0;obtain⟨r,hr⟩:∃ r,w.heap.size=r:=⟨_,rfl⟩;obtain⟨m,hm⟩:∃ m,w.heap.size+1=m:=⟨_,rfl⟩;rw [hm]at HN1;rw [hr]at HR1;rw [hm,hr];have hrm:m≠r:=Yo;have hwr:w.heap.size≤r:=Yo;have hr1:r<w1.heap.size:=Yo;have hm1:m<w1.heap.size:=Yo;clear hr hm hz1;obtain⟨l0,l1⟩:=(hv.out.below HB1.out).lt;have hBp:=Bk.new w1 152 #[uR t,.slice A T.length c,uI 0,uI 0,uN,uI 0,uI 0];have HP2:Hid (Ps (w1.alloc (.cells #[uR t,.slice A T.length c,uI 0,uI 0,uN,uI 0,uI 0] 152)) w1.heap.size ⟨t,T⟩ ⟨A,T.length,c,w1.heap.size⟩ ⟨none,0,0⟩ ⟨0,0,0,0⟩):=Ph ⟨hBp,HRD.out.below zB,HEN.out,lV _,(hv.out.below HB1.out).below zB,Yo,Yo,by rw [lO];exact Nat.le_succ _⟩;have HB2:Hid (Below w.heap.size w (w1.alloc (.cells #[uR t,.slice A T.length c,uI 0,uI 0,uN,uI 0,uI 0] 152))):=Ph (zG HB1.out _);have HR2:=Ph (HR1.out.alloc (.cells #[uR t,.slice A T.length c,uI 0,uI 0,uN,uI 0,uI 0] 152));have HN2:=Ph (HN1.out.alloc (.cells #[uR t,.slice A T.length c,uI 0,uI 0,uN,uI 0,uI 0] 152));clear hBp HR1 HN1 HB1 HRD l0 l1;go_upto_region 6 with fail
   have hz2:(w1.alloc (.cells #[uR t,.slice A T.length c,uI 0,uI 0,uN,uI 0,uI 0] 152)).heap.size=w1.heap.size+1:=by rw [lO]
   generalize (w1.alloc _)=W2 at HP2 HB2 HR2 HN2 hz2 ⊢;obtain⟨p,hp⟩:∃ p,w1.heap.size=p:=⟨_,rfl⟩;rw [hp]at HP2;rw [hp];have hrp:r≠p:=Yo;have hmp:m≠p:=Yo;have hr2:r<W2.heap.size:=Yo;have hwp:w.heap.size≤p:=Yo;clear hp hz2 hr1 hm1;have HEC:=Ph (jY4 f _ X s W2 HC.out HP2);go_wp2_with fail
   refine HEC.out.mono ?_;rintro en w3 ⟨S,Q',rfl,ht,hps,hfr⟩;unfold qX;have HX3:=Ph ht;have HP3:=Ph hps;have HR3:=Ph (HR2.out.fr hfr hrp);have HN3:=Ph (HN2.out.fr hfr hmp);have HB3:=Ph (HB2.out.trans (hfr.below w.heap.size HB2.out.size (fun i hi e=>Yo)));have hw23:W2.heap.size≤w3.heap.size:=hfr.size;clear ht hps hfr HEC HR2 HN2;have HYB:=Ph (Bk.new w3 31 (uE X.1 S));have HP4:=Ph (HP3.out.below (zB (o:=(.cells (uE X.1 S) 31))));have HR4:=Ph (HR3.out.alloc (.cells (uE X.1 S) 31));have HN4:=Ph (HN3.out.alloc (.cells (uE X.1 S) 31));have HB4:=Ph (zG HB3.out (.cells (uE X.1 S) 31));have HX4:=Ph (HX3.out.bel (zB (o:=(.cells (uE X.1 S) 31))));have hwx:r<w3.heap.size:=Yo;have hpx:p<w3.heap.size:=HP3.out.lt;clear HP3 HR3 HN3 HB3 HX3 hw23;go_upto_region 7 with fail
   generalize (w3.alloc _)=W4 at HYB HP4 HR4 HN4 HB4 HX4 ⊢;obtain⟨q,hq⟩:∃ q,w3.heap.size=q:=⟨_,rfl⟩;rw [hq]at HYB;rw [hq];have hqr:q≠r:=Yo;have hqp:q≠p:=Yo;have hpr:p≠r:=cX hrp;clear hq hwx hpx;obtain⟨g0,g1,g2,g3,g4,g5,g6⟩:=HP4.out.cells;(try dsimp only at g0 g1 g2 g3 g4 g5 g6);have e1:((s.e:Int) == 0)=false:=Yp;have e2:((s.e:Int) != 0)=true:=Yp;obtain⟨x0,x1,x2,x3,x4,x5⟩:=zH HN4.out;clear he;obtain⟨y0,y1,y2,y3,y4,y5⟩:=zH HR4.out;obtain⟨f0,f1,f2,f3,f4,f5,_⟩:=zZ HR4.out;have HF:=Ph (fr6 W4 r (uB 0) (uB 0) (uW 0) (uI 0) (uT) (uN)).drew;have HK:=Ph (put6 (v0:=uB 0) (v1:=uB 0) (v2:=uW 0) (v3:=uI 0) (v4:=uT) (v5:=uN) HR4.out).drew;go_upto_region 10 with fail
   go_region
   clear y0 y1 y2 y3 y4 y5 f0 f1 f2 f3 f4 f5;generalize ((((((W4.setCell ⟨r,0,none⟩ (uB 0)).setCell ⟨r,1,none⟩ (uB 0)).setCell ⟨r,2,none⟩ (uW 0)).setCell ⟨r,3,none⟩ (uI 0)).setCell ⟨r,4,none⟩ (uT)).setCell ⟨r,5,none⟩ (uN)).drew=WF at HF HK ⊢;go_wp2_with fail
   obtain⟨r0,r1,r2,r3,r4,r5⟩:=zH HK.out;refine lK (v:=.tuple #[.agg uZ,uN,uI s.fail,uI s.e]) (by simp [results,Tryz.results53,go_sem,r0,r1,r2,r3,r4,r5]) rfl ?_;exact⟨⟨none,0,0⟩,none,0,0,rfl,.leaf jG6 rfl 0,zB6 HB4.out hwr HF.out⟩
end
section
open Go.RowKit
section
variable {P:Program} {ops:Array Oper} {md:Region.Mode} {S:World→Prop} {Q:Exit→Act→World→Prop}
def wpY (P:Program) (ops:Array Oper) (S:World→Prop) (Q:Act→Prop):List Oper→Act→Prop
 | [],a=>Q a
 | o :: l,a=>∃ v,YieldsIf P ops S o v a∧wpY P ops S Q l (a.put o.dst v)
def zK4 (md:Region.Mode) (ops:Array Oper):Nat→Nat→Array Bool→Bool
 | 0,_,listed=>decide (Region.ready md ops listed=[])
 | f+1,k,listed=>(Region.ready md ops listed).contains k && Region.free md ops listed k && zK4 md ops f (k+1) (listed.setIfInBounds k true)
def zB7 (md:Region.Mode) (ops:Array Oper) (n:Nat):Nat→Nat→Array Bool→Bool
 | 0,_,listed=>decide (Region.ready md ops listed=[n]) && zK4 md ops (ops.size-n-1) (n+1) (listed.setIfInBounds n true)
 | f+1,k,listed=>(Region.ready md ops listed).contains k && Region.free md ops listed k && zB7 md ops n f (k+1) (listed.setIfInBounds k true)
theorem qG7 (hsel:Region.noSelect ops=true) (hQ:∀ d v c (a:Act) w,Q (.panic c) (a.put d v) w→Q (.panic c) a w) {w:World} (hS:S w) {R:Act→Prop} (hR:∀ a,R a→Q .normal a w) :
 ∀ (l:List Oper) (k:Nat) (listed:Array Bool) (a:Act),(∀ j,j<l.length→l[j]?=ops[k+j]?)→zK4 md ops l.length k listed=true→wpY P ops S R l a→wpAnyH P md ops Q S l.length listed a w
 | [],k,listed,a,_,hB,h=>wpAnyH_done (by simpa [zK4]using hB) (hR a h) 0
 | o :: l,k,listed,a,hl,hB,h=>by
   have h0:ops[k]?=some o:=by simpa using(hl 0 Ym).symm
   simp only [Yc,zK4,lZ]at hB;obtain⟨v,hy,hK⟩:=h
   exact wpAnyH_take h0 hsel hB.1.2 hB.1.1 (fun c a w=>hQ _ _ c a w) hy hS
    (qG7 hsel hQ hS hR l (k+1) _ _ (fun j hj=>by have:=hl (j+1) Yp;simpa [Nat.add_assoc,Nat.add_comm 1 j]using this) hB.2 hK)
theorem qG8 (hsel:Region.noSelect ops=true) (hQ:∀ d v c (a:Act) w,Q (.panic c) (a.put d v) w→Q (.panic c) a w) {n g:Nat} {w:World} (hS:S w) {R:Act→Prop}
 (hfin:∀ listed a,zB7 md ops n 0 n listed=true→R a→wpAnyH P md ops Q S g listed a w) :
 ∀ (l:List Oper) (k:Nat) (listed:Array Bool) (a:Act),(∀ j,j<l.length→l[j]?=ops[k+j]?)→k+l.length=n→zB7 md ops n l.length k listed=true→wpY P ops S R l a→wpAnyH P md ops Q S (l.length+g) listed a w
 | [],k,listed,a,_,hk,hB,h=>by
   obtain rfl:k=n:=by simpa using hk
   rw [Yn,Nat.zero_add];exact hfin listed a hB h
 | o :: l,k,listed,a,hl,hk,hB,h=>by
   have h0:ops[k]?=some o:=by simpa using(hl 0 Ym).symm
   simp only [Yc,zB7,lZ]at hB;obtain⟨v,hy,hK⟩:=h;rw [Yc,show l.length+1+g=(l.length+g)+1 from by omega]
   exact wpAnyH_take h0 hsel hB.1.2 hB.1.1 (fun c a w=>hQ _ _ c a w) hy hS
    (qG8 hsel hQ hS hfin l (k+1) _ _ (fun j hj=>by have:=hl (j+1) Yp;simpa [Nat.add_assoc,Nat.add_comm 1 j]using this) (by simp only [Yc]at hk;omega) hB.2 hK)
theorem zU5 {id:Nat} {a:Act} {w:World} {l:List Oper} (n:Nat) (S:World→Prop) (hm:P.follows .mixedOrders=true) (hsel:Region.noSelect l.toArray=true) (hB:zB7 .any l.toArray n n 0 (Array.replicate l.toArray.size false)=true) (hn:n<l.length)
 (hQ:∀ d v c (a:Act) w,Q (.panic c) (a.put d v) w→Q (.panic c) a w) (hS:S w.drew)
 (h:wpY P l.toArray S (fun a1=>wpOp P l.toArray Q n (fun a2 w2=>S w2∧wpY P l.toArray S (fun a3=>Q .normal a3 w2) (l.drop (n+1)) a2) a1 w.drew) (l.take n) a) :
 (Code.region id l.toArray true).wp P Q a w:=by
 have htl:(l.take n).length=n:=Yp;have hdl:(l.drop (n+1)).length=l.toArray.size-n-1:=Yp;refine wp_region_held (S:=S) hm ?_
 have key:=qG8 (P:=P) (ops:=l.toArray) (md:=.any) (S:=S) (Q:=Q) (n:=n) (g:=l.toArray.size-n) hsel hQ hS
  (R:=fun a1=>wpOp P l.toArray Q n (fun a2 w2=>S w2∧wpY P l.toArray S (fun a3=>Q .normal a3 w2) (l.drop (n+1)) a2) a1 w.drew)
  (fun listed a hL ha=>by
    simp only [zB7,lZ,cC]at hL;rw [show l.toArray.size-n=(l.toArray.size-n-1)+1 from by simp;omega];refine wpAnyH_all hL.1 Ym (fun i hi=>?_);obtain rfl:i=n:=by simpa using hi
    refine wpOp_mono (fun a2 w2 h2=>⟨h2.1,?_⟩) ha;rw [←hdl];exact qG7 hsel hQ h2.1 (fun a3 h3=>h3) (l.drop (i+1)) (i+1) _ a2 (fun j _=>by simp [List.getElem?_drop]) (by rw [hdl];exact hL.2) h2.2)
  (l.take n) 0 (Array.replicate l.toArray.size false) a (fun j hj=>by
    have hj':j<n:=by rw [htl]at hj;exact hj
    simp [hj']) (by rw [htl];omega) (by rw [htl];exact hB) h
 rw [htl,show n+(l.toArray.size-n)=l.toArray.size from by simp;omega]at key;exact key
theorem zO4 {R:Act→Prop} {a:Act} (h:R a):wpY P ops S R [] a:=h
def kI9 (Q:Exit→Act→World→Prop):Exit→Act→World→Prop
 | .normal,a,w=>Q .normal a w
 | _,_,_=>False
theorem wY {id:Nat} {a:Act} {w:World} {l:List Oper} (n:Nat) (S:World→Prop) (hm:P.follows .mixedOrders=true) (hsel:Region.noSelect l.toArray=true) (hB:zB7 .any l.toArray n n 0 (Array.replicate l.toArray.size false)=true) (hn:n<l.length) (hS:S w.drew)
 (h:wpY P l.toArray S (fun a1=>wpOp P l.toArray (kI9 Q) n (fun a2 w2=>S w2∧wpY P l.toArray S (fun a3=>Q .normal a3 w2) (l.drop (n+1)) a2) a1 w.drew) (l.take n) a) :
 (Code.region id l.toArray true).wp P Q a w :=
 Code.wp_mono (Q:=kI9 Q) (fun e a w h=>by cases e <;> first | exact h | exact h.elim) (zU5 n S hm hsel hB hn (fun _ _ _ _ _ h=>h.elim) hS h)
end
end
end Go.Proofs.YtfdaebgllibphaaGreatDoor
