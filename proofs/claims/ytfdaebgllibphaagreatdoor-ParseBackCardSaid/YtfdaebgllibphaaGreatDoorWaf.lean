import Derived.Deep.LoopGhost
import Derived.Deep.DeepMust
import Derived.Deep.RegionLaw
import Derived.Test.YtfdaebgllibphaaGreatDoorWae
set_option linter.unusedVariables false
set_option linter.unusedSimpArgs false
set_option maxRecDepth 100000
set_option maxHeartbeats 16000000
namespace Go.Proofs.YtfdaebgllibphaaGreatDoor
open Go.Proofs.Tryz
section
open Go.RowKit Go.PlainAid
section
variable {p:Nat} {E:Env} {T:TV} {Q:SV}
theorem qE9 {f:Nat} {s s':PSt} {X:Nd} (h:zR E (f+1) s=some (X,s')) :
 (∃ op,(zC E s).kind=4∧jY (zC E s).text false=some op∧okP s=true∧∃ x s2,zR E f (kV E s (zC E s).text)=some (x,s2)∧okP s2=true∧okW [x]=true∧X=qI 5 op 0 0 [] (zC E s).at' [x]∧s'=yH s2 (-1)) ∨
 (((zC E s).kind≠4∨jY (zC E s).text false=none)∧∃ x s1,qJ E f s=some (x,s1)∧jI E f x s1=some (X,s')):=by
 unfold zR at h;by_cases h1:(zC E s).kind=4
 ·rw [lM h1]at h;cases h2:jY (zC E s).text false with
  | none =>
    rw [h2]at h;(try dsimp only at h);refine .inr ⟨.inr rfl,?_⟩;cases h3:qJ E f s with
    | none=>rw [h3]at h;cases h
    | some q =>
      obtain⟨x,s1⟩:=q;rw [h3]at h;exact⟨x,s1,rfl,h⟩
  | some op =>
    rw [h2]at h;(try dsimp only at h);refine .inl ⟨op,h1,rfl,?_⟩;cases h3:okP s with
    | false=>rw [h3]at h;cases h
    | true =>
      rw [h3]at h;(try dsimp only at h);refine⟨rfl,?_⟩;cases h4:zR E f (kV E s (zC E s).text)with
      | none=>rw [h4]at h;cases h
      | some q =>
        obtain⟨x,s2⟩:=q;rw [h4]at h;(try dsimp only at h);cases h5:(okP s2 && okW [x])with
        | false=>rw [h5]at h;cases h
        | true =>
          rw [h5]at h;injection h with h;injection h with h7 h8;rw [lZ]at h5;exact⟨x,s2,rfl,h5.1,h5.2,h7.symm,h8.symm⟩
 ·rw [lN h1]at h;(try dsimp only at h);refine .inr ⟨.inl h1,?_⟩;cases h3:qJ E f s with
  | none=>rw [h3]at h;cases h
  | some q =>
    obtain⟨x,s1⟩:=q;rw [h3]at h;exact⟨x,s1,rfl,h⟩
theorem qP7 (t:List UInt8) (two:Bool):∀ f o k,qD8 t two f o=some k→o≤k∧k<o+f
 | 0,_,_,h=>by cases h
 | f+1,o,k,h=>by
   rw [zX6]at h;split at h
   ·injection h with h;omega
   ·have:=qP7 t two f (o+1) k h;omega
theorem zQ4 {t:List UInt8} {two:Bool} {k:Nat} (h:jY t two=some k):1≤k∧k≤16:=by have:=qP7 t two 16 1 k h;omega
theorem qV6 {f:Nat} {x X:Nd} {s s':PSt} (h:jI E (f+1) x s=some (X,s')):(isP E s [64]=false∧X=x∧s'=s)∨(isP E s [64]=true∧okW [x]=true∧jI E f (qI 8 0 0 (jB E (zE s)).1 [] (yK x) [x]) (jB E (zE s)).2=some (X,s')):=by
 unfold jI at h;cases h1:isP E s [64]with
 | false =>
   rw [h1]at h;injection h with h;injection h with h7 h8;exact .inl ⟨rfl,h7.symm,h8.symm⟩
 | true =>
   rw [h1]at h;(try dsimp only at h);cases h2:okW [x]with
   | false=>rw [h2]at h;cases h
   | true =>
     rw [h2]at h;exact .inr ⟨rfl,rfl,h⟩
structure Lp (p:Nat) (E:Env) (T:TV) (Q:SV) (w:World) (b r:Nat) (y:Nd) (S R:SV) (s:PSt) (W:World):Prop where
 pp:PP w p E T Q s W
 bx:Bk W b 168 #[uB y.1.kind,uB y.1.op,uW y.1.value,uI y.1.width,uR y.1.name,.slice S.A S.n S.c,.slice R.A R.n R.c]
 rs:Bk W r 168 #[uB 0,uB 0,uW 0,uI 0,uT,uN,uN]
 nd:NdAt T.base W y S R
theorem Lp.bel {w W W':World} {b r:Nat} {y:Nd} {S R:SV} {s:PSt} (h:Lp p E T Q w b r y S R s W) (hb:Below W.heap.size W W'):Lp p E T Q w b r y S R s W':=⟨h.pp.then hb,zD h.bx hb,zD h.rs hb,h.nd.below hb⟩
theorem Lp.tr {w W W':World} {b r:Nat} {y:Nd} {S R:SV} {s s':PSt} (h:Lp p E T Q w b r y S R s W) (hb:b≠p) (hr:r≠p) (k:PP W p E T Q s' W'):Lp p E T Q w b r y S R s' W':=⟨h.pp.trans k,k.bk h.bx hb,k.bk h.rs hr,k.nd h.pp.ps h.nd⟩
theorem Lp.cel {w W:World} {b r:Nat} {y:Nd} {S R:SV} {s:PSt} (h:Lp p E T Q w b r y S R s W):W.cell? ⟨b,0,none⟩=some (uB y.1.kind)∧W.cell? ⟨b,1,none⟩=some (uB y.1.op)∧W.cell? ⟨b,2,none⟩=some (uW y.1.value)∧W.cell? ⟨b,3,none⟩=some (uI y.1.width)∧W.cell? ⟨b,4,none⟩=some (uR y.1.name)∧W.cell? ⟨b,5,none⟩=some (.slice S.A S.n S.c)∧W.cell? ⟨b,6,none⟩=some (.slice R.A R.n R.c):=qL h.bx
theorem Lp.cal {w W:World} {b r:Nat} {y:Nd} {S R:SV} {s:PSt} (h:Lp p E T Q w b r y S R s W) (o:Obj):(W.alloc o).cell? ⟨b,0,none⟩=some (uB y.1.kind)∧(W.alloc o).cell? ⟨b,1,none⟩=some (uB y.1.op)∧(W.alloc o).cell? ⟨b,2,none⟩=some (uW y.1.value)∧(W.alloc o).cell? ⟨b,3,none⟩=some (uI y.1.width)∧(W.alloc o).cell? ⟨b,4,none⟩=some (uR y.1.name)∧(W.alloc o).cell? ⟨b,5,none⟩=some (.slice S.A S.n S.c)∧(W.alloc o).cell? ⟨b,6,none⟩=some (.slice R.A R.n R.c):=qL (zD h.bx zB)
theorem NdsAt.tr {B:Nat} {W W':World} {g n:Nat} {L:List NdV} {s s0:PSt} (h:NdsAt B W (some ⟨g,0,none⟩) n L) (hg:g≠p) (h0:Ps W p E T Q s0) (k:PP W p E T Q s W'):NdsAt B W' (some ⟨g,0,none⟩) n L :=
 ⟨h.rd.fr k.fr (fun b _ he hb=>by obtain⟨off,he⟩:=he;injection he with he;injection he with he;exact hg (he.trans hb)),h.len,lE h.base k.fr.size,fun q hq=>k.nd h0 (h.all q hq)⟩
theorem qF1 {f:Nat} (IH:∀ g,g≤f→Sp p E T Q g) (s:PSt) (X:Nd) (s':PSt) (w:World) (hx:zR E (f+1) s=some (X,s')) (h:Ud (Ps w p E T Q s)) :
 Calls prog 143 #[uQ p 0] w (vG w p E T Q X s'):=by
 have hR:=qE9 hx;have HIH:=Ph IH;have hpl:p<w.heap.size:=h.o.lt;have hle:=h.o.nextLe;have HB0:Ud (Ue w (w.alloc (.cells #[uB 0,uB 0,uW 0,uI 0,uT,uN,uN] 168))):=zB;have HX0:=Ph (Bk.new w 168 #[uB 0,uB 0,uW 0,uI 0,uT,uN,uN]);obtain⟨⟨tk,tt,ta,tf⟩,ht⟩:∃ t,zC E s=t:=⟨_,rfl⟩;have HT:=Ph ht;rw [ht]at hle hR;(try dsimp only at hle hR);clear hx IH ht;rcases hR with⟨op,hk,hf,ok1,x,s2,hc,ok2,okw,hX,rfl⟩ | ⟨hno,x,s1,hc,hcs⟩
 ·have hop:=zQ4 hf;have HFO:=Ph hf;have HC:=Ph hc;have OW:=Ph (zM5 okw);have HXE:=Ph hX;have e1:((tk:Int) == 4)=true:=Yp;have hok:=ok2;unfold okP at hok;simp only [lZ,cC]at hok;have wd:IntKind.i64.wrap (s2.deep-1)=s2.deep-1:=by rw [lL];omega
  clear hf hc okw hX hok hk;go_enter func143,ntmps143
  go_upto_region 1 with fail
  generalize (w.alloc _)=W at HB0 HX0 ⊢;obtain⟨r,hr⟩:∃ r,w.heap.size=r:=⟨_,rfl⟩;rw [hr]at HX0 ⊢;have hrp:r≠p:=Yo;have hwr:w.heap.size≤r:=Yo;clear hr hpl;have HP0:=Ph (h.o.below HB0.o);have HNX:=Ph (zC5 p E T Q s W HP0);rw [HT.o]at HNX;dsimp only [nxV,kW]at HNX;go_wp2_with fail
  refine HNX.o.mono ?_;rintro e w1 ⟨rfl,hb1⟩;have HB1:=Ph (zU HB0.o hb1);have HX1:=Ph (zD HX0.o hb1);clear hb1 HNX HP0 HX0;have hwr':r<w1.heap.size:=HX1.o.lt;have hwp':p<w1.heap.size:=(h.o.below HB1.o).lt;have HBn:Ud (Ue w1 (w1.alloc (.cells #[uB tk,uI ta,uI tf] 44))):=zB;have HTB:=Ph (Bk.new w1 44 #[uB tk,uI ta,uI tf]);go_upto_region 2 with fail
  generalize (w1.alloc _)=W2 at HBn HTB ⊢;obtain⟨b3,hb⟩:∃ b,w1.heap.size=b:=⟨_,rfl⟩;rw [hb]at HTB ⊢;have hb3p:b3≠p:=Yo;have hb3r:b3≠r:=Yo;have hrb3:r≠b3:=Yo;clear hb hwr' hwp';have HB2:=Ph (zU HB1.o HBn.o);have HX2:=Ph (zD HX1.o HBn.o);clear HX1 HBn HB1;go_wp2_with fail
  refine(qV3 tt false W2).mono ?_;rintro e w3 ⟨rfl,hb⟩;rw [HFO.o];dsimp only [jC5];have HP3:=Ph (PP.below h.o (zU HB2.o hb));have HX3:=Ph (zD HX2.o hb);have HT3:=Ph (zD HTB.o hb);clear hb HX2 HTB HB2;obtain⟨t0,t1,t2⟩:=zJ HT3.o;go_wp2_with fail
  refine(jX7 p E T Q s tt w3 (Ph HP3.o.ps) ok1).mono ?_;rintro e w4 ⟨⟨v,rfl⟩,hp⟩;have HP4:=Ph (HP3.o.trans hp);have HX4:=Ph (hp.bk HX3.o hrp);have HT4:=Ph (hp.bk HT3.o hb3p);clear hp HP3 HX3 HT3 t0 t1 t2;go_wp2_with fail
  refine((HIH.o f (lF _)).operand _ _ _ w4 HC.o (Ph HP4.o.ps)).mono ?_;rintro e w5 ⟨S,R,rfl,hn,hp⟩;rw [zS];have HP5:=Ph (HP4.o.trans hp);have HX5:=Ph (hp.bk HX4.o hrp);have HT5:=Ph (hp.bk HT4.o hb3p);have HN5:=Ph hn;clear hp hn HP4 HX4 HT4;have hw5r:r<w5.heap.size:=HX5.o.lt;have hw5p:p<w5.heap.size:=HP5.o.ps.lt;have hw5t:b3<w5.heap.size:=HT5.o.lt;have HBn:Ud (Ue w5 (w5.alloc (.cells #[uB x.1.kind,uB x.1.op,uW x.1.value,uI x.1.width,uR x.1.name,uL S,uL R] 168))):=zB;have HY6:=Ph (Bk.new w5 168 #[uB x.1.kind,uB x.1.op,uW x.1.value,uI x.1.width,uR x.1.name,uL S,uL R]);go_upto_region 6 with fail
  generalize (w5.alloc _)=W6 at HBn HY6 ⊢;obtain⟨b7,hb⟩:∃ b,w5.heap.size=b:=⟨_,rfl⟩;rw [hb]at HY6 ⊢;have hb7p:b7≠p:=Yo;have hb7r:b7≠r:=Yo;have hb7b3:b7≠b3:=Yo;clear hb hw5r hw5p hw5t;have HP6:=Ph (HP5.o.then HBn.o);have HX6:=Ph (zD HX5.o HBn.o);have HT6:=Ph (zD HT5.o HBn.o);have HN6:=Ph (HN5.o.below HBn.o);clear HP5 HX5 HT5 HN5 HBn;obtain⟨g0,g1,g2,g3,g4,g5,g6⟩:=HP6.o.ps.cells;have gz:=HP6.o.ps.frozens 3;have hd:=HP6.o.ps.setDeep (s2.deep-1);have HP7:=Ph (HP6.o.trans hd);have HX7:=Ph (hd.bk HX6.o hrp);have HT7:=Ph (hd.bk HT6.o hb3p);have HY7:=Ph (hd.bk HY6.o hb7p);have HN7:=Ph (hd.nd HP6.o.ps HN6.o);clear hd;go_upto_region 7 with fail
  generalize (World.setCell _ _ _)=W7 at HP7 HX7 HT7 HY7 HN7 ⊢;clear HP6 HX6 HT6 HY6 HN6 g0 g1 g2 g3 g4 g5 g6 gz;obtain⟨t0,t1,t2⟩:=zJ HT7.o;obtain⟨x0,x1,x2,x3,x4,x5,x6⟩:=qL HY7.o;have HRN:Ud (NdsAt T.base (W7.alloc (.cells #[uB x.1.kind,uB x.1.op,uW x.1.value,uI x.1.width,uR x.1.name,uL S,uL R] 168)) (some ⟨W7.heap.size,0,none⟩) 1 [(x,S,R)]):=zG9 (W:=W7) [(x,S,R)] (fun q hq=>by rw [cQ.1 hq];exact HN7.o);have HW:Ud (∀ (W':World) (g:Nat),NdsAt T.base W' (some ⟨g,0,none⟩) 1 [(x,S,R)]→Calls prog 123 #[.agg #[uB 5,uB op,uW 0,uI 0,uT,uN],uI ta,.slice (some ⟨g,0,none⟩) 1 1] W' fun e w'=>∃ S0 R0,e=.returned (yO X S0 R0)∧NdAt T.base w' X S0 R0∧Below W'.heap.size W' w'):=fun W' g hg=>by
   have hlen:(kL 0 [(x,S,R)]).length≤100000000:=by
    have h1:=OW.o;have h2:(kL 0 ([(x,S,R)]:List NdV)).length=1+(([x]:List Nd).flatMap (·.2)).length:=by unfold kL;simp;omega
    omega
   rw [HXE.o];exact zS3 5 op 0 0 [] ta (some ⟨g,0,none⟩) 1 1 [(x,S,R)] W' (Ph hg) Yo hlen Yo Yo Yo Yo Yo Yo Ym
  go_wp2_with fail
  refine(HW.o _ _ HRN.o).mono ?_;rintro e v7 ⟨S0,R0,rfl,hn7,hb7⟩;rw [zS];have HB7:=Ph (zU zB hb7);have HN8:=Ph hn7;have HP8:=Ph (HP7.o.then HB7.o);have HX8:=Ph (zD HX7.o HB7.o);clear hn7 hb7 t0 t1 t2 x0 x1 x2 x3 x4 x5 x6 HRN HW;obtain⟨y0,y1,y2,y3,y4,y5,y6⟩:=qL HX8.o;obtain⟨f0,f1,f2,f3,f4,f5,f6⟩:=zZ HX8.o;have HF:=Ph (fr7 v7 r (uB X.1.kind) (uB X.1.op) (uW X.1.value) (uI X.1.width) (uR X.1.name) (uL S0) (uL R0));have HK:=Ph (zZ9 (v0:=uB X.1.kind) (v1:=uB X.1.op) (v2:=uW X.1.value) (v3:=uI X.1.width) (v4:=uR X.1.name) (v5:=uL S0) (v6:=uL R0) HX8.o);go_wp2_with fail
  generalize (World.setCell _ _ _)=WF at HF HK ⊢;obtain⟨r0,r1,r2,r3,r4,r5,r6⟩:=qL HK.o;refine lK (v:=yO X S0 R0) (by rw [zS];simp [results,results143,go_sem,r0,r1,r2,r3,r4,r5,r6]) rfl ?_;exact xZ HP8.o h.o HX8.o hrp hwr HF.o HN8.o
 ·have HC:=Ph hc;have HCS:=Ph hcs;have hF:∃ o b,jC5 (jY tt false)=.tuple #[uB o,.bool b]∧(b=false∨((tk:Int) == 4)=false):=by
   cases hf:jY tt false with
   | none=>exact⟨0,false,rfl,.inl rfl⟩
   | some op =>
     refine⟨(op:Int),true,rfl,.inr ?_⟩;rcases hno with h1 | h1
     ·simp;omega
     ·rw [hf]at h1;cases h1
  obtain⟨o,b,hfv,hb⟩:=hF;have HFO:=Ph hfv;clear hc hcs hfv hno;go_enter func143,ntmps143
  go_upto_region 1 with fail
  generalize (w.alloc _)=W at HB0 HX0 ⊢;obtain⟨r,hr⟩:∃ r,w.heap.size=r:=⟨_,rfl⟩;rw [hr]at HX0 ⊢;have hrp:r≠p:=Yo;have hwr:w.heap.size≤r:=Yo;clear hr hpl;have HP0:=Ph (h.o.below HB0.o);have HNX:=Ph (zC5 p E T Q s W HP0);rw [HT.o]at HNX;dsimp only [nxV,kW]at HNX;go_wp2_with fail
  refine HNX.o.mono ?_;rintro e w1 ⟨rfl,hb1⟩;have HB1:=Ph (zU HB0.o hb1);have HX1:=Ph (zD HX0.o hb1);clear hb1 HNX HP0 HX0;have hwr':r<w1.heap.size:=HX1.o.lt;have hwp':p<w1.heap.size:=(h.o.below HB1.o).lt;have HBn:Ud (Ue w1 (w1.alloc (.cells #[uB tk,uI ta,uI tf] 44))):=zB;have HTB:=Ph (Bk.new w1 44 #[uB tk,uI ta,uI tf]);go_upto_region 2 with fail
  generalize (w1.alloc _)=W2 at HBn HTB ⊢;obtain⟨b3,hb⟩:∃ b,w1.heap.size=b:=⟨_,rfl⟩;rw [hb]at HTB ⊢;have hb3p:b3≠p:=Yo;have hb3r:b3≠r:=Yo;have hrb3:r≠b3:=Yo;clear hb hwr' hwp';have HB2:=Ph (zU HB1.o HBn.o);have HX2:=Ph (zD HX1.o HBn.o);clear HX1 HBn HB1;go_wp2_with fail
  refine(qV3 tt false W2).mono ?_;rintro e w3 ⟨rfl,hb⟩;rw [HFO.o];dsimp only;have HP3:=Ph (PP.below h.o (zU HB2.o hb));have HX3:=Ph (zD HX2.o hb);have HT3:=Ph (zD HTB.o hb);clear hb HX2 HTB HB2;obtain⟨t0,t1,t2⟩:=zJ HT3.o;go_upto_region 3 with fail
  go_cut [24] (fun v24 wx=>v24=.bool false∧w3=wx)
  case first =>
   rcases hb with rfl | hb
   ·go_wp2
    go_meet
    exact⟨rfl,rfl⟩
   ·cases b with
    | false =>
      go_wp2
      go_meet
      exact⟨rfl,rfl⟩
    | true =>
      go_wp2
      go_meet
      exact⟨rfl,rfl⟩
  case rest =>
  obtain⟨rfl,rfl⟩:=hcut;clear t0 t1 t2 hb;go_wp2_with fail
  refine((HIH.o f (lF _)).basis _ _ _ w3 HC.o (Ph HP3.o.ps)).mono ?_;rintro e w5 ⟨S,R,rfl,hn,hp⟩;rw [zS];have HP5:=Ph (HP3.o.trans hp);have HX5:=Ph (hp.bk HX3.o hrp);have HN5:=Ph hn;clear hp hn HP3 HX3 HT3;have hw5r:r<w5.heap.size:=HX5.o.lt;have hw5p:p<w5.heap.size:=HP5.o.ps.lt;have HBn:Ud (Ue w5 (w5.alloc (.cells #[uB x.1.kind,uB x.1.op,uW x.1.value,uI x.1.width,uR x.1.name,uL S,uL R] 168))):=zB;have HY6:=Ph (Bk.new w5 168 #[uB x.1.kind,uB x.1.op,uW x.1.value,uI x.1.width,uR x.1.name,uL S,uL R]);go_wp2_with fail
  generalize (w5.alloc _)=W6 at HBn HY6 ⊢;obtain⟨b8,hb⟩:∃ b,w5.heap.size=b:=⟨_,rfl⟩;rw [hb]at HY6 ⊢;have hb8p:b8≠p:=Yo;have hb8r:b8≠r:=Yo;have hrb8:r≠b8:=Yo;have hwb8:w.heap.size≤b8:=Yo;clear hb hw5r hw5p;have HP6:=Ph (HP5.o.then HBn.o);have HX6:=Ph (zD HX5.o HBn.o);have HN6:=Ph (HN5.o.below HBn.o);clear HP5 HX5 HN5 HBn;go_loopg [47] f (fun g v47 wr=>∃ y S R sc,Ud (jI E g y sc=some (X,s'))∧Ud (Bk wr b8 168 #[uB y.1.kind,uB y.1.op,uW y.1.value,uI y.1.width,uR y.1.name,uL S,uL R])∧Ud (NdAt T.base wr y S R)∧Ud (PP w p E T Q sc wr)∧Ud (Bk wr r 168 #[uB 0,uB 0,uW 0,uI 0,uT,uN,uN]))
  case atStart=>exact⟨x,S,R,s1,HCS,HY6,HN6,HP6,HX6⟩
  case round =>
   obtain⟨y,S,R,sc,HCY,HYc,HNc,HPc,HXc⟩:=hrel;clear HCS HY6 HN6 HP6 HX6;cases gk with
   | zero=>exact absurd HCY.o (by unfold jI;intro h;cases h)
   | succ gk =>
   have hcy:=qV6 HCY.o;have HIS:=Ph (isC p E T Q sc [64] wr (Ph HPc.o.ps));clear HCY;rcases hcy with⟨h1,rfl,rfl⟩ | ⟨h1,okw,hcs⟩
   ·have hS:isS E s' [64]=s':=by unfold isS;rw [h1];rfl
    rw [h1,hS]at HIS;clear h1 hS;go_wp2_with fail
    refine HIS.o.mono ?_;rintro e w9 ⟨rfl,hp⟩;have HP9:=Ph (HPc.o.trans hp);have HX9:=Ph (hp.bk HXc.o hrp);have HY9:=Ph (hp.bk HYc.o hb8p);have HN9:=Ph (hp.nd HPc.o.ps HNc.o);clear hp HPc HXc HYc HNc HIS;obtain⟨x0,x1,x2,x3,x4,x5,x6⟩:=qL HY9.o;obtain⟨y0,y1,y2,y3,y4,y5,y6⟩:=qL HX9.o;obtain⟨f0,f1,f2,f3,f4,f5,f6⟩:=zZ HX9.o;have HF:=Ph (fr7 w9 r (uB X.1.kind) (uB X.1.op) (uW X.1.value) (uI X.1.width) (uR X.1.name) (uL S) (uL R));have HK:=Ph (zZ9 (v0:=uB X.1.kind) (v1:=uB X.1.op) (v2:=uW X.1.value) (v3:=uI X.1.width) (v4:=uR X.1.name) (v5:=uL S) (v6:=uL R) HX9.o);go_wp2_with fail
    generalize (World.setCell _ _ _)=WF at HF HK ⊢;obtain⟨r0,r1,r2,r3,r4,r5,r6⟩:=qL HK.o;refine lK (v:=yO X S R) (by rw [zS];simp [results,results143,go_sem,r0,r1,r2,r3,r4,r5,r6]) rfl ?_;exact xZ HP9.o h.o HX9.o hrp hwr HF.o HN9.o
   ·have HOW:=Ph (zM5 okw);have HCN:=Ph hcs;have hS:isS E sc [64]=zE sc:=by unfold isS;rw [h1];rfl
    rw [h1,hS]at HIS;clear h1 hS okw hcs;obtain⟨⟨nu,sn⟩,hnu⟩:∃ q,jB E (zE sc)=q:=⟨_,rfl⟩;have hnl:=zG7 E (zE sc);obtain⟨Y,hY⟩:∃ Y,qI 8 0 0 (nu:Int) [] (yK y) [y]=Y:=⟨_,rfl⟩;have HNU:=Ph hnu;have HYE:=Ph hY;rw [hnu]at hnl HCN;rw [hY]at HCN;(try dsimp only at hnl HCN);clear hnu hY;go_wp2_with fail
    refine HIS.o.mono ?_;rintro e v ⟨rfl,hp⟩;have HLV:=Ph (Lp.tr ⟨HPc.o,HYc.o,HXc.o,HNc.o⟩ hb8p hrp hp:Lp p E T Q w b8 r y S R _ v);have HL0:=Ph (HLV.o.bel (lB _ _).drew);have HLA:Ud (∀ o:Obj,Lp p E T Q w b8 r y S R (zE sc) (v.alloc o).drew):=fun o=>(HLV.o.bel zB).bel (lB _ _).drew;have hvp:p<v.heap.size:=hp.ps.lt;have hgp:v.heap.size≠p:=Yo;clear hp HPc HXc HYc HNc HIS hvp;have HRN:Ud (∀ V:World,Lp p E T Q w b8 r y S R (zE sc) V∨Lp p E T Q w b8 r y S R sn V→NdsAt T.base (V.alloc (.cells #[uB y.1.kind,uB y.1.op,uW y.1.value,uI y.1.width,uR y.1.name,uL S,uL R] 168)) (some ⟨V.heap.size,0,none⟩) 1 [(y,S,R)]):=fun V hV=>zG9 (W:=V) [(y,S,R)] (fun q hq=>by rw [cQ.1 hq];exact hV.elim (·.nd) (·.nd));have HNM:Ud (∀ V:World,Lp p E T Q w b8 r y S R (zE sc) V→Calls prog 85 #[uQ p 0] V fun x w'=>x=.returned (uI nu)∧PP V p E T Q sn w'):=fun V hV=>by have:=kQ1 p E T Q (zE sc) V (Ph hV.pp.ps);rw [HNU.o]at this;exact this
    have HHE:Ud (∀ V:World,Lp p E T Q w b8 r y S R sn V→Calls prog 124 #[.agg #[uB y.1.kind,uB y.1.op,uW y.1.value,uI y.1.width,uR y.1.name,uL S,uL R]] V fun e w'=>e=.returned (uI (yK y:Int))∧Ue V w'):=fun V hV=>qL2 V V hV.nd (lB _ _);have HWH:Ud (∀ (V:World) (g:Nat),Lp p E T Q w b8 r y S R sn V→NdsAt T.base V (some ⟨g,0,none⟩) 1 [(y,S,R)]→Calls prog 123 #[.agg #[uB 8,uB 0,uW 0,uI nu,uT,uN],uI (yK y:Int),.slice (some ⟨g,0,none⟩) 1 1] V fun e w'=>∃ S0 R0,e=.returned (yO Y S0 R0)∧NdAt T.base w' Y S0 R0∧Ue V w'):=fun V g hV hg=>by
     have hlen:(kL 0 [(y,S,R)]).length≤100000000:=by
      have h1:=HOW.o;have h2:(kL 0 ([(y,S,R)]:List NdV)).length=1+(([y]:List Nd).flatMap (·.2)).length:=by unfold kL;simp;omega
      omega
     have hh:=qA1 hV.nd;rw [←HYE.o];exact zS3 8 0 0 (nu:Int) [] (yK y) (some ⟨g,0,none⟩) 1 1 [(y,S,R)] V (Ph hg) Yo hlen Yo Yo Yo Yo Yo Yo Ym
    obtain⟨x0,x1,x2,x3,x4,x5,x6⟩:=HL0.o.cel;have xa:=fun o=>(HLA.o o).cel;have xb:=HLV.o.cal;go_upto_region 10 with fail
    go_region_law (go_simp;(first
     | (go_at_call 85
        with_reducible refine(HNM.o _ HL0.o).mono ?_
        rintro e v1 ⟨rfl,hp⟩;have HL1:=Ph (HL0.o.tr hb8p hrp hp);have hg1:v1.heap.size≠p:=Nat.ne_of_gt hp.ps.lt;clear hp x0 x1 x2 x3 x4 x5 x6 xa xb;obtain⟨x0,x1,x2,x3,x4,x5,x6⟩:=HL1.o.cel;have xa:=HL1.o.cal)
     | (go_at_call 85
        with_reducible refine(HNM.o _ (HLA.o _)).mono ?_
        rintro e v1 ⟨rfl,hp⟩;have HL1:=Ph ((HLA.o _).tr hb8p hrp hp);have HR:Ud (NdsAt T.base v1 (some ⟨v.heap.size,0,none⟩) 1 [(y,S,R)]):=Ph (NdsAt.tr ((HRN.o v (.inl HLV.o)).below (lB _ _).drew) hgp (HLA.o _).pp.ps hp);clear hp x0 x1 x2 x3 x4 x5 x6 xa xb;obtain⟨x0,x1,x2,x3,x4,x5,x6⟩:=HL1.o.cel;have xa:=HL1.o.cal)
     | (go_at_call 124
        with_reducible refine(HHE.o _ HL1.o).mono ?_
        rintro e v2 ⟨rfl,hb⟩;have HL2:=Ph (HL1.o.bel hb)
        try (have HR2:=Ph (HR.o.below hb)
             clear HR;have HR:=HR2;clear HR2)
        clear hb x0 x1 x2 x3 x4 x5 x6 xa;obtain⟨x0,x1,x2,x3,x4,x5,x6⟩:=HL2.o.cel;have xa:=HL2.o.cal)
     | (go_at_call 124
        with_reducible refine(HHE.o _ (HL1.o.bel zB)).mono ?_
        rintro e v2 ⟨rfl,hb⟩;have HL2:=Ph ((HL1.o.bel zB).bel hb);have HR:Ud (NdsAt T.base v2 (some ⟨v1.heap.size,0,none⟩) 1 [(y,S,R)]):=Ph ((HRN.o v1 (.inr HL1.o)).below hb);clear hb x0 x1 x2 x3 x4 x5 x6 xa;obtain⟨x0,x1,x2,x3,x4,x5,x6⟩:=HL2.o.cel;have xa:=HL2.o.cal)
     | (go_at_call 123
        with_reducible refine(HWH.o _ _ HL2.o HR.o).mono ?_
        rintro e v7 ⟨S0,R0,rfl,hn7,hb7⟩;rw [zS];have HL7:=Ph (HL2.o.bel hb7);have HN7:=Ph hn7;clear hn7 hb7 x0 x1 x2 x3 x4 x5 x6 xa;obtain⟨x0,x1,x2,x3,x4,x5,x6⟩:=HL7.o.cel;obtain⟨f0,f1,f2,f3,f4,f5,f6⟩:=zZ HL7.o.bx)
     | (go_at_call 123
        with_reducible refine(HWH.o _ _ (HL2.o.bel zB) (HRN.o _ (.inr HL2.o))).mono ?_
        rintro e v7 ⟨S0,R0,rfl,hn7,hb7⟩;rw [zS];have HL7:=Ph ((HL2.o.bel zB).bel hb7);have HN7:=Ph hn7;clear hn7 hb7 x0 x1 x2 x3 x4 x5 x6 xa;obtain⟨x0,x1,x2,x3,x4,x5,x6⟩:=HL7.o.cel;obtain⟨f0,f1,f2,f3,f4,f5,f6⟩:=zZ HL7.o.bx)))
    all_goals
     have HF:=Ph (fr7 v7 b8 (uB Y.1.kind) (uB Y.1.op) (uW Y.1.value) (uI Y.1.width) (uR Y.1.name) (uL S0) (uL R0));have HK:=Ph (zZ9 (v0:=uB Y.1.kind) (v1:=uB Y.1.op) (v2:=uW Y.1.value) (v3:=uI Y.1.width) (v4:=uR Y.1.name) (v5:=uL S0) (v6:=uL R0) HL7.o.bx);clear x0 x1 x2 x3 x4 x5 x6 f0 f1 f2 f3 f4 f5 f6;generalize (World.setCell _ _ _)=WF at HF HK ⊢;go_wp2_with fail
     go_roundg gk
     case measure=>exact Nat.lt_succ_self _
     case rel=>exact⟨Y,S0,R0,sn,HCN,HK,Ph (HN7.o.box HL7.o.bx HF.o),Ph (HL7.o.pp.fin h.o HL7.o.bx hb8p hwb8 HF.o),Ph (HL7.o.rs.fr HF.o hrb8)⟩
end
end
section
open Go.RowKit Go.PlainAid
section
variable {p:Nat} {E:Env} {T:TV} {Q:SV}
theorem qV7 {f r:Nat} {s s':PSt} {X:Nd} (h:qN E (f+1) r s=some (X,s')):∃ x s1,zR E f s=some (x,s1)∧qR E f r x s1=some (X,s'):=by
 unfold qN at h;cases h3:zR E f s with
 | none=>rw [h3]at h;cases h
 | some q =>
   obtain⟨x,s1⟩:=q;rw [h3]at h;exact⟨x,s1,rfl,h⟩
inductive Lk (E:Env) (f r:Nat) (x:Nd) (s:PSt) (X:Nd) (s':PSt):Prop where
 | err:s.e≠0→X=x→s'=s→Lk E f r x s X s'
 | sign:s.e=0→(zC E s).kind≠4→X=x→s'=s→Lk E f r x s X s'
 | find:s.e=0→jY (zC E s).text true=none→X=x→s'=s→Lk E f r x s X s'
 | low (op:Nat):s.e=0→(zC E s).kind=4→jY (zC E s).text true=some op→kD op<r→X=x→s'=s→Lk E f r x s X s'
 | go (op:Nat) (y:Nd) (s2:PSt):s.e=0→(zC E s).kind=4→jY (zC E s).text true=some op→¬kD op<r→qN E f (kD op+1) (zE s)=some (y,s2)→okW [x,y]=true →
    qR E f r (qI 6 op 0 0 [] (yK x) [x,y]) s2=some (X,s')→Lk E f r x s X s'
theorem qV8 {f r:Nat} {x:Nd} {s s':PSt} {X:Nd} (h:qR E (f+1) r x s=some (X,s')):Lk E f r x s X s':=by
 unfold qR at h;by_cases h1:s.e=0
 ·rw [lH h1]at h;(try dsimp only at h);by_cases h2:(zC E s).kind=4
  ·rw [lM h2]at h;cases h3:jY (zC E s).text true with
   | none =>
     rw [h3]at h;injection h with h;injection h with h7 h8;exact .find h1 h3 h7.symm h8.symm
   | some op =>
     rw [h3]at h;(try dsimp only at h);by_cases h4:kD op<r
     ·rw [lH h4]at h;injection h with h;injection h with h7 h8;exact .low op h1 h2 h3 h4 h7.symm h8.symm
     ·rw [lG h4]at h;(try dsimp only at h);cases h5:qN E f (kD op+1) (zE s)with
      | none=>rw [h5]at h;cases h
      | some q =>
        obtain⟨y,s2⟩:=q;rw [h5]at h;(try dsimp only at h);cases h6:okW [x,y]with
        | false=>rw [h6]at h;cases h
        | true =>
          rw [h6]at h;exact .go op y s2 h1 h2 h3 h4 h5 h6 h
  ·rw [lN h2]at h;injection h with h;injection h with h7 h8;exact .sign h1 h2 h7.symm h8.symm
 ·rw [lG h1]at h;injection h with h;injection h with h7 h8;exact .err h1 h7.symm h8.symm
structure Lq (p:Nat) (E:Env) (T:TV) (Q:SV) (w:World) (b r c:Nat) (y:Nd) (S R:SV) (z:Nd) (S4 R4:SV) (s:PSt) (W:World):Prop where
 lp:Lp p E T Q w b r y S R s W
 bz:Bk W c 168 #[uB z.1.kind,uB z.1.op,uW z.1.value,uI z.1.width,uR z.1.name,.slice S4.A S4.n S4.c,.slice R4.A R4.n R4.c]
 nz:NdAt T.base W z S4 R4
theorem Lq.bel {w W W':World} {b r c:Nat} {y z:Nd} {S R S4 R4:SV} {s:PSt} (h:Lq p E T Q w b r c y S R z S4 R4 s W) (hb:Below W.heap.size W W'):Lq p E T Q w b r c y S R z S4 R4 s W':=⟨h.lp.bel hb,zD h.bz hb,h.nz.below hb⟩
theorem Lq.cez {w W:World} {b r c:Nat} {y z:Nd} {S R S4 R4:SV} {s:PSt} (h:Lq p E T Q w b r c y S R z S4 R4 s W):W.cell? ⟨c,0,none⟩=some (uB z.1.kind)∧W.cell? ⟨c,1,none⟩=some (uB z.1.op)∧W.cell? ⟨c,2,none⟩=some (uW z.1.value)∧W.cell? ⟨c,3,none⟩=some (uI z.1.width)∧W.cell? ⟨c,4,none⟩=some (uR z.1.name)∧W.cell? ⟨c,5,none⟩=some (.slice S4.A S4.n S4.c)∧W.cell? ⟨c,6,none⟩=some (.slice R4.A R4.n R4.c):=qL h.bz
theorem Lq.caz {w W:World} {b r c:Nat} {y z:Nd} {S R S4 R4:SV} {s:PSt} (h:Lq p E T Q w b r c y S R z S4 R4 s W) (o:Obj):(W.alloc o).cell? ⟨c,0,none⟩=some (uB z.1.kind)∧(W.alloc o).cell? ⟨c,1,none⟩=some (uB z.1.op)∧(W.alloc o).cell? ⟨c,2,none⟩=some (uW z.1.value)∧(W.alloc o).cell? ⟨c,3,none⟩=some (uI z.1.width)∧(W.alloc o).cell? ⟨c,4,none⟩=some (uR z.1.name)∧(W.alloc o).cell? ⟨c,5,none⟩=some (.slice S4.A S4.n S4.c)∧(W.alloc o).cell? ⟨c,6,none⟩=some (.slice R4.A R4.n R4.c):=qL (zD h.bz zB)
theorem qV9 {f:Nat} (IH:∀ g,g≤f→Sp p E T Q g) (rk:Nat) (s:PSt) (X:Nd) (s':PSt) (w:World) (hrk:rk≤7) (hx:qN E (f+1) rk s=some (X,s')) (h:Ud (Ps w p E T Q s)) :
 Calls prog 121 #[uQ p 0,uI rk] w (vG w p E T Q X s'):=by
 obtain⟨x,s1,hc,hl⟩:=qV7 hx;have HIH:=Ph IH;have HC:=Ph hc;have HCL:=Ph hl;have hpl:p<w.heap.size:=h.o.lt;have HB0:Ud (Ue w (w.alloc (.cells #[uB 0,uB 0,uW 0,uI 0,uT,uN,uN] 168))):=zB;have HX0:=Ph (Bk.new w 168 #[uB 0,uB 0,uW 0,uI 0,uT,uN,uN]);clear hx IH hc hl;go_enter func121,ntmps121
 go_upto_region 1 with fail
 generalize (w.alloc _)=W at HB0 HX0 ⊢;obtain⟨r,hr⟩:∃ r,w.heap.size=r:=⟨_,rfl⟩;rw [hr]at HX0 ⊢;have hrp:r≠p:=Yo;have hwr:w.heap.size≤r:=Yo;clear hr hpl;have HPW:=Ph (PP.below h.o HB0.o);go_wp2_with fail
 refine((HIH.o f (lF _)).operand _ _ _ W HC.o (Ph HPW.o.ps)).mono ?_;rintro e w5 ⟨S,R,rfl,hn,hp⟩;rw [zS];have HP5:=Ph (HPW.o.trans hp);have HX5:=Ph (hp.bk HX0.o hrp);have HN5:=Ph hn;clear hp hn HPW HX0;have hw5r:r<w5.heap.size:=HX5.o.lt;have hw5p:p<w5.heap.size:=HP5.o.ps.lt;have HBn:Ud (Ue w5 (w5.alloc (.cells #[uB x.1.kind,uB x.1.op,uW x.1.value,uI x.1.width,uR x.1.name,uL S,uL R] 168))):=zB;have HY6:=Ph (Bk.new w5 168 #[uB x.1.kind,uB x.1.op,uW x.1.value,uI x.1.width,uR x.1.name,uL S,uL R]);go_wp2_with fail
 generalize (w5.alloc _)=W6 at HBn HY6 ⊢;obtain⟨b5,hb⟩:∃ b,w5.heap.size=b:=⟨_,rfl⟩;rw [hb]at HY6 ⊢;have hb5p:b5≠p:=Yo;have hb5r:b5≠r:=Yo;have hrb5:r≠b5:=Yo;have hwb5:w.heap.size≤b5:=Yo;clear hb hw5r hw5p;have HL6:Ud (Lp p E T Q w b5 r x S R s1 W6):=Ph ⟨HP5.o.then HBn.o,HY6.o,zD HX5.o HBn.o,HN5.o.below HBn.o⟩;clear HP5 HX5 HN5 HBn HY6;go_loopg [18] f (fun g v18 wr=>∃ y S R sc,Ud (g≤f)∧Ud (qR E g rk y sc=some (X,s'))∧Ud (Lp p E T Q w b5 r y S R sc wr))
 case atStart=>exact⟨x,S,R,s1,Ph (lF _),HCL,HL6⟩
 case round =>
  obtain⟨y,S,R,sc,HG,HCY,HLc⟩:=hrel;clear HCL HL6;cases gk with
  | zero=>exact absurd HCY.o (by unfold qR;intro h;cases h)
  | succ gk =>
  have hcy:=qV8 HCY.o;have htok:=HLc.o.pp.ps.tok;have hsn:=HLc.o.pp.ps.n;have hfw:=HLc.o.pp.ps.ok.few;have hle:=HLc.o.pp.ps.nextLe;obtain⟨⟨tk,tt,ta,tf⟩,ht⟩:∃ t,zC E sc=t:=⟨_,rfl⟩;have HT:=Ph ht;have HNX:=Ph (zC5 p E T Q sc wr (Ph HLc.o.pp.ps));rw [ht]at HNX htok hle;dsimp only [nxV,kW]at HNX;(try dsimp only at htok hle)
  have hcs:(sc.e≠0∧X=y∧s'=sc)∨(sc.e=0∧∃ (o:Nat) (b:Bool),jC5 (jY tt true)=.tuple #[uB o,.bool b]∧o≤16∧(((tk≠4∨(tk=4∧b=false)∨(tk=4∧b=true∧kD o<rk))∧X=y∧s'=sc) ∨
   (tk=4∧b=true∧¬kD o<rk∧∃ z s2,qN E gk (kD o+1) (zE sc)=some (z,s2)∧okW [y,z]=true∧qR E gk rk (qI 6 o 0 0 [] (yK y) [y,z]) s2=some (X,s')))):=by
   have hfv:∃ (o:Nat) (b:Bool),jC5 (jY tt true)=.tuple #[uB o,.bool b]∧o≤16:=by
    cases hf:jY tt true with
    | none=>exact⟨0,false,rfl,Yo⟩
    | some o=>exact⟨o,true,rfl,(zQ4 hf).2⟩
   cases hcy with
   | err h1 h2 h3=>exact .inl ⟨h1,h2,h3⟩
   | sign h1 h2 h3 h4 =>
     rw [ht]at h2;obtain⟨o,b,h5,h6⟩:=hfv;exact .inr ⟨h1,o,b,h5,h6,.inl ⟨.inl h2,h3,h4⟩⟩
   | find h1 h2 h3 h4 =>
     rw [ht]at h2;(try dsimp only at h2);refine .inr ⟨h1,0,false,by rw [h2];rfl,Yo,.inl ⟨?_,h3,h4⟩⟩;by_cases hk:tk=4
     ·exact .inr (.inl ⟨hk,rfl⟩)
     ·exact .inl hk
   | low o h1 h2 h3 h4 h5 h6 =>
     rw [ht]at h2 h3;(try dsimp only at h2 h3);exact .inr ⟨h1,o,true,by rw [h3];rfl,(zQ4 h3).2,.inl ⟨.inr (.inr ⟨h2,rfl,h4⟩),h5,h6⟩⟩
   | go o z s2 h1 h2 h3 h4 h5 h6 h7 =>
     rw [ht]at h2 h3;(try dsimp only at h2 h3);exact .inr ⟨h1,o,true,by rw [h3];rfl,(zQ4 h3).2,.inr ⟨h2,rfl,h4,z,s2,h5,h6,h7⟩⟩
  clear hcy HCY ht;rcases hcs with⟨h1,rfl,rfl⟩ | ⟨h1,o,b,hfv,ho,hcs⟩
  ·have e1:((s'.e:Int) == 0)=false:=by simp;omega
   clear h1 htok hle hsn hfw HNX HT;obtain⟨g0,g1,g2,g3,g4,g5,g6⟩:=HLc.o.pp.ps.cells;obtain⟨x0,x1,x2,x3,x4,x5,x6⟩:=HLc.o.cel;have HXR:=Ph HLc.o.rs;obtain⟨y0,y1,y2,y3,y4,y5,y6⟩:=qL HXR.o;obtain⟨f0,f1,f2,f3,f4,f5,f6⟩:=zZ HXR.o;have HF:=Ph (fr7 wr r (uB X.1.kind) (uB X.1.op) (uW X.1.value) (uI X.1.width) (uR X.1.name) (uL S) (uL R));have HK:=Ph (zZ9 (v0:=uB X.1.kind) (v1:=uB X.1.op) (v2:=uW X.1.value) (v3:=uI X.1.width) (v4:=uR X.1.name) (v5:=uL S) (v6:=uL R) HXR.o);go_wp2_with fail
   generalize (World.setCell _ _ _)=WF at HF HK ⊢;obtain⟨r0,r1,r2,r3,r4,r5,r6⟩:=qL HK.o;refine lK (v:=yO X S R) (by rw [zS];simp [results,results121,go_sem,r0,r1,r2,r3,r4,r5,r6]) rfl ?_;exact xZ HLc.o.pp h.o HXR.o hrp hwr HF.o HLc.o.nd
  ·have e1:((sc.e:Int) == 0)=true:=by simp;omega
   have HFO:=Ph hfv;obtain⟨k,hk⟩:∃ k,kD o=k:=⟨_,rfl⟩;have HRK:Ud (∀ W,Calls prog 145 #[uB o] W fun e w'=>e=.returned (uI k)∧Ue W w'):=fun W=>by have:=kF6 o ho W;rw [hk]at this;exact this
   have hk6:k≤6:=by rw [←hk];exact jO3 o
   rw [hk]at hcs;obtain⟨g0,g1,g2,g3,g4,g5,g6⟩:=HLc.o.pp.ps.cells;have ho16:o≤16:=ho;clear h1 hfv hk ho;rcases hcs with⟨hq,rfl,rfl⟩ | ⟨h4,hb,hlt,z,s2,hch,okw,hlk⟩
   ·rcases hq with h4 | ⟨h4,hb⟩ | ⟨h4,hb,hlt⟩
    ·have e2:((tk:Int) != 4)=true:=by simp;omega
     clear h4 htok hle hsn hfw;go_wp2_with fail
     refine HNX.o.mono ?_;rintro e w1 ⟨rfl,hb1⟩;have HL1:=Ph (HLc.o.bel hb1);clear hb1 HNX HLc g0 g1 g2 g3 g4 g5 g6;have hwr':r<w1.heap.size:=HL1.o.rs.lt;have hwp':p<w1.heap.size:=HL1.o.pp.ps.lt;have hwb':b5<w1.heap.size:=HL1.o.bx.lt;have HBn:Ud (Ue w1 (w1.alloc (.cells #[uB tk,uI ta,uI tf] 44))):=zB;have HTB:=Ph (Bk.new w1 44 #[uB tk,uI ta,uI tf]);go_upto_region 4 with fail
     generalize (w1.alloc _)=W2 at HBn HTB ⊢;obtain⟨b6,hb6⟩:∃ b,w1.heap.size=b:=⟨_,rfl⟩;rw [hb6]at HTB ⊢;have hb6p:b6≠p:=Yo;have hb6r:b6≠r:=Yo;have hb6b:b6≠b5:=Yo;clear hb6 hwr' hwp' hwb';have HL2:=Ph (HL1.o.bel HBn.o);clear HL1 HBn;go_wp2_with fail
     refine(qV3 tt true W2).mono ?_;rintro e w3 ⟨rfl,hb⟩;rw [HFO.o];dsimp only;have HL3:=Ph (HL2.o.bel hb);have HT3:=Ph (zD HTB.o hb);clear hb HL2 HTB;go_wp2_with fail
     refine(HRK.o w3).mono ?_;rintro e w4 ⟨rfl,hb⟩;have HL4:=Ph (HL3.o.bel hb);have HT4:=Ph (zD HT3.o hb);clear hb HL3 HT3;obtain⟨t0,t1,t2⟩:=zJ HT4.o;obtain⟨x0,x1,x2,x3,x4,x5,x6⟩:=HL4.o.cel;have HXR:=Ph HL4.o.rs;obtain⟨y0,y1,y2,y3,y4,y5,y6⟩:=qL HXR.o;obtain⟨f0,f1,f2,f3,f4,f5,f6⟩:=zZ HXR.o;have HF:=Ph (fr7 w4 r (uB X.1.kind) (uB X.1.op) (uW X.1.value) (uI X.1.width) (uR X.1.name) (uL S) (uL R));have HK:=Ph (zZ9 (v0:=uB X.1.kind) (v1:=uB X.1.op) (v2:=uW X.1.value) (v3:=uI X.1.width) (v4:=uR X.1.name) (v5:=uL S) (v6:=uL R) HXR.o);go_wp2_with fail
     generalize (World.setCell _ _ _)=WF at HF HK ⊢;obtain⟨r0,r1,r2,r3,r4,r5,r6⟩:=qL HK.o;refine lK (v:=yO X S R) (by rw [zS];simp [results,results121,go_sem,r0,r1,r2,r3,r4,r5,r6]) rfl ?_;exact xZ HL4.o.pp h.o HXR.o hrp hwr HF.o HL4.o.nd
    ·have e2:((tk:Int) != 4)=false:=by simp;omega
     subst hb;clear h4 htok hle hsn hfw;go_wp2_with fail
     refine HNX.o.mono ?_;rintro e w1 ⟨rfl,hb1⟩;have HL1:=Ph (HLc.o.bel hb1);clear hb1 HNX HLc g0 g1 g2 g3 g4 g5 g6;have hwr':r<w1.heap.size:=HL1.o.rs.lt;have hwp':p<w1.heap.size:=HL1.o.pp.ps.lt;have hwb':b5<w1.heap.size:=HL1.o.bx.lt;have HBn:Ud (Ue w1 (w1.alloc (.cells #[uB tk,uI ta,uI tf] 44))):=zB;have HTB:=Ph (Bk.new w1 44 #[uB tk,uI ta,uI tf]);go_upto_region 4 with fail
     generalize (w1.alloc _)=W2 at HBn HTB ⊢;obtain⟨b6,hb6⟩:∃ b,w1.heap.size=b:=⟨_,rfl⟩;rw [hb6]at HTB ⊢;have hb6p:b6≠p:=Yo;have hb6r:b6≠r:=Yo;have hb6b:b6≠b5:=Yo;clear hb6 hwr' hwp' hwb';have HL2:=Ph (HL1.o.bel HBn.o);clear HL1 HBn;go_wp2_with fail
     refine(qV3 tt true W2).mono ?_;rintro e w3 ⟨rfl,hb⟩;rw [HFO.o];dsimp only;have HL3:=Ph (HL2.o.bel hb);have HT3:=Ph (zD HTB.o hb);clear hb HL2 HTB;go_wp2_with fail
     refine(HRK.o w3).mono ?_;rintro e w4 ⟨rfl,hb⟩;have HL4:=Ph (HL3.o.bel hb);have HT4:=Ph (zD HT3.o hb);clear hb HL3 HT3;obtain⟨t0,t1,t2⟩:=zJ HT4.o;obtain⟨x0,x1,x2,x3,x4,x5,x6⟩:=HL4.o.cel;have HXR:=Ph HL4.o.rs;obtain⟨y0,y1,y2,y3,y4,y5,y6⟩:=qL HXR.o;obtain⟨f0,f1,f2,f3,f4,f5,f6⟩:=zZ HXR.o;have HF:=Ph (fr7 w4 r (uB X.1.kind) (uB X.1.op) (uW X.1.value) (uI X.1.width) (uR X.1.name) (uL S) (uL R));have HK:=Ph (zZ9 (v0:=uB X.1.kind) (v1:=uB X.1.op) (v2:=uW X.1.value) (v3:=uI X.1.width) (v4:=uR X.1.name) (v5:=uL S) (v6:=uL R) HXR.o);go_wp2_with fail
     generalize (World.setCell _ _ _)=WF at HF HK ⊢;obtain⟨r0,r1,r2,r3,r4,r5,r6⟩:=qL HK.o;refine lK (v:=yO X S R) (by rw [zS];simp [results,results121,go_sem,r0,r1,r2,r3,r4,r5,r6]) rfl ?_;exact xZ HL4.o.pp h.o HXR.o hrp hwr HF.o HL4.o.nd
    ·have e2:((tk:Int) != 4)=false:=by simp;omega
     subst hb;have e3:decide ((k:Int)<(rk:Int))=true:=Yp;have e4:(k:Int)<(rk:Int):=Yo;clear h4 hlt htok hle hsn hfw;go_wp2_with fail
     refine HNX.o.mono ?_;rintro e w1 ⟨rfl,hb1⟩;have HL1:=Ph (HLc.o.bel hb1);clear hb1 HNX HLc g0 g1 g2 g3 g4 g5 g6;have hwr':r<w1.heap.size:=HL1.o.rs.lt;have hwp':p<w1.heap.size:=HL1.o.pp.ps.lt;have hwb':b5<w1.heap.size:=HL1.o.bx.lt;have HBn:Ud (Ue w1 (w1.alloc (.cells #[uB tk,uI ta,uI tf] 44))):=zB;have HTB:=Ph (Bk.new w1 44 #[uB tk,uI ta,uI tf]);go_upto_region 4 with fail
     generalize (w1.alloc _)=W2 at HBn HTB ⊢;obtain⟨b6,hb6⟩:∃ b,w1.heap.size=b:=⟨_,rfl⟩;rw [hb6]at HTB ⊢;have hb6p:b6≠p:=Yo;have hb6r:b6≠r:=Yo;have hb6b:b6≠b5:=Yo;clear hb6 hwr' hwp' hwb';have HL2:=Ph (HL1.o.bel HBn.o);clear HL1 HBn;go_wp2_with fail
     refine(qV3 tt true W2).mono ?_;rintro e w3 ⟨rfl,hb⟩;rw [HFO.o];dsimp only;have HL3:=Ph (HL2.o.bel hb);have HT3:=Ph (zD HTB.o hb);clear hb HL2 HTB;go_wp2_with fail
     refine(HRK.o w3).mono ?_;rintro e w4 ⟨rfl,hb⟩;have HL4:=Ph (HL3.o.bel hb);have HT4:=Ph (zD HT3.o hb);clear hb HL3 HT3;obtain⟨t0,t1,t2⟩:=zJ HT4.o;obtain⟨x0,x1,x2,x3,x4,x5,x6⟩:=HL4.o.cel;have HXR:=Ph HL4.o.rs;obtain⟨y0,y1,y2,y3,y4,y5,y6⟩:=qL HXR.o;obtain⟨f0,f1,f2,f3,f4,f5,f6⟩:=zZ HXR.o;have HF:=Ph (fr7 w4 r (uB X.1.kind) (uB X.1.op) (uW X.1.value) (uI X.1.width) (uR X.1.name) (uL S) (uL R));have HK:=Ph (zZ9 (v0:=uB X.1.kind) (v1:=uB X.1.op) (v2:=uW X.1.value) (v3:=uI X.1.width) (v4:=uR X.1.name) (v5:=uL S) (v6:=uL R) HXR.o);go_wp2_with fail
     generalize (World.setCell _ _ _)=WF at HF HK ⊢;obtain⟨r0,r1,r2,r3,r4,r5,r6⟩:=qL HK.o;refine lK (v:=yO X S R) (by rw [zS];simp [results,results121,go_sem,r0,r1,r2,r3,r4,r5,r6]) rfl ?_;exact xZ HL4.o.pp h.o HXR.o hrp hwr HF.o HL4.o.nd
   ·have e2:((tk:Int) != 4)=false:=by simp;omega
    subst hb;have e3:decide ((k:Int)<(rk:Int))=false:=Yp;have e4:¬(k:Int)<(rk:Int):=Yo;obtain⟨_,hn1,_⟩:=htok (.inl Yo);have wn:IntKind.i64.wrap ((sc.n:Int)+1)=(sc.n:Int)+1:=by rw [lL];omega
    have wk:IntKind.i64.wrap ((k:Int)+1)=(k:Int)+1:=by rw [lL];omega
    have HOW:=Ph (zM5 okw);have HCH:=Ph hch;have HLK:=Ph hlk;have HN1:=Ph hn1;have HO:=Ph ho16;clear h4 hlt htok hle hsn hfw okw hch hlk hn1 ho16;go_wp2_with fail
    refine HNX.o.mono ?_;rintro e w1 ⟨rfl,hb1⟩;have HL1:=Ph (HLc.o.bel hb1);clear hb1 HNX HLc g0 g1 g2 g3 g4 g5 g6;have hwr':r<w1.heap.size:=HL1.o.rs.lt;have hwp':p<w1.heap.size:=HL1.o.pp.ps.lt;have hwb':b5<w1.heap.size:=HL1.o.bx.lt;have HBn:Ud (Ue w1 (w1.alloc (.cells #[uB tk,uI ta,uI tf] 44))):=zB;have HTB:=Ph (Bk.new w1 44 #[uB tk,uI ta,uI tf]);go_upto_region 4 with fail
    generalize (w1.alloc _)=W2 at HBn HTB ⊢;obtain⟨b6,hb6⟩:∃ b,w1.heap.size=b:=⟨_,rfl⟩;rw [hb6]at HTB ⊢;have hb6p:b6≠p:=Yo;have hb6r:b6≠r:=Yo;have hb6b:b6≠b5:=Yo;clear hb6 hwr' hwp' hwb';have HL2:=Ph (HL1.o.bel HBn.o);clear HL1 HBn;go_wp2_with fail
    refine(qV3 tt true W2).mono ?_;rintro e w3 ⟨rfl,hb⟩;rw [HFO.o];dsimp only;have HL3:=Ph (HL2.o.bel hb);have HT3:=Ph (zD HTB.o hb);clear hb HL2 HTB;go_wp2_with fail
    refine(HRK.o w3).mono ?_;rintro e w4 ⟨rfl,hb⟩;have HL4:=Ph (HL3.o.bel hb);have HT4:=Ph (zD HT3.o hb);clear hb HL3 HT3;obtain⟨t0,t1,t2⟩:=zJ HT4.o;obtain⟨g0,g1,g2,g3,g4,g5,g6⟩:=HL4.o.pp.ps.cells;have gz:=HL4.o.pp.ps.frozens 2;have hd:=HL4.o.pp.ps.setN (sc.n+1) HN1.o;rw [show((sc.n+1:Nat):Int)=(sc.n:Int)+1 by omega]at hd;have HL7:Ud (Lp p E T Q w b5 r y S R (zE sc) _):=Ph (HL4.o.tr hb5p hrp hd);clear hd;go_upto_region 8 with fail
    generalize (World.setCell _ _ _)=W7 at HL7 ⊢;clear g0 g1 g2 g3 g4 g5 g6 gz t0 t1 t2 HL4 HT4;go_wp2_with fail
    refine(HRK.o W7).mono ?_;rintro e w8 ⟨rfl,hb⟩;have HL8:=Ph (HL7.o.bel hb);clear hb HL7;have HCC:Ud (Calls prog 121 #[uQ p 0,uI ((k:Int)+1)] w8 (vG w8 p E T Q z s2)):=by have:=(HIH.o gk (Nat.le_of_succ_le HG.o)).chain (k+1) _ _ _ w8 Yo HCH.o (Ph HL8.o.pp.ps);exact Ph this
    go_wp2_with fail
    refine HCC.o.mono ?_;rintro e w9 ⟨S4,R4,rfl,hn,hp⟩;rw [zS];have HL9:=Ph (HL8.o.tr hb5p hrp hp);have HZ9:=Ph hn;have hw9b:b5<w9.heap.size:=HL9.o.bx.lt;have hw9r:r<w9.heap.size:=HL9.o.rs.lt;clear hn hp HL8 HCC HRK;have HBn:Ud (Ue w9 (w9.alloc (.cells #[uB z.1.kind,uB z.1.op,uW z.1.value,uI z.1.width,uR z.1.name,uL S4,uL R4] 168))):=zB;have HBZ:=Ph (Bk.new w9 168 #[uB z.1.kind,uB z.1.op,uW z.1.value,uI z.1.width,uR z.1.name,uL S4,uL R4]);go_upto_region 9 with fail
    generalize (w9.alloc _)=v at HBn HBZ ⊢;obtain⟨b11,hb⟩:∃ b,w9.heap.size=b:=⟨_,rfl⟩;rw [hb]at HBZ ⊢;have hb11b:b11≠b5:=Yo;clear hb hw9b hw9r;have HLV:Ud (Lq p E T Q w b5 r b11 y S R z S4 R4 s2 v):=Ph ⟨HL9.o.bel HBn.o,HBZ.o,HZ9.o.below HBn.o⟩;clear HL9 HZ9 HBn HBZ;have HL0:=Ph (HLV.o.bel (lB _ _).drew);have HLA:Ud (∀ o:Obj,Lq p E T Q w b5 r b11 y S R z S4 R4 s2 (v.alloc o).drew):=fun o=>(HLV.o.bel zB).bel (lB _ _).drew;obtain⟨Y,hY⟩:∃ Y,qI 6 o 0 0 [] (yK y) [y,z]=Y:=⟨_,rfl⟩;have HYE:=Ph hY;rw [hY]at HLK;clear hY;have HRN:Ud (∀ V:World,Lq p E T Q w b5 r b11 y S R z S4 R4 s2 V→NdsAt T.base (V.alloc (.cells #[uB y.1.kind,uB y.1.op,uW y.1.value,uI y.1.width,uR y.1.name,uL S,uL R,uB z.1.kind,uB z.1.op,uW z.1.value,uI z.1.width,uR z.1.name,uL S4,uL R4] 168)) (some ⟨V.heap.size,0,none⟩) 2 [(y,S,R),(z,S4,R4)]):=fun V hV=>zG9 (W:=V) [(y,S,R),(z,S4,R4)] (fun q hq=>by
     rcases lU.1 hq with rfl | hq
     ·exact hV.lp.nd
     ·rw [cQ.1 hq];exact hV.nz)
    have HHE:Ud (∀ V:World,Lq p E T Q w b5 r b11 y S R z S4 R4 s2 V→Calls prog 124 #[.agg #[uB y.1.kind,uB y.1.op,uW y.1.value,uI y.1.width,uR y.1.name,uL S,uL R]] V fun e w'=>e=.returned (uI (yK y:Int))∧Ue V w'):=fun V hV=>qL2 V V hV.lp.nd (lB _ _);have HWH:Ud (∀ (V:World) (g:Nat),Lq p E T Q w b5 r b11 y S R z S4 R4 s2 V→NdsAt T.base V (some ⟨g,0,none⟩) 2 [(y,S,R),(z,S4,R4)]→Calls prog 123 #[.agg #[uB 6,uB o,uW 0,uI 0,uT,uN],uI (yK y:Int),.slice (some ⟨g,0,none⟩) 2 2] V fun e w'=>∃ S0 R0,e=.returned (yO Y S0 R0)∧NdAt T.base w' Y S0 R0∧Ue V w'):=fun V g hV hg=>by
     have hlen:(kL 0 [(y,S,R),(z,S4,R4)]).length≤100000000:=by
      have h1:=HOW.o;have h2:(kL 0 ([(y,S,R),(z,S4,R4)]:List NdV)).length=1+(([y,z]:List Nd).flatMap (·.2)).length:=by unfold kL;simp;omega
      omega
     have hh:=qA1 hV.lp.nd;have ho:=HO.o;rw [←HYE.o];exact zS3 6 o 0 0 [] (yK y) (some ⟨g,0,none⟩) 2 2 [(y,S,R),(z,S4,R4)] V (Ph hg) Yo hlen Yo Yo Yo Yo Yo Yo Ym
    obtain⟨x0,x1,x2,x3,x4,x5,x6⟩:=HL0.o.lp.cel;obtain⟨z0,z1,z2,z3,z4,z5,z6⟩:=HL0.o.cez;have xa:=fun o=>(HLA.o o).lp.cel;have za:=fun o=>(HLA.o o).cez;have xb:=HLV.o.lp.cal;have zb:=HLV.o.caz
    go_region_law (go_simp;(first
     | (go_at_call 124
        with_reducible refine(HHE.o _ HL0.o).mono ?_
        rintro e v2 ⟨rfl,hb⟩;have HL2:=Ph (HL0.o.bel hb);clear hb x0 x1 x2 x3 x4 x5 x6 z0 z1 z2 z3 z4 z5 z6 xa za xb zb;obtain⟨x0,x1,x2,x3,x4,x5,x6⟩:=HL2.o.lp.cel;obtain⟨z0,z1,z2,z3,z4,z5,z6⟩:=HL2.o.cez;have xa:=HL2.o.lp.cal;have za:=HL2.o.caz)
     | (go_at_call 124
        with_reducible refine(HHE.o _ (HLA.o _)).mono ?_
        rintro e v2 ⟨rfl,hb⟩;have HL2:=Ph ((HLA.o _).bel hb);have HR:Ud (NdsAt T.base v2 (some ⟨v.heap.size,0,none⟩) 2 [(y,S,R),(z,S4,R4)]):=Ph (((HRN.o v HLV.o).below (lB _ _).drew).below hb);clear hb x0 x1 x2 x3 x4 x5 x6 z0 z1 z2 z3 z4 z5 z6 xa za xb zb;obtain⟨x0,x1,x2,x3,x4,x5,x6⟩:=HL2.o.lp.cel;obtain⟨z0,z1,z2,z3,z4,z5,z6⟩:=HL2.o.cez;have xa:=HL2.o.lp.cal;have za:=HL2.o.caz)
     | (go_at_call 123
        with_reducible refine(HWH.o _ _ HL2.o HR.o).mono ?_
        rintro e v7 ⟨S0,R0,rfl,hn7,hb7⟩;rw [zS];have HL7:=Ph (HL2.o.bel hb7);have HN7:=Ph hn7;clear hn7 hb7 x0 x1 x2 x3 x4 x5 x6 z0 z1 z2 z3 z4 z5 z6 xa za;obtain⟨x0,x1,x2,x3,x4,x5,x6⟩:=HL7.o.lp.cel;obtain⟨f0,f1,f2,f3,f4,f5,f6⟩:=zZ HL7.o.lp.bx)
     | (go_at_call 123
        with_reducible refine(HWH.o _ _ (HL2.o.bel zB) (HRN.o _ HL2.o)).mono ?_
        rintro e v7 ⟨S0,R0,rfl,hn7,hb7⟩;rw [zS];have HL7:=Ph ((HL2.o.bel zB).bel hb7);have HN7:=Ph hn7;clear hn7 hb7 x0 x1 x2 x3 x4 x5 x6 z0 z1 z2 z3 z4 z5 z6 xa za;obtain⟨x0,x1,x2,x3,x4,x5,x6⟩:=HL7.o.lp.cel;obtain⟨f0,f1,f2,f3,f4,f5,f6⟩:=zZ HL7.o.lp.bx)))
    all_goals
     have HF:=Ph (fr7 v7 b5 (uB Y.1.kind) (uB Y.1.op) (uW Y.1.value) (uI Y.1.width) (uR Y.1.name) (uL S0) (uL R0));have HK:=Ph (zZ9 (v0:=uB Y.1.kind) (v1:=uB Y.1.op) (v2:=uW Y.1.value) (v3:=uI Y.1.width) (v4:=uR Y.1.name) (v5:=uL S0) (v6:=uL R0) HL7.o.lp.bx);clear x0 x1 x2 x3 x4 x5 x6 f0 f1 f2 f3 f4 f5 f6;generalize (World.setCell _ _ _)=WF at HF HK ⊢;go_wp2_with fail
     go_roundg gk
     case measure=>exact Nat.lt_succ_self _
     case rel=>exact⟨Y,S0,R0,s2,Ph (Nat.le_of_succ_le HG.o),HLK,Ph ⟨HL7.o.lp.pp.fin h.o HL7.o.lp.bx hb5p hwb5 HF.o,HK.o,HL7.o.lp.rs.fr HF.o hrb5,HN7.o.box HL7.o.lp.bx HF.o⟩⟩
end
end
section
open Go.RowKit Go.PlainAid
section
variable {p:Nat} {E:Env} {T:TV} {Q:SV}
theorem jY3:Sp p E T Q 0 where
 choice:=fun s x s' w hx _=>by unfold zM at hx;cases hx
 chain:=fun r s x s' w _ hx _=>by unfold qN at hx;cases hx
 operand:=fun s x s' w hx _=>by unfold zR at hx;cases hx
 basis:=fun s x s' w hx _=>by unfold qJ at hx;cases hx
 within:=fun s a b x s' w hx _=>by unfold zX at hx;cases hx
theorem jT4:∀ f,∀ g,g≤f→Sp p E T Q g
 | 0,g,hg=>by have:g=0:=Yo;subst this;exact jY3
 | f+1,g,hg=>by
   have IH:=jT4 f;by_cases h:g≤f
   ·exact IH g h
   ·have:g=f+1:=by omega
    subst this
    exact
     { choice:=fun s x s' w hx h=>qL4 (IH f (lF _)) s x s' w hx h
       chain:=fun r s x s' w hr hx h=>qV9 IH r s x s' w hr hx h
       operand:=fun s x s' w hx h=>qF1 IH s x s' w hx h
       basis:=fun s x s' w hx h=>qV5 (IH f (lF _)) s x s' w hx h
       within:=fun s a b x s' w hx h=>qL1 (IH f (lF _)) s a b x s' w hx h }
theorem sp (f:Nat):Sp p E T Q f:=jT4 f f (lF _)
end
end
section
open Go.RowKit Go.PlainAid
section
variable {p:Nat} {E:Env} {T:TV} {Q:SV}
theorem Ps.setAt {w:World} {s:PSt} (h:Ps w p E T Q s) (Q':SV):Ps (w.setCell ⟨p,4,none⟩ (.slice Q'.A Q'.n Q'.c)) p E T Q' s∧Fr (fun k=>k=p) w (w.setCell ⟨p,4,none⟩ (.slice Q'.A Q'.n Q'.c)):=by have hf:Fr (fun k=>k=p) w (w.setCell ⟨p,4,none⟩ (uL Q')):=(Fr.refl (fun k=>k=p) w).setCell (p:=⟨p,4,none⟩) (.inl rfl) _;exact⟨⟨h.bk.put 4 _,h.rd.keeps (h.keeps hf Yd),h.ok,h.n,h.vr.fr hf h.g0 h.g1,h.g0,h.g1,lE h.base hf.size⟩,hf⟩
theorem Ps.rebase {w:World} {s:PSt} {A:Option Addr} {n c b0 B:Nat} (h:Ps w p E ⟨A,n,c,b0⟩ Q s) (hB:B≤w.heap.size):Ps w p E ⟨A,n,c,B⟩ Q s:=⟨h.bk,h.rd,h.ok,h.n,h.vr,h.g0,h.g1,hB⟩
theorem Ps.box {w w':World} {s:PSt} {r:Nat} {t:TypeId} {cs:Array Value} (h:Ps w p E T Q s) (hr:Bk w r t cs) (ht:t≠44) (hrp:p≠r) (l0:0≠r) (l1:3≠r) (hf:Fr (fun k=>k=r) w w'):Ps w' p E T Q s:=⟨h.bk.fr hf hrp,h.rd.keeps (Keeps.box hf hr ht),h.ok,h.n,h.vr.fr hf l0 l1,h.g0,h.g1,lE h.base hf.size⟩
theorem zH {w:World} {g:Nat} {t:TypeId} {u0 u1 u2 u3 u4 u5:Value} (h:Bk w g t #[u0,u1,u2,u3,u4,u5]):w.cell? ⟨g,0,none⟩=some u0∧w.cell? ⟨g,1,none⟩=some u1∧w.cell? ⟨g,2,none⟩=some u2∧w.cell? ⟨g,3,none⟩=some u3∧w.cell? ⟨g,4,none⟩=some u4∧w.cell? ⟨g,5,none⟩=some u5:=⟨h.cell 0,h.cell 1,h.cell 2,h.cell 3,h.cell 4,h.cell 5⟩
theorem fr6 (w:World) (g:Nat) (v0 v1 v2 v3 v4 v5:Value):Fr (fun k=>k=g) w ((((((w.setCell ⟨g,0,none⟩ v0).setCell ⟨g,1,none⟩ v1).setCell ⟨g,2,none⟩ v2).setCell ⟨g,3,none⟩ v3).setCell ⟨g,4,none⟩ v4).setCell ⟨g,5,none⟩ v5):=(((((((Fr.refl (fun k=>k=g) w).setCell (p:=⟨g,0,none⟩) (.inl rfl) v0).setCell (p:=⟨g,1,none⟩) (.inl rfl) v1).setCell (p:=⟨g,2,none⟩) (.inl rfl) v2).setCell (p:=⟨g,3,none⟩) (.inl rfl) v3).setCell (p:=⟨g,4,none⟩) (.inl rfl) v4).setCell (p:=⟨g,5,none⟩) (.inl rfl) v5)
theorem put6 {w:World} {g:Nat} {t:TypeId} {u0 u1 u2 u3 u4 u5 v0 v1 v2 v3 v4 v5:Value} (h:Bk w g t #[u0,u1,u2,u3,u4,u5]):Bk ((((((w.setCell ⟨g,0,none⟩ v0).setCell ⟨g,1,none⟩ v1).setCell ⟨g,2,none⟩ v2).setCell ⟨g,3,none⟩ v3).setCell ⟨g,4,none⟩ v4).setCell ⟨g,5,none⟩ v5) g t #[v0,v1,v2,v3,v4,v5]:=by have h7:=(((((h.put 0 v0).put 1 v1).put 2 v2).put 3 v3).put 4 v4).put 5 v5;simp only [List.setIfInBounds_toArray,List.set_cons_succ,List.set_cons_zero]at h7;exact h7
theorem jY4 (f:Nat) (s:PSt) (X:Nd) (s':PSt) (w:World) (hx:zM E f s=some (X,s')) (h:Ud (Ps w p E T ⟨none,0,0⟩ s)) :
 Calls prog 54 #[uQ p 0] w fun e w'=>∃ S Q',e=.returned (.agg (qX X.1 S).toArray)∧TrT w.heap.size w' X.1 S∧Ps w' p E T Q' s'∧Fr (fun k=>k=p) w w':=by
 obtain⟨TA,Tn,Tc,T0⟩:=T;obtain⟨hl0,hl1⟩:=h.o.vr.lt;have HC:=Ph hx;have hpl:p<w.heap.size:=h.o.lt;have HB0:Ud (Ue w (w.alloc (.cells uZ 31))):=zB;have HX0:=Ph (Bk.new w 31 uZ);clear hx;go_enter func54,ntmps54
 go_upto_region 1 with fail
 have hW:(w.alloc (.cells uZ 31)).heap.size=w.heap.size+1:=Ym;generalize (w.alloc _)=W at HB0 HX0 hW ⊢;obtain⟨r,hr⟩:∃ r,w.heap.size=r:=⟨_,rfl⟩;rw [hr]at HX0 hW ⊢;have hrp:r≠p:=Yo;have hwr:w.heap.size≤r:=Yo;have hr0:0≠r:=Yo;have hr1:3≠r:=Yo;have HPW:=Ph (PP.below (h.o.below HB0.o |>.rebase (B:=r+1) Yo) (lB _ _));have HT0:Ud (T0≤w.heap.size):=Ph h.o.base;clear hr hpl hW hl0 hl1;go_wp2_with fail
 refine((sp f).choice _ _ _ W HC.o (Ph HPW.o.ps)).mono ?_;rintro e w5 ⟨S,R,rfl,hn,hp⟩;rw [zS];have HP5:=Ph (HPW.o.trans hp);have HX5:=Ph (hp.bk HX0.o hrp);have HN5:=Ph hn;clear hp hn HPW HX0;have hw5r:r<w5.heap.size:=HX5.o.lt;have hw5p:p<w5.heap.size:=HP5.o.ps.lt;have HBn:Ud (Ue w5 (w5.alloc (.cells #[uB X.1.kind,uB X.1.op,uW X.1.value,uI X.1.width,uR X.1.name,uL S,uL R] 168))):=zB;have HY6:=Ph (Bk.new w5 168 #[uB X.1.kind,uB X.1.op,uW X.1.value,uI X.1.width,uR X.1.name,uL S,uL R]);go_upto_region 2 with fail
 generalize (w5.alloc _)=v at HBn HY6 ⊢;obtain⟨b3,hb⟩:∃ b,w5.heap.size=b:=⟨_,rfl⟩;rw [hb]at HY6 ⊢;have hb3p:b3≠p:=Yo;have hb3r:b3≠r:=Yo;clear hb hw5r hw5p;have HL:=Ph ((HP5.o.then HBn.o).then (lB _ _).drew);have HX:=Ph (zD (zD HX5.o HBn.o) (lB _ _).drew);have HN:=Ph ((HN5.o.below HBn.o).below (lB _ _).drew);have HY:=Ph (zD HY6.o (lB _ _).drew);clear HP5 HX5 HN5 HBn HY6;obtain⟨g0,g1,g2,g3,g4,g5,g6⟩:=HL.o.ps.cells;obtain⟨x0,x1,x2,x3,x4,x5,x6⟩:=qL HY.o;have HRd:Ud (Rd v.drew R.A (yV X.2)):=Ph HN.o.a.rd.rd;have HRl:Ud ((yV X.2).length=R.n*1):=Ph (by have:=HN.o.a.len;unfold yV;rw [lW];omega);have HRs:Ud (0+R.n≤1000000000):=Ph (by have:=HN.o.a.small;omega);have HBs:Ud (v.heap.size≤v.drew.heap.size):=Ph (lF _)
 go_region_law (first
  | (refine zZ2 jN5 rfl (.tmp 10) (.tmp 12) rfl v.heap.size (uN) 0 [] rfl (World.ownsRow_nil _ _ _ _) R.A R.n R.c (yV X.2) rfl HRd.o HRl.o (zS2 _) HRs.o HBs.o ?_
     intro A3 c3 w4 ho4 hg4 hat4;have HB4:Ud (Below v.drew.heap.size v.drew w4):=Ph ((lB _ v.drew).grown hg4 (lF _) (fun q hq=>by simp [Value.ownBlock]at hq));have HL4:=Ph (HL.o.then HB4.o);have HX4:=Ph (zD HX.o HB4.o);have HY4:=Ph (zD HY.o HB4.o);have HN4:=Ph (HN.o.below HB4.o);clear ho4 hg4 hat4 g0 g1 g2 g3 g4 g5 g6 x0 x1 x2 x3 x4 x5 x6;obtain⟨g0,g1,g2,g3,g4,g5,g6⟩:=HL4.o.ps.cells;have gz:=HL4.o.ps.frozens 4))
 all_goals
  obtain⟨hs1,hs2⟩:=HL4.o.ps.setAt ⟨A3,R.n,c3⟩;have HS1:=Ph hs1;have HS2:=Ph hs2;clear hs1 hs2;(try dsimp only at HS1 HS2);generalize (World.setCell _ _ _)=W7 at HS1 HS2 ⊢;have HFW:=Ph (HL4.o.fr.trans HS2.o);have HX7:=Ph (HX4.o.fr HS2.o hrp);have HY7:=Ph (HY4.o.fr HS2.o hb3p);have HN7:=Ph (HL4.o.ps.nd HS2.o HN4.o);clear g0 g1 g2 g3 g4 g5 g6 gz HS2;obtain⟨x0,x1,x2,x3,x4,x5,x6⟩:=qL HY7.o;obtain⟨y0,y1,y2,y3,y4,y5⟩:=zH HX7.o;obtain⟨f0,f1,f2,f3,f4,f5,_⟩:=zZ HX7.o;have HF:=Ph (fr6 W7 r (uB X.1.kind) (uB X.1.op) (uW X.1.value) (uI X.1.width) (uR X.1.name) (uL S));have HK:=Ph (put6 (v0:=uB X.1.kind) (v1:=uB X.1.op) (v2:=uW X.1.value) (v3:=uI X.1.width) (v4:=uR X.1.name) (v5:=uL S) HX7.o);go_wp2_with fail
  generalize (World.setCell _ _ _)=WF at HF HK ⊢;obtain⟨r0,r1,r2,r3,r4,r5⟩:=zH HK.o;refine lK (v:=.agg (qX X.1 S).toArray) (by simp [results,results54,go_sem,r0,r1,r2,r3,r4,r5,qX]) rfl ?_;have hS:=HS1.o.box HX7.o Yd (cX hrp) hr0 hr1 HF.o;have hF:Fr (fun k=>k=p) w WF:=((Fr.of_below HB0.o).trans HFW.o).then HF.o (fun i hi e=>Yo);refine⟨S,⟨A3,R.n,c3⟩,rfl,(HN7.o.t.far HF.o (Nat.lt_succ_self r)).less (by show w.heap.size≤r+1;omega),hS.rebase (lE HT0.o hF.size),hF⟩
end
end
section
open Go.RowKit Go.PlainAid
section
variable {p:Nat} {E:Env} {T:TV} {Q:SV}
abbrev AtO (B:Nat) (w:World) (Q:SV) (l:List Nat):Prop:=w.ownsRow B 3 1 (.slice Q.A Q.n Q.c) Q.n (yV l)
def FrA (p:Nat) (Q:SV) (k:Nat):Prop:=k=p∨(Value.slice Q.A Q.n Q.c).ownBlock=some k
theorem AtO.np {B:Nat} {w:World} {Q Q':SV} {l:List Nat} {s:PSt} (h:AtO B w Q l) (hp:Ps w p E T Q' s):(Value.slice Q.A Q.n Q.c).ownBlock≠some p:=fun e=>yR h hp.bk Yd e.symm
theorem AtO.fr {B:Nat} {w w':World} {Q Q':SV} {l:List Nat} {s:PSt} (h:AtO B w Q l) (hp:Ps w p E T Q' s) (hf:Fr (fun k=>k=p) w w'):AtO B w' Q l:=jP h hf (fun k hk e=>h.np hp (e▸hk))
theorem Ps.grown {B:Nat} {w w':World} {Q':SV} {l:List Nat} {s:PSt} (h:Ps w p E T Q' s) (ho:AtO B w Q l) (h0:0<B) (h1:3<B) (hg:w.grownBy w' (Value.slice Q.A Q.n Q.c).ownBlock):Ps w' p E T Q' s:=by have hf:Fr (fun k=>(uL Q).ownBlock=some k) w w':=(Fr.refl _ w).grown hg (fun k hk=>.inl hk);have hlo:∀ k,(uL Q).ownBlock=some k→B≤k:=fun k hk=>(qF ho k hk).1;exact⟨h.bk.fr hf (ho.np h),h.rd.keeps (Keeps.grown ho Yd hg),h.ok,h.n,h.vr.fr hf (fun e=>by have:=hlo _ e;omega) (fun e=>by have:=hlo _ e;omega),h.g0,h.g1,lE h.base hf.size⟩
theorem kF8 (B:Nat) (l:List Nat) (f:Nat) (s:PSt) (X:Nd) (s':PSt) (w:World) (hx:zM E f s=some (X,s')) (h:Ud (Ps w p E T Q s)) (ho:Ud (AtO B w Q l)) (h0:0<B) (h1:3<B) (hBw:B≤w.heap.size) (hl:Q.n≤900000000) :
 Calls prog 54 #[uQ p 0] w fun e w'=>∃ S Q',e=.returned (.agg (qX X.1 S).toArray)∧TrT w.heap.size w' X.1 S∧Ps w' p E T Q' s'∧AtO B w' Q' (l++X.2)∧Fr (FrA p Q) w w'∧Q'.n=Q.n+X.2.length:=by
 obtain⟨TA,Tn,Tc,T0⟩:=T;obtain⟨QA,Qn,Qc⟩:=Q;obtain⟨hl0,hl1⟩:=h.o.vr.lt;have HC:=Ph hx;have hpl:p<w.heap.size:=h.o.lt;have HB0:Ud (Ue w (w.alloc (.cells uZ 31))):=zB;have HX0:=Ph (Bk.new w 31 uZ);clear hx;go_enter func54,ntmps54
 go_upto_region 1 with fail
 have hW:(w.alloc (.cells uZ 31)).heap.size=w.heap.size+1:=Ym;generalize (w.alloc _)=W at HB0 HX0 hW ⊢;obtain⟨r,hr⟩:∃ r,w.heap.size=r:=⟨_,rfl⟩;rw [hr]at HX0 hW ⊢;have hrp:r≠p:=Yo;have hwr:w.heap.size≤r:=Yo;have hr0:0≠r:=Yo;have hr1:3≠r:=Yo;have HPW:=Ph (PP.below (h.o.below HB0.o |>.rebase (B:=r+1) Yo) (lB _ _));have HT0:Ud (T0≤w.heap.size):=Ph h.o.base;clear hr hpl hW hl0 hl1;go_wp2_with fail
 refine((sp f).choice _ _ _ W HC.o (Ph HPW.o.ps)).mono ?_;rintro e w5 ⟨S,R,rfl,hn,hp⟩;rw [zS];have HP5:=Ph (HPW.o.trans hp);have HX5:=Ph (hp.bk HX0.o hrp);have HN5:=Ph hn;clear hp hn HPW HX0;have hw5r:r<w5.heap.size:=HX5.o.lt;have hw5p:p<w5.heap.size:=HP5.o.ps.lt;have HBn:Ud (Ue w5 (w5.alloc (.cells #[uB X.1.kind,uB X.1.op,uW X.1.value,uI X.1.width,uR X.1.name,uL S,uL R] 168))):=zB;have HY6:=Ph (Bk.new w5 168 #[uB X.1.kind,uB X.1.op,uW X.1.value,uI X.1.width,uR X.1.name,uL S,uL R]);go_upto_region 2 with fail
 generalize (w5.alloc _)=v at HBn HY6 ⊢;obtain⟨b3,hb⟩:∃ b,w5.heap.size=b:=⟨_,rfl⟩;rw [hb]at HY6 ⊢;have hb3p:b3≠p:=Yo;have hb3r:b3≠r:=Yo;clear hb hw5r hw5p;have HL:=Ph ((HP5.o.then HBn.o).then (lB _ _).drew);have HX:=Ph (zD (zD HX5.o HBn.o) (lB _ _).drew);have HN:=Ph ((HN5.o.below HBn.o).below (lB _ _).drew);have HY:=Ph (zD HY6.o (lB _ _).drew);clear HP5 HX5 HN5 HBn HY6;obtain⟨g0,g1,g2,g3,g4,g5,g6⟩:=HL.o.ps.cells;obtain⟨x0,x1,x2,x3,x4,x5,x6⟩:=qL HY.o;have HRd:Ud (Rd v.drew R.A (yV X.2)):=Ph HN.o.a.rd.rd;have HRl:Ud ((yV X.2).length=R.n*1):=Ph (by have:=HN.o.a.len;unfold yV;rw [lW];omega);have HRs:Ud (Qn+R.n≤1000000000):=Ph (by have:=HN.o.a.small;omega);have HOv:Ud (AtO B v.drew ⟨QA,Qn,Qc⟩ l):=Ph (ho.o.fr h.o ((Fr.of_below HB0.o).trans HL.o.fr));have HBs:Ud (B≤v.drew.heap.size):=Ph (lE hBw (lE HB0.o.size HL.o.fr.size))
 go_region_law (first
  | (refine zZ2 jN5 rfl (.tmp 10) (.tmp 12) rfl B (.slice QA Qn Qc) Qn (yV l) rfl HOv.o R.A R.n R.c (yV X.2) rfl HRd.o HRl.o (zS2 _) HRs.o HBs.o ?_
     intro A3 c3 w4 ho4 hg4 hat4;have HO4:=Ph ho4;have HF4:=Ph (show Fr (fun k=>(Value.slice QA Qn Qc).ownBlock=some k) v.drew w4 from(Fr.refl _ _).grown hg4 (fun k hk=>.inl hk));have HPS4:=Ph (HL.o.ps.grown HOv.o h0 h1 hg4);have HX4:=Ph (HX.o.grown hg4 (yR HOv.o HX.o Yd));have HY4:=Ph (HY.o.grown hg4 (yR HOv.o HY.o Yd));have HT4:=Ph (HN.o.t.keeps (Keeps.grown HOv.o Yd hg4));clear ho4 hg4 hat4 g0 g1 g2 g3 g4 g5 g6 x0 x1 x2 x3 x4 x5 x6;obtain⟨g0,g1,g2,g3,g4,g5,g6⟩:=HPS4.o.cells;have gz:=HPS4.o.frozens 4))
 all_goals
  obtain⟨hs1,hs2⟩:=HPS4.o.setAt ⟨A3,Qn+R.n,c3⟩;have HS1:=Ph hs1;have HS2:=Ph hs2;clear hs1 hs2;(try dsimp only at HS1 HS2);generalize (World.setCell _ _ _)=W7 at HS1 HS2 ⊢;have HX7:=Ph (HX4.o.fr HS2.o hrp);have HY7:=Ph (HY4.o.fr HS2.o hb3p);have HT7:=Ph (HT4.o.keeps (HPS4.o.keeps HS2.o Yd));have HO7:Ud (AtO B W7 ⟨A3,Qn+R.n,c3⟩ (l++X.2)):=Ph (AtO.fr (Q:=⟨A3,Qn+R.n,c3⟩) (by show World.ownsRow _ _ _ _ _ _ _;rw [zR9];exact HO4.o) HPS4.o HS2.o);have HFW:Ud (Fr (FrA p ⟨QA,Qn,Qc⟩) w W7):=Ph (((Fr.of_below HB0.o).trans (Fr.mono HL.o.fr (fun _ _ h=>.inl h))).trans ((Fr.mono HF4.o (fun _ _ h=>.inr h)).trans (Fr.mono HS2.o (fun _ _ h=>.inl h))));clear g0 g1 g2 g3 g4 g5 g6 gz HS2;obtain⟨x0,x1,x2,x3,x4,x5,x6⟩:=qL HY7.o;obtain⟨y0,y1,y2,y3,y4,y5⟩:=zH HX7.o;obtain⟨f0,f1,f2,f3,f4,f5,_⟩:=zZ HX7.o;have HF:=Ph (fr6 W7 r (uB X.1.kind) (uB X.1.op) (uW X.1.value) (uI X.1.width) (uR X.1.name) (uL S));have HK:=Ph (put6 (v0:=uB X.1.kind) (v1:=uB X.1.op) (v2:=uW X.1.value) (v3:=uI X.1.width) (v4:=uR X.1.name) (v5:=uL S) HX7.o);go_wp2_with fail
  generalize (World.setCell _ _ _)=WF at HF HK ⊢;obtain⟨r0,r1,r2,r3,r4,r5⟩:=zH HK.o;refine lK (v:=.agg (qX X.1 S).toArray) (by simp [results,results54,go_sem,r0,r1,r2,r3,r4,r5,qX]) rfl ?_;have hS:=HS1.o.box HX7.o Yd (cX hrp) hr0 hr1 HF.o;have hF:Fr (FrA p ⟨QA,Qn,Qc⟩) w WF:=HFW.o.then HF.o (fun i hi e=>Yo);have hO:AtO B WF ⟨A3,Qn+R.n,c3⟩ (l++X.2):=jP HO7.o HF.o (fun k hk e=>yR HO7.o HX7.o Yd (by rw [hk,e]));refine⟨S,⟨A3,Qn+R.n,c3⟩,rfl,(HT7.o.far HF.o (Nat.lt_succ_self r)).less (by show w.heap.size≤r+1;omega),hS.rebase (lE HT0.o hF.size),hO,hF,?_⟩;show Qn+R.n=Qn+X.2.length;rw [←HN.o.a.len]
end
end
section
open Go.RowKit
theorem kF9 (t:List UInt8):∀ f a,a≤t.length→(∀ y∈ylT t f a,y.1≠0→y.1≤4∧y.2.1<y.2.2.1∧y.2.2.1≤t.length)∧((ylT t f a).filter fun y=>decide (y.1≠0)).length+a≤t.length
 | 0,a,h=>⟨fun y hy=>by simp [ylT]at hy,by simp [ylT];exact h⟩
 | f+1,a,h=>by
   obtain⟨h1,h2,h3,h4,h5⟩:=qO8 t a h;unfold ylT;by_cases hk:(kZ t a).1=0
   ·rw [lM hk];refine⟨fun y hy hy0=>?_,?_⟩
    ·rw [cQ.1 hy]at hy0;exact absurd hk hy0
    ·rw [List.filter_cons_of_neg (by simp [hk])];simpa using h
   ·obtain⟨h6,h7⟩:=h4 hk;obtain⟨i1,i2⟩:=kF9 t f _ h7;rw [lN hk];refine⟨fun y hy hy0=>?_,?_⟩
    ·rcases lU.1 hy with rfl | hy
     ·exact⟨h3,h6,h7⟩
     ·exact i1 y hy hy0
    ·rw [List.filter_cons_of_pos (by simp [hk]),Yc];omega
theorem qP8 (t:List UInt8) (h:t.length≤65536):kE3 ⟨t,zY t (kG t)⟩ (zY t (kG t)).length:=by
 obtain⟨h1,h2⟩:=kF9 t (t.length+2) 0 (lV _);refine⟨rfl,h,?_,fun i tk hi=>?_⟩
 ·show((((kG t).filter fun y=>decide (y.1≠0)).map (tkY t)).length≤65536);rw [lW];unfold kG;omega
 ·obtain⟨y,hy,rfl⟩:=List.mem_map.1 (cD hi);obtain⟨hy1,hy2⟩:=List.mem_filter.1 hy;have hy2:=cM hy2;obtain⟨h3,h4,h5⟩:=h1 y hy1 hy2;exact⟨Nat.pos_of_ne_zero hy2,h3,h4,h5,rfl⟩
mutual
def zQ5:Ex→Nat
 | .mk _ _ _ _ n l=>1+n.length+vV l
def vV:List Ex→Nat
 | []=>0
 | x :: l=>zQ5 x+vV l
end
theorem zS4 (x:Ex):zQ5 x=1+x.name.length+vV x.subs:=by cases x;simp only [zQ5,Ex.name,Ex.subs]
theorem qF2 (l m:List Ex):vV (l++m)=vV l+vV m:=by
 induction l with
 | nil=>simp [vV]
 | cons x l ih=>rw [lR,vV,vV,ih,Nat.add_assoc]
theorem zX7 (l:List Ex) (i:Nat) (y:Ex) (h:l[i]?=some y):vV (l.take (i+1))=vV (l.take i)+zQ5 y:=by rw [zI1 h,qF2];simp [vV]
theorem qA2 (l:List Ex) (i:Nat):vV (l.take i)≤vV l:=by
 have h:vV l=vV (l.take i)+vV (l.drop i):=by rw [←qF2,List.take_append_drop]
 omega
theorem qA3 {x y:Ex} {i:Nat} (h:x.subs[i]?=some y):zQ5 y<zQ5 x:=by have h1:=zX7 _ _ _ h;have h2:=qA2 x.subs (i+1);have h3:=zS4 x;omega
end
section
open Go.RowKit
inductive TreeP (P:Nat→Prop) (c:Ex→SV→List Value) (t:TypeId) (w:World):Ex→SV→Prop where
 | mk (x:Ex) (S:SV) (vs:List SV) (ok:zX3 x) (hl:vs.length=x.subs.length) (hn:S.n=x.subs.length) (hP:∀ b off,S.A=some ⟨b,off,none⟩→P b) (rd:RdT w S.A t ((x.subs.zip vs).flatMap fun p=>c p.1 p.2))
    (all:∀ (i:Nat) (y:Ex) (v:SV),x.subs[i]?=some y→vs[i]?=some v→TreeP P c t w y v):TreeP P c t w x S
section
variable {P P':Nat→Prop} {B:Nat} {c:Ex→SV→List Value} {t:TypeId} {w w':World} {x:Ex} {S:SV}
theorem TreeAt.toP (h:TreeAt B c t w x S):TreeP (fun b=>B≤b) c t w x S:=by
 induction h with
 | mk x S vs ok hl hn hB rd all ih=>exact .mk x S vs ok hl hn hB rd ih
theorem TreeP.mono (h:TreeP P c t w x S) (hp:∀ b,b<w.heap.size→P b→P' b):TreeP P' c t w x S:=by
 induction h with
 | mk x S vs ok hl hn hP rd all ih =>
   refine .mk x S vs ok hl hn (fun b off e=>?_) rd ih;obtain⟨cs,fr,hb⟩:=rd.ty b off e;exact hp b (zO hb) (hP b off e)
theorem TreeP.toAt (h:TreeP P c t w x S) (hp:∀ b,P b→B≤b):TreeAt B c t w x S:=by
 induction h with
 | mk x S vs ok hl hn hP rd all ih=>exact .mk x S vs ok hl hn (fun b off e=>hp b (hP b off e)) rd ih
theorem TreeP.fr {F:Nat→Prop} (h:TreeP P c t w x S) (hf:Fr F w w') (hp:∀ b,b<w.heap.size→P b→¬F b):TreeP P c t w' x S:=by
 induction h with
 | mk x S vs ok hl hn hP rd all ih =>
   have key:∀ b off cs fr,S.A=some ⟨b,off,none⟩→w.heap[b]?=some (.cells cs t fr)→w'.heap[b]?=w.heap[b]?:=fun b off cs fr e hb=>hf.block b (zO hb) (hp b (zO hb) (hP b off e));refine .mk x S vs ok hl hn hP ⟨fun hx=>?_,fun b off he=>?_⟩ ih
   ·obtain⟨b,off,cs,t0,fr,hA,hb,hc⟩:=rd.rd hx;exact⟨b,off,cs,t0,fr,hA,(hf.block b (zO hb) (hp b (zO hb) (hP b off hA))).trans hb,hc⟩
   ·obtain⟨cs,fr,hb⟩:=rd.ty b off he;exact⟨cs,fr,(key b off cs fr he hb).trans hb⟩
theorem TreeP.bel (h:TreeP P c t w x S) (hb:Below w.heap.size w w'):TreeP P c t w' x S:=h.fr (Fr.of_below (F:=fun _=>False) hb) (fun _ _ _ h=>h)
theorem TreeP.ok (h:TreeP P c t w x S):zX3 x:=by cases h;assumption
end
end
section
inductive Sx where
 | mk (kind:Nat) (name:List UInt8) (exprs:List Ex) (bound:Int) (thn els:List Sx)
structure Dx where
 name:List UInt8
 width:Int
 size:Int
deriving DecidableEq
structure Rx where
 name:List UInt8
 params:List Dx
 body:List Sx
structure Ix where
 block:Int
 value:Ex
structure Gx where
 blocks:Int
 width:Int
 inputs:List Dx
 ghosts:List Dx
 vars:List Dx
 arrays:List Dx
 require:Ex
 inits:List Ix
 procs:List Rx
 work:List Sx
 recover:List Sx
 invariant:Ex
structure QSt where
 s:PSt
 l:List Nat
def bs (t:String):List UInt8:=t.toList.map fun c=>UInt8.ofNat c.toNat
def kM (t:List UInt8):Option Nat :=
 if t=bs "write" then some 3 else if t=bs "flush" then some 4 else if t=bs "barrier" then some 5 else if t=bs "if" then some 6 else if t=bs "while" then some 7 else if t=bs "call" then some 8 else none
def okL (q:QSt):Bool:=decide (q.l.length≤800000000)
section
variable (E:Env)
def QSt.on (q:QSt) (s:PSt):QSt:={ q with s:=s }
def QSt.at (q:QSt):QSt:={ q with l:=q.l++[(zC E q.s).at'] }
def qS (f:Nat) (q:QSt):Option (Ex×QSt):=match zM E f q.s with
 | none=>none
 | some (x,s)=>if q.l.length+x.2.length≤800000000 then some (x.1,⟨s,q.l++x.2⟩) else none
def kN (q:QSt) (w:List UInt8):Option QSt:=if okP q.s then some (q.on (kV E q.s w)) else none
def jX (q:QSt) (w:List UInt8):Option QSt:=if okP q.s then some (q.on (wN E q.s w)) else none
def yA:Nat→QSt→List Ex→Option (List Ex×QSt)
 | 0,_,_=>none
 | f+1,q,out=>if isP E q.s [44] then(do
    let(x,q) ←qS E f (q.on (zE q.s))
    yA f q (out++[x])) else some (out,q)
def yC (f:Nat) (q:QSt):Option (List Ex×QSt):=do
 let q ←kN E q [40]
 if (zC E q.s).text≠[41]∧q.s.e=0 then
  let(x,q) ←qS E f q
  let(l,q) ←yA E f q [x]
  return (l,←jX E q [41])
 else return ([],←jX E q [41])
mutual
def jM:Nat→QSt→List Sx→Option (List Sx×QSt)
 | 0,_,_=>none
 | f+1,q,out=>if q.s.e=0 then(if okL q then(match kM (zC E q.s).text with
    | some k=>(match qY f k ⟨zE q.s,q.l++[(zC E q.s).at']⟩with
      | none=>none
      | some (x,q)=>jM f q (out++[x]))
    | none=>if (zC E q.s).kind=1∧vO (zC E q.s).text=false then(match qY f 0 (q.at E)with
      | none=>none
      | some (x,q)=>jM f q (out++[x])) else some (out,q)) else none) else some (out,q)
def qY:Nat→Nat→QSt→Option (Sx×QSt)
 | 0,_,_=>none
 | f+1,3,q=>(match qS E f q with
   | none=>none
   | some (b,q)=>match qS E f (q.on (zI E q.s [44]))with
     | none=>none
     | some (x,q)=>some (.mk 3 [] [b,x] 0 [] [],q))
 | f+1,4,q=>some (.mk 4 [] [] 0 [] [],q)
 | f+1,5,q=>some (.mk 5 [] [] 0 [] [],q)
 | f+1,6,q=>(match qS E f q with
   | none=>none
   | some (x,q)=>match kE f q with
     | none=>none
     | some (t,q)=>if isP E q.s (bs "else") then(match kE f (q.on (zE q.s))with
        | none=>none
        | some (e,q)=>some (.mk 6 [] [x] 0 t e,q)) else some (.mk 6 [] [x] 0 t [],q))
 | f+1,7,q=>(match qS E f q with
   | none=>none
   | some (x,q)=>match kE f (q.on (jB E (zI E q.s (bs "bound"))).2)with
     | none=>none
     | some (t,r)=>some (.mk 7 [] [x] (jB E (zI E q.s (bs "bound"))).1 t [],r))
 | f+1,8,q=>(match yC E f (q.on (zL E q.s))with
   | none=>none
   | some (l,r)=>some (.mk 8 (jA E q.s) l 0 [] [],r))
 | f+1,_,q=>if (zC E (zL E q.s)).text=[91] then(match kN E (q.on (zL E q.s)) [91]with
    | none=>none
    | some r=>match qS E f r with
      | none=>none
      | some (i,r)=>match jX E r [93]with
        | none=>none
        | some r=>match qS E f (r.on (zI E r.s [61]))with
          | none=>none
          | some (x,r)=>some (.mk 2 (jA E q.s) [i,x] 0 [] [],r))
   else(match qS E f (q.on (zI E (zL E q.s) [61]))with
    | none=>none
    | some (x,r)=>some (.mk 1 (jA E q.s) [x] 0 [] [],r))
def kE:Nat→QSt→Option (List Sx×QSt)
 | 0,_=>none
 | f+1,q=>match kN E q [123]with
   | none=>none
   | some q=>match jM f q []with
     | none=>none
     | some (l,q)=>match jX E q [125]with
       | none=>none
       | some q=>some (l,q)
end
def jK (w:List UInt8) (arr:Bool):Nat→QSt→List Dx→Option (List Dx×QSt)
 | 0,_,_=>none
 | f+1,q,out=>if isP E q.s w then(if okL q then(
    let n:=jA E (zE q.s)
    let s1:=zL E (zE q.s)
    let l:=q.l++[(zC E q.s).at']
    if arr then(match kN E ⟨s1,l⟩ [91]with
     | none=>none
     | some r=>match jX E (r.on (jB E r.s).2) [93]with
       | none=>none
       | some u=>jK w arr f (u.on (jB E (zI E u.s [58])).2) (out++[⟨n,(jB E (zI E u.s [58])).1,(jB E r.s).1⟩]))
    else jK w arr f ⟨(jB E (zI E s1 [58])).2,l⟩ (out++[⟨n,(jB E (zI E s1 [58])).1,0⟩])) else none) else some (out,q)
def qV (q:QSt):Dx×QSt :=
 let s1:=zL E q.s
 (⟨jA E q.s,(jB E (zI E s1 [58])).1,0⟩,⟨(jB E (zI E s1 [58])).2,q.l++[(zC E q.s).at']⟩)
def jN:Nat→QSt→List Dx→Option (List Dx×QSt)
 | 0,_,_=>none
 | f+1,q,out=>if isP E q.s [44] then(if okL q then jN f (qV E (q.on (zE q.s))).2 (out++[(qV E (q.on (zE q.s))).1]) else none) else some (out,q)
def zH1 (f:Nat) (q:QSt):Option (Rx×QSt):=do
 let n:=jA E q.s
 let q ←kN E (q.on (zL E q.s)) [40]
 let(ps,q) ←(if (zC E q.s).text≠[41]∧q.s.e=0 then(if okL q then jN E f (qV E q).2 [(qV E q).1] else none) else some ([],q))
 let q ←jX E q [41]
 let(b,q) ←kE E f q
 return (⟨n,ps,b⟩,q)
def kX:Nat→QSt→List Rx→Option (List Rx×QSt)
 | 0,_,_=>none
 | f+1,q,out=>if isP E q.s (bs "proc") then(if okL q then(do
    let(x,q) ←zH1 E f ⟨zE q.s,q.l++[(zC E q.s).at']⟩
    kX f q (out++[x])) else none) else some (out,q)
def kY:Nat→QSt→List Ix→Option (List Ix×QSt)
 | 0,_,_=>none
 | f+1,q,out=>if isP E q.s (bs "init") then(if okL q then(do
    let s1:=zE q.s
    let l:=q.l++[(zC E q.s).at']
    let(x,r) ←qS E f ⟨zI E (jB E s1).2 [61],l⟩
    kY f r (out++[⟨(jB E s1).1,x⟩])) else none) else some (out,q)
def kH (f:Nat) (q:QSt):Option (Gx×QSt):=do
 let q:=q.at E
 let nb:=jB E (zI E q.s (bs "device"))
 let nw:=jB E (zI E nb.2 (bs "width"))
 let(is,q) ←jK E (bs "input") false f (q.on nw.2) []
 let(gs,q) ←jK E (bs "ghost") false f q []
 let(vs,q) ←jK E (bs "var") false f q []
 let(az,q) ←jK E (bs "array") true f q []
 let(rq,q) ←(if isP E q.s (bs "require") then qS E f (q.on (zE q.s)) else if okL q then some (.mk 1 0 1 1 [] [],q.at E) else none)
 let(ins,q) ←kY E f q []
 let(ps,q) ←kX E f q []
 let(wk,q) ←kE E f (q.on (zI E q.s (bs "work")))
 let(rc,q) ←kE E f (q.on (zI E q.s (bs "recover")))
 let(iv,q) ←qS E f (q.on (zI E q.s (bs "invariant")))
 return (⟨nb.1,nw.1,is,gs,vs,az,rq,ins,ps,wk,rc,iv⟩,q)
end
end
end Go.Proofs.YtfdaebgllibphaaGreatDoor
