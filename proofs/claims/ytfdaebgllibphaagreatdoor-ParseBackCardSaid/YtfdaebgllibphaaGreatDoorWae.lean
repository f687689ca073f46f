import Derived.Test.YtfdaebgllibphaaGreatDoorWad
set_option linter.unusedVariables false
set_option linter.unusedSimpArgs false
set_option maxRecDepth 100000
set_option maxHeartbeats 16000000
namespace Go.Proofs.YtfdaebgllibphaaGreatDoor
open Go.Proofs.Tryz
section
open Go.RowKit Go.PlainAid
theorem zG9 {B:Nat} {W:World} (L:List NdV) (h:∀ q∈L,NdAt B W q.1 q.2.1 q.2.2) (hL:L≠[]:=by simp):NdsAt B (W.alloc (.cells (L.flatMap qE7).toArray 168)) (some ⟨W.heap.size,0,none⟩) L.length L :=
 ⟨by have:=Rd.new W (L.flatMap qE7).toArray 168;rwa [List.toList_toArray]at this,rfl,(by obtain⟨q,hq⟩:=List.exists_mem_of_ne_nil L hL;exact((h q hq).below zB).base),fun q hq=>(h q hq).below zB⟩
theorem qL2 {B:Nat} {x:Nd} {S R:SV} (W W':World) (h:NdAt B W x S R) (hb:Below W.heap.size W W'):Calls prog 124 #[.agg #[uB x.1.kind,uB x.1.op,uW x.1.value,uI x.1.width,uR x.1.name,.slice S.A S.n S.c,.slice R.A R.n R.c]] W' fun e w'=>e=.returned (uI (yK x:Int))∧Below W'.heap.size W' w':=kM3 x S R W' (Ph (h.below hb).a)
theorem zM5 {l:List Nd} (h:okW l=true):(l.flatMap (·.2)).length≤1000000:=cM h
theorem qA1 {B:Nat} {W:World} {x:Nd} {S R:SV} (h:NdAt B W x S R):yK x≤1000000:=by
 unfold yK;have h1:=h.a.all;obtain⟨ex,l⟩:=x;cases l with
 | nil=>exact lV _
 | cons a r=>exact h1 a (List.mem_cons_self ..)
section
variable {p:Nat} {E:Env} {T:TV} {Q:SV}
theorem qL3 {f:Nat} {s s':PSt} {X:Nd} (h:zM E (f+1) s=some (X,s')):∃ x s1,qN E f 1 s=some (x,s1)∧okP s1=true∧((zC7 E s1 [63]=false∧X=x∧s'=s1)∨(zC7 E s1 [63]=true∧∃ y s3 z s5,zM E f (zI4 E s1 [63])=some (y,s3)∧zM E f (zI E s3 [58])=some (z,s5)∧okP s5=true∧okW [x,y,z]=true∧X=qI 7 0 0 0 [] (yK x) [x,y,z]∧s'=yH s5 (-1))):=by
 unfold zM at h;cases h1:qN E f 1 s with
 | none=>rw [h1]at h;cases h
 | some q =>
   obtain⟨x,s1⟩:=q;rw [h1]at h;(try dsimp only at h);cases h2:okP s1 with
   | false=>rw [h2]at h;cases h
   | true =>
     rw [h2]at h;(try dsimp only at h);refine⟨x,s1,rfl,h2,?_⟩;cases h3:zC7 E s1 [63]with
     | false =>
       rw [h3]at h;(try dsimp only at h);injection h with h;injection h with h4 h5;exact .inl ⟨rfl,h4.symm,h5.symm⟩
     | true =>
       rw [h3]at h;(try dsimp only at h);cases h4:zM E f (zI4 E s1 [63])with
       | none=>rw [h4]at h;cases h
       | some q =>
         obtain⟨y,s3⟩:=q;rw [h4]at h;(try dsimp only at h);cases h5:zM E f (zI E s3 [58])with
         | none=>rw [h5]at h;cases h
         | some q =>
           obtain⟨z,s5⟩:=q;rw [h5]at h;(try dsimp only at h);cases h6:(okP s5 && okW [x,y,z])with
           | false=>rw [h6]at h;cases h
           | true =>
             rw [h6]at h;(try dsimp only at h);injection h with h;injection h with h7 h8;rw [lZ]at h6;exact .inr ⟨rfl,y,s3,z,s5,rfl,h5,h6.1,h6.2,h7.symm,h8.symm⟩
def S3C (x:Nd) (S R:SV) (y:Nd) (S4 R4:SV) (z:Nd) (S7 R7:SV) (b3 b4 b5:Nat) (w':World):Prop:=w'.cell? ⟨b3,0,none⟩=some (uB x.1.kind)∧w'.cell? ⟨b3,1,none⟩=some (uB x.1.op)∧w'.cell? ⟨b3,2,none⟩=some (uW x.1.value)∧w'.cell? ⟨b3,3,none⟩=some (uI x.1.width)∧w'.cell? ⟨b3,4,none⟩=some (uR x.1.name)∧w'.cell? ⟨b3,5,none⟩=some (.slice S.A S.n S.c)∧w'.cell? ⟨b3,6,none⟩=some (.slice R.A R.n R.c)∧w'.cell? ⟨b4,0,none⟩=some (uB y.1.kind)∧w'.cell? ⟨b4,1,none⟩=some (uB y.1.op)∧w'.cell? ⟨b4,2,none⟩=some (uW y.1.value)∧w'.cell? ⟨b4,3,none⟩=some (uI y.1.width)∧w'.cell? ⟨b4,4,none⟩=some (uR y.1.name)∧w'.cell? ⟨b4,5,none⟩=some (.slice S4.A S4.n S4.c)∧w'.cell? ⟨b4,6,none⟩=some (.slice R4.A R4.n R4.c)∧w'.cell? ⟨b5,0,none⟩=some (uB z.1.kind)∧w'.cell? ⟨b5,1,none⟩=some (uB z.1.op)∧w'.cell? ⟨b5,2,none⟩=some (uW z.1.value)∧w'.cell? ⟨b5,3,none⟩=some (uI z.1.width)∧w'.cell? ⟨b5,4,none⟩=some (uR z.1.name)∧w'.cell? ⟨b5,5,none⟩=some (.slice S7.A S7.n S7.c)∧w'.cell? ⟨b5,6,none⟩=some (.slice R7.A R7.n R7.c)
theorem kF7 {W w':World} {x:Nd} {S R:SV} {y:Nd} {S4 R4:SV} {z:Nd} {S7 R7:SV} {b3 b4 b5:Nat} (h3:Bk W b3 168 (ndC x S R)) (h4:Bk W b4 168 (ndC y S4 R4)) (h5:Bk W b5 168 (ndC z S7 R7)) (hb:Below W.heap.size W w'):S3C x S R y S4 R4 z S7 R7 b3 b4 b5 w':=⟨(zD h3 hb).cell 0,(zD h3 hb).cell 1,(zD h3 hb).cell 2,(zD h3 hb).cell 3,(zD h3 hb).cell 4,(zD h3 hb).cell 5,(zD h3 hb).cell 6,(zD h4 hb).cell 0,(zD h4 hb).cell 1,(zD h4 hb).cell 2,(zD h4 hb).cell 3,(zD h4 hb).cell 4,(zD h4 hb).cell 5,(zD h4 hb).cell 6,(zD h5 hb).cell 0,(zD h5 hb).cell 1,(zD h5 hb).cell 2,(zD h5 hb).cell 3,(zD h5 hb).cell 4,(zD h5 hb).cell 5,(zD h5 hb).cell 6⟩
theorem jY2 {W w':World} {x:Nd} {S R:SV} {y:Nd} {S4 R4:SV} {z:Nd} {S7 R7:SV} {b3 b4 b5 r:Nat} (h3:Bk W b3 168 (ndC x S R)) (h4:Bk W b4 168 (ndC y S4 R4)) (h5:Bk W b5 168 (ndC z S7 R7)) (e3:b3≠r) (e4:b4≠r) (e5:b5≠r) (u0 u1 u2 u3 u4 u5 u6:Value) (hb:Below W.heap.size W w'):S3C x S R y S4 R4 z S7 R7 b3 b4 b5 (((((((w'.setCell ⟨r,0,none⟩ u0).setCell ⟨r,1,none⟩ u1).setCell ⟨r,2,none⟩ u2).setCell ⟨r,3,none⟩ u3).setCell ⟨r,4,none⟩ u4).setCell ⟨r,5,none⟩ u5).setCell ⟨r,6,none⟩ u6):=⟨(Bk.fr (zD h3 hb) (fr7 w' r u0 u1 u2 u3 u4 u5 u6) e3).cell 0,(Bk.fr (zD h3 hb) (fr7 w' r u0 u1 u2 u3 u4 u5 u6) e3).cell 1,(Bk.fr (zD h3 hb) (fr7 w' r u0 u1 u2 u3 u4 u5 u6) e3).cell 2,(Bk.fr (zD h3 hb) (fr7 w' r u0 u1 u2 u3 u4 u5 u6) e3).cell 3,(Bk.fr (zD h3 hb) (fr7 w' r u0 u1 u2 u3 u4 u5 u6) e3).cell 4,(Bk.fr (zD h3 hb) (fr7 w' r u0 u1 u2 u3 u4 u5 u6) e3).cell 5,(Bk.fr (zD h3 hb) (fr7 w' r u0 u1 u2 u3 u4 u5 u6) e3).cell 6,(Bk.fr (zD h4 hb) (fr7 w' r u0 u1 u2 u3 u4 u5 u6) e4).cell 0,(Bk.fr (zD h4 hb) (fr7 w' r u0 u1 u2 u3 u4 u5 u6) e4).cell 1,(Bk.fr (zD h4 hb) (fr7 w' r u0 u1 u2 u3 u4 u5 u6) e4).cell 2,(Bk.fr (zD h4 hb) (fr7 w' r u0 u1 u2 u3 u4 u5 u6) e4).cell 3,(Bk.fr (zD h4 hb) (fr7 w' r u0 u1 u2 u3 u4 u5 u6) e4).cell 4,(Bk.fr (zD h4 hb) (fr7 w' r u0 u1 u2 u3 u4 u5 u6) e4).cell 5,(Bk.fr (zD h4 hb) (fr7 w' r u0 u1 u2 u3 u4 u5 u6) e4).cell 6,(Bk.fr (zD h5 hb) (fr7 w' r u0 u1 u2 u3 u4 u5 u6) e5).cell 0,(Bk.fr (zD h5 hb) (fr7 w' r u0 u1 u2 u3 u4 u5 u6) e5).cell 1,(Bk.fr (zD h5 hb) (fr7 w' r u0 u1 u2 u3 u4 u5 u6) e5).cell 2,(Bk.fr (zD h5 hb) (fr7 w' r u0 u1 u2 u3 u4 u5 u6) e5).cell 3,(Bk.fr (zD h5 hb) (fr7 w' r u0 u1 u2 u3 u4 u5 u6) e5).cell 4,(Bk.fr (zD h5 hb) (fr7 w' r u0 u1 u2 u3 u4 u5 u6) e5).cell 5,(Bk.fr (zD h5 hb) (fr7 w' r u0 u1 u2 u3 u4 u5 u6) e5).cell 6⟩
theorem qL4 {f:Nat} (IH:Sp p E T Q f) (s:PSt) (X:Nd) (s':PSt) (w:World) (hx:zM E (f+1) s=some (X,s')) (h:Ud (Ps w p E T Q s)) :
 Calls prog 95 #[uQ p 0] w (vG w p E T Q X s'):=by
 obtain⟨x,s1,hc,ok1,hcase⟩:=qL3 hx;have HC:=Ph hc;have HIH:=Ph IH;have hpl:p<w.heap.size:=h.o.lt;have HB0:Ud (Ue w (w.alloc (.cells #[uB 0,uB 0,uW 0,uI 0,uT,uN,uN] 168))):=zB;have HX0:=Ph (Bk.new w 168 #[uB 0,uB 0,uW 0,uI 0,uT,uN,uN]);have HCASE:=Ph hcase;clear hx hc IH hcase;go_enter func95,ntmps95
 go_upto_region 1 with fail
 generalize (w.alloc _)=W at HB0 HX0 ⊢;obtain⟨r,hr⟩:∃ r,w.heap.size=r:=⟨_,rfl⟩;rw [hr]at HX0 ⊢;have hrp:r≠p:=Yo;have hwr:w.heap.size≤r:=Yo;clear hr hpl;have HP0:=Ph (h.o.below HB0.o);go_wp2_with fail
 refine(HIH.o.chain 1 _ _ _ W Yo HC.o HP0).mono ?_;rintro e w1 ⟨S,R,rfl,hn,hp⟩;rw [zS];have HX1:=Ph (hp.bk HX0.o hrp);have HP1:=Ph (PP.after HB0.o hp);have HN1:=Ph hn;clear hp hn HX0 HP0;have HBX:Ud (Ue w1 (w1.alloc (.cells #[uB x.1.kind,uB x.1.op,uW x.1.value,uI x.1.width,uR x.1.name,uL S,uL R] 168))):=zB;have HYb3:=Ph (Bk.new w1 168 #[uB x.1.kind,uB x.1.op,uW x.1.value,uI x.1.width,uR x.1.name,uL S,uL R]);have hwr':r<w1.heap.size:=HX1.o.lt;have hwp':p<w1.heap.size:=HP1.o.ps.lt;go_upto_region 2 with fail
 generalize (w1.alloc _)=W2 at HBX HYb3 ⊢;obtain⟨b3,hb⟩:∃ b,w1.heap.size=b:=⟨_,rfl⟩;rw [hb]at HYb3 ⊢;have hb3p:b3≠p:=Yo;have hb3r:b3≠r:=Yo;have hb3r':r≠b3:=Yo;clear hb hwr' hwp';have HP2:=Ph (HP1.o.then HBX.o);have HX2:=Ph (zD HX1.o HBX.o);have HN2:=Ph (HN1.o.below HBX.o);clear HP1 HX1 HN1 HBX;go_wp2_with fail
 refine(jS9 p E T Q s1 [63] W2 (Ph HP2.o.ps) ok1).mono ?_;rintro e w3 ⟨rfl,hp⟩;have HP3:=Ph (HP2.o.trans hp);have HX3:=Ph (hp.bk HX2.o hrp);have HY3:=Ph (hp.bk HYb3.o hb3p);have HN3:=Ph (hp.nd HP2.o.ps HN2.o);clear hp HP2 HX2 HYb3 HN2;rcases HCASE.o with⟨c1,rfl,rfl⟩ | ⟨c1,y,s3,z,s5,c2,c3,ok5,okw,hX,rfl⟩
 ·rw [c1];have he:zI4 E s' [63]=s':=by unfold zI4;rw [c1];rfl
  rw [he]at HP3;clear he c1;obtain⟨x0,x1,x2,x3,x4,x5,x6⟩:=qL HY3.o;obtain⟨y0,y1,y2,y3,y4,y5,y6⟩:=qL HX3.o;obtain⟨f0,f1,f2,f3,f4,f5,f6⟩:=zZ HX3.o;have HF:=Ph (fr7 w3 r (uB X.1.kind) (uB X.1.op) (uW X.1.value) (uI X.1.width) (uR X.1.name) (uL S) (uL R));have HK:=Ph (zZ9 (v0:=uB X.1.kind) (v1:=uB X.1.op) (v2:=uW X.1.value) (v3:=uI X.1.width) (v4:=uR X.1.name) (v5:=uL S) (v6:=uL R) HX3.o);go_wp2_with fail
  generalize (World.setCell _ _ _)=WF at HF HK ⊢;obtain⟨r0,r1,r2,r3,r4,r5,r6⟩:=qL HK.o;refine lK (v:=yO X S R) (by rw [zS];simp [results,results95,go_sem,r0,r1,r2,r3,r4,r5,r6]) rfl ?_;exact xZ HP3.o h.o HX3.o hrp hwr HF.o HN3.o
 ·rw [c1];have HXE:=Ph hX;clear hX;have C2:=Ph c2;have C3:=Ph c3;have OW:=Ph (zM5 okw);clear c1 c2 c3 HC HCASE okw;go_wp2_with fail
  refine(HIH.o.choice _ _ _ w3 C2.o (Ph HP3.o.ps)).mono ?_;rintro e w4 ⟨S4,R4,rfl,hn,hp⟩;rw [zS];have HX4:=Ph (hp.bk HX3.o hrp);have HYb3:=Ph (hp.bk HY3.o hb3p);have HN4:=Ph (hp.nd HP3.o.ps HN3.o);have HP4:=Ph (HP3.o.trans hp);have HM4:=Ph hn;clear hp hn HX3 HY3 HN3 HP3 C2;have HBX:Ud (Ue w4 (w4.alloc (.cells #[uB y.1.kind,uB y.1.op,uW y.1.value,uI y.1.width,uR y.1.name,uL S4,uL R4] 168))):=zB;have HYb4:=Ph (Bk.new w4 168 #[uB y.1.kind,uB y.1.op,uW y.1.value,uI y.1.width,uR y.1.name,uL S4,uL R4]);have hwr':r<w4.heap.size:=HX4.o.lt;have hwp':p<w4.heap.size:=HP4.o.ps.lt;have hwb3:b3<w4.heap.size:=HYb3.o.lt;go_upto_region 5 with fail
  generalize (w4.alloc _)=W5 at HBX HYb4 ⊢;obtain⟨b4,hb⟩:∃ b,w4.heap.size=b:=⟨_,rfl⟩;rw [hb]at HYb4 ⊢;have hb4p:b4≠p:=Yo;have hb4r:b4≠r:=Yo;have hb4r':r≠b4:=Yo;have hb4b3:b4≠b3:=Yo;have hb3b4:b3≠b4:=Yo;clear hb hwr' hwp';have HP5:=Ph (HP4.o.then HBX.o);have HX5:=Ph (zD HX4.o HBX.o);have HY5:=Ph (zD HYb3.o HBX.o);have HN5:=Ph (HN4.o.below HBX.o);have HM5:=Ph (HM4.o.below HBX.o);clear HP4 HX4 HYb3 HN4 HM4 HBX hwb3;go_wp2_with fail
  refine(jX5 p E T Q s3 [58] W5 (Ph HP5.o.ps)).mono ?_;rintro e w6 ⟨⟨v,rfl⟩,hp⟩;have HX6:=Ph (hp.bk HX5.o hrp);have HY6:=Ph (hp.bk HY5.o hb3p);have HZ6:=Ph (hp.bk HYb4.o hb4p);have HN6:=Ph (hp.nd HP5.o.ps HN5.o);have HM6:=Ph (hp.nd HP5.o.ps HM5.o);have HP6:=Ph (HP5.o.trans hp);clear hp HX5 HY5 HYb4 HN5 HM5 HP5;go_wp2_with fail
  refine(HIH.o.choice _ _ _ w6 C3.o (Ph HP6.o.ps)).mono ?_;rintro e w7 ⟨S7,R7,rfl,hn,hp⟩;rw [zS];have HX7:=Ph (hp.bk HX6.o hrp);have HYb3:=Ph (hp.bk HY6.o hb3p);have HYb4:=Ph (hp.bk HZ6.o hb4p);have HN7:=Ph (hp.nd HP6.o.ps HN6.o);have HM7:=Ph (hp.nd HP6.o.ps HM6.o);have HP7:=Ph (HP6.o.trans hp);have HK7:=Ph hn;clear hp hn HX6 HY6 HZ6 HN6 HM6 HP6 C3;have HBX:Ud (Ue w7 (w7.alloc (.cells #[uB z.1.kind,uB z.1.op,uW z.1.value,uI z.1.width,uR z.1.name,uL S7,uL R7] 168))):=zB;have HYb5:=Ph (Bk.new w7 168 #[uB z.1.kind,uB z.1.op,uW z.1.value,uI z.1.width,uR z.1.name,uL S7,uL R7]);have hwr':r<w7.heap.size:=HX7.o.lt;have hwp':p<w7.heap.size:=HP7.o.ps.lt;have hwb3:b3<w7.heap.size:=HYb3.o.lt;have hwb4:b4<w7.heap.size:=HYb4.o.lt;go_upto_region 7 with fail
  generalize (w7.alloc _)=W8 at HBX HYb5 ⊢;obtain⟨b5,hb⟩:∃ b,w7.heap.size=b:=⟨_,rfl⟩;rw [hb]at HYb5 ⊢;have hb5p:b5≠p:=Yo;have hb5r:b5≠r:=Yo;have hb5r':r≠b5:=Yo;have hb5b3:b5≠b3:=Yo;have hb3b5:b3≠b5:=Yo;have hb5b4:b5≠b4:=Yo;have hb4b5:b4≠b5:=Yo;clear hb hwr' hwp';have HP8:=Ph (HP7.o.then HBX.o);have HX8:=Ph (zD HX7.o HBX.o);have HY8:=Ph (zD HYb3.o HBX.o);have HZ8:=Ph (zD HYb4.o HBX.o);have HN8:=Ph (HN7.o.below HBX.o);have HM8:=Ph (HM7.o.below HBX.o);have HK8:=Ph (HK7.o.below HBX.o);clear HP7 HX7 HYb3 HYb4 HN7 HM7 HK7 HBX hwb3 hwb4;have hok:=ok5;unfold okP at hok;simp only [lZ,cC]at hok;have wd:IntKind.i64.wrap (s5.deep-1)=s5.deep-1:=by rw [lL];omega
  obtain⟨g0,g1,g2,g3,g4,g5,g6⟩:=HP8.o.ps.cells;have gz:=HP8.o.ps.frozens 3;have hd:=HP8.o.ps.setDeep (s5.deep-1);have HP9:=Ph (HP8.o.trans hd);have HX9:=Ph (hd.bk HX8.o hrp);have HY9:=Ph (hd.bk HY8.o hb3p);have HZ9:=Ph (hd.bk HZ8.o hb4p);have HV9:=Ph (hd.bk HYb5.o hb5p);have HN9:=Ph (hd.nd HP8.o.ps HN8.o);have HM9:=Ph (hd.nd HP8.o.ps HM8.o);have HK9:=Ph (hd.nd HP8.o.ps HK8.o);clear hd hok;go_upto_region 8 with fail
  generalize (World.setCell _ _ _)=W9 at HP9 HX9 HY9 HZ9 HV9 HN9 HM9 HK9 ⊢;clear HP8 HX8 HY8 HZ8 HYb5 HN8 HM8 HK8 g0 g1 g2 g3 g4 g5 g6 gz;have HH:=Ph fun W' hb=>qL2 W9 W' HN9.o hb;have hnds:∀ W',Ue W9 W'→∀ q∈([(x,S,R),(y,S4,R4),(z,S7,R7)]:List NdV),NdAt T.base W' q.1 q.2.1 q.2.2:=fun W' hb q hq=>by
   simp only [lU,lT,or_false]at hq;rcases hq with rfl | rfl | rfl
   ·exact HN9.o.below hb
   ·exact HM9.o.below hb
   ·exact HK9.o.below hb
  have HND:=Ph hnds;have hhl:=qA1 HN9.o;have HW:Ud (∀ W' g,NdsAt T.base W' (some ⟨g,0,none⟩) 3 [(x,S,R),(y,S4,R4),(z,S7,R7)]→Calls prog 123 #[.agg #[uB 7,uB 0,uW 0,uI 0,uT,uN],uI (yK x:Int),.slice (some ⟨g,0,none⟩) 3 3] W' fun e w'=>∃ S0 R0,e=.returned (yO X S0 R0)∧NdAt T.base w' X S0 R0∧Below W'.heap.size W' w'):=fun W' g hg=>by
   have hlen:(kL 0 [(x,S,R),(y,S4,R4),(z,S7,R7)]).length≤100000000:=by
    have h1:=OW.o;have h2:(kL 0 [(x,S,R),(y,S4,R4),(z,S7,R7)]).length=1+(([x,y,z]:List Nd).flatMap (·.2)).length:=by unfold kL;simp;omega
    omega
   rw [HXE.o];exact zS3 7 0 0 0 [] (yK x) (some ⟨g,0,none⟩) 3 3 [(x,S,R),(y,S4,R4),(z,S7,R7)] W' (Ph hg) Yo hlen hhl Yo Yo Yo Yo Yo Ym
  have hrw:∀ v5,Below (W9.alloc (.cells #[uB x.1.kind,uB x.1.op,uW x.1.value,uI x.1.width,uR x.1.name,uL S,uL R,uB y.1.kind,uB y.1.op,uW y.1.value,uI y.1.width,uR y.1.name,uL S4,uL R4,uB z.1.kind,uB z.1.op,uW z.1.value,uI z.1.width,uR z.1.name,uL S7,uL R7] 168)).drew.heap.size (W9.alloc (.cells #[uB x.1.kind,uB x.1.op,uW x.1.value,uI x.1.width,uR x.1.name,uL S,uL R,uB y.1.kind,uB y.1.op,uW y.1.value,uI y.1.width,uR y.1.name,uL S4,uL R4,uB z.1.kind,uB z.1.op,uW z.1.value,uI z.1.width,uR z.1.name,uL S7,uL R7] 168)).drew v5→NdsAt T.base v5 (some ⟨W9.heap.size,0,none⟩) 3 [(x,S,R),(y,S4,R4),(z,S7,R7)]:=fun v5 hb =>
   ((zG9 (W:=W9) [(x,S,R),(y,S4,R4),(z,S7,R7)] (HND.o W9 (lB _ _))).below (lB _ _).drew).below hb
  have HRW:=Ph hrw;have hrn:∀ v5,Ue W9 v5→NdsAt T.base (v5.alloc (.cells #[uB x.1.kind,uB x.1.op,uW x.1.value,uI x.1.width,uR x.1.name,uL S,uL R,uB y.1.kind,uB y.1.op,uW y.1.value,uI y.1.width,uR y.1.name,uL S4,uL R4,uB z.1.kind,uB z.1.op,uW z.1.value,uI z.1.width,uR z.1.name,uL S7,uL R7] 168)) (some ⟨v5.heap.size,0,none⟩) 3 [(x,S,R),(y,S4,R4),(z,S7,R7)]:=fun v5 hb=>zG9 (W:=v5) [(x,S,R),(y,S4,R4),(z,S7,R7)] (HND.o v5 hb);have HRN:=Ph hrn;clear hnds hrw hrn;have HSS:Ud (∀ w',Ue W9 w'→S3C x S R y S4 R4 z S7 R7 b3 b4 b5 w'):=fun w' hb=>kF7 HY9.o HZ9.o HV9.o hb;have HST:Ud (∀ (w0:World) (u0 u1 u2 u3 u4 u5 u6:Value),Ue W9 w0→S3C x S R y S4 R4 z S7 R7 b3 b4 b5 (((((((w0.setCell ⟨r,0,none⟩ u0).setCell ⟨r,1,none⟩ u1).setCell ⟨r,2,none⟩ u2).setCell ⟨r,3,none⟩ u3).setCell ⟨r,4,none⟩ u4).setCell ⟨r,5,none⟩ u5).setCell ⟨r,6,none⟩ u6)):=fun w0 u0 u1 u2 u3 u4 u5 u6 hb=>jY2 HY9.o HZ9.o HV9.o hb3r hb4r hb5r u0 u1 u2 u3 u4 u5 u6 hb;have HBC:Ud (Ue W9 W9.drew):=(lB _ _).drew;have HBR:Ud (Ue W9 W9):=lB _ _;have HBA:Ud (Ue W9 (W9.alloc (.cells #[uB x.1.kind,uB x.1.op,uW x.1.value,uI x.1.width,uR x.1.name,uL S,uL R,uB y.1.kind,uB y.1.op,uW y.1.value,uI y.1.width,uR y.1.name,uL S4,uL R4,uB z.1.kind,uB z.1.op,uW z.1.value,uI z.1.width,uR z.1.name,uL S7,uL R7] 168)).drew):=(zG (lB _ _) _).drew
  go_region_held3 (fun w'=>w'.cell? ⟨b3,0,none⟩=some (uB x.1.kind)∧w'.cell? ⟨b3,1,none⟩=some (uB x.1.op)∧w'.cell? ⟨b3,2,none⟩=some (uW x.1.value)∧w'.cell? ⟨b3,3,none⟩=some (uI x.1.width)∧w'.cell? ⟨b3,4,none⟩=some (uR x.1.name)∧w'.cell? ⟨b3,5,none⟩=some (uL S)∧w'.cell? ⟨b3,6,none⟩=some (uL R)∧w'.cell? ⟨b4,0,none⟩=some (uB y.1.kind)∧w'.cell? ⟨b4,1,none⟩=some (uB y.1.op)∧w'.cell? ⟨b4,2,none⟩=some (uW y.1.value)∧w'.cell? ⟨b4,3,none⟩=some (uI y.1.width)∧w'.cell? ⟨b4,4,none⟩=some (uR y.1.name)∧w'.cell? ⟨b4,5,none⟩=some (uL S4)∧w'.cell? ⟨b4,6,none⟩=some (uL R4)∧w'.cell? ⟨b5,0,none⟩=some (uB z.1.kind)∧w'.cell? ⟨b5,1,none⟩=some (uB z.1.op)∧w'.cell? ⟨b5,2,none⟩=some (uW z.1.value)∧w'.cell? ⟨b5,3,none⟩=some (uI z.1.width)∧w'.cell? ⟨b5,4,none⟩=some (uR z.1.name)∧w'.cell? ⟨b5,5,none⟩=some (uL S7)∧w'.cell? ⟨b5,6,none⟩=some (uL R7))
   ((refine(show S3C x S R y S4 R4 z S7 R7 b3 b4 b5 _ from ?_);first | with_reducible exact HSS.o _ HBC.o | with_reducible exact HSS.o _ (zG HBC.o _) | with_reducible exact HST.o _ _ _ _ _ _ _ _ HBC.o | with_reducible exact HSS.o _ HBA.o | with_reducible exact HSS.o _ HBR.o))
   (first
     | (go_at_call 124
        first
         | with_reducible refine(HH.o _ HBC.o).mono ?_
         | with_reducible refine(HH.o _ HBA.o).mono ?_
        rintro e v5 ⟨rfl,hb5⟩
        first
         | (have HB5:Ud (Ue W9 v5):=by with_reducible exact Ph (zU HBC.o hb5))
         | (have HB5:Ud (Ue W9 v5):=by with_reducible exact Ph (zU HBA.o hb5)
            have HR5:Ud (NdsAt T.base v5 (some ⟨W9.heap.size,0,none⟩) 3 [(x,S,R),(y,S4,R4),(z,S7,R7)]):=by with_reducible exact Ph (HRW.o _ hb5))
        clear HBC hb5;have HBC:=HB5)
     | (go_at_call 123
        first
         | with_reducible refine(HW.o _ _ HR5.o).mono ?_
         | with_reducible refine(HW.o _ _ (HRN.o _ HB5.o)).mono ?_
        rintro e v7 ⟨S0,R0,rfl,hn7,hb7⟩;rw [zS]
        first
         | (have HB7:Ud (Ue W9 v7):=by with_reducible exact Ph (zU HB5.o hb7))
         | (have HB7:Ud (Ue W9 v7):=by with_reducible exact Ph (zU (zG HB5.o _) hb7))
        have HN7:=Ph hn7;have HX7:=Ph (HX9.o.below HB7.o HX9.o.lt);repeat (rename (World.cell? _ _=some _)=>hZ;clear hZ)
        obtain⟨y0,y1,y2,y3,y4,y5,y6⟩:=qL HX7.o;obtain⟨f0,f1,f2,f3,f4,f5,f6⟩:=zZ HX7.o;clear HBC hb7 hn7 HRW HRN HH HND HW HN9 HM9 HK9 HY9 HZ9 HV9;have HBC:=HB7))
  all_goals
   have HF:=Ph (fr7 v7 r (uB X.1.kind) (uB X.1.op) (uW X.1.value) (uI X.1.width) (uR X.1.name) (uL S0) (uL R0));have HK:=Ph (zZ9 (v0:=uB X.1.kind) (v1:=uB X.1.op) (v2:=uW X.1.value) (v3:=uI X.1.width) (v4:=uR X.1.name) (v5:=uL S0) (v6:=uL R0) HX7.o);go_wp2
   generalize (World.setCell _ _ _)=WF at HF HK ⊢;obtain⟨r0,r1,r2,r3,r4,r5,r6⟩:=qL HK.o;refine lK (v:=yO X S0 R0) (by rw [zS];simp [results,results95,go_sem,r0,r1,r2,r3,r4,r5,r6]) rfl ?_;exact xZ (HP9.o.then HB7.o) h.o HX7.o hrp hwr HF.o HN7.o
end
end
section
open Go.RowKit Go.PlainAid
section
variable {p:Nat} {E:Env} {T:TV} {Q:SV}
inductive zP1 (E:Env) (f:Nat) (s:PSt):Nd→PSt→Prop where
 | err:s.e≠0→zP1 E f s nd0 s
 | lit0:s.e=0→(zC E s).kind=3→(zH8 (zC E s).text).2.2≠0→zP1 E f s nd0 (qH E s 302)
 | lit:s.e=0→(zC E s).kind=3→(zH8 (zC E s).text).2.2=0→zP1 E f s (qI 1 0 (zH8 (zC E s).text).1 (zH8 (zC E s).text).2.1 [] (zC E s).at' []) (zE s)
 | paren (X s'):s.e=0→(zC E s).kind≠3→(zC E s).text=[40]→zX E f s [40] [41]=some (X,s')→zP1 E f s X s'
 | disk (x s2):s.e=0→(zC E s).kind≠3→(zC E s).text≠[40]→(zC E s).text=[100,105,115,107]→zX E f (zE s) [91] [93]=some (x,s2)→okW [x]=true→zP1 E f s (qI 4 0 0 0 [] (zC E s).at' [x]) s2
 | elem (x s2):s.e=0→(zC E s).kind≠3→(zC E s).text≠[40]→(zC E s).text≠[100,105,115,107]→(zC E (zL E s)).text=[91]→zX E f (zL E s) [91] [93]=some (x,s2)→okW [x]=true→zP1 E f s (qI 3 0 0 0 (jA E s) (zC E s).at' [x]) s2
 | var:s.e=0→(zC E s).kind≠3→(zC E s).text≠[40]→(zC E s).text≠[100,105,115,107]→(zC E (zL E s)).text≠[91]→zP1 E f s (qI 2 0 0 0 (jA E s) (zC E s).at' []) (zL E s)
theorem qV4 {f:Nat} {s s':PSt} {X:Nd} (h:qJ E (f+1) s=some (X,s')):zP1 E f s X s':=by
 unfold qJ at h;by_cases h1:s.e=0;rotate_left
 ·rw [lG h1]at h;injection h with h;injection h with h7 h8;subst h7 h8;exact .err h1
 rw [lH h1]at h;(try dsimp only at h);by_cases h2:(zC E s).kind=3
 ·rw [lH h2]at h;(try dsimp only at h);by_cases h3:(zH8 (zC E s).text).2.2=0
  ·rw [lH h3]at h;injection h with h;injection h with h7 h8;subst h7 h8;exact .lit h1 h2 h3
  ·rw [lG h3]at h;injection h with h;injection h with h7 h8;subst h7 h8;exact .lit0 h1 h2 h3
 rw [lG h2]at h;(try dsimp only at h);by_cases h3:(zC E s).text=[40]
 ·rw [lH h3]at h;exact .paren _ _ h1 h2 h3 h
 rw [lG h3]at h;(try dsimp only at h);by_cases h4:(zC E s).text=[100,105,115,107]
 ·rw [lH h4]at h;(try dsimp only at h);cases h5:zX E f (zE s) [91] [93]with
  | none=>rw [h5]at h;cases h
  | some q =>
    obtain⟨x,s2⟩:=q;rw [h5]at h;(try dsimp only at h);cases h6:okW [x]with
    | false=>rw [h6]at h;cases h
    | true =>
      rw [h6]at h;injection h with h;injection h with h7 h8;subst h7 h8;exact .disk x s2 h1 h2 h3 h4 h5 h6
 rw [lG h4]at h;(try dsimp only at h);by_cases h9:(zC E (zL E s)).text=[91]
 ·rw [lH h9]at h;(try dsimp only at h);cases h5:zX E f (zL E s) [91] [93]with
  | none=>rw [h5]at h;cases h
  | some q =>
    obtain⟨x,s2⟩:=q;rw [h5]at h;(try dsimp only at h);cases h6:okW [x]with
    | false=>rw [h6]at h;cases h
    | true =>
      rw [h6]at h;injection h with h;injection h with h7 h8;subst h7 h8;exact .elem x s2 h1 h2 h3 h4 h9 h5 h6
 ·rw [lG h9]at h;injection h with h;injection h with h7 h8;subst h7 h8;exact .var h1 h2 h3 h4 h9
theorem jT2 {B:Nat} {W:World} (hB:B≤W.heap.size):NdAt B W nd0 ⟨none,0,0⟩ ⟨none,0,0⟩ :=
 ⟨.leaf ⟨Yd,Yd,Yd,Yd,Yd,Yd,Yd⟩ rfl 0,⟨RdT.nil,rfl,(fun n h=>by cases h),Yd⟩,hB⟩
theorem jT3 {B:Nat} (k o v:Nat) (wd:Int) (nm:List UInt8) (at':Nat) (W:World) (hB:B≤W.heap.size) (hat:at'≤1000000) (hk:k≤255) (ho:o≤255) (hv:v≤4294967295) (hw0:-9223372036854775808≤wd) (hw1:wd≤9223372036854775807) (hnm:nm.length≤1000000) (X:Nd) (hX:X=qI k o v wd nm at' []) :
 Calls prog 123 #[.agg #[uB k,uB o,uW v,uI wd,uR nm,uN],uI at',uN] W fun e w'=>∃ S R,e=.returned (yO X S R)∧NdAt B w' X S R∧Below W.heap.size W w':=by
 rw [hX];exact zS3 k o v wd nm at' none 0 0 [] W (Ph ⟨Rd.nil,rfl,hB,fun q h=>by cases h⟩) Yo Yd hat hk ho hv hw0 hw1 hnm
theorem qV5 {f:Nat} (IH:Sp p E T Q f) (s:PSt) (X:Nd) (s':PSt) (w:World) (hx:qJ E (f+1) s=some (X,s')) (h:Ud (Ps w p E T Q s)) :
 Calls prog 154 #[uQ p 0] w (vG w p E T Q X s'):=by
 have hR:=qV4 hx;have HIH:=Ph IH;have hpl:p<w.heap.size:=h.o.lt;have hle:=h.o.nextLe;have htok:=h.o.tok;have HB0:Ud (Below w.heap.size w (w.alloc (.cells #[uB 0,uB 0,uW 0,uI 0,uT,uN,uN] 168))):=zB;have HX0:=Ph (Bk.new w 168 #[uB 0,uB 0,uW 0,uI 0,uT,uN,uN]);have hbq:=fun u=>zR3 (zC E s).text u;obtain⟨⟨tk,tt,ta,tf⟩,ht⟩:∃ t,zC E s=t:=⟨_,rfl⟩;have HT:=Ph ht;rw [ht]at hle htok hbq;(try dsimp only at hle htok hbq);clear hx IH;cases hR with
 | err h1 =>
   have e1:((s.e:Int) != 0)=true:=Yp;clear ht hbq htok;go_enter func154,ntmps154
   go_upto_region 1 with fail
   generalize (w.alloc _)=W at HB0 HX0 ⊢;obtain⟨r,hr⟩:∃ r,w.heap.size=r:=⟨_,rfl⟩;rw [hr]at HX0 ⊢;have hrp:r≠p:=Yo;have hwr:w.heap.size≤r:=Yo;clear hr hpl;have HP0:=Ph (h.o.below HB0.o);have HNX:=Ph (zC5 p E T Q s W HP0);rw [HT.o]at HNX;dsimp only [nxV,kW]at HNX;go_wp2_with fail
   refine HNX.o.mono ?_;rintro e w1 ⟨rfl,hb1⟩;have HB1:=Ph (zU HB0.o hb1);have HX1:=Ph (zD HX0.o hb1);clear hb1 HNX HP0 HX0;have hwr':r<w1.heap.size:=HX1.o.lt;have hwp':p<w1.heap.size:=(h.o.below HB1.o).lt;have HBn:Ud (Below w1.heap.size w1 (w1.alloc (.cells #[uB tk,uI ta,uI tf] 44))):=zB;have HTB:=Ph (Bk.new w1 44 #[uB tk,uI ta,uI tf]);go_upto_region 2 with fail
   generalize (w1.alloc _)=W2 at HBn HTB ⊢;obtain⟨b3,hb⟩:∃ b,w1.heap.size=b:=⟨_,rfl⟩;rw [hb]at HTB ⊢;have hb3p:b3≠p:=Yo;have hb3r:b3≠r:=Yo;have hrb3:r≠b3:=Yo;clear hb hwr' hwp';have HB2:=Ph (zU HB1.o HBn.o);have HX2:=Ph (zD HX1.o HBn.o);have HP2:=Ph (PP.below h.o HB2.o);clear HX1 HBn HB1;obtain⟨g0,g1,g2,g3,g4,g5,g6⟩:=HP2.o.ps.cells;obtain⟨t0,t1,t2⟩:=zJ HTB.o;have gz:=HP2.o.ps.frozens 2;obtain⟨y0,y1,y2,y3,y4,y5,y6⟩:=qL HX2.o;obtain⟨f0,f1,f2,f3,f4,f5,f6⟩:=zZ HX2.o;have HF:=Ph (fr7 W2 r (uB 0) (uB 0) (uW 0) (uI 0) (uT) (uN) (uN));have HK:=Ph (zZ9 (v0:=uB 0) (v1:=uB 0) (v2:=uW 0) (v3:=uI 0) (v4:=uT) (v5:=uN) (v6:=uN) HX2.o);go_wp2_with fail
   generalize (World.setCell _ _ _)=WF at HF HK ⊢;obtain⟨r0,r1,r2,r3,r4,r5,r6⟩:=qL HK.o;refine lK (v:=yO nd0 ⟨none,0,0⟩ ⟨none,0,0⟩) (by rw [zS];simp [results,results154,go_sem,r0,r1,r2,r3,r4,r5,r6];exact⟨rfl,rfl,rfl,rfl,rfl⟩) rfl ?_;exact xZ HP2.o h.o HX2.o hrp hwr HF.o (jT2 HP2.o.ps.base)
 | lit0 h1 h2 h3 =>
   rw [ht]at h2 h3;(try dsimp only at h2 h3);have e1:((s.e:Int) != 0)=false:=Yp;have e2:((tk:Int) == 3)=true:=Yp;obtain⟨⟨a1,a2,a3⟩,hl⟩:∃ q,zH8 tt=q:=⟨_,rfl⟩;rw [hl]at h3;(try dsimp only at h3);have e3:((a3:Int) != 0)=true:=Yp;have HL:Ud (∀ w,Ud (Vars w)→Calls prog 162 #[uR tt] w fun e w'=>e=.returned (.tuple #[uI a1,uI a2,uI a3])∧Below w.heap.size w w'):=fun w hv=>by have h9:=jS8 (str tt) w (by rw [jV];omega) hv;rw [qE,hl]at h9;exact h9
   clear ht hbq htok hl h2;go_enter func154,ntmps154
   go_upto_region 1 with fail
   generalize (w.alloc _)=W at HB0 HX0 ⊢;obtain⟨r,hr⟩:∃ r,w.heap.size=r:=⟨_,rfl⟩;rw [hr]at HX0 ⊢;have hrp:r≠p:=Yo;have hwr:w.heap.size≤r:=Yo;clear hr hpl;have HP0:=Ph (h.o.below HB0.o);have HNX:=Ph (zC5 p E T Q s W HP0);rw [HT.o]at HNX;dsimp only [nxV,kW]at HNX;go_wp2_with fail
   refine HNX.o.mono ?_;rintro e w1 ⟨rfl,hb1⟩;have HB1:=Ph (zU HB0.o hb1);have HX1:=Ph (zD HX0.o hb1);clear hb1 HNX HP0 HX0;have hwr':r<w1.heap.size:=HX1.o.lt;have hwp':p<w1.heap.size:=(h.o.below HB1.o).lt;have HBn:Ud (Below w1.heap.size w1 (w1.alloc (.cells #[uB tk,uI ta,uI tf] 44))):=zB;have HTB:=Ph (Bk.new w1 44 #[uB tk,uI ta,uI tf]);go_upto_region 2 with fail
   generalize (w1.alloc _)=W2 at HBn HTB ⊢;obtain⟨b3,hb⟩:∃ b,w1.heap.size=b:=⟨_,rfl⟩;rw [hb]at HTB ⊢;have hb3p:b3≠p:=Yo;have hb3r:b3≠r:=Yo;have hrb3:r≠b3:=Yo;clear hb hwr' hwp';have HB2:=Ph (zU HB1.o HBn.o);have HX2:=Ph (zD HX1.o HBn.o);have HP2:=Ph (PP.below h.o HB2.o);clear HX1 HBn HB1;obtain⟨g0,g1,g2,g3,g4,g5,g6⟩:=HP2.o.ps.cells;obtain⟨t0,t1,t2⟩:=zJ HTB.o;have gz:=HP2.o.ps.frozens 2;go_wp2_with fail
   refine(HL.o _ (Ph HP2.o.ps.vr)).mono ?_;rintro e w3 ⟨rfl,hb⟩;have HP3:=Ph (HP2.o.then hb);have HX3:=Ph (zD HX2.o hb);clear hb;go_wp2_with fail
   refine(zG2 p E T Q s 302 w3 (Ph HP3.o.ps)).mono ?_;rintro e w4 ⟨⟨v,rfl⟩,hp⟩;have HP4:=Ph (HP3.o.trans hp);have HX4:=Ph (hp.bk HX3.o hrp);clear hp;obtain⟨y0,y1,y2,y3,y4,y5,y6⟩:=qL HX4.o;obtain⟨f0,f1,f2,f3,f4,f5,f6⟩:=zZ HX4.o;have HF:=Ph (fr7 w4 r (uB 0) (uB 0) (uW 0) (uI 0) (uT) (uN) (uN));have HK:=Ph (zZ9 (v0:=uB 0) (v1:=uB 0) (v2:=uW 0) (v3:=uI 0) (v4:=uT) (v5:=uN) (v6:=uN) HX4.o);go_wp2_with fail
   generalize (World.setCell _ _ _)=WF at HF HK ⊢;obtain⟨r0,r1,r2,r3,r4,r5,r6⟩:=qL HK.o;refine lK (v:=yO nd0 ⟨none,0,0⟩ ⟨none,0,0⟩) (by rw [zS];simp [results,results154,go_sem,r0,r1,r2,r3,r4,r5,r6];exact⟨rfl,rfl,rfl,rfl,rfl⟩) rfl ?_;exact xZ HP4.o h.o HX4.o hrp hwr HF.o (jT2 HP4.o.ps.base)
 | lit h1 h2 h3 =>
   rw [ht]at h2 h3;(try dsimp only at h2 h3);have e1:((s.e:Int) != 0)=false:=Yp;have e2:((tk:Int) == 3)=true:=Yp;have hXE:qI 1 0 (zH8 (zC E s).text).1 (zH8 (zC E s).text).2.1 [] (zC E s).at' []=qI 1 0 (zH8 tt).1 (zH8 tt).2.1 [] ta []:=by rw [ht]
   have hll:=jX4 tt;obtain⟨⟨a1,a2,a3⟩,hl⟩:∃ q,zH8 tt=q:=⟨_,rfl⟩;rw [hl]at h3 hXE hll;(try dsimp only at h3 hXE hll);have e3:((a3:Int) != 0)=false:=Yp;have HL:Ud (∀ w,Ud (Vars w)→Calls prog 162 #[uR tt] w fun e w'=>e=.returned (.tuple #[uI a1,uI a2,uI a3])∧Below w.heap.size w w'):=fun w hv=>by have h9:=jS8 (str tt) w (by rw [jV];omega) hv;rw [qE,hl]at h9;exact h9
   obtain⟨t1,t2,_⟩:=htok (.inl Yo);have hT:=h.o.ok.few;have wn:IntKind.i64.wrap ((s.n:Int)+1)=((s.n+1:Nat):Int):=by rw [lL];omega
   have wv:IntKind.u32.wrap (a1:Int)=(a1:Int):=by rw [IntKind.wrap_u32];omega
   rw [hXE];obtain⟨X,hX⟩:∃ X,qI 1 0 a1 (a2:Int) [] ta []=X:=⟨_,rfl⟩;have HWW:Ud (∀ W,T.base≤W.heap.size→Calls prog 123 #[.agg #[uB 1,uB 0,uW a1,uI a2,uT,uN],uI ta,uN] W fun e w'=>∃ S R,e=.returned (yO X S R)∧NdAt T.base w' X S R∧Below W.heap.size W w'):=fun W hB=>jT3 1 0 a1 (a2:Int) [] ta W hB Yo Yo Yo Yo Yo Yo Ym X hX.symm;rw [hX];have T2:=Ph t2;clear ht hbq htok hl h2 hXE hX t1 t2;go_enter func154,ntmps154
   go_upto_region 1 with fail
   generalize (w.alloc _)=W at HB0 HX0 ⊢;obtain⟨r,hr⟩:∃ r,w.heap.size=r:=⟨_,rfl⟩;rw [hr]at HX0 ⊢;have hrp:r≠p:=Yo;have hwr:w.heap.size≤r:=Yo;clear hr hpl;have HP0:=Ph (h.o.below HB0.o);have HNX:=Ph (zC5 p E T Q s W HP0);rw [HT.o]at HNX;dsimp only [nxV,kW]at HNX;go_wp2_with fail
   refine HNX.o.mono ?_;rintro e w1 ⟨rfl,hb1⟩;have HB1:=Ph (zU HB0.o hb1);have HX1:=Ph (zD HX0.o hb1);clear hb1 HNX HP0 HX0;have hwr':r<w1.heap.size:=HX1.o.lt;have hwp':p<w1.heap.size:=(h.o.below HB1.o).lt;have HBn:Ud (Below w1.heap.size w1 (w1.alloc (.cells #[uB tk,uI ta,uI tf] 44))):=zB;have HTB:=Ph (Bk.new w1 44 #[uB tk,uI ta,uI tf]);go_upto_region 2 with fail
   generalize (w1.alloc _)=W2 at HBn HTB ⊢;obtain⟨b3,hb⟩:∃ b,w1.heap.size=b:=⟨_,rfl⟩;rw [hb]at HTB ⊢;have hb3p:b3≠p:=Yo;have hb3r:b3≠r:=Yo;have hrb3:r≠b3:=Yo;clear hb hwr' hwp';have HB2:=Ph (zU HB1.o HBn.o);have HX2:=Ph (zD HX1.o HBn.o);have HP2:=Ph (PP.below h.o HB2.o);clear HX1 HBn HB1;obtain⟨g0,g1,g2,g3,g4,g5,g6⟩:=HP2.o.ps.cells;obtain⟨t0,t1,t2⟩:=zJ HTB.o;have gz:=HP2.o.ps.frozens 2;go_wp2_with fail
   refine(HL.o _ (Ph HP2.o.ps.vr)).mono ?_;rintro e w3 ⟨rfl,hb⟩;have HP3:=Ph (HP2.o.then hb);have HX3:=Ph (zD HX2.o hb);have HT3:=Ph (zD HTB.o hb);clear hb g0 g1 g2 g3 g4 g5 g6 gz t0 t1 t2;obtain⟨g0,g1,g2,g3,g4,g5,g6⟩:=HP3.o.ps.cells;obtain⟨t0,t1,t2⟩:=zJ HT3.o;have gz:=HP3.o.ps.frozens 2;have hd:=HP3.o.ps.setN (s.n+1) T2.o;have hc:((s.n+1:Nat):Int)=(s.n:Int)+1:=Yo;rw [hc]at hd wn;clear hc;have HP4:=Ph (HP3.o.trans hd);have HX4:=Ph (hd.bk HX3.o hrp);have HT4:=Ph (hd.bk HT3.o hb3p);clear hd;go_upto_region 10 with fail
   generalize (World.setCell _ _ _)=W4 at HP4 HX4 HT4 ⊢;clear g0 g1 g2 g3 g4 g5 g6 gz t0 t1 t2;obtain⟨t0,t1,t2⟩:=zJ HT4.o;go_wp2_with fail
   refine(HWW.o _ HP4.o.ps.base).mono ?_;rintro e w5 ⟨S0,R0,rfl,hn,hb⟩;rw [zS];have HN5:=Ph hn;have HP5:=Ph (HP4.o.then hb);have HX5:=Ph (zD HX4.o hb);clear hn hb t0 t1 t2;obtain⟨y0,y1,y2,y3,y4,y5,y6⟩:=qL HX5.o;obtain⟨f0,f1,f2,f3,f4,f5,f6⟩:=zZ HX5.o;have HF:=Ph (fr7 w5 r (uB X.1.kind) (uB X.1.op) (uW X.1.value) (uI X.1.width) (uR X.1.name) (uL S0) (uL R0));have HK:=Ph (zZ9 (v0:=uB X.1.kind) (v1:=uB X.1.op) (v2:=uW X.1.value) (v3:=uI X.1.width) (v4:=uR X.1.name) (v5:=uL S0) (v6:=uL R0) HX5.o);go_wp2_with fail
   generalize (World.setCell _ _ _)=WF at HF HK ⊢;obtain⟨r0,r1,r2,r3,r4,r5,r6⟩:=qL HK.o;refine lK (v:=yO X S0 R0) (by rw [zS];simp [results,results154,go_sem,r0,r1,r2,r3,r4,r5,r6]) rfl ?_;exact xZ HP5.o h.o HX5.o hrp hwr HF.o HN5.o
 | paren _ _ h1 h2 h3 h4 =>
   rw [ht]at h2 h3;(try dsimp only at h2 h3);have e1:((s.e:Int) != 0)=false:=Yp;have e2:((tk:Int) == 3)=false:=Yp;have e3:((str tt).toList == [40])=true:=by rw [qB,qE,h3];rfl
   have HC:=Ph h4;clear ht hbq htok h2 h3 h4;go_enter func154,ntmps154
   go_upto_region 1 with fail
   generalize (w.alloc _)=W at HB0 HX0 ⊢;obtain⟨r,hr⟩:∃ r,w.heap.size=r:=⟨_,rfl⟩;rw [hr]at HX0 ⊢;have hrp:r≠p:=Yo;have hwr:w.heap.size≤r:=Yo;clear hr hpl;have HP0:=Ph (h.o.below HB0.o);have HNX:=Ph (zC5 p E T Q s W HP0);rw [HT.o]at HNX;dsimp only [nxV,kW]at HNX;go_wp2_with fail
   refine HNX.o.mono ?_;rintro e w1 ⟨rfl,hb1⟩;have HB1:=Ph (zU HB0.o hb1);have HX1:=Ph (zD HX0.o hb1);clear hb1 HNX HP0 HX0;have hwr':r<w1.heap.size:=HX1.o.lt;have hwp':p<w1.heap.size:=(h.o.below HB1.o).lt;have HBn:Ud (Below w1.heap.size w1 (w1.alloc (.cells #[uB tk,uI ta,uI tf] 44))):=zB;have HTB:=Ph (Bk.new w1 44 #[uB tk,uI ta,uI tf]);go_upto_region 2 with fail
   generalize (w1.alloc _)=W2 at HBn HTB ⊢;obtain⟨b3,hb⟩:∃ b,w1.heap.size=b:=⟨_,rfl⟩;rw [hb]at HTB ⊢;have hb3p:b3≠p:=Yo;have hb3r:b3≠r:=Yo;have hrb3:r≠b3:=Yo;clear hb hwr' hwp';have HB2:=Ph (zU HB1.o HBn.o);have HX2:=Ph (zD HX1.o HBn.o);have HP2:=Ph (PP.below h.o HB2.o);clear HX1 HBn HB1;obtain⟨g0,g1,g2,g3,g4,g5,g6⟩:=HP2.o.ps.cells;obtain⟨t0,t1,t2⟩:=zJ HTB.o;have gz:=HP2.o.ps.frozens 2;go_wp2_with fail
   refine(HIH.o.within _ [40] [41] _ _ W2 HC.o (Ph HP2.o.ps)).mono ?_;rintro e w5 ⟨S0,R0,rfl,hn,hp⟩;rw [zS];have HN5:=Ph hn;have HP5:=Ph (HP2.o.trans hp);have HX5:=Ph (hp.bk HX2.o hrp);clear hn hp g0 g1 g2 g3 g4 g5 g6 gz t0 t1 t2;obtain⟨y0,y1,y2,y3,y4,y5,y6⟩:=qL HX5.o;obtain⟨f0,f1,f2,f3,f4,f5,f6⟩:=zZ HX5.o;have HF:=Ph (fr7 w5 r (uB X.1.kind) (uB X.1.op) (uW X.1.value) (uI X.1.width) (uR X.1.name) (uL S0) (uL R0));have HK:=Ph (zZ9 (v0:=uB X.1.kind) (v1:=uB X.1.op) (v2:=uW X.1.value) (v3:=uI X.1.width) (v4:=uR X.1.name) (v5:=uL S0) (v6:=uL R0) HX5.o);go_wp2_with fail
   generalize (World.setCell _ _ _)=WF at HF HK ⊢;obtain⟨r0,r1,r2,r3,r4,r5,r6⟩:=qL HK.o;refine lK (v:=yO X S0 R0) (by rw [zS];simp [results,results154,go_sem,r0,r1,r2,r3,r4,r5,r6]) rfl ?_;exact xZ HP5.o h.o HX5.o hrp hwr HF.o HN5.o
 | var h1 h2 h3 h4 h5 =>
   rw [ht]at h2 h3 h4;(try dsimp only at h2 h3 h4);have e1:((s.e:Int) != 0)=false:=Yp;have e2:((tk:Int) == 3)=false:=Yp;have e3:((str tt).toList == [40])=false:=by rw [qB,qE];simpa using h3
   have e4:((str tt).toList == [100,105,115,107])=false:=by rw [qB,qE];simpa using h4
   have hnl:(jA E s).length≤1000000:=by
    unfold jA;split
    ·have:=h.o.nextLe.2.2;omega
    ·exact lV _
   obtain⟨⟨uk,ut,ua,uf⟩,hu⟩:∃ t,zC E (zL E s)=t:=⟨_,rfl⟩;rw [hu]at h5;(try dsimp only at h5);have e5:((str ut).toList == [91])=false:=by rw [qB,qE];simpa using h5
   have HU:=Ph hu;rw [ht];dsimp only;obtain⟨nm,hnm⟩:∃ nm,jA E s=nm:=⟨_,rfl⟩;have HNM:=Ph fun W hW=>hnm▸jX6 p E T Q s W hW;rw [hnm]at hnl ⊢;obtain⟨X,hX⟩:∃ X,qI 2 0 0 0 nm ta []=X:=⟨_,rfl⟩;have HWW:Ud (∀ W,T.base≤W.heap.size→Calls prog 123 #[.agg #[uB 2,uB 0,uW 0,uI 0,uR nm,uN],uI ta,uN] W fun e w'=>∃ S R,e=.returned (yO X S R)∧NdAt T.base w' X S R∧Below W.heap.size W w'):=fun W hB=>jT3 2 0 0 0 nm ta W hB Yo Yo Yo Yo Yo Yo hnl X hX.symm;rw [hX];clear ht hbq htok h2 h3 h4 h5 hX hu hnm;go_enter func154,ntmps154
   go_upto_region 1 with fail
   generalize (w.alloc _)=W at HB0 HX0 ⊢;obtain⟨r,hr⟩:∃ r,w.heap.size=r:=⟨_,rfl⟩;rw [hr]at HX0 ⊢;have hrp:r≠p:=Yo;have hwr:w.heap.size≤r:=Yo;clear hr hpl;have HP0:=Ph (h.o.below HB0.o);have HNX:=Ph (zC5 p E T Q s W HP0);rw [HT.o]at HNX;dsimp only [nxV,kW]at HNX;go_wp2_with fail
   refine HNX.o.mono ?_;rintro e w1 ⟨rfl,hb1⟩;have HB1:=Ph (zU HB0.o hb1);have HX1:=Ph (zD HX0.o hb1);clear hb1 HNX HP0 HX0;have hwr':r<w1.heap.size:=HX1.o.lt;have hwp':p<w1.heap.size:=(h.o.below HB1.o).lt;have HBn:Ud (Below w1.heap.size w1 (w1.alloc (.cells #[uB tk,uI ta,uI tf] 44))):=zB;have HTB:=Ph (Bk.new w1 44 #[uB tk,uI ta,uI tf]);go_upto_region 2 with fail
   generalize (w1.alloc _)=W2 at HBn HTB ⊢;obtain⟨b3,hb⟩:∃ b,w1.heap.size=b:=⟨_,rfl⟩;rw [hb]at HTB ⊢;have hb3p:b3≠p:=Yo;have hb3r:b3≠r:=Yo;have hrb3:r≠b3:=Yo;clear hb hwr' hwp';have HB2:=Ph (zU HB1.o HBn.o);have HX2:=Ph (zD HX1.o HBn.o);have HP2:=Ph (PP.below h.o HB2.o);clear HX1 HBn HB1;obtain⟨g0,g1,g2,g3,g4,g5,g6⟩:=HP2.o.ps.cells;obtain⟨t0,t1,t2⟩:=zJ HTB.o;have gz:=HP2.o.ps.frozens 2;go_wp2_with fail
   refine(HNM.o W2 (Ph HP2.o.ps)).mono ?_;rintro e w3 ⟨rfl,hp⟩;have HP3:=Ph (HP2.o.trans hp);have HX3:=Ph (hp.bk HX2.o hrp);have HT3:=Ph (hp.bk HTB.o hb3p);clear hp g0 g1 g2 g3 g4 g5 g6 gz t0 t1 t2;have HN2:=Ph (zC5 p E T Q (zL E s) w3 (Ph HP3.o.ps));rw [HU.o]at HN2;dsimp only [nxV,kW]at HN2;go_wp2_with fail
   refine HN2.o.mono ?_;rintro e w4 ⟨rfl,hb⟩;have HBo:Ud (∀ o,Below w3.heap.size w3 (w4.alloc o)):=fun o=>zG hb o;have HT4:=Ph (zD HT3.o hb);obtain⟨t0,t1,t2⟩:=zJ HT4.o;have htl:b3<w4.heap.size:=HT4.o.lt;clear hb;go_wp2_with fail
   refine(HWW.o _ (lE HP3.o.ps.base (HBo.o _).size)).mono ?_;rintro e w5 ⟨S0,R0,rfl,hn,hb⟩;rw [zS];have HN5:=Ph hn;have HP5:=Ph (HP3.o.then (zU (HBo.o _) hb));have HX5:=Ph (zD HX3.o (zU (HBo.o _) hb));clear hn hb t0 t1 t2;obtain⟨y0,y1,y2,y3,y4,y5,y6⟩:=qL HX5.o;obtain⟨f0,f1,f2,f3,f4,f5,f6⟩:=zZ HX5.o;have HF:=Ph (fr7 w5 r (uB X.1.kind) (uB X.1.op) (uW X.1.value) (uI X.1.width) (uR X.1.name) (uL S0) (uL R0));have HK:=Ph (zZ9 (v0:=uB X.1.kind) (v1:=uB X.1.op) (v2:=uW X.1.value) (v3:=uI X.1.width) (v4:=uR X.1.name) (v5:=uL S0) (v6:=uL R0) HX5.o);go_wp2_with fail
   generalize (World.setCell _ _ _)=WF at HF HK ⊢;obtain⟨r0,r1,r2,r3,r4,r5,r6⟩:=qL HK.o;refine lK (v:=yO X S0 R0) (by rw [zS];simp [results,results154,go_sem,r0,r1,r2,r3,r4,r5,r6]) rfl ?_;exact xZ HP5.o h.o HX5.o hrp hwr HF.o HN5.o
 | disk x _ h1 h2 h3 h4 h5 h6 =>
   rw [ht]at h2 h3 h4;(try dsimp only at h2 h3 h4);have e1:((s.e:Int) != 0)=false:=Yp;have e2:((tk:Int) == 3)=false:=Yp;have e3:((str tt).toList == [40])=false:=by rw [qB,qE];simpa using h3
   have e4:((str tt).toList == [100,105,115,107])=true:=by rw [qB,qE,h4];rfl
   obtain⟨t1,t2,_⟩:=htok (.inr (by rw [h4];simp));have hT:=h.o.ok.few;have wn:IntKind.i64.wrap ((s.n:Int)+1)=(s.n:Int)+1:=by rw [lL];omega
   have T2:=Ph t2;have HC:=Ph h5;have OW:=Ph (zM5 h6);rw [ht];dsimp only;obtain⟨X,hX⟩:∃ X,qI 4 0 0 0 [] ta [x]=X:=⟨_,rfl⟩;have HXE:=Ph hX;rw [hX];clear ht hbq htok h2 h3 h4 h5 h6 hX t1 t2;go_enter func154,ntmps154
   go_upto_region 1 with fail
   generalize (w.alloc _)=W at HB0 HX0 ⊢;obtain⟨r,hr⟩:∃ r,w.heap.size=r:=⟨_,rfl⟩;rw [hr]at HX0 ⊢;have hrp:r≠p:=Yo;have hwr:w.heap.size≤r:=Yo;clear hr hpl;have HP0:=Ph (h.o.below HB0.o);have HNX:=Ph (zC5 p E T Q s W HP0);rw [HT.o]at HNX;dsimp only [nxV,kW]at HNX;go_wp2_with fail
   refine HNX.o.mono ?_;rintro e w1 ⟨rfl,hb1⟩;have HB1:=Ph (zU HB0.o hb1);have HX1:=Ph (zD HX0.o hb1);clear hb1 HNX HP0 HX0;have hwr':r<w1.heap.size:=HX1.o.lt;have hwp':p<w1.heap.size:=(h.o.below HB1.o).lt;have HBn:Ud (Below w1.heap.size w1 (w1.alloc (.cells #[uB tk,uI ta,uI tf] 44))):=zB;have HTB:=Ph (Bk.new w1 44 #[uB tk,uI ta,uI tf]);go_upto_region 2 with fail
   generalize (w1.alloc _)=W2 at HBn HTB ⊢;obtain⟨b3,hb⟩:∃ b,w1.heap.size=b:=⟨_,rfl⟩;rw [hb]at HTB ⊢;have hb3p:b3≠p:=Yo;have hb3r:b3≠r:=Yo;have hrb3:r≠b3:=Yo;clear hb hwr' hwp';have HB2:=Ph (zU HB1.o HBn.o);have HX2:=Ph (zD HX1.o HBn.o);have HP2:=Ph (PP.below h.o HB2.o);clear HX1 HBn HB1;obtain⟨g0,g1,g2,g3,g4,g5,g6⟩:=HP2.o.ps.cells;obtain⟨t0,t1,t2⟩:=zJ HTB.o;have gz:=HP2.o.ps.frozens 2;have hd:=HP2.o.ps.setN (s.n+1) T2.o;have hc:((s.n+1:Nat):Int)=(s.n:Int)+1:=Yo;rw [hc]at hd;clear hc;have HPW:=Ph (HP2.o.trans hd);have HXW:=Ph (hd.bk HX2.o hrp);have HTW:=Ph (hd.bk HTB.o hb3p);clear hd;go_upto_region 15 with fail
   generalize (World.setCell _ _ _)=W3 at HPW HXW HTW ⊢;clear g0 g1 g2 g3 g4 g5 g6 gz t0 t1 t2;have HSS:Ud (∀ w',Bk w' b3 44 #[uB tk,uI ta,uI tf]→w'.cell? ⟨b3,1,none⟩=some (uI ta)):=fun w' hb=>hb.cell 1;have HST:Ud (∀ (w':World) (u0 u1 u2 u3 u4 u5 u6:Value),Bk w' b3 44 #[uB tk,uI ta,uI tf]→(((((((w'.setCell ⟨r,0,none⟩ u0).setCell ⟨r,1,none⟩ u1).setCell ⟨r,2,none⟩ u2).setCell ⟨r,3,none⟩ u3).setCell ⟨r,4,none⟩ u4).setCell ⟨r,5,none⟩ u5).setCell ⟨r,6,none⟩ u6).cell? ⟨b3,1,none⟩=some (uI ta)):=fun w' u0 u1 u2 u3 u4 u5 u6 hb=>(Bk.fr hb (fr7 w' r u0 u1 u2 u3 u4 u5 u6) hb3r).cell 1;have HTC:=Ph HTW.o.drew;have HIW:Ud (Calls prog 163 #[uQ p 0,.string ⟨#[91]⟩,.string ⟨#[93]⟩] W3.drew (vG W3.drew p E T Q x s')):=HIH.o.within _ [91] [93] _ _ W3.drew HC.o (Ph (HPW.o.ps.below (lB _ _).drew));have HPD:=Ph (HPW.o.then (lB _ _).drew);have HXD:=Ph HXW.o.drew;have HRN:Ud (∀ (S R:SV) (v5:World),NdAt T.base v5 x S R→NdsAt T.base (v5.alloc (.cells #[uB x.1.kind,uB x.1.op,uW x.1.value,uI x.1.width,uR x.1.name,uL S,uL R] 168)) (some ⟨v5.heap.size,0,none⟩) 1 [(x,S,R)]):=fun S R v5 hn=>zG9 (W:=v5) [(x,S,R)] (fun q hq=>by rw [cQ.1 hq];exact hn);have HW:Ud (∀ (S R:SV) (W':World) (g:Nat),NdsAt T.base W' (some ⟨g,0,none⟩) 1 [(x,S,R)]→Calls prog 123 #[.agg #[uB 4,uB 0,uW 0,uI 0,uT,uN],uI ta,.slice (some ⟨g,0,none⟩) 1 1] W' fun e w'=>∃ S0 R0,e=.returned (yO X S0 R0)∧NdAt T.base w' X S0 R0∧Below W'.heap.size W' w'):=fun S R W' g hg=>by
    have hlen:(kL 0 [(x,S,R)]).length≤100000000:=by
     have h1:=OW.o;have h2:(kL 0 ([(x,S,R)]:List NdV)).length=1+(([x]:List Nd).flatMap (·.2)).length:=by unfold kL;simp;omega
     omega
    rw [←HXE.o];exact zS3 4 0 0 0 [] ta (some ⟨g,0,none⟩) 1 1 [(x,S,R)] W' (Ph hg) Yo hlen Yo Yo Yo Yo Yo Yo Ym
   go_region_held3 (fun w'=>w'.cell? ⟨b3,1,none⟩=some (uI ta))
    (first | with_reducible exact HSS.o _ HTC.o | with_reducible exact HSS.o _ (HTC.o.alloc _) | with_reducible exact HST.o _ _ _ _ _ _ _ _ HTC.o)
    (first
      | (go_at_call 163
         with_reducible refine HIW.o.mono ?_
         rintro e w5 ⟨S,R,rfl,hn,hp⟩;rw [zS];have HTC':=Ph (hp.bk HTC.o hb3p);clear HTC;have HTC:=HTC';clear HTC';have HN5:=Ph hn;have HP5:=Ph (HPD.o.trans hp);have HX5:=Ph (hp.bk HXD.o hrp);clear hn hp)
      | (go_at_call 123
         with_reducible refine(HW.o S R _ _ (HRN.o S R _ HN5.o)).mono ?_
         rintro e v7 ⟨S0,R0,rfl,hn7,hb7⟩;rw [zS];have HB7:=Ph (zU zB hb7);have HN7:=Ph hn7;have HP7:=Ph (HP5.o.then HB7.o);have HX7:=Ph (zD HX5.o HB7.o);have HTC':=Ph (zD HTC.o HB7.o);clear HTC hn7 hb7;have HTC:=HTC';clear HTC';obtain⟨y0,y1,y2,y3,y4,y5,y6⟩:=qL HX7.o;obtain⟨f0,f1,f2,f3,f4,f5,f6⟩:=zZ HX7.o;clear HRN HW HIW))
   all_goals
    have HF:=Ph (fr7 v7 r (uB X.1.kind) (uB X.1.op) (uW X.1.value) (uI X.1.width) (uR X.1.name) (uL S0) (uL R0));have HK:=Ph (zZ9 (v0:=uB X.1.kind) (v1:=uB X.1.op) (v2:=uW X.1.value) (v3:=uI X.1.width) (v4:=uR X.1.name) (v5:=uL S0) (v6:=uL R0) HX7.o);go_wp2
    generalize (World.setCell _ _ _)=WF at HF HK ⊢;obtain⟨r0,r1,r2,r3,r4,r5,r6⟩:=qL HK.o;refine lK (v:=yO X S0 R0) (by rw [zS];simp [results,results154,go_sem,r0,r1,r2,r3,r4,r5,r6]) rfl ?_;exact xZ HP7.o h.o HX7.o hrp hwr HF.o HN7.o
 | elem x _ h1 h2 h3 h4 h5 h6 h7 =>
   rw [ht]at h2 h3 h4;(try dsimp only at h2 h3 h4);have e1:((s.e:Int) != 0)=false:=Yp;have e2:((tk:Int) == 3)=false:=Yp;have e3:((str tt).toList == [40])=false:=by rw [qB,qE];simpa using h3
   have e4:((str tt).toList == [100,105,115,107])=false:=by rw [qB,qE];simpa using h4
   have hnl:(jA E s).length≤1000000:=by
    unfold jA;split
    ·have:=h.o.nextLe.2.2;omega
    ·exact lV _
   obtain⟨⟨uk,ut,ua,uf⟩,hu⟩:∃ t,zC E (zL E s)=t:=⟨_,rfl⟩;rw [hu]at h5;(try dsimp only at h5);have e5:((str ut).toList == [91])=true:=by rw [qB,qE,h5];rfl
   have HU:=Ph hu;have HC:=Ph h6;have OW:=Ph (zM5 h7);rw [ht];dsimp only;obtain⟨nm,hnm⟩:∃ nm,jA E s=nm:=⟨_,rfl⟩;have HNM:=Ph fun W hW=>hnm▸jX6 p E T Q s W hW;rw [hnm]at hnl ⊢;obtain⟨X,hX⟩:∃ X,qI 3 0 0 0 nm ta [x]=X:=⟨_,rfl⟩;have HXE:=Ph hX;rw [hX];clear ht hbq htok h2 h3 h4 h5 h6 h7 hX hu hnm;go_enter func154,ntmps154
   go_upto_region 1 with fail
   generalize (w.alloc _)=W at HB0 HX0 ⊢;obtain⟨r,hr⟩:∃ r,w.heap.size=r:=⟨_,rfl⟩;rw [hr]at HX0 ⊢;have hrp:r≠p:=Yo;have hwr:w.heap.size≤r:=Yo;clear hr hpl;have HP0:=Ph (h.o.below HB0.o);have HNX:=Ph (zC5 p E T Q s W HP0);rw [HT.o]at HNX;dsimp only [nxV,kW]at HNX;go_wp2_with fail
   refine HNX.o.mono ?_;rintro e w1 ⟨rfl,hb1⟩;have HB1:=Ph (zU HB0.o hb1);have HX1:=Ph (zD HX0.o hb1);clear hb1 HNX HP0 HX0;have hwr':r<w1.heap.size:=HX1.o.lt;have hwp':p<w1.heap.size:=(h.o.below HB1.o).lt;have HBn:Ud (Below w1.heap.size w1 (w1.alloc (.cells #[uB tk,uI ta,uI tf] 44))):=zB;have HTB:=Ph (Bk.new w1 44 #[uB tk,uI ta,uI tf]);go_upto_region 2 with fail
   generalize (w1.alloc _)=W2 at HBn HTB ⊢;obtain⟨b3,hb⟩:∃ b,w1.heap.size=b:=⟨_,rfl⟩;rw [hb]at HTB ⊢;have hb3p:b3≠p:=Yo;have hb3r:b3≠r:=Yo;have hrb3:r≠b3:=Yo;clear hb hwr' hwp';have HB2:=Ph (zU HB1.o HBn.o);have HX2:=Ph (zD HX1.o HBn.o);have HP2:=Ph (PP.below h.o HB2.o);clear HX1 HBn HB1;obtain⟨g0,g1,g2,g3,g4,g5,g6⟩:=HP2.o.ps.cells;obtain⟨t0,t1,t2⟩:=zJ HTB.o;have gz:=HP2.o.ps.frozens 2;go_wp2_with fail
   refine(HNM.o W2 (Ph HP2.o.ps)).mono ?_;rintro e w3 ⟨rfl,hp⟩;have HP3:=Ph (HP2.o.trans hp);have HX3:=Ph (hp.bk HX2.o hrp);have HT3:=Ph (hp.bk HTB.o hb3p);clear hp g0 g1 g2 g3 g4 g5 g6 gz t0 t1 t2;have HN2:=Ph (zC5 p E T Q (zL E s) w3 (Ph HP3.o.ps));rw [HU.o]at HN2;dsimp only [nxV,kW]at HN2;go_wp2_with fail
   refine HN2.o.mono ?_;rintro e w4 ⟨rfl,hb⟩;have HBo:Ud (Below w3.heap.size w3 (w4.alloc (.cells #[uB uk,uI ua,uI uf] 44))):=zG hb _;clear hb;go_upto_region 19 with fail
   generalize (w4.alloc _)=W3 at HBo ⊢;have HPW:=Ph (HP3.o.then HBo.o);have HXW:=Ph (zD HX3.o HBo.o);have HTW:=Ph (zD HT3.o HBo.o);have HSS:Ud (∀ w',Bk w' b3 44 #[uB tk,uI ta,uI tf]→w'.cell? ⟨b3,1,none⟩=some (uI ta)):=fun w' hb=>hb.cell 1;have HST:Ud (∀ (w':World) (u0 u1 u2 u3 u4 u5 u6:Value),Bk w' b3 44 #[uB tk,uI ta,uI tf]→(((((((w'.setCell ⟨r,0,none⟩ u0).setCell ⟨r,1,none⟩ u1).setCell ⟨r,2,none⟩ u2).setCell ⟨r,3,none⟩ u3).setCell ⟨r,4,none⟩ u4).setCell ⟨r,5,none⟩ u5).setCell ⟨r,6,none⟩ u6).cell? ⟨b3,1,none⟩=some (uI ta)):=fun w' u0 u1 u2 u3 u4 u5 u6 hb=>(Bk.fr hb (fr7 w' r u0 u1 u2 u3 u4 u5 u6) hb3r).cell 1;have HTC:=Ph HTW.o.drew;have HIW:Ud (Calls prog 163 #[uQ p 0,.string ⟨#[91]⟩,.string ⟨#[93]⟩] W3.drew (vG W3.drew p E T Q x s')):=HIH.o.within _ [91] [93] _ _ W3.drew HC.o (Ph (HPW.o.ps.below (lB _ _).drew));have HPD:=Ph (HPW.o.then (lB _ _).drew);have HXD:=Ph HXW.o.drew;have HRN:Ud (∀ (S R:SV) (v5:World),NdAt T.base v5 x S R→NdsAt T.base (v5.alloc (.cells #[uB x.1.kind,uB x.1.op,uW x.1.value,uI x.1.width,uR x.1.name,uL S,uL R] 168)) (some ⟨v5.heap.size,0,none⟩) 1 [(x,S,R)]):=fun S R v5 hn=>zG9 (W:=v5) [(x,S,R)] (fun q hq=>by rw [cQ.1 hq];exact hn);have HW:Ud (∀ (S R:SV) (W':World) (g:Nat),NdsAt T.base W' (some ⟨g,0,none⟩) 1 [(x,S,R)]→Calls prog 123 #[.agg #[uB 3,uB 0,uW 0,uI 0,uR nm,uN],uI ta,.slice (some ⟨g,0,none⟩) 1 1] W' fun e w'=>∃ S0 R0,e=.returned (yO X S0 R0)∧NdAt T.base w' X S0 R0∧Below W'.heap.size W' w'):=fun S R W' g hg=>by
    have hlen:(kL 0 [(x,S,R)]).length≤100000000:=by
     have h1:=OW.o;have h2:(kL 0 ([(x,S,R)]:List NdV)).length=1+(([x]:List Nd).flatMap (·.2)).length:=by unfold kL;simp;omega
     omega
    rw [←HXE.o];exact zS3 3 0 0 0 nm ta (some ⟨g,0,none⟩) 1 1 [(x,S,R)] W' (Ph hg) Yo hlen Yo Yo Yo Yo Yo Yo hnl
   go_region_held3 (fun w'=>w'.cell? ⟨b3,1,none⟩=some (uI ta))
    (first | with_reducible exact HSS.o _ HTC.o | with_reducible exact HSS.o _ (HTC.o.alloc _) | with_reducible exact HST.o _ _ _ _ _ _ _ _ HTC.o)
    (first
      | (go_at_call 163
         with_reducible refine HIW.o.mono ?_
         rintro e w5 ⟨S,R,rfl,hn,hp⟩;rw [zS];have HTC':=Ph (hp.bk HTC.o hb3p);clear HTC;have HTC:=HTC';clear HTC';have HN5:=Ph hn;have HP5:=Ph (HPD.o.trans hp);have HX5:=Ph (hp.bk HXD.o hrp);clear hn hp)
      | (go_at_call 123
         with_reducible refine(HW.o S R _ _ (HRN.o S R _ HN5.o)).mono ?_
         rintro e v7 ⟨S0,R0,rfl,hn7,hb7⟩;rw [zS];have HB7:=Ph (zU zB hb7);have HN7:=Ph hn7;have HP7:=Ph (HP5.o.then HB7.o);have HX7:=Ph (zD HX5.o HB7.o);have HTC':=Ph (zD HTC.o HB7.o);clear HTC hn7 hb7;have HTC:=HTC';clear HTC';obtain⟨y0,y1,y2,y3,y4,y5,y6⟩:=qL HX7.o;obtain⟨f0,f1,f2,f3,f4,f5,f6⟩:=zZ HX7.o;clear HRN HW HIW))
   all_goals
    have HF:=Ph (fr7 v7 r (uB X.1.kind) (uB X.1.op) (uW X.1.value) (uI X.1.width) (uR X.1.name) (uL S0) (uL R0));have HK:=Ph (zZ9 (v0:=uB X.1.kind) (v1:=uB X.1.op) (v2:=uW X.1.value) (v3:=uI X.1.width) (v4:=uR X.1.name) (v5:=uL S0) (v6:=uL R0) HX7.o);go_wp2
    generalize (World.setCell _ _ _)=WF at HF HK ⊢;obtain⟨r0,r1,r2,r3,r4,r5,r6⟩:=qL HK.o;refine lK (v:=yO X S0 R0) (by rw [zS];simp [results,results154,go_sem,r0,r1,r2,r3,r4,r5,r6]) rfl ?_;exact xZ HP7.o h.o HX7.o hrp hwr HF.o HN7.o
end
end
end Go.Proofs.YtfdaebgllibphaaGreatDoor
