import Derived.Deep.LoopGhost
import Derived.Deep.DeepMust
import Derived.Deep.RegionLaw
import Derived.Test.YtfdaebgllibphaaGreatDoorYad
set_option linter.unusedVariables false
set_option linter.unusedSimpArgs false
set_option maxRecDepth 100000
set_option maxHeartbeats 16000000
namespace Go.Proofs.YtfdaebgllibphaaGreatDoor
section
open Go.RowKit Go.PlainAid
section
variable {p:Nat} {E:Env} {T:TV} {Q:SV}
inductive zP1 (E:Env) (f:Nat) (s:PSt):Nd→PSt→Prop where
 | err:s.e≠0→zP1 E f s nd0 s
 | lit0:s.e=0→(zC E s).kind=3→(zH8 (zC E s).text).2.2≠0→zP1 E f s nd0 (qH E s 302)
 | lit:s.e=0→(zC E s).kind=3→(zH8 (zC E s).text).2.2=0→zP1 E f s (qI 1 0 (zH8 (zC E s).text).1 (zH8 (zC E s).text).2.1 [] (zC E s).at' []) (zE s)
 | paren (X s'):s.e=0→(zC E s).kind≠3→(zC E s).text=[40]→zX E f s [40] [41]=some (X,s')→zP1 E f s X s'
 | disk (x s2):s.e=0→(zC E s).kind≠3→(zC E s).text≠[40]→(zC E s).text=[100,105,115,107]→zX E f (zE s) [91] [93]=some (x,s2)→okW [x]=true→zP1 E f s (qI 4 0 0 0 [] (zC E s).at' [x]) s2
 | elem (x s2):s.e=0→(zC E s).kind≠3→(zC E s).text≠[40]→(zC E s).text≠[100,105,115,107]→(zC E (zL E s)).text=[91]→zX E f (zL E s) [91] [93]=some (x,s2)→okW [x]=true→zP1 E f s (qI 3 0 0 0 (jA E s) (zC E s).at' [x]) s2
 | var:s.e=0→(zC E s).kind≠3→(zC E s).text≠[40]→(zC E s).text≠[100,105,115,107]→(zC E (zL E s)).text≠[91]→zP1 E f s (qI 2 0 0 0 (jA E s) (zC E s).at' []) (zL E s)
theorem qV4 {f:Nat} {s s':PSt} {X:Nd} (h:qJ E (f+1) s=some (X,s')):zP1 E f s X s':=by
 unfold qJ at h;by_cases h1:s.e=0;rotate_left
 ·rw [lG h1]at h;injection h with h;injection h with h7 h8;subst h7 h8;exact .err h1
 rw [lH h1]at h;(try dsimp only at h);by_cases h2:(zC E s).kind=3
 ·rw [lH h2]at h;(try dsimp only at h);by_cases h3:(zH8 (zC E s).text).2.2=0
  ·rw [lH h3]at h;injection h with h;injection h with h7 h8;subst h7 h8;exact .lit h1 h2 h3
  ·rw [lG h3]at h;injection h with h;injection h with h7 h8;subst h7 h8;exact .lit0 h1 h2 h3
 rw [lG h2]at h;(try dsimp only at h);by_cases h3:(zC E s).text=[40]
 ·rw [lH h3]at h;exact .paren _ _ h1 h2 h3 h
 rw [lG h3]at h;(try dsimp only at h);by_cases h4:(zC E s).text=[100,105,115,107]
 ·rw [lH h4]at h;(try dsimp only at h);cases h5:zX E f (zE s) [91] [93]with
  | none=>rw [h5]at h;cases h
  | some q =>
    obtain⟨x,s2⟩:=q;rw [h5]at h;(try dsimp only at h);cases h6:okW [x]with
    | false=>rw [h6]at h;cases h
    | true =>
      rw [h6]at h;injection h with h;injection h with h7 h8;subst h7 h8;exact .disk x s2 h1 h2 h3 h4 h5 h6
 rw [lG h4]at h;(try dsimp only at h);by_cases h9:(zC E (zL E s)).text=[91]
 ·rw [lH h9]at h;(try dsimp only at h);cases h5:zX E f (zL E s) [91] [93]with
  | none=>rw [h5]at h;cases h
  | some q =>
    obtain⟨x,s2⟩:=q;rw [h5]at h;(try dsimp only at h);cases h6:okW [x]with
    | false=>rw [h6]at h;cases h
    | true =>
      rw [h6]at h;injection h with h;injection h with h7 h8;subst h7 h8;exact .elem x s2 h1 h2 h3 h4 h9 h5 h6
 ·rw [lG h9]at h;injection h with h;injection h with h7 h8;subst h7 h8;exact .var h1 h2 h3 h4 h9
theorem jT2 {B:Nat} {W:World} (hB:B≤W.heap.size):NdAt B W nd0 ⟨none,0,0⟩ ⟨none,0,0⟩ :=
 ⟨.leaf ⟨Yd,Yd,Yd,Yd,Yd,Yd,Yd⟩ rfl 0,⟨RdT.nil,rfl,(fun n h=>by cases h),Yd⟩,hB⟩
theorem jT3 {B:Nat} (k o v:Nat) (wd:Int) (nm:List UInt8) (at':Nat) (W:World) (hB:B≤W.heap.size) (hat:at'≤1000000) (hk:k≤255) (ho:o≤255) (hv:v≤4294967295) (hw0:-9223372036854775808≤wd) (hw1:wd≤9223372036854775807) (hnm:nm.length≤1000000) (X:Nd) (hX:X=qI k o v wd nm at' []) :
 Calls Tryz.prog 123 #[.agg #[uB k,uB o,uW v,uI wd,uR nm,uN],uI at',uN] W fun e w'=>∃ S R,e=.returned (yO X S R)∧NdAt B w' X S R∧Below W.heap.size W w':=by
 rw [hX];exact zS3 k o v wd nm at' none 0 0 [] W (Ph ⟨Rd.nil,rfl,hB,fun q h=>by cases h⟩) Yo Yd hat hk ho hv hw0 hw1 hnm
theorem qV5 {f:Nat} (IH:Sp p E T Q f) (s:PSt) (X:Nd) (s':PSt) (w:World) (hx:qJ E (f+1) s=some (X,s')) (h:Hid (Ps w p E T Q s)) :
 Calls Tryz.prog 154 #[uQ p 0] w (vG w p E T Q X s'):=by
 have hR:=qV4 hx;have HIH:=Ph IH;have hpl:p<w.heap.size:=h.out.lt;have hle:=h.out.nextLe;have htok:=h.out.tok;have HB0:Hid (Below w.heap.size w (w.alloc (.cells #[uB 0,uB 0,uW 0,uI 0,uT,uN,uN] 168))):=zB;have HX0:=Ph (Bk.new w 168 #[uB 0,uB 0,uW 0,uI 0,uT,uN,uN]);have hbq:=fun u=>zR3 (zC E s).text u;obtain⟨⟨tk,tt,ta,tf⟩,ht⟩:∃ t,zC E s=t:=⟨_,rfl⟩;have HT:=Ph ht;rw [ht]at hle htok hbq;(try dsimp only at hle htok hbq);clear hx IH;cases hR with
 | err h1 =>
   have e1:((s.e:Int) != 0)=true:=Yp;clear ht hbq htok;go_enter Tryz.func154,Tryz.ntmps154
   go_upto_region 1 with fail
   generalize (w.alloc _)=W at HB0 HX0 ⊢;obtain⟨r,hr⟩:∃ r,w.heap.size=r:=⟨_,rfl⟩;rw [hr]at HX0 ⊢;have hrp:r≠p:=Yo;have hwr:w.heap.size≤r:=Yo;clear hr hpl;have HP0:=Ph (h.out.below HB0.out);have HNX:=Ph (zC5 p E T Q s W HP0);rw [HT.out]at HNX;dsimp only [nxV,kW]at HNX;go_wp2_with fail
   refine HNX.out.mono ?_;rintro e w1 ⟨rfl,hb1⟩;have HB1:=Ph (zU HB0.out hb1);have HX1:=Ph (zD HX0.out hb1);clear hb1 HNX HP0 HX0;have hwr':r<w1.heap.size:=HX1.out.lt;have hwp':p<w1.heap.size:=(h.out.below HB1.out).lt;have HBn:Hid (Below w1.heap.size w1 (w1.alloc (.cells #[uB tk,uI ta,uI tf] 44))):=zB;have HTB:=Ph (Bk.new w1 44 #[uB tk,uI ta,uI tf]);go_upto_region 2 with fail
   generalize (w1.alloc _)=W2 at HBn HTB ⊢;obtain⟨b3,hb⟩:∃ b,w1.heap.size=b:=⟨_,rfl⟩;rw [hb]at HTB ⊢;have hb3p:b3≠p:=Yo;have hb3r:b3≠r:=Yo;have hrb3:r≠b3:=Yo;clear hb hwr' hwp';have HB2:=Ph (zU HB1.out HBn.out);have HX2:=Ph (zD HX1.out HBn.out);have HP2:=Ph (PP.below h.out HB2.out);clear HX1 HBn HB1;obtain⟨g0,g1,g2,g3,g4,g5,g6⟩:=HP2.out.ps.cells;obtain⟨t0,t1,t2⟩:=zJ HTB.out;have gz:=HP2.out.ps.frozens 2;obtain⟨y0,y1,y2,y3,y4,y5,y6⟩:=qL HX2.out;obtain⟨f0,f1,f2,f3,f4,f5,f6⟩:=zZ HX2.out;have HF:=Ph (fr7 W2 r (uB 0) (uB 0) (uW 0) (uI 0) (uT) (uN) (uN));have HK:=Ph (zZ9 (v0:=uB 0) (v1:=uB 0) (v2:=uW 0) (v3:=uI 0) (v4:=uT) (v5:=uN) (v6:=uN) HX2.out);go_wp2_with fail
   generalize (World.setCell _ _ _)=WF at HF HK ⊢;obtain⟨r0,r1,r2,r3,r4,r5,r6⟩:=qL HK.out;refine lK (v:=yO nd0 ⟨none,0,0⟩ ⟨none,0,0⟩) (by rw [zS];simp [results,Tryz.results154,go_sem,r0,r1,r2,r3,r4,r5,r6];exact⟨rfl,rfl,rfl,rfl,rfl⟩) rfl ?_;exact xZ HP2.out h.out HX2.out hrp hwr HF.out (jT2 HP2.out.ps.base)
 | lit0 h1 h2 h3 =>
   rw [ht]at h2 h3;(try dsimp only at h2 h3);have e1:((s.e:Int) != 0)=false:=Yp;have e2:((tk:Int) == 3)=true:=Yp;obtain⟨⟨a1,a2,a3⟩,hl⟩:∃ q,zH8 tt=q:=⟨_,rfl⟩;rw [hl]at h3;(try dsimp only at h3);have e3:((a3:Int) != 0)=true:=Yp;have HL:Hid (∀ w,Hid (Vars w)→Calls Tryz.prog 162 #[uR tt] w fun e w'=>e=.returned (.tuple #[uI a1,uI a2,uI a3])∧Below w.heap.size w w'):=fun w hv=>by have h9:=jS8 (str tt) w (by rw [jV];omega) hv;rw [qE,hl]at h9;exact h9
   clear ht hbq htok hl h2;go_enter Tryz.func154,Tryz.ntmps154
   go_upto_region 1 with fail
   generalize (w.alloc _)=W at HB0 HX0 ⊢;obtain⟨r,hr⟩:∃ r,w.heap.size=r:=⟨_,rfl⟩;rw [hr]at HX0 ⊢;have hrp:r≠p:=Yo;have hwr:w.heap.size≤r:=Yo;clear hr hpl;have HP0:=Ph (h.out.below HB0.out);have HNX:=Ph (zC5 p E T Q s W HP0);rw [HT.out]at HNX;dsimp only [nxV,kW]at HNX;go_wp2_with fail
   refine HNX.out.mono ?_;rintro e w1 ⟨rfl,hb1⟩;have HB1:=Ph (zU HB0.out hb1);have HX1:=Ph (zD HX0.out hb1);clear hb1 HNX HP0 HX0;have hwr':r<w1.heap.size:=HX1.out.lt;have hwp':p<w1.heap.size:=(h.out.below HB1.out).lt;have HBn:Hid (Below w1.heap.size w1 (w1.alloc (.cells #[uB tk,uI ta,uI tf] 44))):=zB;have HTB:=Ph (Bk.new w1 44 #[uB tk,uI ta,uI tf]);go_upto_region 2 with fail
   generalize (w1.alloc _)=W2 at HBn HTB ⊢;obtain⟨b3,hb⟩:∃ b,w1.heap.size=b:=⟨_,rfl⟩;rw [hb]at HTB ⊢;have hb3p:b3≠p:=Yo;have hb3r:b3≠r:=Yo;have hrb3:r≠b3:=Yo;clear hb hwr' hwp';have HB2:=Ph (zU HB1.out HBn.out);have HX2:=Ph (zD HX1.out HBn.out);have HP2:=Ph (PP.below h.out HB2.out);clear HX1 HBn HB1;obtain⟨g0,g1,g2,g3,g4,g5,g6⟩:=HP2.out.ps.cells;obtain⟨t0,t1,t2⟩:=zJ HTB.out;have gz:=HP2.out.ps.frozens 2;go_wp2_with fail
   refine(HL.out _ (Ph HP2.out.ps.vr)).mono ?_;rintro e w3 ⟨rfl,hb⟩;have HP3:=Ph (HP2.out.then hb);have HX3:=Ph (zD HX2.out hb);clear hb;go_wp2_with fail
   refine(zG2 p E T Q s 302 w3 (Ph HP3.out.ps)).mono ?_;rintro e w4 ⟨⟨v,rfl⟩,hp⟩;have HP4:=Ph (HP3.out.trans hp);have HX4:=Ph (hp.bk HX3.out hrp);clear hp;obtain⟨y0,y1,y2,y3,y4,y5,y6⟩:=qL HX4.out;obtain⟨f0,f1,f2,f3,f4,f5,f6⟩:=zZ HX4.out;have HF:=Ph (fr7 w4 r (uB 0) (uB 0) (uW 0) (uI 0) (uT) (uN) (uN));have HK:=Ph (zZ9 (v0:=uB 0) (v1:=uB 0) (v2:=uW 0) (v3:=uI 0) (v4:=uT) (v5:=uN) (v6:=uN) HX4.out);go_wp2_with fail
   generalize (World.setCell _ _ _)=WF at HF HK ⊢;obtain⟨r0,r1,r2,r3,r4,r5,r6⟩:=qL HK.out;refine lK (v:=yO nd0 ⟨none,0,0⟩ ⟨none,0,0⟩) (by rw [zS];simp [results,Tryz.results154,go_sem,r0,r1,r2,r3,r4,r5,r6];exact⟨rfl,rfl,rfl,rfl,rfl⟩) rfl ?_;exact xZ HP4.out h.out HX4.out hrp hwr HF.out (jT2 HP4.out.ps.base)
 | lit h1 h2 h3 =>
   rw [ht]at h2 h3;(try dsimp only at h2 h3);have e1:((s.e:Int) != 0)=false:=Yp;have e2:((tk:Int) == 3)=true:=Yp;have hXE:qI 1 0 (zH8 (zC E s).text).1 (zH8 (zC E s).text).2.1 [] (zC E s).at' []=qI 1 0 (zH8 tt).1 (zH8 tt).2.1 [] ta []:=by rw [ht]
   have hll:=jX4 tt;obtain⟨⟨a1,a2,a3⟩,hl⟩:∃ q,zH8 tt=q:=⟨_,rfl⟩;rw [hl]at h3 hXE hll;(try dsimp only at h3 hXE hll);have e3:((a3:Int) != 0)=false:=Yp;have HL:Hid (∀ w,Hid (Vars w)→Calls Tryz.prog 162 #[uR tt] w fun e w'=>e=.returned (.tuple #[uI a1,uI a2,uI a3])∧Below w.heap.size w w'):=fun w hv=>by have h9:=jS8 (str tt) w (by rw [jV];omega) hv;rw [qE,hl]at h9;exact h9
   obtain⟨t1,t2,_⟩:=htok (.inl Yo);have hT:=h.out.ok.few;have wn:IntKind.i64.wrap ((s.n:Int)+1)=((s.n+1:Nat):Int):=by rw [lL];omega
   have wv:IntKind.u32.wrap (a1:Int)=(a1:Int):=by rw [IntKind.wrap_u32];omega
   rw [hXE];obtain⟨X,hX⟩:∃ X,qI 1 0 a1 (a2:Int) [] ta []=X:=⟨_,rfl⟩;have HWW:Hid (∀ W,T.base≤W.heap.size→Calls Tryz.prog 123 #[.agg #[uB 1,uB 0,uW a1,uI a2,uT,uN],uI ta,uN] W fun e w'=>∃ S R,e=.returned (yO X S R)∧NdAt T.base w' X S R∧Below W.heap.size W w'):=fun W hB=>jT3 1 0 a1 (a2:Int) [] ta W hB Yo Yo Yo Yo Yo Yo Ym X hX.symm;rw [hX];have T2:=Ph t2;clear ht hbq htok hl h2 hXE hX t1 t2;go_enter Tryz.func154,Tryz.ntmps154
   go_upto_region 1 with fail
   generalize (w.alloc _)=W at HB0 HX0 ⊢;obtain⟨r,hr⟩:∃ r,w.heap.size=r:=⟨_,rfl⟩;rw [hr]at HX0 ⊢;have hrp:r≠p:=Yo;have hwr:w.heap.size≤r:=Yo;clear hr hpl;have HP0:=Ph (h.out.below HB0.out);have HNX:=Ph (zC5 p E T Q s W HP0);rw [HT.out]at HNX;dsimp only [nxV,kW]at HNX;go_wp2_with fail
   refine HNX.out.mono ?_;rintro e w1 ⟨rfl,hb1⟩;have HB1:=Ph (zU HB0.out hb1);have HX1:=Ph (zD HX0.out hb1);clear hb1 HNX HP0 HX0;have hwr':r<w1.heap.size:=HX1.out.lt;have hwp':p<w1.heap.size:=(h.out.below HB1.out).lt;have HBn:Hid (Below w1.heap.size w1 (w1.alloc (.cells #[uB tk,uI ta,uI tf] 44))):=zB;have HTB:=Ph (Bk.new w1 44 #[uB tk,uI ta,uI tf]);go_upto_region 2 with fail
   generalize (w1.alloc _)=W2 at HBn HTB ⊢;obtain⟨b3,hb⟩:∃ b,w1.heap.size=b:=⟨_,rfl⟩;rw [hb]at HTB ⊢;have hb3p:b3≠p:=Yo;have hb3r:b3≠r:=Yo;have hrb3:r≠b3:=Yo;clear hb hwr' hwp';have HB2:=Ph (zU HB1.out HBn.out);have HX2:=Ph (zD HX1.out HBn.out);have HP2:=Ph (PP.below h.out HB2.out);clear HX1 HBn HB1;obtain⟨g0,g1,g2,g3,g4,g5,g6⟩:=HP2.out.ps.cells;obtain⟨t0,t1,t2⟩:=zJ HTB.out;have gz:=HP2.out.ps.frozens 2;go_wp2_with fail
   refine(HL.out _ (Ph HP2.out.ps.vr)).mono ?_;rintro e w3 ⟨rfl,hb⟩;have HP3:=Ph (HP2.out.then hb);have HX3:=Ph (zD HX2.out hb);have HT3:=Ph (zD HTB.out hb);clear hb g0 g1 g2 g3 g4 g5 g6 gz t0 t1 t2;obtain⟨g0,g1,g2,g3,g4,g5,g6⟩:=HP3.out.ps.cells;obtain⟨t0,t1,t2⟩:=zJ HT3.out;have gz:=HP3.out.ps.frozens 2;have hd:=HP3.out.ps.setN (s.n+1) T2.out;have hc:((s.n+1:Nat):Int)=(s.n:Int)+1:=Yo;rw [hc]at hd wn;clear hc;have HP4:=Ph (HP3.out.trans hd);have HX4:=Ph (hd.bk HX3.out hrp);have HT4:=Ph (hd.bk HT3.out hb3p);clear hd;go_upto_region 10 with fail
   generalize (World.setCell _ _ _)=W4 at HP4 HX4 HT4 ⊢;clear g0 g1 g2 g3 g4 g5 g6 gz t0 t1 t2;obtain⟨t0,t1,t2⟩:=zJ HT4.out;go_wp2_with fail
   refine(HWW.out _ HP4.out.ps.base).mono ?_;rintro e w5 ⟨S0,R0,rfl,hn,hb⟩;rw [zS];have HN5:=Ph hn;have HP5:=Ph (HP4.out.then hb);have HX5:=Ph (zD HX4.out hb);clear hn hb t0 t1 t2;obtain⟨y0,y1,y2,y3,y4,y5,y6⟩:=qL HX5.out;obtain⟨f0,f1,f2,f3,f4,f5,f6⟩:=zZ HX5.out;have HF:=Ph (fr7 w5 r (uB X.1.kind) (uB X.1.op) (uW X.1.value) (uI X.1.width) (uR X.1.name) (uL S0) (uL R0));have HK:=Ph (zZ9 (v0:=uB X.1.kind) (v1:=uB X.1.op) (v2:=uW X.1.value) (v3:=uI X.1.width) (v4:=uR X.1.name) (v5:=uL S0) (v6:=uL R0) HX5.out);go_wp2_with fail
   generalize (World.setCell _ _ _)=WF at HF HK ⊢;obtain⟨r0,r1,r2,r3,r4,r5,r6⟩:=qL HK.out;refine lK (v:=yO X S0 R0) (by rw [zS];simp [results,Tryz.results154,go_sem,r0,r1,r2,r3,r4,r5,r6]) rfl ?_;exact xZ HP5.out h.out HX5.out hrp hwr HF.out HN5.out
 | paren _ _ h1 h2 h3 h4 =>
   rw [ht]at h2 h3;(try dsimp only at h2 h3);have e1:((s.e:Int) != 0)=false:=Yp;have e2:((tk:Int) == 3)=false:=Yp;have e3:((str tt).toList == [40])=true:=by rw [qB,qE,h3];rfl
   have HC:=Ph h4;clear ht hbq htok h2 h3 h4;go_enter Tryz.func154,Tryz.ntmps154
   go_upto_region 1 with fail
   generalize (w.alloc _)=W at HB0 HX0 ⊢;obtain⟨r,hr⟩:∃ r,w.heap.size=r:=⟨_,rfl⟩;rw [hr]at HX0 ⊢;have hrp:r≠p:=Yo;have hwr:w.heap.size≤r:=Yo;clear hr hpl;have HP0:=Ph (h.out.below HB0.out);have HNX:=Ph (zC5 p E T Q s W HP0);rw [HT.out]at HNX;dsimp only [nxV,kW]at HNX;go_wp2_with fail
   refine HNX.out.mono ?_;rintro e w1 ⟨rfl,hb1⟩;have HB1:=Ph (zU HB0.out hb1);have HX1:=Ph (zD HX0.out hb1);clear hb1 HNX HP0 HX0;have hwr':r<w1.heap.size:=HX1.out.lt;have hwp':p<w1.heap.size:=(h.out.below HB1.out).lt;have HBn:Hid (Below w1.heap.size w1 (w1.alloc (.cells #[uB tk,uI ta,uI tf] 44))):=zB;have HTB:=Ph (Bk.new w1 44 #[uB tk,uI ta,uI tf]);go_upto_region 2 with fail
   generalize (w1.alloc _)=W2 at HBn HTB ⊢;obtain⟨b3,hb⟩:∃ b,w1.heap.size=b:=⟨_,rfl⟩;rw [hb]at HTB ⊢;have hb3p:b3≠p:=Yo;have hb3r:b3≠r:=Yo;have hrb3:r≠b3:=Yo;clear hb hwr' hwp';have HB2:=Ph (zU HB1.out HBn.out);have HX2:=Ph (zD HX1.out HBn.out);have HP2:=Ph (PP.below h.out HB2.out);clear HX1 HBn HB1;obtain⟨g0,g1,g2,g3,g4,g5,g6⟩:=HP2.out.ps.cells;obtain⟨t0,t1,t2⟩:=zJ HTB.out;have gz:=HP2.out.ps.frozens 2;go_wp2_with fail
   refine(HIH.out.within _ [40] [41] _ _ W2 HC.out (Ph HP2.out.ps)).mono ?_;rintro e w5 ⟨S0,R0,rfl,hn,hp⟩;rw [zS];have HN5:=Ph hn;have HP5:=Ph (HP2.out.trans hp);have HX5:=Ph (hp.bk HX2.out hrp);clear hn hp g0 g1 g2 g3 g4 g5 g6 gz t0 t1 t2;obtain⟨y0,y1,y2,y3,y4,y5,y6⟩:=qL HX5.out;obtain⟨f0,f1,f2,f3,f4,f5,f6⟩:=zZ HX5.out;have HF:=Ph (fr7 w5 r (uB X.1.kind) (uB X.1.op) (uW X.1.value) (uI X.1.width) (uR X.1.name) (uL S0) (uL R0));have HK:=Ph (zZ9 (v0:=uB X.1.kind) (v1:=uB X.1.op) (v2:=uW X.1.value) (v3:=uI X.1.width) (v4:=uR X.1.name) (v5:=uL S0) (v6:=uL R0) HX5.out);go_wp2_with fail
   generalize (World.setCell _ _ _)=WF at HF HK ⊢;obtain⟨r0,r1,r2,r3,r4,r5,r6⟩:=qL HK.out;refine lK (v:=yO X S0 R0) (by rw [zS];simp [results,Tryz.results154,go_sem,r0,r1,r2,r3,r4,r5,r6]) rfl ?_;exact xZ HP5.out h.out HX5.out hrp hwr HF.out HN5.out
 | var h1 h2 h3 h4 h5 =>
   rw [ht]at h2 h3 h4;(try dsimp only at h2 h3 h4);have e1:((s.e:Int) != 0)=false:=Yp;have e2:((tk:Int) == 3)=false:=Yp;have e3:((str tt).toList == [40])=false:=by rw [qB,qE];simpa using h3
   have e4:((str tt).toList == [100,105,115,107])=false:=by rw [qB,qE];simpa using h4
   have hnl:(jA E s).length≤1000000:=by
    unfold jA;split
    ·have:=h.out.nextLe.2.2;omega
    ·exact lV _
   obtain⟨⟨uk,ut,ua,uf⟩,hu⟩:∃ t,zC E (zL E s)=t:=⟨_,rfl⟩;rw [hu]at h5;(try dsimp only at h5);have e5:((str ut).toList == [91])=false:=by rw [qB,qE];simpa using h5
   have HU:=Ph hu;rw [ht];dsimp only;obtain⟨nm,hnm⟩:∃ nm,jA E s=nm:=⟨_,rfl⟩;have HNM:=Ph fun W hW=>hnm▸jX6 p E T Q s W hW;rw [hnm]at hnl ⊢;obtain⟨X,hX⟩:∃ X,qI 2 0 0 0 nm ta []=X:=⟨_,rfl⟩;have HWW:Hid (∀ W,T.base≤W.heap.size→Calls Tryz.prog 123 #[.agg #[uB 2,uB 0,uW 0,uI 0,uR nm,uN],uI ta,uN] W fun e w'=>∃ S R,e=.returned (yO X S R)∧NdAt T.base w' X S R∧Below W.heap.size W w'):=fun W hB=>jT3 2 0 0 0 nm ta W hB Yo Yo Yo Yo Yo Yo hnl X hX.symm;rw [hX];clear ht hbq htok h2 h3 h4 h5 hX hu hnm;go_enter Tryz.func154,Tryz.ntmps154
   go_upto_region 1 with fail
   generalize (w.alloc _)=W at HB0 HX0 ⊢;obtain⟨r,hr⟩:∃ r,w.heap.size=r:=⟨_,rfl⟩;rw [hr]at HX0 ⊢;have hrp:r≠p:=Yo;have hwr:w.heap.size≤r:=Yo;clear hr hpl;have HP0:=Ph (h.out.below HB0.out);have HNX:=Ph (zC5 p E T Q s W HP0);rw [HT.out]at HNX;dsimp only [nxV,kW]at HNX;go_wp2_with fail
   refine HNX.out.mono ?_;rintro e w1 ⟨rfl,hb1⟩;have HB1:=Ph (zU HB0.out hb1);have HX1:=Ph (zD HX0.out hb1);clear hb1 HNX HP0 HX0;have hwr':r<w1.heap.size:=HX1.out.lt;have hwp':p<w1.heap.size:=(h.out.below HB1.out).lt;have HBn:Hid (Below w1.heap.size w1 (w1.alloc (.cells #[uB tk,uI ta,uI tf] 44))):=zB;have HTB:=Ph (Bk.new w1 44 #[uB tk,uI ta,uI tf]);go_upto_region 2 with fail
   generalize (w1.alloc _)=W2 at HBn HTB ⊢;obtain⟨b3,hb⟩:∃ b,w1.heap.size=b:=⟨_,rfl⟩;rw [hb]at HTB ⊢;have hb3p:b3≠p:=Yo;have hb3r:b3≠r:=Yo;have hrb3:r≠b3:=Yo;clear hb hwr' hwp';have HB2:=Ph (zU HB1.out HBn.out);have HX2:=Ph (zD HX1.out HBn.out);have HP2:=Ph (PP.below h.out HB2.out);clear HX1 HBn HB1;obtain⟨g0,g1,g2,g3,g4,g5,g6⟩:=HP2.out.ps.cells;obtain⟨t0,t1,t2⟩:=zJ HTB.out;have gz:=HP2.out.ps.frozens 2;go_wp2_with fail
   refine(HNM.out W2 (Ph HP2.out.ps)).mono ?_;rintro e w3 ⟨rfl,hp⟩;have HP3:=Ph (HP2.out.trans hp);have HX3:=Ph (hp.bk HX2.out hrp);have HT3:=Ph (hp.bk HTB.out hb3p);clear hp g0 g1 g2 g3 g4 g5 g6 gz t0 t1 t2;have HN2:=Ph (zC5 p E T Q (zL E s) w3 (Ph HP3.out.ps));rw [HU.out]at HN2;dsimp only [nxV,kW]at HN2;go_wp2_with fail
   refine HN2.out.mono ?_;rintro e w4 ⟨rfl,hb⟩;have HBo:Hid (∀ o,Below w3.heap.size w3 (w4.alloc o)):=fun o=>zG hb o;have HT4:=Ph (zD HT3.out hb);obtain⟨t0,t1,t2⟩:=zJ HT4.out;have htl:b3<w4.heap.size:=HT4.out.lt;clear hb;go_wp2_with fail
   refine(HWW.out _ (lE HP3.out.ps.base (HBo.out _).size)).mono ?_;rintro e w5 ⟨S0,R0,rfl,hn,hb⟩;rw [zS];have HN5:=Ph hn;have HP5:=Ph (HP3.out.then (zU (HBo.out _) hb));have HX5:=Ph (zD HX3.out (zU (HBo.out _) hb));clear hn hb t0 t1 t2;obtain⟨y0,y1,y2,y3,y4,y5,y6⟩:=qL HX5.out;obtain⟨f0,f1,f2,f3,f4,f5,f6⟩:=zZ HX5.out;have HF:=Ph (fr7 w5 r (uB X.1.kind) (uB X.1.op) (uW X.1.value) (uI X.1.width) (uR X.1.name) (uL S0) (uL R0));have HK:=Ph (zZ9 (v0:=uB X.1.kind) (v1:=uB X.1.op) (v2:=uW X.1.value) (v3:=uI X.1.width) (v4:=uR X.1.name) (v5:=uL S0) (v6:=uL R0) HX5.out);go_wp2_with fail
   generalize (World.setCell _ _ _)=WF at HF HK ⊢;obtain⟨r0,r1,r2,r3,r4,r5,r6⟩:=qL HK.out;refine lK (v:=yO X S0 R0) (by rw [zS];simp [results,Tryz.results154,go_sem,r0,r1,r2,r3,r4,r5,r6]) rfl ?_;exact xZ HP5.out h.out HX5.out hrp hwr HF.out HN5.out
 | disk x _ h1 h2 h3 h4 h5 h6 =>
   rw [ht]at h2 h3 h4;(try dsimp only at h2 h3 h4);have e1:((s.e:Int) != 0)=false:=Yp;have e2:((tk:Int) == 3)=false:=Yp;have e3:((str tt).toList == [40])=false:=by rw [qB,qE];simpa using h3
   have e4:((str tt).toList == [100,105,115,107])=true:=by rw [qB,qE,h4];rfl
   obtain⟨t1,t2,_⟩:=htok (.inr (by rw [h4];simp));have hT:=h.out.ok.few;have wn:IntKind.i64.wrap ((s.n:Int)+1)=(s.n:Int)+1:=by rw [lL];omega
   have T2:=Ph t2;have HC:=Ph h5;have OW:=Ph (zM5 h6);rw [ht];dsimp only;obtain⟨X,hX⟩:∃ X,qI 4 0 0 0 [] ta [x]=X:=⟨_,rfl⟩;have HXE:=Ph hX;rw [hX];clear ht hbq htok h2 h3 h4 h5 h6 hX t1 t2;go_enter Tryz.func154,Tryz.ntmps154
   go_upto_region 1 with fail
   generalize (w.alloc _)=W at HB0 HX0 ⊢;obtain⟨r,hr⟩:∃ r,w.heap.size=r:=⟨_,rfl⟩;rw [hr]at HX0 ⊢;have hrp:r≠p:=Yo;have hwr:w.heap.size≤r:=Yo;clear hr hpl;have HP0:=Ph (h.out.below HB0.out);have HNX:=Ph (zC5 p E T Q s W HP0);rw [HT.out]at HNX;dsimp only [nxV,kW]at HNX;go_wp2_with fail
   refine HNX.out.mono ?_;rintro e w1 ⟨rfl,hb1⟩;have HB1:=Ph (zU HB0.out hb1);have HX1:=Ph (zD HX0.out hb1);clear hb1 HNX HP0 HX0;have hwr':r<w1.heap.size:=HX1.out.lt;have hwp':p<w1.heap.size:=(h.out.below HB1.out).lt;have HBn:Hid (Below w1.heap.size w1 (w1.alloc (.cells #[uB tk,uI ta,uI tf] 44))):=zB;have HTB:=Ph (Bk.new w1 44 #[uB tk,uI ta,uI tf]);go_upto_region 2 with fail
   generalize (w1.alloc _)=W2 at HBn HTB ⊢;obtain⟨b3,hb⟩:∃ b,w1.heap.size=b:=⟨_,rfl⟩;rw [hb]at HTB ⊢;have hb3p:b3≠p:=Yo;have hb3r:b3≠r:=Yo;have hrb3:r≠b3:=Yo;clear hb hwr' hwp';have HB2:=Ph (zU HB1.out HBn.out);have HX2:=Ph (zD HX1.out HBn.out);have HP2:=Ph (PP.below h.out HB2.out);clear HX1 HBn HB1;obtain⟨g0,g1,g2,g3,g4,g5,g6⟩:=HP2.out.ps.cells;obtain⟨t0,t1,t2⟩:=zJ HTB.out;have gz:=HP2.out.ps.frozens 2;have hd:=HP2.out.ps.setN (s.n+1) T2.out;have hc:((s.n+1:Nat):Int)=(s.n:Int)+1:=Yo;rw [hc]at hd;clear hc;have HPW:=Ph (HP2.out.trans hd);have HXW:=Ph (hd.bk HX2.out hrp);have HTW:=Ph (hd.bk HTB.out hb3p);clear hd;go_upto_region 15 with fail
   generalize (World.setCell _ _ _)=W3 at HPW HXW HTW ⊢;clear g0 g1 g2 g3 g4 g5 g6 gz t0 t1 t2;have HSS:Hid (∀ w',Bk w' b3 44 #[uB tk,uI ta,uI tf]→w'.cell? ⟨b3,1,none⟩=some (uI ta)):=fun w' hb=>hb.cell 1;have HST:Hid (∀ (w':World) (u0 u1 u2 u3 u4 u5 u6:Value),Bk w' b3 44 #[uB tk,uI ta,uI tf]→(((((((w'.setCell ⟨r,0,none⟩ u0).setCell ⟨r,1,none⟩ u1).setCell ⟨r,2,none⟩ u2).setCell ⟨r,3,none⟩ u3).setCell ⟨r,4,none⟩ u4).setCell ⟨r,5,none⟩ u5).setCell ⟨r,6,none⟩ u6).cell? ⟨b3,1,none⟩=some (uI ta)):=fun w' u0 u1 u2 u3 u4 u5 u6 hb=>(Bk.fr hb (fr7 w' r u0 u1 u2 u3 u4 u5 u6) hb3r).cell 1;have HTC:=Ph HTW.out.drew;have HIW:Hid (Calls Tryz.prog 163 #[uQ p 0,.string ⟨#[91]⟩,.string ⟨#[93]⟩] W3.drew (vG W3.drew p E T Q x s')):=HIH.out.within _ [91] [93] _ _ W3.drew HC.out (Ph (HPW.out.ps.below (lB _ _).drew));have HPD:=Ph (HPW.out.then (lB _ _).drew);have HXD:=Ph HXW.out.drew;have HRN:Hid (∀ (S R:SV) (v5:World),NdAt T.base v5 x S R→NdsAt T.base (v5.alloc (.cells #[uB x.1.kind,uB x.1.op,uW x.1.value,uI x.1.width,uR x.1.name,uL S,uL R] 168)) (some ⟨v5.heap.size,0,none⟩) 1 [(x,S,R)]):=fun S R v5 hn=>zG9 (W:=v5) [(x,S,R)] (fun q hq=>by rw [cQ.1 hq];exact hn);have HW:Hid (∀ (S R:SV) (W':World) (g:Nat),NdsAt T.base W' (some ⟨g,0,none⟩) 1 [(x,S,R)]→Calls Tryz.prog 123 #[.agg #[uB 4,uB 0,uW 0,uI 0,uT,uN],uI ta,.slice (some ⟨g,0,none⟩) 1 1] W' fun e w'=>∃ S0 R0,e=.returned (yO X S0 R0)∧NdAt T.base w' X S0 R0∧Below W'.heap.size W' w'):=fun S R W' g hg=>by
    have hlen:(kL 0 [(x,S,R)]).length≤100000000:=by
     have h1:=OW.out;have h2:(kL 0 ([(x,S,R)]:List NdV)).length=1+(([x]:List Nd).flatMap (·.2)).length:=by unfold kL;simp;omega
     omega
    rw [←HXE.out];exact zS3 4 0 0 0 [] ta (some ⟨g,0,none⟩) 1 1 [(x,S,R)] W' (Ph hg) Yo hlen Yo Yo Yo Yo Yo Yo Ym
   go_region_held3 (fun w'=>w'.cell? ⟨b3,1,none⟩=some (uI ta))
    (first | with_reducible exact HSS.out _ HTC.out | with_reducible exact HSS.out _ (HTC.out.alloc _) | with_reducible exact HST.out _ _ _ _ _ _ _ _ HTC.out)
    (first
      | (go_at_call 163
         with_reducible refine HIW.out.mono ?_
         rintro e w5 ⟨S,R,rfl,hn,hp⟩;rw [zS];have HTC':=Ph (hp.bk HTC.out hb3p);clear HTC;have HTC:=HTC';clear HTC';have HN5:=Ph hn;have HP5:=Ph (HPD.out.trans hp);have HX5:=Ph (hp.bk HXD.out hrp);clear hn hp)
      | (go_at_call 123
         with_reducible refine(HW.out S R _ _ (HRN.out S R _ HN5.out)).mono ?_
         rintro e v7 ⟨S0,R0,rfl,hn7,hb7⟩;rw [zS];have HB7:=Ph (zU zB hb7);have HN7:=Ph hn7;have HP7:=Ph (HP5.out.then HB7.out);have HX7:=Ph (zD HX5.out HB7.out);have HTC':=Ph (zD HTC.out HB7.out);clear HTC hn7 hb7;have HTC:=HTC';clear HTC';obtain⟨y0,y1,y2,y3,y4,y5,y6⟩:=qL HX7.out;obtain⟨f0,f1,f2,f3,f4,f5,f6⟩:=zZ HX7.out;clear HRN HW HIW))
   all_goals
    have HF:=Ph (fr7 v7 r (uB X.1.kind) (uB X.1.op) (uW X.1.value) (uI X.1.width) (uR X.1.name) (uL S0) (uL R0));have HK:=Ph (zZ9 (v0:=uB X.1.kind) (v1:=uB X.1.op) (v2:=uW X.1.value) (v3:=uI X.1.width) (v4:=uR X.1.name) (v5:=uL S0) (v6:=uL R0) HX7.out);go_wp2
    generalize (World.setCell _ _ _)=WF at HF HK ⊢;obtain⟨r0,r1,r2,r3,r4,r5,r6⟩:=qL HK.out;refine lK (v:=yO X S0 R0) (by rw [zS];simp [results,Tryz.results154,go_sem,r0,r1,r2,r3,r4,r5,r6]) rfl ?_;exact xZ HP7.out h.out HX7.out hrp hwr HF.out HN7.out
 | elem x _ h1 h2 h3 h4 h5 h6 h7 =>
   rw [ht]at h2 h3 h4;(try dsimp only at h2 h3 h4);have e1:((s.e:Int) != 0)=false:=Yp;have e2:((tk:Int) == 3)=false:=Yp;have e3:((str tt).toList == [40])=false:=by rw [qB,qE];simpa using h3
   have e4:((str tt).toList == [100,105,115,107])=false:=by rw [qB,qE];simpa using h4
   have hnl:(jA E s).length≤1000000:=by
    unfold jA;split
    ·have:=h.out.nextLe.2.2;omega
    ·exact lV _
   obtain⟨⟨uk,ut,ua,uf⟩,hu⟩:∃ t,zC E (zL E s)=t:=⟨_,rfl⟩;rw [hu]at h5;(try dsimp only at h5);have e5:((str ut).toList == [91])=true:=by rw [qB,qE,h5];rfl
   have HU:=Ph hu;have HC:=Ph h6;have OW:=Ph (zM5 h7);rw [ht];dsimp only;obtain⟨nm,hnm⟩:∃ nm,jA E s=nm:=⟨_,rfl⟩;have HNM:=Ph fun W hW=>hnm▸jX6 p E T Q s W hW;rw [hnm]at hnl ⊢;obtain⟨X,hX⟩:∃ X,qI 3 0 0 0 nm ta [x]=X:=⟨_,rfl⟩;have HXE:=Ph hX;rw [hX];clear ht hbq htok h2 h3 h4 h5 h6 h7 hX hu hnm;go_enter Tryz.func154,Tryz.ntmps154
   go_upto_region 1 with fail
   generalize (w.alloc _)=W at HB0 HX0 ⊢;obtain⟨r,hr⟩:∃ r,w.heap.size=r:=⟨_,rfl⟩;rw [hr]at HX0 ⊢;have hrp:r≠p:=Yo;have hwr:w.heap.size≤r:=Yo;clear hr hpl;have HP0:=Ph (h.out.below HB0.out);have HNX:=Ph (zC5 p E T Q s W HP0);rw [HT.out]at HNX;dsimp only [nxV,kW]at HNX;go_wp2_with fail
   refine HNX.out.mono ?_;rintro e w1 ⟨rfl,hb1⟩;have HB1:=Ph (zU HB0.out hb1);have HX1:=Ph (zD HX0.out hb1);clear hb1 HNX HP0 HX0;have hwr':r<w1.heap.size:=HX1.out.lt;have hwp':p<w1.heap.size:=(h.out.below HB1.out).lt;have HBn:Hid (Below w1.heap.size w1 (w1.alloc (.cells #[uB tk,uI ta,uI tf] 44))):=zB;have HTB:=Ph (Bk.new w1 44 #[uB tk,uI ta,uI tf]);go_upto_region 2 with fail
   generalize (w1.alloc _)=W2 at HBn HTB ⊢;obtain⟨b3,hb⟩:∃ b,w1.heap.size=b:=⟨_,rfl⟩;rw [hb]at HTB ⊢;have hb3p:b3≠p:=Yo;have hb3r:b3≠r:=Yo;have hrb3:r≠b3:=Yo;clear hb hwr' hwp';have HB2:=Ph (zU HB1.out HBn.out);have HX2:=Ph (zD HX1.out HBn.out);have HP2:=Ph (PP.below h.out HB2.out);clear HX1 HBn HB1;obtain⟨g0,g1,g2,g3,g4,g5,g6⟩:=HP2.out.ps.cells;obtain⟨t0,t1,t2⟩:=zJ HTB.out;have gz:=HP2.out.ps.frozens 2;go_wp2_with fail
   refine(HNM.out W2 (Ph HP2.out.ps)).mono ?_;rintro e w3 ⟨rfl,hp⟩;have HP3:=Ph (HP2.out.trans hp);have HX3:=Ph (hp.bk HX2.out hrp);have HT3:=Ph (hp.bk HTB.out hb3p);clear hp g0 g1 g2 g3 g4 g5 g6 gz t0 t1 t2;have HN2:=Ph (zC5 p E T Q (zL E s) w3 (Ph HP3.out.ps));rw [HU.out]at HN2;dsimp only [nxV,kW]at HN2;go_wp2_with fail
   refine HN2.out.mono ?_;rintro e w4 ⟨rfl,hb⟩;have HBo:Hid (Below w3.heap.size w3 (w4.alloc (.cells #[uB uk,uI ua,uI uf] 44))):=zG hb _;clear hb;go_upto_region 19 with fail
   generalize (w4.alloc _)=W3 at HBo ⊢;have HPW:=Ph (HP3.out.then HBo.out);have HXW:=Ph (zD HX3.out HBo.out);have HTW:=Ph (zD HT3.out HBo.out);have HSS:Hid (∀ w',Bk w' b3 44 #[uB tk,uI ta,uI tf]→w'.cell? ⟨b3,1,none⟩=some (uI ta)):=fun w' hb=>hb.cell 1;have HST:Hid (∀ (w':World) (u0 u1 u2 u3 u4 u5 u6:Value),Bk w' b3 44 #[uB tk,uI ta,uI tf]→(((((((w'.setCell ⟨r,0,none⟩ u0).setCell ⟨r,1,none⟩ u1).setCell ⟨r,2,none⟩ u2).setCell ⟨r,3,none⟩ u3).setCell ⟨r,4,none⟩ u4).setCell ⟨r,5,none⟩ u5).setCell ⟨r,6,none⟩ u6).cell? ⟨b3,1,none⟩=some (uI ta)):=fun w' u0 u1 u2 u3 u4 u5 u6 hb=>(Bk.fr hb (fr7 w' r u0 u1 u2 u3 u4 u5 u6) hb3r).cell 1;have HTC:=Ph HTW.out.drew;have HIW:Hid (Calls Tryz.prog 163 #[uQ p 0,.string ⟨#[91]⟩,.string ⟨#[93]⟩] W3.drew (vG W3.drew p E T Q x s')):=HIH.out.within _ [91] [93] _ _ W3.drew HC.out (Ph (HPW.out.ps.below (lB _ _).drew));have HPD:=Ph (HPW.out.then (lB _ _).drew);have HXD:=Ph HXW.out.drew;have HRN:Hid (∀ (S R:SV) (v5:World),NdAt T.base v5 x S R→NdsAt T.base (v5.alloc (.cells #[uB x.1.kind,uB x.1.op,uW x.1.value,uI x.1.width,uR x.1.name,uL S,uL R] 168)) (some ⟨v5.heap.size,0,none⟩) 1 [(x,S,R)]):=fun S R v5 hn=>zG9 (W:=v5) [(x,S,R)] (fun q hq=>by rw [cQ.1 hq];exact hn);have HW:Hid (∀ (S R:SV) (W':World) (g:Nat),NdsAt T.base W' (some ⟨g,0,none⟩) 1 [(x,S,R)]→Calls Tryz.prog 123 #[.agg #[uB 3,uB 0,uW 0,uI 0,uR nm,uN],uI ta,.slice (some ⟨g,0,none⟩) 1 1] W' fun e w'=>∃ S0 R0,e=.returned (yO X S0 R0)∧NdAt T.base w' X S0 R0∧Below W'.heap.size W' w'):=fun S R W' g hg=>by
    have hlen:(kL 0 [(x,S,R)]).length≤100000000:=by
     have h1:=OW.out;have h2:(kL 0 ([(x,S,R)]:List NdV)).length=1+(([x]:List Nd).flatMap (·.2)).length:=by unfold kL;simp;omega
     omega
    rw [←HXE.out];exact zS3 3 0 0 0 nm ta (some ⟨g,0,none⟩) 1 1 [(x,S,R)] W' (Ph hg) Yo hlen Yo Yo Yo Yo Yo Yo hnl
   go_region_held3 (fun w'=>w'.cell? ⟨b3,1,none⟩=some (uI ta))
    (first | with_reducible exact HSS.out _ HTC.out | with_reducible exact HSS.out _ (HTC.out.alloc _) | with_reducible exact HST.out _ _ _ _ _ _ _ _ HTC.out)
    (first
      | (go_at_call 163
         with_reducible refine HIW.out.mono ?_
         rintro e w5 ⟨S,R,rfl,hn,hp⟩;rw [zS];have HTC':=Ph (hp.bk HTC.out hb3p);clear HTC;have HTC:=HTC';clear HTC';have HN5:=Ph hn;have HP5:=Ph (HPD.out.trans hp);have HX5:=Ph (hp.bk HXD.out hrp);clear hn hp)
      | (go_at_call 123
         with_reducible refine(HW.out S R _ _ (HRN.out S R _ HN5.out)).mono ?_
         rintro e v7 ⟨S0,R0,rfl,hn7,hb7⟩;rw [zS];have HB7:=Ph (zU zB hb7);have HN7:=Ph hn7;have HP7:=Ph (HP5.out.then HB7.out);have HX7:=Ph (zD HX5.out HB7.out);have HTC':=Ph (zD HTC.out HB7.out);clear HTC hn7 hb7;have HTC:=HTC';clear HTC';obtain⟨y0,y1,y2,y3,y4,y5,y6⟩:=qL HX7.out;obtain⟨f0,f1,f2,f3,f4,f5,f6⟩:=zZ HX7.out;clear HRN HW HIW))
   all_goals
    have HF:=Ph (fr7 v7 r (uB X.1.kind) (uB X.1.op) (uW X.1.value) (uI X.1.width) (uR X.1.name) (uL S0) (uL R0));have HK:=Ph (zZ9 (v0:=uB X.1.kind) (v1:=uB X.1.op) (v2:=uW X.1.value) (v3:=uI X.1.width) (v4:=uR X.1.name) (v5:=uL S0) (v6:=uL R0) HX7.out);go_wp2
    generalize (World.setCell _ _ _)=WF at HF HK ⊢;obtain⟨r0,r1,r2,r3,r4,r5,r6⟩:=qL HK.out;refine lK (v:=yO X S0 R0) (by rw [zS];simp [results,Tryz.results154,go_sem,r0,r1,r2,r3,r4,r5,r6]) rfl ?_;exact xZ HP7.out h.out HX7.out hrp hwr HF.out HN7.out
end
end
section
open Go.RowKit Go.PlainAid
section
variable {p:Nat} {E:Env} {T:TV} {Q:SV}
theorem qE9 {f:Nat} {s s':PSt} {X:Nd} (h:zR E (f+1) s=some (X,s')) :
 (∃ op,(zC E s).kind=4∧jY (zC E s).text false=some op∧okP s=true∧∃ x s2,zR E f (kV E s (zC E s).text)=some (x,s2)∧okP s2=true∧okW [x]=true∧X=qI 5 op 0 0 [] (zC E s).at' [x]∧s'=yH s2 (-1)) ∨
 (((zC E s).kind≠4∨jY (zC E s).text false=none)∧∃ x s1,qJ E f s=some (x,s1)∧jI E f x s1=some (X,s')):=by
 unfold zR at h;by_cases h1:(zC E s).kind=4
 ·rw [lM h1]at h;cases h2:jY (zC E s).text false with
  | none =>
    rw [h2]at h;(try dsimp only at h);refine .inr ⟨.inr rfl,?_⟩;cases h3:qJ E f s with
    | none=>rw [h3]at h;cases h
    | some q =>
      obtain⟨x,s1⟩:=q;rw [h3]at h;exact⟨x,s1,rfl,h⟩
  | some op =>
    rw [h2]at h;(try dsimp only at h);refine .inl ⟨op,h1,rfl,?_⟩;cases h3:okP s with
    | false=>rw [h3]at h;cases h
    | true =>
      rw [h3]at h;(try dsimp only at h);refine⟨rfl,?_⟩;cases h4:zR E f (kV E s (zC E s).text)with
      | none=>rw [h4]at h;cases h
      | some q =>
        obtain⟨x,s2⟩:=q;rw [h4]at h;(try dsimp only at h);cases h5:(okP s2 && okW [x])with
        | false=>rw [h5]at h;cases h
        | true =>
          rw [h5]at h;injection h with h;injection h with h7 h8;rw [lZ]at h5;exact⟨x,s2,rfl,h5.1,h5.2,h7.symm,h8.symm⟩
 ·rw [lN h1]at h;(try dsimp only at h);refine .inr ⟨.inl h1,?_⟩;cases h3:qJ E f s with
  | none=>rw [h3]at h;cases h
  | some q =>
    obtain⟨x,s1⟩:=q;rw [h3]at h;exact⟨x,s1,rfl,h⟩
theorem qP7 (t:List UInt8) (two:Bool):∀ f o k,qD8 t two f o=some k→o≤k∧k<o+f
 | 0,_,_,h=>by cases h
 | f+1,o,k,h=>by
   rw [zX6]at h;split at h
   ·injection h with h;omega
   ·have:=qP7 t two f (o+1) k h;omega
theorem zQ4 {t:List UInt8} {two:Bool} {k:Nat} (h:jY t two=some k):1≤k∧k≤16:=by have:=qP7 t two 16 1 k h;omega
theorem qV6 {f:Nat} {x X:Nd} {s s':PSt} (h:jI E (f+1) x s=some (X,s')):(isP E s [64]=false∧X=x∧s'=s)∨(isP E s [64]=true∧okW [x]=true∧jI E f (qI 8 0 0 (jB E (zE s)).1 [] (yK x) [x]) (jB E (zE s)).2=some (X,s')):=by
 unfold jI at h;cases h1:isP E s [64]with
 | false =>
   rw [h1]at h;injection h with h;injection h with h7 h8;exact .inl ⟨rfl,h7.symm,h8.symm⟩
 | true =>
   rw [h1]at h;(try dsimp only at h);cases h2:okW [x]with
   | false=>rw [h2]at h;cases h
   | true =>
     rw [h2]at h;exact .inr ⟨rfl,rfl,h⟩
structure Lp (p:Nat) (E:Env) (T:TV) (Q:SV) (w:World) (b r:Nat) (y:Nd) (S R:SV) (s:PSt) (W:World):Prop where
 pp:PP w p E T Q s W
 bx:Bk W b 168 #[uB y.1.kind,uB y.1.op,uW y.1.value,uI y.1.width,uR y.1.name,.slice S.A S.n S.c,.slice R.A R.n R.c]
 rs:Bk W r 168 #[uB 0,uB 0,uW 0,uI 0,uT,uN,uN]
 nd:NdAt T.base W y S R
theorem Lp.bel {w W W':World} {b r:Nat} {y:Nd} {S R:SV} {s:PSt} (h:Lp p E T Q w b r y S R s W) (hb:Below W.heap.size W W'):Lp p E T Q w b r y S R s W':=⟨h.pp.then hb,zD h.bx hb,zD h.rs hb,h.nd.below hb⟩
theorem Lp.tr {w W W':World} {b r:Nat} {y:Nd} {S R:SV} {s s':PSt} (h:Lp p E T Q w b r y S R s W) (hb:b≠p) (hr:r≠p) (k:PP W p E T Q s' W'):Lp p E T Q w b r y S R s' W':=⟨h.pp.trans k,k.bk h.bx hb,k.bk h.rs hr,k.nd h.pp.ps h.nd⟩
theorem Lp.cel {w W:World} {b r:Nat} {y:Nd} {S R:SV} {s:PSt} (h:Lp p E T Q w b r y S R s W):W.cell? ⟨b,0,none⟩=some (uB y.1.kind)∧W.cell? ⟨b,1,none⟩=some (uB y.1.op)∧W.cell? ⟨b,2,none⟩=some (uW y.1.value)∧W.cell? ⟨b,3,none⟩=some (uI y.1.width)∧W.cell? ⟨b,4,none⟩=some (uR y.1.name)∧W.cell? ⟨b,5,none⟩=some (.slice S.A S.n S.c)∧W.cell? ⟨b,6,none⟩=some (.slice R.A R.n R.c):=qL h.bx
theorem Lp.cal {w W:World} {b r:Nat} {y:Nd} {S R:SV} {s:PSt} (h:Lp p E T Q w b r y S R s W) (o:Obj):(W.alloc o).cell? ⟨b,0,none⟩=some (uB y.1.kind)∧(W.alloc o).cell? ⟨b,1,none⟩=some (uB y.1.op)∧(W.alloc o).cell? ⟨b,2,none⟩=some (uW y.1.value)∧(W.alloc o).cell? ⟨b,3,none⟩=some (uI y.1.width)∧(W.alloc o).cell? ⟨b,4,none⟩=some (uR y.1.name)∧(W.alloc o).cell? ⟨b,5,none⟩=some (.slice S.A S.n S.c)∧(W.alloc o).cell? ⟨b,6,none⟩=some (.slice R.A R.n R.c):=qL (zD h.bx zB)
theorem NdsAt.tr {B:Nat} {W W':World} {g n:Nat} {L:List NdV} {s s0:PSt} (h:NdsAt B W (some ⟨g,0,none⟩) n L) (hg:g≠p) (h0:Ps W p E T Q s0) (k:PP W p E T Q s W'):NdsAt B W' (some ⟨g,0,none⟩) n L :=
 ⟨h.rd.fr k.fr (fun b _ he hb=>by obtain⟨off,he⟩:=he;injection he with he;injection he with he;exact hg (he.trans hb)),h.len,lE h.base k.fr.size,fun q hq=>k.nd h0 (h.all q hq)⟩
theorem qF1 {f:Nat} (IH:∀ g,g≤f→Sp p E T Q g) (s:PSt) (X:Nd) (s':PSt) (w:World) (hx:zR E (f+1) s=some (X,s')) (h:Hid (Ps w p E T Q s)) :
 Calls Tryz.prog 143 #[uQ p 0] w (vG w p E T Q X s'):=by
 have hR:=qE9 hx;have HIH:=Ph IH;have hpl:p<w.heap.size:=h.out.lt;have hle:=h.out.nextLe;have HB0:Hid (Below w.heap.size w (w.alloc (.cells #[uB 0,uB 0,uW 0,uI 0,uT,uN,uN] 168))):=zB;have HX0:=Ph (Bk.new w 168 #[uB 0,uB 0,uW 0,uI 0,uT,uN,uN]);obtain⟨⟨tk,tt,ta,tf⟩,ht⟩:∃ t,zC E s=t:=⟨_,rfl⟩;have HT:=Ph ht;rw [ht]at hle hR;(try dsimp only at hle hR);clear hx IH ht;rcases hR with⟨op,hk,hf,ok1,x,s2,hc,ok2,okw,hX,rfl⟩ | ⟨hno,x,s1,hc,hcs⟩
 ·have hop:=zQ4 hf;have HFO:=Ph hf;have HC:=Ph hc;have OW:=Ph (zM5 okw);have HXE:=Ph hX;have e1:((tk:Int) == 4)=true:=Yp;have hok:=ok2;unfold okP at hok;simp only [lZ,cC]at hok;have wd:IntKind.i64.wrap (s2.deep-1)=s2.deep-1:=by rw [lL];omega
  clear hf hc okw hX hok hk;go_enter Tryz.func143,Tryz.ntmps143
  go_upto_region 1 with fail
  generalize (w.alloc _)=W at HB0 HX0 ⊢;obtain⟨r,hr⟩:∃ r,w.heap.size=r:=⟨_,rfl⟩;rw [hr]at HX0 ⊢;have hrp:r≠p:=Yo;have hwr:w.heap.size≤r:=Yo;clear hr hpl;have HP0:=Ph (h.out.below HB0.out);have HNX:=Ph (zC5 p E T Q s W HP0);rw [HT.out]at HNX;dsimp only [nxV,kW]at HNX;go_wp2_with fail
  refine HNX.out.mono ?_;rintro e w1 ⟨rfl,hb1⟩;have HB1:=Ph (zU HB0.out hb1);have HX1:=Ph (zD HX0.out hb1);clear hb1 HNX HP0 HX0;have hwr':r<w1.heap.size:=HX1.out.lt;have hwp':p<w1.heap.size:=(h.out.below HB1.out).lt;have HBn:Hid (Below w1.heap.size w1 (w1.alloc (.cells #[uB tk,uI ta,uI tf] 44))):=zB;have HTB:=Ph (Bk.new w1 44 #[uB tk,uI ta,uI tf]);go_upto_region 2 with fail
  generalize (w1.alloc _)=W2 at HBn HTB ⊢;obtain⟨b3,hb⟩:∃ b,w1.heap.size=b:=⟨_,rfl⟩;rw [hb]at HTB ⊢;have hb3p:b3≠p:=Yo;have hb3r:b3≠r:=Yo;have hrb3:r≠b3:=Yo;clear hb hwr' hwp';have HB2:=Ph (zU HB1.out HBn.out);have HX2:=Ph (zD HX1.out HBn.out);clear HX1 HBn HB1;go_wp2_with fail
  refine(qV3 tt false W2).mono ?_;rintro e w3 ⟨rfl,hb⟩;rw [HFO.out];dsimp only [jC5];have HP3:=Ph (PP.below h.out (zU HB2.out hb));have HX3:=Ph (zD HX2.out hb);have HT3:=Ph (zD HTB.out hb);clear hb HX2 HTB HB2;obtain⟨t0,t1,t2⟩:=zJ HT3.out;go_wp2_with fail
  refine(jX7 p E T Q s tt w3 (Ph HP3.out.ps) ok1).mono ?_;rintro e w4 ⟨⟨v,rfl⟩,hp⟩;have HP4:=Ph (HP3.out.trans hp);have HX4:=Ph (hp.bk HX3.out hrp);have HT4:=Ph (hp.bk HT3.out hb3p);clear hp HP3 HX3 HT3 t0 t1 t2;go_wp2_with fail
  refine((HIH.out f (lF _)).operand _ _ _ w4 HC.out (Ph HP4.out.ps)).mono ?_;rintro e w5 ⟨S,R,rfl,hn,hp⟩;rw [zS];have HP5:=Ph (HP4.out.trans hp);have HX5:=Ph (hp.bk HX4.out hrp);have HT5:=Ph (hp.bk HT4.out hb3p);have HN5:=Ph hn;clear hp hn HP4 HX4 HT4;have hw5r:r<w5.heap.size:=HX5.out.lt;have hw5p:p<w5.heap.size:=HP5.out.ps.lt;have hw5t:b3<w5.heap.size:=HT5.out.lt;have HBn:Hid (Below w5.heap.size w5 (w5.alloc (.cells #[uB x.1.kind,uB x.1.op,uW x.1.value,uI x.1.width,uR x.1.name,uL S,uL R] 168))):=zB;have HY6:=Ph (Bk.new w5 168 #[uB x.1.kind,uB x.1.op,uW x.1.value,uI x.1.width,uR x.1.name,uL S,uL R]);go_upto_region 6 with fail
  generalize (w5.alloc _)=W6 at HBn HY6 ⊢;obtain⟨b7,hb⟩:∃ b,w5.heap.size=b:=⟨_,rfl⟩;rw [hb]at HY6 ⊢;have hb7p:b7≠p:=Yo;have hb7r:b7≠r:=Yo;have hb7b3:b7≠b3:=Yo;clear hb hw5r hw5p hw5t;have HP6:=Ph (HP5.out.then HBn.out);have HX6:=Ph (zD HX5.out HBn.out);have HT6:=Ph (zD HT5.out HBn.out);have HN6:=Ph (HN5.out.below HBn.out);clear HP5 HX5 HT5 HN5 HBn;obtain⟨g0,g1,g2,g3,g4,g5,g6⟩:=HP6.out.ps.cells;have gz:=HP6.out.ps.frozens 3;have hd:=HP6.out.ps.setDeep (s2.deep-1);have HP7:=Ph (HP6.out.trans hd);have HX7:=Ph (hd.bk HX6.out hrp);have HT7:=Ph (hd.bk HT6.out hb3p);have HY7:=Ph (hd.bk HY6.out hb7p);have HN7:=Ph (hd.nd HP6.out.ps HN6.out);clear hd;go_upto_region 7 with fail
  generalize (World.setCell _ _ _)=W7 at HP7 HX7 HT7 HY7 HN7 ⊢;clear HP6 HX6 HT6 HY6 HN6 g0 g1 g2 g3 g4 g5 g6 gz;obtain⟨t0,t1,t2⟩:=zJ HT7.out;obtain⟨x0,x1,x2,x3,x4,x5,x6⟩:=qL HY7.out;have HRN:Hid (NdsAt T.base (W7.alloc (.cells #[uB x.1.kind,uB x.1.op,uW x.1.value,uI x.1.width,uR x.1.name,uL S,uL R] 168)) (some ⟨W7.heap.size,0,none⟩) 1 [(x,S,R)]):=zG9 (W:=W7) [(x,S,R)] (fun q hq=>by rw [cQ.1 hq];exact HN7.out);have HW:Hid (∀ (W':World) (g:Nat),NdsAt T.base W' (some ⟨g,0,none⟩) 1 [(x,S,R)]→Calls Tryz.prog 123 #[.agg #[uB 5,uB op,uW 0,uI 0,uT,uN],uI ta,.slice (some ⟨g,0,none⟩) 1 1] W' fun e w'=>∃ S0 R0,e=.returned (yO X S0 R0)∧NdAt T.base w' X S0 R0∧Below W'.heap.size W' w'):=fun W' g hg=>by
   have hlen:(kL 0 [(x,S,R)]).length≤100000000:=by
    have h1:=OW.out;have h2:(kL 0 ([(x,S,R)]:List NdV)).length=1+(([x]:List Nd).flatMap (·.2)).length:=by unfold kL;simp;omega
    omega
   rw [HXE.out];exact zS3 5 op 0 0 [] ta (some ⟨g,0,none⟩) 1 1 [(x,S,R)] W' (Ph hg) Yo hlen Yo Yo Yo Yo Yo Yo Ym
  go_wp2_with fail
  refine(HW.out _ _ HRN.out).mono ?_;rintro e v7 ⟨S0,R0,rfl,hn7,hb7⟩;rw [zS];have HB7:=Ph (zU zB hb7);have HN8:=Ph hn7;have HP8:=Ph (HP7.out.then HB7.out);have HX8:=Ph (zD HX7.out HB7.out);clear hn7 hb7 t0 t1 t2 x0 x1 x2 x3 x4 x5 x6 HRN HW;obtain⟨y0,y1,y2,y3,y4,y5,y6⟩:=qL HX8.out;obtain⟨f0,f1,f2,f3,f4,f5,f6⟩:=zZ HX8.out;have HF:=Ph (fr7 v7 r (uB X.1.kind) (uB X.1.op) (uW X.1.value) (uI X.1.width) (uR X.1.name) (uL S0) (uL R0));have HK:=Ph (zZ9 (v0:=uB X.1.kind) (v1:=uB X.1.op) (v2:=uW X.1.value) (v3:=uI X.1.width) (v4:=uR X.1.name) (v5:=uL S0) (v6:=uL R0) HX8.out);go_wp2_with fail
  generalize (World.setCell _ _ _)=WF at HF HK ⊢;obtain⟨r0,r1,r2,r3,r4,r5,r6⟩:=qL HK.out;refine lK (v:=yO X S0 R0) (by rw [zS];simp [results,Tryz.results143,go_sem,r0,r1,r2,r3,r4,r5,r6]) rfl ?_;exact xZ HP8.out h.out HX8.out hrp hwr HF.out HN8.out
 ·have HC:=Ph hc;have HCS:=Ph hcs;have hF:∃ o b,jC5 (jY tt false)=.tuple #[uB o,.bool b]∧(b=false∨((tk:Int) == 4)=false):=by
   cases hf:jY tt false with
   | none=>exact⟨0,false,rfl,.inl rfl⟩
   | some op =>
     refine⟨(op:Int),true,rfl,.inr ?_⟩;rcases hno with h1 | h1
     ·simp;omega
     ·rw [hf]at h1;cases h1
  obtain⟨o,b,hfv,hb⟩:=hF;have HFO:=Ph hfv;clear hc hcs hfv hno;go_enter Tryz.func143,Tryz.ntmps143
  go_upto_region 1 with fail
  generalize (w.alloc _)=W at HB0 HX0 ⊢;obtain⟨r,hr⟩:∃ r,w.heap.size=r:=⟨_,rfl⟩;rw [hr]at HX0 ⊢;have hrp:r≠p:=Yo;have hwr:w.heap.size≤r:=Yo;clear hr hpl;have HP0:=Ph (h.out.below HB0.out);have HNX:=Ph (zC5 p E T Q s W HP0);rw [HT.out]at HNX;dsimp only [nxV,kW]at HNX;go_wp2_with fail
  refine HNX.out.mono ?_;rintro e w1 ⟨rfl,hb1⟩;have HB1:=Ph (zU HB0.out hb1);have HX1:=Ph (zD HX0.out hb1);clear hb1 HNX HP0 HX0;have hwr':r<w1.heap.size:=HX1.out.lt;have hwp':p<w1.heap.size:=(h.out.below HB1.out).lt;have HBn:Hid (Below w1.heap.size w1 (w1.alloc (.cells #[uB tk,uI ta,uI tf] 44))):=zB;have HTB:=Ph (Bk.new w1 44 #[uB tk,uI ta,uI tf]);go_upto_region 2 with fail
  generalize (w1.alloc _)=W2 at HBn HTB ⊢;obtain⟨b3,hb⟩:∃ b,w1.heap.size=b:=⟨_,rfl⟩;rw [hb]at HTB ⊢;have hb3p:b3≠p:=Yo;have hb3r:b3≠r:=Yo;have hrb3:r≠b3:=Yo;clear hb hwr' hwp';have HB2:=Ph (zU HB1.out HBn.out);have HX2:=Ph (zD HX1.out HBn.out);clear HX1 HBn HB1;go_wp2_with fail
  refine(qV3 tt false W2).mono ?_;rintro e w3 ⟨rfl,hb⟩;rw [HFO.out];dsimp only;have HP3:=Ph (PP.below h.out (zU HB2.out hb));have HX3:=Ph (zD HX2.out hb);have HT3:=Ph (zD HTB.out hb);clear hb HX2 HTB HB2;obtain⟨t0,t1,t2⟩:=zJ HT3.out;go_upto_region 3 with fail
  go_cut [24] (fun v24 wx=>v24=.bool false∧w3=wx)
  case first =>
   rcases hb with rfl | hb
   ·go_wp2
    go_meet
    exact⟨rfl,rfl⟩
   ·cases b with
    | false =>
      go_wp2
      go_meet
      exact⟨rfl,rfl⟩
    | true =>
      go_wp2
      go_meet
      exact⟨rfl,rfl⟩
  case rest =>
  obtain⟨rfl,rfl⟩:=hcut;clear t0 t1 t2 hb;go_wp2_with fail
  refine((HIH.out f (lF _)).basis _ _ _ w3 HC.out (Ph HP3.out.ps)).mono ?_;rintro e w5 ⟨S,R,rfl,hn,hp⟩;rw [zS];have HP5:=Ph (HP3.out.trans hp);have HX5:=Ph (hp.bk HX3.out hrp);have HN5:=Ph hn;clear hp hn HP3 HX3 HT3;have hw5r:r<w5.heap.size:=HX5.out.lt;have hw5p:p<w5.heap.size:=HP5.out.ps.lt;have HBn:Hid (Below w5.heap.size w5 (w5.alloc (.cells #[uB x.1.kind,uB x.1.op,uW x.1.value,uI x.1.width,uR x.1.name,uL S,uL R] 168))):=zB;have HY6:=Ph (Bk.new w5 168 #[uB x.1.kind,uB x.1.op,uW x.1.value,uI x.1.width,uR x.1.name,uL S,uL R]);go_wp2_with fail
  generalize (w5.alloc _)=W6 at HBn HY6 ⊢;obtain⟨b8,hb⟩:∃ b,w5.heap.size=b:=⟨_,rfl⟩;rw [hb]at HY6 ⊢;have hb8p:b8≠p:=Yo;have hb8r:b8≠r:=Yo;have hrb8:r≠b8:=Yo;have hwb8:w.heap.size≤b8:=Yo;clear hb hw5r hw5p;have HP6:=Ph (HP5.out.then HBn.out);have HX6:=Ph (zD HX5.out HBn.out);have HN6:=Ph (HN5.out.below HBn.out);clear HP5 HX5 HN5 HBn;go_loopg [47] f (fun g v47 wr=>∃ y S R sc,Hid (jI E g y sc=some (X,s'))∧Hid (Bk wr b8 168 #[uB y.1.kind,uB y.1.op,uW y.1.value,uI y.1.width,uR y.1.name,uL S,uL R])∧Hid (NdAt T.base wr y S R)∧Hid (PP w p E T Q sc wr)∧Hid (Bk wr r 168 #[uB 0,uB 0,uW 0,uI 0,uT,uN,uN]))
  case atStart=>exact⟨x,S,R,s1,HCS,HY6,HN6,HP6,HX6⟩
  case round =>
   obtain⟨y,S,R,sc,HCY,HYc,HNc,HPc,HXc⟩:=hrel;clear HCS HY6 HN6 HP6 HX6;cases gk with
   | zero=>exact absurd HCY.out (by unfold jI;intro h;cases h)
   | succ gk =>
   have hcy:=qV6 HCY.out;have HIS:=Ph (isC p E T Q sc [64] wr (Ph HPc.out.ps));clear HCY;rcases hcy with⟨h1,rfl,rfl⟩ | ⟨h1,okw,hcs⟩
   ·have hS:isS E s' [64]=s':=by unfold isS;rw [h1];rfl
    rw [h1,hS]at HIS;clear h1 hS;go_wp2_with fail
    refine HIS.out.mono ?_;rintro e w9 ⟨rfl,hp⟩;have HP9:=Ph (HPc.out.trans hp);have HX9:=Ph (hp.bk HXc.out hrp);have HY9:=Ph (hp.bk HYc.out hb8p);have HN9:=Ph (hp.nd HPc.out.ps HNc.out);clear hp HPc HXc HYc HNc HIS;obtain⟨x0,x1,x2,x3,x4,x5,x6⟩:=qL HY9.out;obtain⟨y0,y1,y2,y3,y4,y5,y6⟩:=qL HX9.out;obtain⟨f0,f1,f2,f3,f4,f5,f6⟩:=zZ HX9.out;have HF:=Ph (fr7 w9 r (uB X.1.kind) (uB X.1.op) (uW X.1.value) (uI X.1.width) (uR X.1.name) (uL S) (uL R));have HK:=Ph (zZ9 (v0:=uB X.1.kind) (v1:=uB X.1.op) (v2:=uW X.1.value) (v3:=uI X.1.width) (v4:=uR X.1.name) (v5:=uL S) (v6:=uL R) HX9.out);go_wp2_with fail
    generalize (World.setCell _ _ _)=WF at HF HK ⊢;obtain⟨r0,r1,r2,r3,r4,r5,r6⟩:=qL HK.out;refine lK (v:=yO X S R) (by rw [zS];simp [results,Tryz.results143,go_sem,r0,r1,r2,r3,r4,r5,r6]) rfl ?_;exact xZ HP9.out h.out HX9.out hrp hwr HF.out HN9.out
   ·have HOW:=Ph (zM5 okw);have HCN:=Ph hcs;have hS:isS E sc [64]=zE sc:=by unfold isS;rw [h1];rfl
    rw [h1,hS]at HIS;clear h1 hS okw hcs;obtain⟨⟨nu,sn⟩,hnu⟩:∃ q,jB E (zE sc)=q:=⟨_,rfl⟩;have hnl:=zG7 E (zE sc);obtain⟨Y,hY⟩:∃ Y,qI 8 0 0 (nu:Int) [] (yK y) [y]=Y:=⟨_,rfl⟩;have HNU:=Ph hnu;have HYE:=Ph hY;rw [hnu]at hnl HCN;rw [hY]at HCN;(try dsimp only at hnl HCN);clear hnu hY;go_wp2_with fail
    refine HIS.out.mono ?_;rintro e v ⟨rfl,hp⟩;have HLV:=Ph (Lp.tr ⟨HPc.out,HYc.out,HXc.out,HNc.out⟩ hb8p hrp hp:Lp p E T Q w b8 r y S R _ v);have HL0:=Ph (HLV.out.bel (lB _ _).drew);have HLA:Hid (∀ o:Obj,Lp p E T Q w b8 r y S R (zE sc) (v.alloc o).drew):=fun o=>(HLV.out.bel zB).bel (lB _ _).drew;have hvp:p<v.heap.size:=hp.ps.lt;have hgp:v.heap.size≠p:=Yo;clear hp HPc HXc HYc HNc HIS hvp;have HRN:Hid (∀ V:World,Lp p E T Q w b8 r y S R (zE sc) V∨Lp p E T Q w b8 r y S R sn V→NdsAt T.base (V.alloc (.cells #[uB y.1.kind,uB y.1.op,uW y.1.value,uI y.1.width,uR y.1.name,uL S,uL R] 168)) (some ⟨V.heap.size,0,none⟩) 1 [(y,S,R)]):=fun V hV=>zG9 (W:=V) [(y,S,R)] (fun q hq=>by rw [cQ.1 hq];exact hV.elim (·.nd) (·.nd));have HNM:Hid (∀ V:World,Lp p E T Q w b8 r y S R (zE sc) V→Calls Tryz.prog 85 #[uQ p 0] V fun x w'=>x=.returned (uI nu)∧PP V p E T Q sn w'):=fun V hV=>by have:=kQ1 p E T Q (zE sc) V (Ph hV.pp.ps);rw [HNU.out]at this;exact this
    have HHE:Hid (∀ V:World,Lp p E T Q w b8 r y S R sn V→Calls Tryz.prog 124 #[.agg #[uB y.1.kind,uB y.1.op,uW y.1.value,uI y.1.width,uR y.1.name,uL S,uL R]] V fun e w'=>e=.returned (uI (yK y:Int))∧Below V.heap.size V w'):=fun V hV=>qL2 V V hV.nd (lB _ _);have HWH:Hid (∀ (V:World) (g:Nat),Lp p E T Q w b8 r y S R sn V→NdsAt T.base V (some ⟨g,0,none⟩) 1 [(y,S,R)]→Calls Tryz.prog 123 #[.agg #[uB 8,uB 0,uW 0,uI nu,uT,uN],uI (yK y:Int),.slice (some ⟨g,0,none⟩) 1 1] V fun e w'=>∃ S0 R0,e=.returned (yO Y S0 R0)∧NdAt T.base w' Y S0 R0∧Below V.heap.size V w'):=fun V g hV hg=>by
     have hlen:(kL 0 [(y,S,R)]).length≤100000000:=by
      have h1:=HOW.out;have h2:(kL 0 ([(y,S,R)]:List NdV)).length=1+(([y]:List Nd).flatMap (·.2)).length:=by unfold kL;simp;omega
      omega
     have hh:=qA1 hV.nd;rw [←HYE.out];exact zS3 8 0 0 (nu:Int) [] (yK y) (some ⟨g,0,none⟩) 1 1 [(y,S,R)] V (Ph hg) Yo hlen Yo Yo Yo Yo Yo Yo Ym
    obtain⟨x0,x1,x2,x3,x4,x5,x6⟩:=HL0.out.cel;have xa:=fun o=>(HLA.out o).cel;have xb:=HLV.out.cal;go_upto_region 10 with fail
    go_region_law (go_simp;(first
     | (go_at_call 85
        with_reducible refine(HNM.out _ HL0.out).mono ?_
        rintro e v1 ⟨rfl,hp⟩;have HL1:=Ph (HL0.out.tr hb8p hrp hp);have hg1:v1.heap.size≠p:=Nat.ne_of_gt hp.ps.lt;clear hp x0 x1 x2 x3 x4 x5 x6 xa xb;obtain⟨x0,x1,x2,x3,x4,x5,x6⟩:=HL1.out.cel;have xa:=HL1.out.cal)
     | (go_at_call 85
        with_reducible refine(HNM.out _ (HLA.out _)).mono ?_
        rintro e v1 ⟨rfl,hp⟩;have HL1:=Ph ((HLA.out _).tr hb8p hrp hp);have HR:Hid (NdsAt T.base v1 (some ⟨v.heap.size,0,none⟩) 1 [(y,S,R)]):=Ph (NdsAt.tr ((HRN.out v (.inl HLV.out)).below (lB _ _).drew) hgp (HLA.out _).pp.ps hp);clear hp x0 x1 x2 x3 x4 x5 x6 xa xb;obtain⟨x0,x1,x2,x3,x4,x5,x6⟩:=HL1.out.cel;have xa:=HL1.out.cal)
     | (go_at_call 124
        with_reducible refine(HHE.out _ HL1.out).mono ?_
        rintro e v2 ⟨rfl,hb⟩;have HL2:=Ph (HL1.out.bel hb)
        try (have HR2:=Ph (HR.out.below hb)
             clear HR;have HR:=HR2;clear HR2)
        clear hb x0 x1 x2 x3 x4 x5 x6 xa;obtain⟨x0,x1,x2,x3,x4,x5,x6⟩:=HL2.out.cel;have xa:=HL2.out.cal)
     | (go_at_call 124
        with_reducible refine(HHE.out _ (HL1.out.bel zB)).mono ?_
        rintro e v2 ⟨rfl,hb⟩;have HL2:=Ph ((HL1.out.bel zB).bel hb);have HR:Hid (NdsAt T.base v2 (some ⟨v1.heap.size,0,none⟩) 1 [(y,S,R)]):=Ph ((HRN.out v1 (.inr HL1.out)).below hb);clear hb x0 x1 x2 x3 x4 x5 x6 xa;obtain⟨x0,x1,x2,x3,x4,x5,x6⟩:=HL2.out.cel;have xa:=HL2.out.cal)
     | (go_at_call 123
        with_reducible refine(HWH.out _ _ HL2.out HR.out).mono ?_
        rintro e v7 ⟨S0,R0,rfl,hn7,hb7⟩;rw [zS];have HL7:=Ph (HL2.out.bel hb7);have HN7:=Ph hn7;clear hn7 hb7 x0 x1 x2 x3 x4 x5 x6 xa;obtain⟨x0,x1,x2,x3,x4,x5,x6⟩:=HL7.out.cel;obtain⟨f0,f1,f2,f3,f4,f5,f6⟩:=zZ HL7.out.bx)
     | (go_at_call 123
        with_reducible refine(HWH.out _ _ (HL2.out.bel zB) (HRN.out _ (.inr HL2.out))).mono ?_
        rintro e v7 ⟨S0,R0,rfl,hn7,hb7⟩;rw [zS];have HL7:=Ph ((HL2.out.bel zB).bel hb7);have HN7:=Ph hn7;clear hn7 hb7 x0 x1 x2 x3 x4 x5 x6 xa;obtain⟨x0,x1,x2,x3,x4,x5,x6⟩:=HL7.out.cel;obtain⟨f0,f1,f2,f3,f4,f5,f6⟩:=zZ HL7.out.bx)))
    all_goals
     have HF:=Ph (fr7 v7 b8 (uB Y.1.kind) (uB Y.1.op) (uW Y.1.value) (uI Y.1.width) (uR Y.1.name) (uL S0) (uL R0));have HK:=Ph (zZ9 (v0:=uB Y.1.kind) (v1:=uB Y.1.op) (v2:=uW Y.1.value) (v3:=uI Y.1.width) (v4:=uR Y.1.name) (v5:=uL S0) (v6:=uL R0) HL7.out.bx);clear x0 x1 x2 x3 x4 x5 x6 f0 f1 f2 f3 f4 f5 f6;generalize (World.setCell _ _ _)=WF at HF HK ⊢;go_wp2_with fail
     go_roundg gk
     case measure=>exact Nat.lt_succ_self _
     case rel=>exact⟨Y,S0,R0,sn,HCN,HK,Ph (HN7.out.box HL7.out.bx HF.out),Ph (HL7.out.pp.fin h.out HL7.out.bx hb8p hwb8 HF.out),Ph (HL7.out.rs.fr HF.out hrb8)⟩
end
end
end Go.Proofs.YtfdaebgllibphaaGreatDoor
