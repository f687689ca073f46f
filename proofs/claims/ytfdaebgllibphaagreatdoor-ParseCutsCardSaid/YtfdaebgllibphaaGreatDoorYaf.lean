import Derived.Lib.ItoaLen
import Derived.StillTail
import Derived.StillTactics
import Derived.Test.YtfdaebgllibphaaGreatDoorYae
set_option linter.unusedVariables false
set_option linter.unusedSimpArgs false
set_option maxRecDepth 100000
set_option maxHeartbeats 16000000
namespace Go.Proofs.YtfdaebgllibphaaGreatDoor
section
open Go.RowKit Go.PlainAid
section
variable {p:Nat} {E:Env} {T:TV} {Q:SV}
theorem qV7 {f r:Nat} {s s':PSt} {X:Nd} (h:qN E (f+1) r s=some (X,s')):∃ x s1,zR E f s=some (x,s1)∧qR E f r x s1=some (X,s'):=by
 unfold qN at h;cases h3:zR E f s with
 | none=>rw [h3]at h;cases h
 | some q =>
   obtain⟨x,s1⟩:=q;rw [h3]at h;exact⟨x,s1,rfl,h⟩
inductive Lk (E:Env) (f r:Nat) (x:Nd) (s:PSt) (X:Nd) (s':PSt):Prop where
 | err:s.e≠0→X=x→s'=s→Lk E f r x s X s'
 | sign:s.e=0→(zC E s).kind≠4→X=x→s'=s→Lk E f r x s X s'
 | find:s.e=0→jY (zC E s).text true=none→X=x→s'=s→Lk E f r x s X s'
 | low (op:Nat):s.e=0→(zC E s).kind=4→jY (zC E s).text true=some op→kD op<r→X=x→s'=s→Lk E f r x s X s'
 | go (op:Nat) (y:Nd) (s2:PSt):s.e=0→(zC E s).kind=4→jY (zC E s).text true=some op→¬kD op<r→qN E f (kD op+1) (zE s)=some (y,s2)→okW [x,y]=true →
    qR E f r (qI 6 op 0 0 [] (yK x) [x,y]) s2=some (X,s')→Lk E f r x s X s'
theorem qV8 {f r:Nat} {x:Nd} {s s':PSt} {X:Nd} (h:qR E (f+1) r x s=some (X,s')):Lk E f r x s X s':=by
 unfold qR at h;by_cases h1:s.e=0
 ·rw [lH h1]at h;(try dsimp only at h);by_cases h2:(zC E s).kind=4
  ·rw [lM h2]at h;cases h3:jY (zC E s).text true with
   | none =>
     rw [h3]at h;injection h with h;injection h with h7 h8;exact .find h1 h3 h7.symm h8.symm
   | some op =>
     rw [h3]at h;(try dsimp only at h);by_cases h4:kD op<r
     ·rw [lH h4]at h;injection h with h;injection h with h7 h8;exact .low op h1 h2 h3 h4 h7.symm h8.symm
     ·rw [lG h4]at h;(try dsimp only at h);cases h5:qN E f (kD op+1) (zE s)with
      | none=>rw [h5]at h;cases h
      | some q =>
        obtain⟨y,s2⟩:=q;rw [h5]at h;(try dsimp only at h);cases h6:okW [x,y]with
        | false=>rw [h6]at h;cases h
        | true =>
          rw [h6]at h;exact .go op y s2 h1 h2 h3 h4 h5 h6 h
  ·rw [lN h2]at h;injection h with h;injection h with h7 h8;exact .sign h1 h2 h7.symm h8.symm
 ·rw [lG h1]at h;injection h with h;injection h with h7 h8;exact .err h1 h7.symm h8.symm
structure Lq (p:Nat) (E:Env) (T:TV) (Q:SV) (w:World) (b r c:Nat) (y:Nd) (S R:SV) (z:Nd) (S4 R4:SV) (s:PSt) (W:World):Prop where
 lp:Lp p E T Q w b r y S R s W
 bz:Bk W c 168 #[uB z.1.kind,uB z.1.op,uW z.1.value,uI z.1.width,uR z.1.name,.slice S4.A S4.n S4.c,.slice R4.A R4.n R4.c]
 nz:NdAt T.base W z S4 R4
theorem Lq.bel {w W W':World} {b r c:Nat} {y z:Nd} {S R S4 R4:SV} {s:PSt} (h:Lq p E T Q w b r c y S R z S4 R4 s W) (hb:Below W.heap.size W W'):Lq p E T Q w b r c y S R z S4 R4 s W':=⟨h.lp.bel hb,zD h.bz hb,h.nz.below hb⟩
theorem Lq.cez {w W:World} {b r c:Nat} {y z:Nd} {S R S4 R4:SV} {s:PSt} (h:Lq p E T Q w b r c y S R z S4 R4 s W):W.cell? ⟨c,0,none⟩=some (uB z.1.kind)∧W.cell? ⟨c,1,none⟩=some (uB z.1.op)∧W.cell? ⟨c,2,none⟩=some (uW z.1.value)∧W.cell? ⟨c,3,none⟩=some (uI z.1.width)∧W.cell? ⟨c,4,none⟩=some (uR z.1.name)∧W.cell? ⟨c,5,none⟩=some (.slice S4.A S4.n S4.c)∧W.cell? ⟨c,6,none⟩=some (.slice R4.A R4.n R4.c):=qL h.bz
theorem Lq.caz {w W:World} {b r c:Nat} {y z:Nd} {S R S4 R4:SV} {s:PSt} (h:Lq p E T Q w b r c y S R z S4 R4 s W) (o:Obj):(W.alloc o).cell? ⟨c,0,none⟩=some (uB z.1.kind)∧(W.alloc o).cell? ⟨c,1,none⟩=some (uB z.1.op)∧(W.alloc o).cell? ⟨c,2,none⟩=some (uW z.1.value)∧(W.alloc o).cell? ⟨c,3,none⟩=some (uI z.1.width)∧(W.alloc o).cell? ⟨c,4,none⟩=some (uR z.1.name)∧(W.alloc o).cell? ⟨c,5,none⟩=some (.slice S4.A S4.n S4.c)∧(W.alloc o).cell? ⟨c,6,none⟩=some (.slice R4.A R4.n R4.c):=qL (zD h.bz zB)
theorem qV9 {f:Nat} (IH:∀ g,g≤f→Sp p E T Q g) (rk:Nat) (s:PSt) (X:Nd) (s':PSt) (w:World) (hrk:rk≤7) (hx:qN E (f+1) rk s=some (X,s')) (h:Hid (Ps w p E T Q s)) :
 Calls Tryz.prog 121 #[uQ p 0,uI rk] w (vG w p E T Q X s'):=by
 obtain⟨x,s1,hc,hl⟩:=qV7 hx;have HIH:=Ph IH;have HC:=Ph hc;have HCL:=Ph hl;have hpl:p<w.heap.size:=h.out.lt;have HB0:Hid (Below w.heap.size w (w.alloc (.cells #[uB 0,uB 0,uW 0,uI 0,uT,uN,uN] 168))):=zB;have HX0:=Ph (Bk.new w 168 #[uB 0,uB 0,uW 0,uI 0,uT,uN,uN]);clear hx IH hc hl;go_enter Tryz.func121,Tryz.ntmps121
 go_upto_region 1 with fail
 generalize (w.alloc _)=W at HB0 HX0 ⊢;obtain⟨r,hr⟩:∃ r,w.heap.size=r:=⟨_,rfl⟩;rw [hr]at HX0 ⊢;have hrp:r≠p:=Yo;have hwr:w.heap.size≤r:=Yo;clear hr hpl;have HPW:=Ph (PP.below h.out HB0.out);go_wp2_with fail
 refine((HIH.out f (lF _)).operand _ _ _ W HC.out (Ph HPW.out.ps)).mono ?_;rintro e w5 ⟨S,R,rfl,hn,hp⟩;rw [zS];have HP5:=Ph (HPW.out.trans hp);have HX5:=Ph (hp.bk HX0.out hrp);have HN5:=Ph hn;clear hp hn HPW HX0;have hw5r:r<w5.heap.size:=HX5.out.lt;have hw5p:p<w5.heap.size:=HP5.out.ps.lt;have HBn:Hid (Below w5.heap.size w5 (w5.alloc (.cells #[uB x.1.kind,uB x.1.op,uW x.1.value,uI x.1.width,uR x.1.name,uL S,uL R] 168))):=zB;have HY6:=Ph (Bk.new w5 168 #[uB x.1.kind,uB x.1.op,uW x.1.value,uI x.1.width,uR x.1.name,uL S,uL R]);go_wp2_with fail
 generalize (w5.alloc _)=W6 at HBn HY6 ⊢;obtain⟨b5,hb⟩:∃ b,w5.heap.size=b:=⟨_,rfl⟩;rw [hb]at HY6 ⊢;have hb5p:b5≠p:=Yo;have hb5r:b5≠r:=Yo;have hrb5:r≠b5:=Yo;have hwb5:w.heap.size≤b5:=Yo;clear hb hw5r hw5p;have HL6:Hid (Lp p E T Q w b5 r x S R s1 W6):=Ph ⟨HP5.out.then HBn.out,HY6.out,zD HX5.out HBn.out,HN5.out.below HBn.out⟩;clear HP5 HX5 HN5 HBn HY6;go_loopg [18] f (fun g v18 wr=>∃ y S R sc,Hid (g≤f)∧Hid (qR E g rk y sc=some (X,s'))∧Hid (Lp p E T Q w b5 r y S R sc wr))
 case atStart=>exact⟨x,S,R,s1,Ph (lF _),HCL,HL6⟩
 case round =>
  obtain⟨y,S,R,sc,HG,HCY,HLc⟩:=hrel;clear HCL HL6;cases gk with
  | zero=>exact absurd HCY.out (by unfold qR;intro h;cases h)
  | succ gk =>
  have hcy:=qV8 HCY.out;have htok:=HLc.out.pp.ps.tok;have hsn:=HLc.out.pp.ps.n;have hfw:=HLc.out.pp.ps.ok.few;have hle:=HLc.out.pp.ps.nextLe;obtain⟨⟨tk,tt,ta,tf⟩,ht⟩:∃ t,zC E sc=t:=⟨_,rfl⟩;have HT:=Ph ht;have HNX:=Ph (zC5 p E T Q sc wr (Ph HLc.out.pp.ps));rw [ht]at HNX htok hle;dsimp only [nxV,kW]at HNX;(try dsimp only at htok hle)
  have hcs:(sc.e≠0∧X=y∧s'=sc)∨(sc.e=0∧∃ (o:Nat) (b:Bool),jC5 (jY tt true)=.tuple #[uB o,.bool b]∧o≤16∧(((tk≠4∨(tk=4∧b=false)∨(tk=4∧b=true∧kD o<rk))∧X=y∧s'=sc) ∨
   (tk=4∧b=true∧¬kD o<rk∧∃ z s2,qN E gk (kD o+1) (zE sc)=some (z,s2)∧okW [y,z]=true∧qR E gk rk (qI 6 o 0 0 [] (yK y) [y,z]) s2=some (X,s')))):=by
   have hfv:∃ (o:Nat) (b:Bool),jC5 (jY tt true)=.tuple #[uB o,.bool b]∧o≤16:=by
    cases hf:jY tt true with
    | none=>exact⟨0,false,rfl,Yo⟩
    | some o=>exact⟨o,true,rfl,(zQ4 hf).2⟩
   cases hcy with
   | err h1 h2 h3=>exact .inl ⟨h1,h2,h3⟩
   | sign h1 h2 h3 h4 =>
     rw [ht]at h2;obtain⟨o,b,h5,h6⟩:=hfv;exact .inr ⟨h1,o,b,h5,h6,.inl ⟨.inl h2,h3,h4⟩⟩
   | find h1 h2 h3 h4 =>
     rw [ht]at h2;(try dsimp only at h2);refine .inr ⟨h1,0,false,by rw [h2];rfl,Yo,.inl ⟨?_,h3,h4⟩⟩;by_cases hk:tk=4
     ·exact .inr (.inl ⟨hk,rfl⟩)
     ·exact .inl hk
   | low o h1 h2 h3 h4 h5 h6 =>
     rw [ht]at h2 h3;(try dsimp only at h2 h3);exact .inr ⟨h1,o,true,by rw [h3];rfl,(zQ4 h3).2,.inl ⟨.inr (.inr ⟨h2,rfl,h4⟩),h5,h6⟩⟩
   | go o z s2 h1 h2 h3 h4 h5 h6 h7 =>
     rw [ht]at h2 h3;(try dsimp only at h2 h3);exact .inr ⟨h1,o,true,by rw [h3];rfl,(zQ4 h3).2,.inr ⟨h2,rfl,h4,z,s2,h5,h6,h7⟩⟩
  clear hcy HCY ht;rcases hcs with⟨h1,rfl,rfl⟩ | ⟨h1,o,b,hfv,ho,hcs⟩
  ·have e1:((s'.e:Int) == 0)=false:=by simp;omega
   clear h1 htok hle hsn hfw HNX HT;obtain⟨g0,g1,g2,g3,g4,g5,g6⟩:=HLc.out.pp.ps.cells;obtain⟨x0,x1,x2,x3,x4,x5,x6⟩:=HLc.out.cel;have HXR:=Ph HLc.out.rs;obtain⟨y0,y1,y2,y3,y4,y5,y6⟩:=qL HXR.out;obtain⟨f0,f1,f2,f3,f4,f5,f6⟩:=zZ HXR.out;have HF:=Ph (fr7 wr r (uB X.1.kind) (uB X.1.op) (uW X.1.value) (uI X.1.width) (uR X.1.name) (uL S) (uL R));have HK:=Ph (zZ9 (v0:=uB X.1.kind) (v1:=uB X.1.op) (v2:=uW X.1.value) (v3:=uI X.1.width) (v4:=uR X.1.name) (v5:=uL S) (v6:=uL R) HXR.out);go_wp2_with fail
   generalize (World.setCell _ _ _)=WF at HF HK ⊢;obtain⟨r0,r1,r2,r3,r4,r5,r6⟩:=qL HK.out;refine lK (v:=yO X S R) (by rw [zS];simp [results,Tryz.results121,go_sem,r0,r1,r2,r3,r4,r5,r6]) rfl ?_;exact xZ HLc.out.pp h.out HXR.out hrp hwr HF.out HLc.out.nd
  ·have e1:((sc.e:Int) == 0)=true:=by simp;omega
   have HFO:=Ph hfv;obtain⟨k,hk⟩:∃ k,kD o=k:=⟨_,rfl⟩;have HRK:Hid (∀ W,Calls Tryz.prog 145 #[uB o] W fun e w'=>e=.returned (uI k)∧Below W.heap.size W w'):=fun W=>by have:=kF6 o ho W;rw [hk]at this;exact this
   have hk6:k≤6:=by rw [←hk];exact jO3 o
   rw [hk]at hcs;obtain⟨g0,g1,g2,g3,g4,g5,g6⟩:=HLc.out.pp.ps.cells;have ho16:o≤16:=ho;clear h1 hfv hk ho;rcases hcs with⟨hq,rfl,rfl⟩ | ⟨h4,hb,hlt,z,s2,hch,okw,hlk⟩
   ·rcases hq with h4 | ⟨h4,hb⟩ | ⟨h4,hb,hlt⟩
    ·have e2:((tk:Int) != 4)=true:=by simp;omega
     clear h4 htok hle hsn hfw;go_wp2_with fail
     refine HNX.out.mono ?_;rintro e w1 ⟨rfl,hb1⟩;have HL1:=Ph (HLc.out.bel hb1);clear hb1 HNX HLc g0 g1 g2 g3 g4 g5 g6;have hwr':r<w1.heap.size:=HL1.out.rs.lt;have hwp':p<w1.heap.size:=HL1.out.pp.ps.lt;have hwb':b5<w1.heap.size:=HL1.out.bx.lt;have HBn:Hid (Below w1.heap.size w1 (w1.alloc (.cells #[uB tk,uI ta,uI tf] 44))):=zB;have HTB:=Ph (Bk.new w1 44 #[uB tk,uI ta,uI tf]);go_upto_region 4 with fail
     generalize (w1.alloc _)=W2 at HBn HTB ⊢;obtain⟨b6,hb6⟩:∃ b,w1.heap.size=b:=⟨_,rfl⟩;rw [hb6]at HTB ⊢;have hb6p:b6≠p:=Yo;have hb6r:b6≠r:=Yo;have hb6b:b6≠b5:=Yo;clear hb6 hwr' hwp' hwb';have HL2:=Ph (HL1.out.bel HBn.out);clear HL1 HBn;go_wp2_with fail
     refine(qV3 tt true W2).mono ?_;rintro e w3 ⟨rfl,hb⟩;rw [HFO.out];dsimp only;have HL3:=Ph (HL2.out.bel hb);have HT3:=Ph (zD HTB.out hb);clear hb HL2 HTB;go_wp2_with fail
     refine(HRK.out w3).mono ?_;rintro e w4 ⟨rfl,hb⟩;have HL4:=Ph (HL3.out.bel hb);have HT4:=Ph (zD HT3.out hb);clear hb HL3 HT3;obtain⟨t0,t1,t2⟩:=zJ HT4.out;obtain⟨x0,x1,x2,x3,x4,x5,x6⟩:=HL4.out.cel;have HXR:=Ph HL4.out.rs;obtain⟨y0,y1,y2,y3,y4,y5,y6⟩:=qL HXR.out;obtain⟨f0,f1,f2,f3,f4,f5,f6⟩:=zZ HXR.out;have HF:=Ph (fr7 w4 r (uB X.1.kind) (uB X.1.op) (uW X.1.value) (uI X.1.width) (uR X.1.name) (uL S) (uL R));have HK:=Ph (zZ9 (v0:=uB X.1.kind) (v1:=uB X.1.op) (v2:=uW X.1.value) (v3:=uI X.1.width) (v4:=uR X.1.name) (v5:=uL S) (v6:=uL R) HXR.out);go_wp2_with fail
     generalize (World.setCell _ _ _)=WF at HF HK ⊢;obtain⟨r0,r1,r2,r3,r4,r5,r6⟩:=qL HK.out;refine lK (v:=yO X S R) (by rw [zS];simp [results,Tryz.results121,go_sem,r0,r1,r2,r3,r4,r5,r6]) rfl ?_;exact xZ HL4.out.pp h.out HXR.out hrp hwr HF.out HL4.out.nd
    ·have e2:((tk:Int) != 4)=false:=by simp;omega
     subst hb;clear h4 htok hle hsn hfw;go_wp2_with fail
     refine HNX.out.mono ?_;rintro e w1 ⟨rfl,hb1⟩;have HL1:=Ph (HLc.out.bel hb1);clear hb1 HNX HLc g0 g1 g2 g3 g4 g5 g6;have hwr':r<w1.heap.size:=HL1.out.rs.lt;have hwp':p<w1.heap.size:=HL1.out.pp.ps.lt;have hwb':b5<w1.heap.size:=HL1.out.bx.lt;have HBn:Hid (Below w1.heap.size w1 (w1.alloc (.cells #[uB tk,uI ta,uI tf] 44))):=zB;have HTB:=Ph (Bk.new w1 44 #[uB tk,uI ta,uI tf]);go_upto_region 4 with fail
     generalize (w1.alloc _)=W2 at HBn HTB ⊢;obtain⟨b6,hb6⟩:∃ b,w1.heap.size=b:=⟨_,rfl⟩;rw [hb6]at HTB ⊢;have hb6p:b6≠p:=Yo;have hb6r:b6≠r:=Yo;have hb6b:b6≠b5:=Yo;clear hb6 hwr' hwp' hwb';have HL2:=Ph (HL1.out.bel HBn.out);clear HL1 HBn;go_wp2_with fail
     refine(qV3 tt true W2).mono ?_;rintro e w3 ⟨rfl,hb⟩;rw [HFO.out];dsimp only;have HL3:=Ph (HL2.out.bel hb);have HT3:=Ph (zD HTB.out hb);clear hb HL2 HTB;go_wp2_with fail
     refine(HRK.out w3).mono ?_;rintro e w4 ⟨rfl,hb⟩;have HL4:=Ph (HL3.out.bel hb);have HT4:=Ph (zD HT3.out hb);clear hb HL3 HT3;obtain⟨t0,t1,t2⟩:=zJ HT4.out;obtain⟨x0,x1,x2,x3,x4,x5,x6⟩:=HL4.out.cel;have HXR:=Ph HL4.out.rs;obtain⟨y0,y1,y2,y3,y4,y5,y6⟩:=qL HXR.out;obtain⟨f0,f1,f2,f3,f4,f5,f6⟩:=zZ HXR.out;have HF:=Ph (fr7 w4 r (uB X.1.kind) (uB X.1.op) (uW X.1.value) (uI X.1.width) (uR X.1.name) (uL S) (uL R));have HK:=Ph (zZ9 (v0:=uB X.1.kind) (v1:=uB X.1.op) (v2:=uW X.1.value) (v3:=uI X.1.width) (v4:=uR X.1.name) (v5:=uL S) (v6:=uL R) HXR.out);go_wp2_with fail
     generalize (World.setCell _ _ _)=WF at HF HK ⊢;obtain⟨r0,r1,r2,r3,r4,r5,r6⟩:=qL HK.out;refine lK (v:=yO X S R) (by rw [zS];simp [results,Tryz.results121,go_sem,r0,r1,r2,r3,r4,r5,r6]) rfl ?_;exact xZ HL4.out.pp h.out HXR.out hrp hwr HF.out HL4.out.nd
    ·have e2:((tk:Int) != 4)=false:=by simp;omega
     subst hb;have e3:decide ((k:Int)<(rk:Int))=true:=Yp;have e4:(k:Int)<(rk:Int):=Yo;clear h4 hlt htok hle hsn hfw;go_wp2_with fail
     refine HNX.out.mono ?_;rintro e w1 ⟨rfl,hb1⟩;have HL1:=Ph (HLc.out.bel hb1);clear hb1 HNX HLc g0 g1 g2 g3 g4 g5 g6;have hwr':r<w1.heap.size:=HL1.out.rs.lt;have hwp':p<w1.heap.size:=HL1.out.pp.ps.lt;have hwb':b5<w1.heap.size:=HL1.out.bx.lt;have HBn:Hid (Below w1.heap.size w1 (w1.alloc (.cells #[uB tk,uI ta,uI tf] 44))):=zB;have HTB:=Ph (Bk.new w1 44 #[uB tk,uI ta,uI tf]);go_upto_region 4 with fail
     generalize (w1.alloc _)=W2 at HBn HTB ⊢;obtain⟨b6,hb6⟩:∃ b,w1.heap.size=b:=⟨_,rfl⟩;rw [hb6]at HTB ⊢;have hb6p:b6≠p:=Yo;have hb6r:b6≠r:=Yo;have hb6b:b6≠b5:=Yo;clear hb6 hwr' hwp' hwb';have HL2:=Ph (HL1.out.bel HBn.out);clear HL1 HBn;go_wp2_with fail
     refine(qV3 tt true W2).mono ?_;rintro e w3 ⟨rfl,hb⟩;rw [HFO.out];dsimp only;have HL3:=Ph (HL2.out.bel hb);have HT3:=Ph (zD HTB.out hb);clear hb HL2 HTB;go_wp2_with fail
     refine(HRK.out w3).mono ?_;rintro e w4 ⟨rfl,hb⟩;have HL4:=Ph (HL3.out.bel hb);have HT4:=Ph (zD HT3.out hb);clear hb HL3 HT3;obtain⟨t0,t1,t2⟩:=zJ HT4.out;obtain⟨x0,x1,x2,x3,x4,x5,x6⟩:=HL4.out.cel;have HXR:=Ph HL4.out.rs;obtain⟨y0,y1,y2,y3,y4,y5,y6⟩:=qL HXR.out;obtain⟨f0,f1,f2,f3,f4,f5,f6⟩:=zZ HXR.out;have HF:=Ph (fr7 w4 r (uB X.1.kind) (uB X.1.op) (uW X.1.value) (uI X.1.width) (uR X.1.name) (uL S) (uL R));have HK:=Ph (zZ9 (v0:=uB X.1.kind) (v1:=uB X.1.op) (v2:=uW X.1.value) (v3:=uI X.1.width) (v4:=uR X.1.name) (v5:=uL S) (v6:=uL R) HXR.out);go_wp2_with fail
     generalize (World.setCell _ _ _)=WF at HF HK ⊢;obtain⟨r0,r1,r2,r3,r4,r5,r6⟩:=qL HK.out;refine lK (v:=yO X S R) (by rw [zS];simp [results,Tryz.results121,go_sem,r0,r1,r2,r3,r4,r5,r6]) rfl ?_;exact xZ HL4.out.pp h.out HXR.out hrp hwr HF.out HL4.out.nd
   ·have e2:((tk:Int) != 4)=false:=by simp;omega
    subst hb;have e3:decide ((k:Int)<(rk:Int))=false:=Yp;have e4:¬(k:Int)<(rk:Int):=Yo;obtain⟨_,hn1,_⟩:=htok (.inl Yo);have wn:IntKind.i64.wrap ((sc.n:Int)+1)=(sc.n:Int)+1:=by rw [lL];omega
    have wk:IntKind.i64.wrap ((k:Int)+1)=(k:Int)+1:=by rw [lL];omega
    have HOW:=Ph (zM5 okw);have HCH:=Ph hch;have HLK:=Ph hlk;have HN1:=Ph hn1;have HO:=Ph ho16;clear h4 hlt htok hle hsn hfw okw hch hlk hn1 ho16;go_wp2_with fail
    refine HNX.out.mono ?_;rintro e w1 ⟨rfl,hb1⟩;have HL1:=Ph (HLc.out.bel hb1);clear hb1 HNX HLc g0 g1 g2 g3 g4 g5 g6;have hwr':r<w1.heap.size:=HL1.out.rs.lt;have hwp':p<w1.heap.size:=HL1.out.pp.ps.lt;have hwb':b5<w1.heap.size:=HL1.out.bx.lt;have HBn:Hid (Below w1.heap.size w1 (w1.alloc (.cells #[uB tk,uI ta,uI tf] 44))):=zB;have HTB:=Ph (Bk.new w1 44 #[uB tk,uI ta,uI tf]);go_upto_region 4 with fail
    generalize (w1.alloc _)=W2 at HBn HTB ⊢;obtain⟨b6,hb6⟩:∃ b,w1.heap.size=b:=⟨_,rfl⟩;rw [hb6]at HTB ⊢;have hb6p:b6≠p:=Yo;have hb6r:b6≠r:=Yo;have hb6b:b6≠b5:=Yo;clear hb6 hwr' hwp' hwb';have HL2:=Ph (HL1.out.bel HBn.out);clear HL1 HBn;go_wp2_with fail
    refine(qV3 tt true W2).mono ?_;rintro e w3 ⟨rfl,hb⟩;rw [HFO.out];dsimp only;have HL3:=Ph (HL2.out.bel hb);have HT3:=Ph (zD HTB.out hb);clear hb HL2 HTB;go_wp2_with fail
    refine(HRK.out w3).mono ?_;rintro e w4 ⟨rfl,hb⟩;have HL4:=Ph (HL3.out.bel hb);have HT4:=Ph (zD HT3.out hb);clear hb HL3 HT3;obtain⟨t0,t1,t2⟩:=zJ HT4.out;obtain⟨g0,g1,g2,g3,g4,g5,g6⟩:=HL4.out.pp.ps.cells;have gz:=HL4.out.pp.ps.frozens 2;have hd:=HL4.out.pp.ps.setN (sc.n+1) HN1.out;rw [show((sc.n+1:Nat):Int)=(sc.n:Int)+1 by omega]at hd;have HL7:Hid (Lp p E T Q w b5 r y S R (zE sc) _):=Ph (HL4.out.tr hb5p hrp hd);clear hd;go_upto_region 8 with fail
    generalize (World.setCell _ _ _)=W7 at HL7 ⊢;clear g0 g1 g2 g3 g4 g5 g6 gz t0 t1 t2 HL4 HT4;go_wp2_with fail
    refine(HRK.out W7).mono ?_;rintro e w8 ⟨rfl,hb⟩;have HL8:=Ph (HL7.out.bel hb);clear hb HL7;have HCC:Hid (Calls Tryz.prog 121 #[uQ p 0,uI ((k:Int)+1)] w8 (vG w8 p E T Q z s2)):=by have:=(HIH.out gk (Nat.le_of_succ_le HG.out)).chain (k+1) _ _ _ w8 Yo HCH.out (Ph HL8.out.pp.ps);exact Ph this
    go_wp2_with fail
    refine HCC.out.mono ?_;rintro e w9 ⟨S4,R4,rfl,hn,hp⟩;rw [zS];have HL9:=Ph (HL8.out.tr hb5p hrp hp);have HZ9:=Ph hn;have hw9b:b5<w9.heap.size:=HL9.out.bx.lt;have hw9r:r<w9.heap.size:=HL9.out.rs.lt;clear hn hp HL8 HCC HRK;have HBn:Hid (Below w9.heap.size w9 (w9.alloc (.cells #[uB z.1.kind,uB z.1.op,uW z.1.value,uI z.1.width,uR z.1.name,uL S4,uL R4] 168))):=zB;have HBZ:=Ph (Bk.new w9 168 #[uB z.1.kind,uB z.1.op,uW z.1.value,uI z.1.width,uR z.1.name,uL S4,uL R4]);go_upto_region 9 with fail
    generalize (w9.alloc _)=v at HBn HBZ ⊢;obtain⟨b11,hb⟩:∃ b,w9.heap.size=b:=⟨_,rfl⟩;rw [hb]at HBZ ⊢;have hb11b:b11≠b5:=Yo;clear hb hw9b hw9r;have HLV:Hid (Lq p E T Q w b5 r b11 y S R z S4 R4 s2 v):=Ph ⟨HL9.out.bel HBn.out,HBZ.out,HZ9.out.below HBn.out⟩;clear HL9 HZ9 HBn HBZ;have HL0:=Ph (HLV.out.bel (lB _ _).drew);have HLA:Hid (∀ o:Obj,Lq p E T Q w b5 r b11 y S R z S4 R4 s2 (v.alloc o).drew):=fun o=>(HLV.out.bel zB).bel (lB _ _).drew;obtain⟨Y,hY⟩:∃ Y,qI 6 o 0 0 [] (yK y) [y,z]=Y:=⟨_,rfl⟩;have HYE:=Ph hY;rw [hY]at HLK;clear hY;have HRN:Hid (∀ V:World,Lq p E T Q w b5 r b11 y S R z S4 R4 s2 V→NdsAt T.base (V.alloc (.cells #[uB y.1.kind,uB y.1.op,uW y.1.value,uI y.1.width,uR y.1.name,uL S,uL R,uB z.1.kind,uB z.1.op,uW z.1.value,uI z.1.width,uR z.1.name,uL S4,uL R4] 168)) (some ⟨V.heap.size,0,none⟩) 2 [(y,S,R),(z,S4,R4)]):=fun V hV=>zG9 (W:=V) [(y,S,R),(z,S4,R4)] (fun q hq=>by
     rcases lU.1 hq with rfl | hq
     ·exact hV.lp.nd
     ·rw [cQ.1 hq];exact hV.nz)
    have HHE:Hid (∀ V:World,Lq p E T Q w b5 r b11 y S R z S4 R4 s2 V→Calls Tryz.prog 124 #[.agg #[uB y.1.kind,uB y.1.op,uW y.1.value,uI y.1.width,uR y.1.name,uL S,uL R]] V fun e w'=>e=.returned (uI (yK y:Int))∧Below V.heap.size V w'):=fun V hV=>qL2 V V hV.lp.nd (lB _ _);have HWH:Hid (∀ (V:World) (g:Nat),Lq p E T Q w b5 r b11 y S R z S4 R4 s2 V→NdsAt T.base V (some ⟨g,0,none⟩) 2 [(y,S,R),(z,S4,R4)]→Calls Tryz.prog 123 #[.agg #[uB 6,uB o,uW 0,uI 0,uT,uN],uI (yK y:Int),.slice (some ⟨g,0,none⟩) 2 2] V fun e w'=>∃ S0 R0,e=.returned (yO Y S0 R0)∧NdAt T.base w' Y S0 R0∧Below V.heap.size V w'):=fun V g hV hg=>by
     have hlen:(kL 0 [(y,S,R),(z,S4,R4)]).length≤100000000:=by
      have h1:=HOW.out;have h2:(kL 0 ([(y,S,R),(z,S4,R4)]:List NdV)).length=1+(([y,z]:List Nd).flatMap (·.2)).length:=by unfold kL;simp;omega
      omega
     have hh:=qA1 hV.lp.nd;have ho:=HO.out;rw [←HYE.out];exact zS3 6 o 0 0 [] (yK y) (some ⟨g,0,none⟩) 2 2 [(y,S,R),(z,S4,R4)] V (Ph hg) Yo hlen Yo Yo Yo Yo Yo Yo Ym
    obtain⟨x0,x1,x2,x3,x4,x5,x6⟩:=HL0.out.lp.cel;obtain⟨z0,z1,z2,z3,z4,z5,z6⟩:=HL0.out.cez;have xa:=fun o=>(HLA.out o).lp.cel;have za:=fun o=>(HLA.out o).cez;have xb:=HLV.out.lp.cal;have zb:=HLV.out.caz
    go_region_law (go_simp;(first
     | (go_at_call 124
        with_reducible refine(HHE.out _ HL0.out).mono ?_
        rintro e v2 ⟨rfl,hb⟩;have HL2:=Ph (HL0.out.bel hb);clear hb x0 x1 x2 x3 x4 x5 x6 z0 z1 z2 z3 z4 z5 z6 xa za xb zb;obtain⟨x0,x1,x2,x3,x4,x5,x6⟩:=HL2.out.lp.cel;obtain⟨z0,z1,z2,z3,z4,z5,z6⟩:=HL2.out.cez;have xa:=HL2.out.lp.cal;have za:=HL2.out.caz)
     | (go_at_call 124
        with_reducible refine(HHE.out _ (HLA.out _)).mono ?_
        rintro e v2 ⟨rfl,hb⟩;have HL2:=Ph ((HLA.out _).bel hb);have HR:Hid (NdsAt T.base v2 (some ⟨v.heap.size,0,none⟩) 2 [(y,S,R),(z,S4,R4)]):=Ph (((HRN.out v HLV.out).below (lB _ _).drew).below hb);clear hb x0 x1 x2 x3 x4 x5 x6 z0 z1 z2 z3 z4 z5 z6 xa za xb zb;obtain⟨x0,x1,x2,x3,x4,x5,x6⟩:=HL2.out.lp.cel;obtain⟨z0,z1,z2,z3,z4,z5,z6⟩:=HL2.out.cez;have xa:=HL2.out.lp.cal;have za:=HL2.out.caz)
     | (go_at_call 123
        with_reducible refine(HWH.out _ _ HL2.out HR.out).mono ?_
        rintro e v7 ⟨S0,R0,rfl,hn7,hb7⟩;rw [zS];have HL7:=Ph (HL2.out.bel hb7);have HN7:=Ph hn7;clear hn7 hb7 x0 x1 x2 x3 x4 x5 x6 z0 z1 z2 z3 z4 z5 z6 xa za;obtain⟨x0,x1,x2,x3,x4,x5,x6⟩:=HL7.out.lp.cel;obtain⟨f0,f1,f2,f3,f4,f5,f6⟩:=zZ HL7.out.lp.bx)
     | (go_at_call 123
        with_reducible refine(HWH.out _ _ (HL2.out.bel zB) (HRN.out _ HL2.out)).mono ?_
        rintro e v7 ⟨S0,R0,rfl,hn7,hb7⟩;rw [zS];have HL7:=Ph ((HL2.out.bel zB).bel hb7);have HN7:=Ph hn7;clear hn7 hb7 x0 x1 x2 x3 x4 x5 x6 z0 z1 z2 z3 z4 z5 z6 xa za;obtain⟨x0,x1,x2,x3,x4,x5,x6⟩:=HL7.out.lp.cel;obtain⟨f0,f1,f2,f3,f4,f5,f6⟩:=zZ HL7.out.lp.bx)))
    all_goals
     have HF:=Ph (fr7 v7 b5 (uB Y.1.kind) (uB Y.1.op) (uW Y.1.value) (uI Y.1.width) (uR Y.1.name) (uL S0) (uL R0));have HK:=Ph (zZ9 (v0:=uB Y.1.kind) (v1:=uB Y.1.op) (v2:=uW Y.1.value) (v3:=uI Y.1.width) (v4:=uR Y.1.name) (v5:=uL S0) (v6:=uL R0) HL7.out.lp.bx);clear x0 x1 x2 x3 x4 x5 x6 f0 f1 f2 f3 f4 f5 f6;generalize (World.setCell _ _ _)=WF at HF HK ⊢;go_wp2_with fail
     go_roundg gk
     case measure=>exact Nat.lt_succ_self _
     case rel=>exact⟨Y,S0,R0,s2,Ph (Nat.le_of_succ_le HG.out),HLK,Ph ⟨HL7.out.lp.pp.fin h.out HL7.out.lp.bx hb5p hwb5 HF.out,HK.out,HL7.out.lp.rs.fr HF.out hrb5,HN7.out.box HL7.out.lp.bx HF.out⟩⟩
end
end
section
open Go.RowKit Go.PlainAid
section
variable {p:Nat} {E:Env} {T:TV} {Q:SV}
theorem jY3:Sp p E T Q 0 where
 choice:=fun s x s' w hx _=>by unfold zM at hx;cases hx
 chain:=fun r s x s' w _ hx _=>by unfold qN at hx;cases hx
 operand:=fun s x s' w hx _=>by unfold zR at hx;cases hx
 basis:=fun s x s' w hx _=>by unfold qJ at hx;cases hx
 within:=fun s a b x s' w hx _=>by unfold zX at hx;cases hx
theorem jT4:∀ f,∀ g,g≤f→Sp p E T Q g
 | 0,g,hg=>by have:g=0:=Yo;subst this;exact jY3
 | f+1,g,hg=>by
   have IH:=jT4 f;by_cases h:g≤f
   ·exact IH g h
   ·have:g=f+1:=by omega
    subst this
    exact
     { choice:=fun s x s' w hx h=>qL4 (IH f (lF _)) s x s' w hx h
       chain:=fun r s x s' w hr hx h=>qV9 IH r s x s' w hr hx h
       operand:=fun s x s' w hx h=>qF1 IH s x s' w hx h
       basis:=fun s x s' w hx h=>qV5 (IH f (lF _)) s x s' w hx h
       within:=fun s a b x s' w hx h=>qL1 (IH f (lF _)) s a b x s' w hx h }
theorem sp (f:Nat):Sp p E T Q f:=jT4 f f (lF _)
end
end
section
open Go.RowKit Go.PlainAid
section
variable {p:Nat} {E:Env} {T:TV} {Q:SV}
theorem Ps.setAt {w:World} {s:PSt} (h:Ps w p E T Q s) (Q':SV):Ps (w.setCell ⟨p,4,none⟩ (.slice Q'.A Q'.n Q'.c)) p E T Q' s∧Fr (fun k=>k=p) w (w.setCell ⟨p,4,none⟩ (.slice Q'.A Q'.n Q'.c)):=by have hf:Fr (fun k=>k=p) w (w.setCell ⟨p,4,none⟩ (uL Q')):=(Fr.refl (fun k=>k=p) w).setCell (p:=⟨p,4,none⟩) (.inl rfl) _;exact⟨⟨h.bk.put 4 _,h.rd.keeps (h.keeps hf Yd),h.ok,h.n,h.vr.fr hf h.g0 h.g1,h.g0,h.g1,lE h.base hf.size⟩,hf⟩
theorem Ps.rebase {w:World} {s:PSt} {A:Option Addr} {n c b0 B:Nat} (h:Ps w p E ⟨A,n,c,b0⟩ Q s) (hB:B≤w.heap.size):Ps w p E ⟨A,n,c,B⟩ Q s:=⟨h.bk,h.rd,h.ok,h.n,h.vr,h.g0,h.g1,hB⟩
theorem Ps.box {w w':World} {s:PSt} {r:Nat} {t:TypeId} {cs:Array Value} (h:Ps w p E T Q s) (hr:Bk w r t cs) (ht:t≠44) (hrp:p≠r) (l0:0≠r) (l1:3≠r) (hf:Fr (fun k=>k=r) w w'):Ps w' p E T Q s:=⟨h.bk.fr hf hrp,h.rd.keeps (Keeps.box hf hr ht),h.ok,h.n,h.vr.fr hf l0 l1,h.g0,h.g1,lE h.base hf.size⟩
theorem zH {w:World} {g:Nat} {t:TypeId} {u0 u1 u2 u3 u4 u5:Value} (h:Bk w g t #[u0,u1,u2,u3,u4,u5]):w.cell? ⟨g,0,none⟩=some u0∧w.cell? ⟨g,1,none⟩=some u1∧w.cell? ⟨g,2,none⟩=some u2∧w.cell? ⟨g,3,none⟩=some u3∧w.cell? ⟨g,4,none⟩=some u4∧w.cell? ⟨g,5,none⟩=some u5:=⟨h.cell 0,h.cell 1,h.cell 2,h.cell 3,h.cell 4,h.cell 5⟩
theorem fr6 (w:World) (g:Nat) (v0 v1 v2 v3 v4 v5:Value):Fr (fun k=>k=g) w ((((((w.setCell ⟨g,0,none⟩ v0).setCell ⟨g,1,none⟩ v1).setCell ⟨g,2,none⟩ v2).setCell ⟨g,3,none⟩ v3).setCell ⟨g,4,none⟩ v4).setCell ⟨g,5,none⟩ v5):=(((((((Fr.refl (fun k=>k=g) w).setCell (p:=⟨g,0,none⟩) (.inl rfl) v0).setCell (p:=⟨g,1,none⟩) (.inl rfl) v1).setCell (p:=⟨g,2,none⟩) (.inl rfl) v2).setCell (p:=⟨g,3,none⟩) (.inl rfl) v3).setCell (p:=⟨g,4,none⟩) (.inl rfl) v4).setCell (p:=⟨g,5,none⟩) (.inl rfl) v5)
theorem put6 {w:World} {g:Nat} {t:TypeId} {u0 u1 u2 u3 u4 u5 v0 v1 v2 v3 v4 v5:Value} (h:Bk w g t #[u0,u1,u2,u3,u4,u5]):Bk ((((((w.setCell ⟨g,0,none⟩ v0).setCell ⟨g,1,none⟩ v1).setCell ⟨g,2,none⟩ v2).setCell ⟨g,3,none⟩ v3).setCell ⟨g,4,none⟩ v4).setCell ⟨g,5,none⟩ v5) g t #[v0,v1,v2,v3,v4,v5]:=by have h7:=(((((h.put 0 v0).put 1 v1).put 2 v2).put 3 v3).put 4 v4).put 5 v5;simp only [List.setIfInBounds_toArray,List.set_cons_succ,List.set_cons_zero]at h7;exact h7
theorem jY4 (f:Nat) (s:PSt) (X:Nd) (s':PSt) (w:World) (hx:zM E f s=some (X,s')) (h:Hid (Ps w p E T ⟨none,0,0⟩ s)) :
 Calls Tryz.prog 54 #[uQ p 0] w fun e w'=>∃ S Q',e=.returned (.agg (qX X.1 S).toArray)∧TrT w.heap.size w' X.1 S∧Ps w' p E T Q' s'∧Fr (fun k=>k=p) w w':=by
 obtain⟨TA,Tn,Tc,T0⟩:=T;obtain⟨hl0,hl1⟩:=h.out.vr.lt;have HC:=Ph hx;have hpl:p<w.heap.size:=h.out.lt;have HB0:Hid (Below w.heap.size w (w.alloc (.cells uZ 31))):=zB;have HX0:=Ph (Bk.new w 31 uZ);clear hx;go_enter Tryz.func54,Tryz.ntmps54
 go_upto_region 1 with fail
 have hW:(w.alloc (.cells uZ 31)).heap.size=w.heap.size+1:=Ym;generalize (w.alloc _)=W at HB0 HX0 hW ⊢;obtain⟨r,hr⟩:∃ r,w.heap.size=r:=⟨_,rfl⟩;rw [hr]at HX0 hW ⊢;have hrp:r≠p:=Yo;have hwr:w.heap.size≤r:=Yo;have hr0:0≠r:=Yo;have hr1:3≠r:=Yo;have HPW:=Ph (PP.below (h.out.below HB0.out |>.rebase (B:=r+1) Yo) (lB _ _));have HT0:Hid (T0≤w.heap.size):=Ph h.out.base;clear hr hpl hW hl0 hl1;go_wp2_with fail
 refine((sp f).choice _ _ _ W HC.out (Ph HPW.out.ps)).mono ?_;rintro e w5 ⟨S,R,rfl,hn,hp⟩;rw [zS];have HP5:=Ph (HPW.out.trans hp);have HX5:=Ph (hp.bk HX0.out hrp);have HN5:=Ph hn;clear hp hn HPW HX0;have hw5r:r<w5.heap.size:=HX5.out.lt;have hw5p:p<w5.heap.size:=HP5.out.ps.lt;have HBn:Hid (Below w5.heap.size w5 (w5.alloc (.cells #[uB X.1.kind,uB X.1.op,uW X.1.value,uI X.1.width,uR X.1.name,uL S,uL R] 168))):=zB;have HY6:=Ph (Bk.new w5 168 #[uB X.1.kind,uB X.1.op,uW X.1.value,uI X.1.width,uR X.1.name,uL S,uL R]);go_upto_region 2 with fail
 generalize (w5.alloc _)=v at HBn HY6 ⊢;obtain⟨b3,hb⟩:∃ b,w5.heap.size=b:=⟨_,rfl⟩;rw [hb]at HY6 ⊢;have hb3p:b3≠p:=Yo;have hb3r:b3≠r:=Yo;clear hb hw5r hw5p;have HL:=Ph ((HP5.out.then HBn.out).then (lB _ _).drew);have HX:=Ph (zD (zD HX5.out HBn.out) (lB _ _).drew);have HN:=Ph ((HN5.out.below HBn.out).below (lB _ _).drew);have HY:=Ph (zD HY6.out (lB _ _).drew);clear HP5 HX5 HN5 HBn HY6;obtain⟨g0,g1,g2,g3,g4,g5,g6⟩:=HL.out.ps.cells;obtain⟨x0,x1,x2,x3,x4,x5,x6⟩:=qL HY.out;have HRd:Hid (Rd v.drew R.A (yV X.2)):=Ph HN.out.a.rd.rd;have HRl:Hid ((yV X.2).length=R.n*1):=Ph (by have:=HN.out.a.len;unfold yV;rw [lW];omega);have HRs:Hid (0+R.n≤1000000000):=Ph (by have:=HN.out.a.small;omega);have HBs:Hid (v.heap.size≤v.drew.heap.size):=Ph (lF _)
 go_region_law (first
  | (refine zZ2 jN5 rfl (.tmp 10) (.tmp 12) rfl v.heap.size (uN) 0 [] rfl (World.ownsRow_nil _ _ _ _) R.A R.n R.c (yV X.2) rfl HRd.out HRl.out (zS2 _) HRs.out HBs.out ?_
     intro A3 c3 w4 ho4 hg4 hat4;have HB4:Hid (Below v.drew.heap.size v.drew w4):=Ph ((lB _ v.drew).grown hg4 (lF _) (fun q hq=>by simp [Value.ownBlock]at hq));have HL4:=Ph (HL.out.then HB4.out);have HX4:=Ph (zD HX.out HB4.out);have HY4:=Ph (zD HY.out HB4.out);have HN4:=Ph (HN.out.below HB4.out);clear ho4 hg4 hat4 g0 g1 g2 g3 g4 g5 g6 x0 x1 x2 x3 x4 x5 x6;obtain⟨g0,g1,g2,g3,g4,g5,g6⟩:=HL4.out.ps.cells;have gz:=HL4.out.ps.frozens 4))
 all_goals
  obtain⟨hs1,hs2⟩:=HL4.out.ps.setAt ⟨A3,R.n,c3⟩;have HS1:=Ph hs1;have HS2:=Ph hs2;clear hs1 hs2;(try dsimp only at HS1 HS2);generalize (World.setCell _ _ _)=W7 at HS1 HS2 ⊢;have HFW:=Ph (HL4.out.fr.trans HS2.out);have HX7:=Ph (HX4.out.fr HS2.out hrp);have HY7:=Ph (HY4.out.fr HS2.out hb3p);have HN7:=Ph (HL4.out.ps.nd HS2.out HN4.out);clear g0 g1 g2 g3 g4 g5 g6 gz HS2;obtain⟨x0,x1,x2,x3,x4,x5,x6⟩:=qL HY7.out;obtain⟨y0,y1,y2,y3,y4,y5⟩:=zH HX7.out;obtain⟨f0,f1,f2,f3,f4,f5,_⟩:=zZ HX7.out;have HF:=Ph (fr6 W7 r (uB X.1.kind) (uB X.1.op) (uW X.1.value) (uI X.1.width) (uR X.1.name) (uL S));have HK:=Ph (put6 (v0:=uB X.1.kind) (v1:=uB X.1.op) (v2:=uW X.1.value) (v3:=uI X.1.width) (v4:=uR X.1.name) (v5:=uL S) HX7.out);go_wp2_with fail
  generalize (World.setCell _ _ _)=WF at HF HK ⊢;obtain⟨r0,r1,r2,r3,r4,r5⟩:=zH HK.out;refine lK (v:=.agg (qX X.1 S).toArray) (by simp [results,Tryz.results54,go_sem,r0,r1,r2,r3,r4,r5,qX]) rfl ?_;have hS:=HS1.out.box HX7.out Yd (cX hrp) hr0 hr1 HF.out;have hF:Fr (fun k=>k=p) w WF:=((Fr.of_below HB0.out).trans HFW.out).then HF.out (fun i hi e=>Yo);refine⟨S,⟨A3,R.n,c3⟩,rfl,(HN7.out.t.far HF.out (Nat.lt_succ_self r)).less (by show w.heap.size≤r+1;omega),hS.rebase (lE HT0.out hF.size),hF⟩
end
end
section
open Go.RowKit Go.PlainAid
section
variable {p:Nat} {E:Env} {T:TV} {Q:SV}
abbrev AtO (B:Nat) (w:World) (Q:SV) (l:List Nat):Prop:=w.ownsRow B 3 1 (.slice Q.A Q.n Q.c) Q.n (yV l)
def FrA (p:Nat) (Q:SV) (k:Nat):Prop:=k=p∨(Value.slice Q.A Q.n Q.c).ownBlock=some k
theorem AtO.np {B:Nat} {w:World} {Q Q':SV} {l:List Nat} {s:PSt} (h:AtO B w Q l) (hp:Ps w p E T Q' s):(Value.slice Q.A Q.n Q.c).ownBlock≠some p:=fun e=>yR h hp.bk Yd e.symm
theorem AtO.fr {B:Nat} {w w':World} {Q Q':SV} {l:List Nat} {s:PSt} (h:AtO B w Q l) (hp:Ps w p E T Q' s) (hf:Fr (fun k=>k=p) w w'):AtO B w' Q l:=jP h hf (fun k hk e=>h.np hp (e▸hk))
theorem Ps.grown {B:Nat} {w w':World} {Q':SV} {l:List Nat} {s:PSt} (h:Ps w p E T Q' s) (ho:AtO B w Q l) (h0:0<B) (h1:3<B) (hg:w.grownBy w' (Value.slice Q.A Q.n Q.c).ownBlock):Ps w' p E T Q' s:=by have hf:Fr (fun k=>(uL Q).ownBlock=some k) w w':=(Fr.refl _ w).grown hg (fun k hk=>.inl hk);have hlo:∀ k,(uL Q).ownBlock=some k→B≤k:=fun k hk=>(qF ho k hk).1;exact⟨h.bk.fr hf (ho.np h),h.rd.keeps (Keeps.grown ho Yd hg),h.ok,h.n,h.vr.fr hf (fun e=>by have:=hlo _ e;omega) (fun e=>by have:=hlo _ e;omega),h.g0,h.g1,lE h.base hf.size⟩
theorem kF8 (B:Nat) (l:List Nat) (f:Nat) (s:PSt) (X:Nd) (s':PSt) (w:World) (hx:zM E f s=some (X,s')) (h:Hid (Ps w p E T Q s)) (ho:Hid (AtO B w Q l)) (h0:0<B) (h1:3<B) (hBw:B≤w.heap.size) (hl:Q.n≤900000000) :
 Calls Tryz.prog 54 #[uQ p 0] w fun e w'=>∃ S Q',e=.returned (.agg (qX X.1 S).toArray)∧TrT w.heap.size w' X.1 S∧Ps w' p E T Q' s'∧AtO B w' Q' (l++X.2)∧Fr (FrA p Q) w w'∧Q'.n=Q.n+X.2.length:=by
 obtain⟨TA,Tn,Tc,T0⟩:=T;obtain⟨QA,Qn,Qc⟩:=Q;obtain⟨hl0,hl1⟩:=h.out.vr.lt;have HC:=Ph hx;have hpl:p<w.heap.size:=h.out.lt;have HB0:Hid (Below w.heap.size w (w.alloc (.cells uZ 31))):=zB;have HX0:=Ph (Bk.new w 31 uZ);clear hx;go_enter Tryz.func54,Tryz.ntmps54
 go_upto_region 1 with fail
 have hW:(w.alloc (.cells uZ 31)).heap.size=w.heap.size+1:=Ym;generalize (w.alloc _)=W at HB0 HX0 hW ⊢;obtain⟨r,hr⟩:∃ r,w.heap.size=r:=⟨_,rfl⟩;rw [hr]at HX0 hW ⊢;have hrp:r≠p:=Yo;have hwr:w.heap.size≤r:=Yo;have hr0:0≠r:=Yo;have hr1:3≠r:=Yo;have HPW:=Ph (PP.below (h.out.below HB0.out |>.rebase (B:=r+1) Yo) (lB _ _));have HT0:Hid (T0≤w.heap.size):=Ph h.out.base;clear hr hpl hW hl0 hl1;go_wp2_with fail
 refine((sp f).choice _ _ _ W HC.out (Ph HPW.out.ps)).mono ?_;rintro e w5 ⟨S,R,rfl,hn,hp⟩;rw [zS];have HP5:=Ph (HPW.out.trans hp);have HX5:=Ph (hp.bk HX0.out hrp);have HN5:=Ph hn;clear hp hn HPW HX0;have hw5r:r<w5.heap.size:=HX5.out.lt;have hw5p:p<w5.heap.size:=HP5.out.ps.lt;have HBn:Hid (Below w5.heap.size w5 (w5.alloc (.cells #[uB X.1.kind,uB X.1.op,uW X.1.value,uI X.1.width,uR X.1.name,uL S,uL R] 168))):=zB;have HY6:=Ph (Bk.new w5 168 #[uB X.1.kind,uB X.1.op,uW X.1.value,uI X.1.width,uR X.1.name,uL S,uL R]);go_upto_region 2 with fail
 generalize (w5.alloc _)=v at HBn HY6 ⊢;obtain⟨b3,hb⟩:∃ b,w5.heap.size=b:=⟨_,rfl⟩;rw [hb]at HY6 ⊢;have hb3p:b3≠p:=Yo;have hb3r:b3≠r:=Yo;clear hb hw5r hw5p;have HL:=Ph ((HP5.out.then HBn.out).then (lB _ _).drew);have HX:=Ph (zD (zD HX5.out HBn.out) (lB _ _).drew);have HN:=Ph ((HN5.out.below HBn.out).below (lB _ _).drew);have HY:=Ph (zD HY6.out (lB _ _).drew);clear HP5 HX5 HN5 HBn HY6;obtain⟨g0,g1,g2,g3,g4,g5,g6⟩:=HL.out.ps.cells;obtain⟨x0,x1,x2,x3,x4,x5,x6⟩:=qL HY.out;have HRd:Hid (Rd v.drew R.A (yV X.2)):=Ph HN.out.a.rd.rd;have HRl:Hid ((yV X.2).length=R.n*1):=Ph (by have:=HN.out.a.len;unfold yV;rw [lW];omega);have HRs:Hid (Qn+R.n≤1000000000):=Ph (by have:=HN.out.a.small;omega);have HOv:Hid (AtO B v.drew ⟨QA,Qn,Qc⟩ l):=Ph (ho.out.fr h.out ((Fr.of_below HB0.out).trans HL.out.fr));have HBs:Hid (B≤v.drew.heap.size):=Ph (lE hBw (lE HB0.out.size HL.out.fr.size))
 go_region_law (first
  | (refine zZ2 jN5 rfl (.tmp 10) (.tmp 12) rfl B (.slice QA Qn Qc) Qn (yV l) rfl HOv.out R.A R.n R.c (yV X.2) rfl HRd.out HRl.out (zS2 _) HRs.out HBs.out ?_
     intro A3 c3 w4 ho4 hg4 hat4;have HO4:=Ph ho4;have HF4:=Ph (show Fr (fun k=>(Value.slice QA Qn Qc).ownBlock=some k) v.drew w4 from(Fr.refl _ _).grown hg4 (fun k hk=>.inl hk));have HPS4:=Ph (HL.out.ps.grown HOv.out h0 h1 hg4);have HX4:=Ph (HX.out.grown hg4 (yR HOv.out HX.out Yd));have HY4:=Ph (HY.out.grown hg4 (yR HOv.out HY.out Yd));have HT4:=Ph (HN.out.t.keeps (Keeps.grown HOv.out Yd hg4));clear ho4 hg4 hat4 g0 g1 g2 g3 g4 g5 g6 x0 x1 x2 x3 x4 x5 x6;obtain⟨g0,g1,g2,g3,g4,g5,g6⟩:=HPS4.out.cells;have gz:=HPS4.out.frozens 4))
 all_goals
  obtain⟨hs1,hs2⟩:=HPS4.out.setAt ⟨A3,Qn+R.n,c3⟩;have HS1:=Ph hs1;have HS2:=Ph hs2;clear hs1 hs2;(try dsimp only at HS1 HS2);generalize (World.setCell _ _ _)=W7 at HS1 HS2 ⊢;have HX7:=Ph (HX4.out.fr HS2.out hrp);have HY7:=Ph (HY4.out.fr HS2.out hb3p);have HT7:=Ph (HT4.out.keeps (HPS4.out.keeps HS2.out Yd));have HO7:Hid (AtO B W7 ⟨A3,Qn+R.n,c3⟩ (l++X.2)):=Ph (AtO.fr (Q:=⟨A3,Qn+R.n,c3⟩) (by show World.ownsRow _ _ _ _ _ _ _;rw [zR9];exact HO4.out) HPS4.out HS2.out);have HFW:Hid (Fr (FrA p ⟨QA,Qn,Qc⟩) w W7):=Ph (((Fr.of_below HB0.out).trans (Fr.mono HL.out.fr (fun _ _ h=>.inl h))).trans ((Fr.mono HF4.out (fun _ _ h=>.inr h)).trans (Fr.mono HS2.out (fun _ _ h=>.inl h))));clear g0 g1 g2 g3 g4 g5 g6 gz HS2;obtain⟨x0,x1,x2,x3,x4,x5,x6⟩:=qL HY7.out;obtain⟨y0,y1,y2,y3,y4,y5⟩:=zH HX7.out;obtain⟨f0,f1,f2,f3,f4,f5,_⟩:=zZ HX7.out;have HF:=Ph (fr6 W7 r (uB X.1.kind) (uB X.1.op) (uW X.1.value) (uI X.1.width) (uR X.1.name) (uL S));have HK:=Ph (put6 (v0:=uB X.1.kind) (v1:=uB X.1.op) (v2:=uW X.1.value) (v3:=uI X.1.width) (v4:=uR X.1.name) (v5:=uL S) HX7.out);go_wp2_with fail
  generalize (World.setCell _ _ _)=WF at HF HK ⊢;obtain⟨r0,r1,r2,r3,r4,r5⟩:=zH HK.out;refine lK (v:=.agg (qX X.1 S).toArray) (by simp [results,Tryz.results54,go_sem,r0,r1,r2,r3,r4,r5,qX]) rfl ?_;have hS:=HS1.out.box HX7.out Yd (cX hrp) hr0 hr1 HF.out;have hF:Fr (FrA p ⟨QA,Qn,Qc⟩) w WF:=HFW.out.then HF.out (fun i hi e=>Yo);have hO:AtO B WF ⟨A3,Qn+R.n,c3⟩ (l++X.2):=jP HO7.out HF.out (fun k hk e=>yR HO7.out HX7.out Yd (by rw [hk,e]));refine⟨S,⟨A3,Qn+R.n,c3⟩,rfl,(HT7.out.far HF.out (Nat.lt_succ_self r)).less (by show w.heap.size≤r+1;omega),hS.rebase (lE HT0.out hF.size),hO,hF,?_⟩;show Qn+R.n=Qn+X.2.length;rw [←HN.out.a.len]
end
end
section
open Go.RowKit
theorem kF9 (t:List UInt8):∀ f a,a≤t.length→(∀ y∈ylT t f a,y.1≠0→y.1≤4∧y.2.1<y.2.2.1∧y.2.2.1≤t.length)∧((ylT t f a).filter fun y=>decide (y.1≠0)).length+a≤t.length
 | 0,a,h=>⟨fun y hy=>by simp [ylT]at hy,by simp [ylT];exact h⟩
 | f+1,a,h=>by
   obtain⟨h1,h2,h3,h4,h5⟩:=qO8 t a h;unfold ylT;by_cases hk:(kZ t a).1=0
   ·rw [lM hk];refine⟨fun y hy hy0=>?_,?_⟩
    ·rw [cQ.1 hy]at hy0;exact absurd hk hy0
    ·rw [List.filter_cons_of_neg (by simp [hk])];simpa using h
   ·obtain⟨h6,h7⟩:=h4 hk;obtain⟨i1,i2⟩:=kF9 t f _ h7;rw [lN hk];refine⟨fun y hy hy0=>?_,?_⟩
    ·rcases lU.1 hy with rfl | hy
     ·exact⟨h3,h6,h7⟩
     ·exact i1 y hy hy0
    ·rw [List.filter_cons_of_pos (by simp [hk]),Yc];omega
theorem qP8 (t:List UInt8) (h:t.length≤65536):kE3 ⟨t,zY t (kG t)⟩ (zY t (kG t)).length:=by
 obtain⟨h1,h2⟩:=kF9 t (t.length+2) 0 (lV _);refine⟨rfl,h,?_,fun i tk hi=>?_⟩
 ·show((((kG t).filter fun y=>decide (y.1≠0)).map (tkY t)).length≤65536);rw [lW];unfold kG;omega
 ·obtain⟨y,hy,rfl⟩:=List.mem_map.1 (cD hi);obtain⟨hy1,hy2⟩:=List.mem_filter.1 hy;have hy2:=cM hy2;obtain⟨h3,h4,h5⟩:=h1 y hy1 hy2;exact⟨Nat.pos_of_ne_zero hy2,h3,h4,h5,rfl⟩
mutual
def zQ5:Ex→Nat
 | .mk _ _ _ _ n l=>1+n.length+vV l
def vV:List Ex→Nat
 | []=>0
 | x :: l=>zQ5 x+vV l
end
theorem zS4 (x:Ex):zQ5 x=1+x.name.length+vV x.subs:=by cases x;simp only [zQ5,Ex.name,Ex.subs]
theorem qF2 (l m:List Ex):vV (l++m)=vV l+vV m:=by
 induction l with
 | nil=>simp [vV]
 | cons x l ih=>rw [lR,vV,vV,ih,Nat.add_assoc]
theorem zX7 (l:List Ex) (i:Nat) (y:Ex) (h:l[i]?=some y):vV (l.take (i+1))=vV (l.take i)+zQ5 y:=by rw [zI1 h,qF2];simp [vV]
theorem qA2 (l:List Ex) (i:Nat):vV (l.take i)≤vV l:=by
 have h:vV l=vV (l.take i)+vV (l.drop i):=by rw [←qF2,List.take_append_drop]
 omega
theorem qA3 {x y:Ex} {i:Nat} (h:x.subs[i]?=some y):zQ5 y<zQ5 x:=by have h1:=zX7 _ _ _ h;have h2:=qA2 x.subs (i+1);have h3:=zS4 x;omega
end
section
open Go.RowKit
inductive TreeP (P:Nat→Prop) (c:Ex→SV→List Value) (t:TypeId) (w:World):Ex→SV→Prop where
 | mk (x:Ex) (S:SV) (vs:List SV) (ok:zX3 x) (hl:vs.length=x.subs.length) (hn:S.n=x.subs.length) (hP:∀ b off,S.A=some ⟨b,off,none⟩→P b) (rd:RdT w S.A t ((x.subs.zip vs).flatMap fun p=>c p.1 p.2))
    (all:∀ (i:Nat) (y:Ex) (v:SV),x.subs[i]?=some y→vs[i]?=some v→TreeP P c t w y v):TreeP P c t w x S
section
variable {P P':Nat→Prop} {B:Nat} {c:Ex→SV→List Value} {t:TypeId} {w w':World} {x:Ex} {S:SV}
theorem TreeAt.toP (h:TreeAt B c t w x S):TreeP (fun b=>B≤b) c t w x S:=by
 induction h with
 | mk x S vs ok hl hn hB rd all ih=>exact .mk x S vs ok hl hn hB rd ih
theorem TreeP.mono (h:TreeP P c t w x S) (hp:∀ b,b<w.heap.size→P b→P' b):TreeP P' c t w x S:=by
 induction h with
 | mk x S vs ok hl hn hP rd all ih =>
   refine .mk x S vs ok hl hn (fun b off e=>?_) rd ih;obtain⟨cs,fr,hb⟩:=rd.ty b off e;exact hp b (zO hb) (hP b off e)
theorem TreeP.toAt (h:TreeP P c t w x S) (hp:∀ b,P b→B≤b):TreeAt B c t w x S:=by
 induction h with
 | mk x S vs ok hl hn hP rd all ih=>exact .mk x S vs ok hl hn (fun b off e=>hp b (hP b off e)) rd ih
theorem TreeP.fr {F:Nat→Prop} (h:TreeP P c t w x S) (hf:Fr F w w') (hp:∀ b,b<w.heap.size→P b→¬F b):TreeP P c t w' x S:=by
 induction h with
 | mk x S vs ok hl hn hP rd all ih =>
   have key:∀ b off cs fr,S.A=some ⟨b,off,none⟩→w.heap[b]?=some (.cells cs t fr)→w'.heap[b]?=w.heap[b]?:=fun b off cs fr e hb=>hf.block b (zO hb) (hp b (zO hb) (hP b off e));refine .mk x S vs ok hl hn hP ⟨fun hx=>?_,fun b off he=>?_⟩ ih
   ·obtain⟨b,off,cs,t0,fr,hA,hb,hc⟩:=rd.rd hx;exact⟨b,off,cs,t0,fr,hA,(hf.block b (zO hb) (hp b (zO hb) (hP b off hA))).trans hb,hc⟩
   ·obtain⟨cs,fr,hb⟩:=rd.ty b off he;exact⟨cs,fr,(key b off cs fr he hb).trans hb⟩
theorem TreeP.bel (h:TreeP P c t w x S) (hb:Below w.heap.size w w'):TreeP P c t w' x S:=h.fr (Fr.of_below (F:=fun _=>False) hb) (fun _ _ _ h=>h)
theorem TreeP.ok (h:TreeP P c t w x S):zX3 x:=by cases h;assumption
end
end
section
inductive Sx where
 | mk (kind:Nat) (name:List UInt8) (exprs:List Ex) (bound:Int) (thn els:List Sx)
structure Dx where
 name:List UInt8
 width:Int
 size:Int
deriving DecidableEq
structure Rx where
 name:List UInt8
 params:List Dx
 body:List Sx
structure Ix where
 block:Int
 value:Ex
structure Gx where
 blocks:Int
 width:Int
 inputs:List Dx
 ghosts:List Dx
 vars:List Dx
 arrays:List Dx
 require:Ex
 inits:List Ix
 procs:List Rx
 work:List Sx
 recover:List Sx
 invariant:Ex
structure QSt where
 s:PSt
 l:List Nat
def bs (t:String):List UInt8:=t.toList.map fun c=>UInt8.ofNat c.toNat
def kM (t:List UInt8):Option Nat :=
 if t=bs "write" then some 3 else if t=bs "flush" then some 4 else if t=bs "barrier" then some 5 else if t=bs "if" then some 6 else if t=bs "while" then some 7 else if t=bs "call" then some 8 else none
def okL (q:QSt):Bool:=decide (q.l.length≤800000000)
section
variable (E:Env)
def QSt.on (q:QSt) (s:PSt):QSt:={ q with s:=s }
def QSt.at (q:QSt):QSt:={ q with l:=q.l++[(zC E q.s).at'] }
def qS (f:Nat) (q:QSt):Option (Ex×QSt):=match zM E f q.s with
 | none=>none
 | some (x,s)=>if q.l.length+x.2.length≤800000000 then some (x.1,⟨s,q.l++x.2⟩) else none
def kN (q:QSt) (w:List UInt8):Option QSt:=if okP q.s then some (q.on (kV E q.s w)) else none
def jX (q:QSt) (w:List UInt8):Option QSt:=if okP q.s then some (q.on (wN E q.s w)) else none
def yA:Nat→QSt→List Ex→Option (List Ex×QSt)
 | 0,_,_=>none
 | f+1,q,out=>if isP E q.s [44] then(do
    let(x,q) ←qS E f (q.on (zE q.s))
    yA f q (out++[x])) else some (out,q)
def yC (f:Nat) (q:QSt):Option (List Ex×QSt):=do
 let q ←kN E q [40]
 if (zC E q.s).text≠[41]∧q.s.e=0 then
  let(x,q) ←qS E f q
  let(l,q) ←yA E f q [x]
  return (l,←jX E q [41])
 else return ([],←jX E q [41])
mutual
def jM:Nat→QSt→List Sx→Option (List Sx×QSt)
 | 0,_,_=>none
 | f+1,q,out=>if q.s.e=0 then(if okL q then(match kM (zC E q.s).text with
    | some k=>(match qY f k ⟨zE q.s,q.l++[(zC E q.s).at']⟩with
      | none=>none
      | some (x,q)=>jM f q (out++[x]))
    | none=>if (zC E q.s).kind=1∧vO (zC E q.s).text=false then(match qY f 0 (q.at E)with
      | none=>none
      | some (x,q)=>jM f q (out++[x])) else some (out,q)) else none) else some (out,q)
def qY:Nat→Nat→QSt→Option (Sx×QSt)
 | 0,_,_=>none
 | f+1,3,q=>(match qS E f q with
   | none=>none
   | some (b,q)=>match qS E f (q.on (zI E q.s [44]))with
     | none=>none
     | some (x,q)=>some (.mk 3 [] [b,x] 0 [] [],q))
 | f+1,4,q=>some (.mk 4 [] [] 0 [] [],q)
 | f+1,5,q=>some (.mk 5 [] [] 0 [] [],q)
 | f+1,6,q=>(match qS E f q with
   | none=>none
   | some (x,q)=>match kE f q with
     | none=>none
     | some (t,q)=>if isP E q.s (bs "else") then(match kE f (q.on (zE q.s))with
        | none=>none
        | some (e,q)=>some (.mk 6 [] [x] 0 t e,q)) else some (.mk 6 [] [x] 0 t [],q))
 | f+1,7,q=>(match qS E f q with
   | none=>none
   | some (x,q)=>match kE f (q.on (jB E (zI E q.s (bs "bound"))).2)with
     | none=>none
     | some (t,r)=>some (.mk 7 [] [x] (jB E (zI E q.s (bs "bound"))).1 t [],r))
 | f+1,8,q=>(match yC E f (q.on (zL E q.s))with
   | none=>none
   | some (l,r)=>some (.mk 8 (jA E q.s) l 0 [] [],r))
 | f+1,_,q=>if (zC E (zL E q.s)).text=[91] then(match kN E (q.on (zL E q.s)) [91]with
    | none=>none
    | some r=>match qS E f r with
      | none=>none
      | some (i,r)=>match jX E r [93]with
        | none=>none
        | some r=>match qS E f (r.on (zI E r.s [61]))with
          | none=>none
          | some (x,r)=>some (.mk 2 (jA E q.s) [i,x] 0 [] [],r))
   else(match qS E f (q.on (zI E (zL E q.s) [61]))with
    | none=>none
    | some (x,r)=>some (.mk 1 (jA E q.s) [x] 0 [] [],r))
def kE:Nat→QSt→Option (List Sx×QSt)
 | 0,_=>none
 | f+1,q=>match kN E q [123]with
   | none=>none
   | some q=>match jM f q []with
     | none=>none
     | some (l,q)=>match jX E q [125]with
       | none=>none
       | some q=>some (l,q)
end
def jK (w:List UInt8) (arr:Bool):Nat→QSt→List Dx→Option (List Dx×QSt)
 | 0,_,_=>none
 | f+1,q,out=>if isP E q.s w then(if okL q then(
    let n:=jA E (zE q.s)
    let s1:=zL E (zE q.s)
    let l:=q.l++[(zC E q.s).at']
    if arr then(match kN E ⟨s1,l⟩ [91]with
     | none=>none
     | some r=>match jX E (r.on (jB E r.s).2) [93]with
       | none=>none
       | some u=>jK w arr f (u.on (jB E (zI E u.s [58])).2) (out++[⟨n,(jB E (zI E u.s [58])).1,(jB E r.s).1⟩]))
    else jK w arr f ⟨(jB E (zI E s1 [58])).2,l⟩ (out++[⟨n,(jB E (zI E s1 [58])).1,0⟩])) else none) else some (out,q)
def qV (q:QSt):Dx×QSt :=
 let s1:=zL E q.s
 (⟨jA E q.s,(jB E (zI E s1 [58])).1,0⟩,⟨(jB E (zI E s1 [58])).2,q.l++[(zC E q.s).at']⟩)
def jN:Nat→QSt→List Dx→Option (List Dx×QSt)
 | 0,_,_=>none
 | f+1,q,out=>if isP E q.s [44] then(if okL q then jN f (qV E (q.on (zE q.s))).2 (out++[(qV E (q.on (zE q.s))).1]) else none) else some (out,q)
def zH1 (f:Nat) (q:QSt):Option (Rx×QSt):=do
 let n:=jA E q.s
 let q ←kN E (q.on (zL E q.s)) [40]
 let(ps,q) ←(if (zC E q.s).text≠[41]∧q.s.e=0 then(if okL q then jN E f (qV E q).2 [(qV E q).1] else none) else some ([],q))
 let q ←jX E q [41]
 let(b,q) ←kE E f q
 return (⟨n,ps,b⟩,q)
def kX:Nat→QSt→List Rx→Option (List Rx×QSt)
 | 0,_,_=>none
 | f+1,q,out=>if isP E q.s (bs "proc") then(if okL q then(do
    let(x,q) ←zH1 E f ⟨zE q.s,q.l++[(zC E q.s).at']⟩
    kX f q (out++[x])) else none) else some (out,q)
def kY:Nat→QSt→List Ix→Option (List Ix×QSt)
 | 0,_,_=>none
 | f+1,q,out=>if isP E q.s (bs "init") then(if okL q then(do
    let s1:=zE q.s
    let l:=q.l++[(zC E q.s).at']
    let(x,r) ←qS E f ⟨zI E (jB E s1).2 [61],l⟩
    kY f r (out++[⟨(jB E s1).1,x⟩])) else none) else some (out,q)
def kH (f:Nat) (q:QSt):Option (Gx×QSt):=do
 let q:=q.at E
 let nb:=jB E (zI E q.s (bs "device"))
 let nw:=jB E (zI E nb.2 (bs "width"))
 let(is,q) ←jK E (bs "input") false f (q.on nw.2) []
 let(gs,q) ←jK E (bs "ghost") false f q []
 let(vs,q) ←jK E (bs "var") false f q []
 let(az,q) ←jK E (bs "array") true f q []
 let(rq,q) ←(if isP E q.s (bs "require") then qS E f (q.on (zE q.s)) else if okL q then some (.mk 1 0 1 1 [] [],q.at E) else none)
 let(ins,q) ←kY E f q []
 let(ps,q) ←kX E f q []
 let(wk,q) ←kE E f (q.on (zI E q.s (bs "work")))
 let(rc,q) ←kE E f (q.on (zI E q.s (bs "recover")))
 let(iv,q) ←qS E f (q.on (zI E q.s (bs "invariant")))
 return (⟨nb.1,nw.1,is,gs,vs,az,rq,ins,ps,wk,rc,iv⟩,q)
end
end
section
open Go.RowKit
def Sx.kind:Sx→Nat | .mk k _ _ _ _ _=>k
def Sx.name:Sx→List UInt8 | .mk _ n _ _ _ _=>n
def Sx.exprs:Sx→List Ex | .mk _ _ l _ _ _=>l
def Sx.bound:Sx→Int | .mk _ _ _ b _ _=>b
def Sx.thn:Sx→List Sx | .mk _ _ _ _ t _=>t
def Sx.els:Sx→List Sx | .mk _ _ _ _ _ e=>e
def TTy (t:TypeId):Prop:=t=31∨t=108∨t=87∨t=90∨t=93
def Stays (P:Nat→Prop) (w w':World):Prop:=∀ (b:Nat) cs t fr,w.heap[b]?=some (.cells cs t fr)→TTy t→P b→w'.heap[b]?=w.heap[b]?
theorem Stays.trans {P:Nat→Prop} {w w1 w2:World} (h:Stays P w w1) (k:Stays P w1 w2):Stays P w w2:=fun b cs t fr hb ht hp=>(k b cs t fr ((h b cs t fr hb ht hp).trans hb) ht hp).trans (h b cs t fr hb ht hp)
theorem Stays.below {P:Nat→Prop} {w w':World} (h:Below w.heap.size w w'):Stays P w w':=fun b _ _ _ hb _ _=>h.block b (zO hb)
theorem Stays.fr {P F:Nat→Prop} {w w':World} (h:Fr F w w') (hF:∀ b,b<w.heap.size→P b→¬F b):Stays P w w':=fun b _ _ _ hb _ hp=>h.block b (zO hb) (hF b (zO hb) hp)
theorem Stays.mono {P P':Nat→Prop} {w w':World} (h:Stays P w w') (hp:∀ b,b<w.heap.size→P' b→P b):Stays P' w w':=fun b cs t fr hb ht hq=>h b cs t fr hb ht (hp b (zO hb) hq)
theorem Stays.box {P:Nat→Prop} {w w':World} {g:Nat} {t':TypeId} {cs:Array Value} (h:Fr (fun k=>k=g) w w') (hk:Bk w g t' cs) (hne:¬TTy t'):Stays P w w':=by intro b cs2 t fr hb ht _;refine h.block b (zO hb) ?_;rintro rfl;unfold Bk at hk;rw [hb]at hk;injection hk with hk;injection hk with _ e;exact hne (e▸ht)
theorem RdT.stay {P:Nat→Prop} {w w':World} {A:Option Addr} {t:TypeId} {xs:List Value} (h:RdT w A t xs) (hP:∀ b off,A=some ⟨b,off,none⟩→P b) (ht:TTy t) (hs:Stays P w w'):RdT w' A t xs :=
 ⟨fun hx=>by obtain⟨b,off,cs,t0,fr,rfl,hb,hc⟩:=h.rd hx;obtain⟨cs',fr',hb'⟩:=h.ty b off rfl;rw [hb']at hb;injection hb with hb;injection hb with e1 e2 e3;subst e1 e2 e3;exact⟨b,off,_,_,_,rfl,(hs b _ _ _ hb' ht (hP b off rfl)).trans hb',hc⟩,
 fun b off he=>by obtain⟨cs,fr,hb⟩:=h.ty b off he;exact⟨cs,fr,(hs b _ _ _ hb ht (hP b off he)).trans hb⟩⟩
theorem qW:TTy 31:=.inl rfl
theorem yW:TTy 108:=.inr (.inl rfl)
theorem qC:TTy 87:=.inr (.inr (.inl rfl))
theorem jZ:TTy 90:=.inr (.inr (.inr (.inl rfl)))
theorem zD1:TTy 93:=.inr (.inr (.inr (.inr rfl)))
theorem zS5:¬TTy 3:=by unfold TTy;decide
theorem zX8:¬TTy 152:=by unfold TTy;decide
section
variable {α β:Type}
structure qD6 (A:(Nat→Prop)→World→α→β→Prop):Prop where
 stay:∀ P w w' y v,Stays P w w'→A P w y v→A P w' y v
 mono:∀ (P P':Nat→Prop) w y v,(∀ b,b<w.heap.size→P b→P' b)→A P w y v→A P' w y v
inductive RowG (c:α→β→List Value) (t:TypeId) (A:(Nat→Prop)→World→α→β→Prop) (P:Nat→Prop) (w:World):List α→SV→Prop where
 | mk (l:List α) (S:SV) (vs:List β) (hl:vs.length=l.length) (hn:S.n=l.length) (hP:∀ b off,S.A=some ⟨b,off,none⟩→P b) (rd:RdT w S.A t ((l.zip vs).flatMap fun p=>c p.1 p.2))
    (all:∀ (i:Nat) (y:α) (v:β),l[i]?=some y→vs[i]?=some v→A P w y v):RowG c t A P w l S
variable {c:α→β→List Value} {t:TypeId} {A:(Nat→Prop)→World→α→β→Prop} {P P':Nat→Prop} {w w':World} {l:List α} {S:SV}
theorem RowG.len (h:RowG c t A P w l S):S.n=l.length:=by cases h;assumption
theorem RowG.stay (I:qD6 A) (ht:TTy t) (h:RowG c t A P w l S) (hs:Stays P w w'):RowG c t A P w' l S:=by
 cases h with
 | mk vs hl hn hP rd all=>exact .mk l S vs hl hn hP (rd.stay hP ht hs) fun i y v hy hv=>I.stay P w w' y v hs (all i y v hy hv)
theorem RowG.mono (I:qD6 A) (h:RowG c t A P w l S) (hp:∀ b,b<w.heap.size→P b→P' b):RowG c t A P' w l S:=by
 cases h with
 | mk vs hl hn hP rd all =>
   refine .mk l S vs hl hn (fun b off e=>?_) rd fun i y v hy hv=>I.mono P P' w y v hp (all i y v hy hv);obtain⟨cs,fr,hb⟩:=rd.ty b off e;exact hp b (zO hb) (hP b off e)
theorem RowG.nil:RowG c t A P w [] ⟨none,0,0⟩:=.mk [] _ [] rfl rfl (fun _ _ h=>by cases h) RdT.nil (fun i y v h _=>by simp at h)
theorem RowG.item (I:qD6 A) (ht:TTy t):qD6 (fun P w (l:List α) (S:SV)=>RowG c t A P w l S):=⟨fun P w w' y v hs h=>h.stay I ht hs,fun P P' w y v hp h=>h.mono I hp⟩
def OwnG (c:α→β→List Value) (t:TypeId) (m:Nat) (A:(Nat→Prop)→World→α→β→Prop) (B:Nat) (w:World) (l:List α) (S:SV):Prop :=
 ∃ vs:List β,vs.length=l.length∧S.n=l.length∧w.ownsRow B t m (uL S) S.n ((l.zip vs).flatMap fun p=>c p.1 p.2)∧∀ (i:Nat) (y:α) (v:β),l[i]?=some y→vs[i]?=some v→A (fun k=>B≤k∧(uL S).ownBlock≠some k) w y v
variable {m B:Nat}
theorem OwnG.nil:OwnG c t m A B w [] ⟨none,0,0⟩:=⟨[],rfl,rfl,⟨Ym,.inl ⟨rfl,rfl⟩⟩,fun i y v h _=>by simp at h⟩
theorem OwnG.len (h:OwnG c t m A B w l S):S.n=l.length:=by obtain⟨vs,h1,h2,h3⟩:=h;exact h2
theorem OwnG.stay (I:qD6 A) (ht:TTy t) (h:OwnG c t m A B w l S) (hs:Stays (fun k=>B≤k) w w'):OwnG c t m A B w' l S:=by
 obtain⟨vs,h1,h2,h3,h4⟩:=h;refine⟨vs,h1,h2,?_,fun i y v hy hv=>I.stay _ w w' y v (hs.mono fun b _ hb=>hb.1) (h4 i y v hy hv)⟩;refine⟨h3.1,?_⟩;rcases h3.2 with h0 | ⟨g',cap,cur,e,hbs,hh,rest⟩
 ·exact .inl h0
 ·exact .inr ⟨g',cap,cur,e,hbs,(hs g' _ _ _ hh ht hbs).trans hh,rest⟩
theorem OwnG.row (I:qD6 A) (h:OwnG c t m A B w l S):RowG c t A (fun k=>B≤k) w l S:=by
 obtain⟨vs,h1,h2,h3,h4⟩:=h;refine .mk l S vs h1 h2 (fun b off e=>?_) (RdT.of_own h3) fun i y v hy hv=>I.mono _ _ w y v (fun b _ hb=>hb.1) (h4 i y v hy hv);rcases h3.2 with⟨h0,_⟩ | ⟨g',cap,cur,h0,hbs,_⟩
 ·injection h0 with h0;rw [h0]at e;cases e
 ·injection h0 with h0;rw [h0]at e;injection e with e;injection e with e;omega
theorem OwnG.run (I:qD6 A) {ts:TypeId} (E:El Tryz.prog ts t m) (ht:TTy t) (h1:∀ x v,∀ u∈c x v,u.oneCell'=true) (hc:∀ x v,(c x v).length=m)
 (h:OwnG c t m A B w l S) (x:α) (v:β) (hx:A (fun k=>B≤k∧(Value.slice S.A S.n S.c).ownBlock≠some k) w x v) (Ad:Option Addr) (cc:Nat) (hr:Rd w Ad (c x v)) (hn:S.n<1000000000) (hB:B≤w.heap.size) (ty:TypeId) :
 ∃ A' c' w',(Builtin.append_ #[ts,ts] ty #[.slice S.A S.n S.c,.slice Ad 1 cc]).run Tryz.prog w=.ok (.slice A' (S.n+1) c') w'∧OwnG c t m A B w' (l++[x]) ⟨A',S.n+1,c'⟩∧Fr (fun k=>(Value.slice S.A S.n S.c).ownBlock=some k) w w':=by
 obtain⟨vs,g1,g2,g3,g4⟩:=h;obtain⟨A',c',w',hrun,ho,hg,hat⟩:=zG6 E ty B _ S.n _ g3 Ad 1 cc (c x v) hr (by rw [hc,Nat.one_mul]) (h1 x v) Yo hB;have hf:Fr (fun k=>(uL S).ownBlock=some k) w w':=(Fr.refl _ _).grown hg (fun k hk=>.inl hk);refine⟨A',c',w',hrun,⟨vs++[v],by simp [g1],by simp [g2],?_,?_⟩,hf⟩
 ·rw [List.zip_append g1.symm,List.flatMap_append];simpa using ho
 ·have key:∀ y u,A (fun k=>B≤k∧(uL S).ownBlock≠some k) w y u→A (fun k=>B≤k∧(Value.slice A' (S.n+1) c').ownBlock≠some k) w' y u:=by
   intro y u hy;have a1:=I.mono _ (fun k=>(B≤k∧(uL S).ownBlock≠some k)∧k<w.heap.size) w y u (fun b hb hp=>⟨hp,hb⟩) hy;have a2:=I.stay _ w w' y u (Stays.fr hf (fun b _ hp e=>hp.1.2 e)) a1;refine I.mono _ _ w' y u (fun b _ hp=>⟨hp.1.1,?_⟩) a2;rcases hat with e | e
   ·rw [e];exact hp.1.2
   ·rw [e];intro e2;injection e2 with e2;have:=hp.2;omega
  intro i y u hy hu;rcases Nat.lt_or_ge i l.length with hi | hi
  ·rw [cI hi]at hy;rw [cI Yo]at hu;exact key y u (g4 i y u hy hu)
  ·rw [cH hi]at hy;rw [cH Yo]at hu;have hi0:i-l.length=0:=by
    rcases Nat.eq_zero_or_pos (i-l.length)with h | h
    ·exact h
    ·rw [cW Yp]at hy;cases hy
   rw [hi0]at hy;rw [g1,hi0]at hu;simp at hy hu;subst hy hu;exact key _ _ hx
end
theorem jC6 {P:Program} {t ty0:TypeId} {w w':World} {o:Oper} {a:Act} {K:Act→World→Prop} {Q:Exit→Act→World→Prop} (s x:Operand) (ho:o.op=.call { callee:=.builtin .append,args:=#[s,x],argTypes:=#[t,t] }) (v u r:Value) (hs:a.eval s=v) (hx:a.eval x=u)
 (hrun:(Builtin.append_ #[t,t] o.type #[v,u]).run P w=.ok r w') (h:K (a.put o.dst r) w'):o.wp P a w K Q:=by
 unfold Oper.wp execOp;simp only [ho,resolve,invoke,builtin,Sem.run_bind,Sem.run_pure,Result.andThen_ok,List.map_toArray,lY,List.map_nil,hs,hx,hrun];exact h
theorem TreeP.stay {P:Nat→Prop} {w w':World} {x:Ex} {S:SV} (h:TreeP P qX 31 w x S) (hs:Stays P w w'):TreeP P qX 31 w' x S:=by
 induction h with
 | mk x S vs ok hl hn hP rd all ih=>exact .mk x S vs ok hl hn hP (rd.stay hP qW hs) ih
abbrev TX (P:Nat→Prop) (w:World) (x:Ex) (S:SV):Prop:=TreeP P qX 31 w x S
theorem itX:qD6 TX:=⟨fun P w w' y v hs h=>h.stay hs,fun P P' w y v hp h=>h.mono hp⟩
abbrev RowX (P:Nat→Prop) (w:World) (l:List Ex) (S:SV):Prop:=RowG qX 31 TX P w l S
abbrev OwnX (B:Nat) (w:World) (l:List Ex) (S:SV):Prop:=OwnG qX 31 6 TX B w l S
def zC6 (x:Sx) (v:SV×SV×SV):List Value:=[uB x.kind,uR x.name,.slice v.1.A v.1.n v.1.c,uI x.bound,.slice v.2.1.A v.2.1.n v.2.1.c,.slice v.2.2.A v.2.2.n v.2.2.c]
structure kM4 (x:Sx):Prop where
 k:x.kind≤255
 b0:-9223372036854775808≤x.bound
 b1:x.bound≤9223372036854775807
 n:x.name.length≤1000000
inductive StsP (P:Nat→Prop) (w:World):List Sx→SV→Prop where
 | mk (l:List Sx) (S:SV) (vs:List (SV×SV×SV)) (hl:vs.length=l.length) (hn:S.n=l.length) (hP:∀ b off,S.A=some ⟨b,off,none⟩→P b) (rd:RdT w S.A 108 ((l.zip vs).flatMap fun p=>zC6 p.1 p.2))
    (ok:∀ (i:Nat) (y:Sx) (v:SV×SV×SV),l[i]?=some y→vs[i]?=some v→kM4 y)
    (ex:∀ (i:Nat) (y:Sx) (v:SV×SV×SV),l[i]?=some y→vs[i]?=some v→RowX P w y.exprs v.1)
    (th:∀ (i:Nat) (y:Sx) (v:SV×SV×SV),l[i]?=some y→vs[i]?=some v→StsP P w y.thn v.2.1)
    (el:∀ (i:Nat) (y:Sx) (v:SV×SV×SV),l[i]?=some y→vs[i]?=some v→StsP P w y.els v.2.2):StsP P w l S
theorem StsP.stay {P:Nat→Prop} {w w':World} {l:List Sx} {S:SV} (h:StsP P w l S) (hs:Stays P w w'):StsP P w' l S:=by
 induction h with
 | mk l S vs hl hn hP rd ok ex th el ih1 ih2=>exact .mk l S vs hl hn hP (rd.stay hP yW hs) ok (fun i y v hy hv=>(ex i y v hy hv).stay itX qW hs) ih1 ih2
theorem StsP.mono {P P':Nat→Prop} {w:World} {l:List Sx} {S:SV} (h:StsP P w l S) (hp:∀ b,b<w.heap.size→P b→P' b):StsP P' w l S:=by
 induction h with
 | mk l S vs hl hn hP rd ok ex th el ih1 ih2 =>
   refine .mk l S vs hl hn (fun b off e=>?_) rd ok (fun i y v hy hv=>(ex i y v hy hv).mono itX hp) ih1 ih2;obtain⟨cs,fr,hb⟩:=rd.ty b off e;exact hp b (zO hb) (hP b off e)
theorem StsP.len {P:Nat→Prop} {w:World} {l:List Sx} {S:SV} (h:StsP P w l S):S.n=l.length:=by cases h;assumption
theorem StsP.nil {P:Nat→Prop} {w:World}:StsP P w [] ⟨none,0,0⟩:=.mk [] _ [] rfl rfl (fun _ _ h=>by cases h) RdT.nil (fun i y v h _=>by simp at h) (fun i y v h _=>by simp at h) (fun i y v h _=>by simp at h) (fun i y v h _=>by simp at h)
structure SxP (P:Nat→Prop) (w:World) (x:Sx) (v:SV×SV×SV):Prop where
 ok:kM4 x
 ex:RowX P w x.exprs v.1
 th:StsP P w x.thn v.2.1
 el:StsP P w x.els v.2.2
theorem itS:qD6 SxP:=⟨fun P w w' y v hs h=>⟨h.ok,h.ex.stay itX qW hs,h.th.stay hs,h.el.stay hs⟩,fun P P' w y v hp h=>⟨h.ok,h.ex.mono itX hp,h.th.mono hp,h.el.mono hp⟩⟩
abbrev jC7 (B:Nat) (w:World) (l:List Sx) (S:SV):Prop:=OwnG zC6 108 6 SxP B w l S
theorem StsP.of {P:Nat→Prop} {w:World} {l:List Sx} {S:SV} (h:RowG zC6 108 SxP P w l S):StsP P w l S:=by
 cases h with
 | mk vs hl hn hP rd all=>exact .mk l S vs hl hn hP rd (fun i y v hy hv=>(all i y v hy hv).ok) (fun i y v hy hv=>(all i y v hy hv).ex) (fun i y v hy hv=>(all i y v hy hv).th) (fun i y v hy hv=>(all i y v hy hv).el)
theorem OwnG.sts {B:Nat} {w:World} {l:List Sx} {S:SV} (h:jC7 B w l S):StsP (fun k=>B≤k) w l S:=.of (h.row itS)
def yX (x:Dx) (_:Unit):List Value:=[uR x.name,uI x.width,uI x.size]
structure jO4 (x:Dx):Prop where
 n:x.name.length≤1000000
 w0:-9223372036854775808≤x.width
 w1:x.width≤9223372036854775807
 s0:-9223372036854775808≤x.size
 s1:x.size≤9223372036854775807
def DxP (_:Nat→Prop) (_:World) (x:Dx) (_:Unit):Prop:=jO4 x
theorem itD:qD6 DxP:=⟨fun P w w' y v hs h=>h,fun P P' w y v hp h=>h⟩
abbrev zE2 (P:Nat→Prop) (w:World) (l:List Dx) (S:SV):Prop:=RowG yX 87 DxP P w l S
abbrev OwnD (B:Nat) (w:World) (l:List Dx) (S:SV):Prop:=OwnG yX 87 3 DxP B w l S
def jC8 (x:Ix) (S:SV):List Value:=uI x.block :: qX x.value S
structure IxP (P:Nat→Prop) (w:World) (x:Ix) (S:SV):Prop where
 b0:-9223372036854775808≤x.block
 b1:x.block≤9223372036854775807
 t:TX P w x.value S
theorem itI:qD6 IxP:=⟨fun P w w' y v hs h=>⟨h.b0,h.b1,h.t.stay hs⟩,fun P P' w y v hp h=>⟨h.b0,h.b1,h.t.mono hp⟩⟩
abbrev jT5 (P:Nat→Prop) (w:World) (l:List Ix) (S:SV):Prop:=RowG jC8 90 IxP P w l S
abbrev kL1 (B:Nat) (w:World) (l:List Ix) (S:SV):Prop:=OwnG jC8 90 7 IxP B w l S
def zP2 (x:Rx) (v:SV×SV):List Value:=[uR x.name,.slice v.1.A v.1.n v.1.c,.slice v.2.A v.2.n v.2.c]
structure RxP (P:Nat→Prop) (w:World) (x:Rx) (v:SV×SV):Prop where
 n:x.name.length≤1000000
 ps:zE2 P w x.params v.1
 b:StsP P w x.body v.2
theorem itR:qD6 RxP:=⟨fun P w w' y v hs h=>⟨h.n,h.ps.stay itD qC hs,h.b.stay hs⟩,fun P P' w y v hp h=>⟨h.n,h.ps.mono itD hp,h.b.mono hp⟩⟩
abbrev jT6 (P:Nat→Prop) (w:World) (l:List Rx) (S:SV):Prop:=RowG zP2 93 RxP P w l S
abbrev kQ3 (B:Nat) (w:World) (l:List Rx) (S:SV):Prop:=OwnG zP2 93 3 RxP B w l S
end
def kD9:Nat→Nat→List UInt8
 | 0,n=>[]
 | f+1,n=>if n<10 then [UInt8.ofNat (48+n)] else kD9 f (n / 10)++[UInt8.ofNat (48+n % 10)]
def qZ (n:Nat):List UInt8:=kD9 20 n
def unT (o:Nat):List UInt8:=([[],[126],[45]]:List (List UInt8)).getD (o % 3) []
def biT (o:Nat):List UInt8:=([[],[],[],[43],[32,45,32],[42],[47],[37],[38],[124],[94],[60,60],[62,62],[61,61],[33,61],[32,60,32],[60,61]]:List (List UInt8)).getD (o % 17) []
def zM6:Ex→Nat | .mk k _ _ _ _ _=>k
def zI5 (wide:Bool) (y:Ex) (t:List UInt8):List UInt8:=if wide∨zM6 y=6∨zM6 y=7∨zM6 y=5 then [40,32]++t++[41] else t
mutual
def zP (wide:Bool):Ex→List UInt8
 | .mk k o v wd n l =>
   let r:=yD wide l
   let s:Nat→List UInt8:=fun i=>match l[i]? with
    | some y=>zI5 wide y (r.getD i [])
    | none=>[]
   if k=1 then qZ v++[58]++qZ wd.toNat
   else if k=2 then n
   else if k=3 then n++[91]++r.getD 0 []++[93]
   else if k=4 then bs "disk ["++r.getD 0 []++[93]
   else if k=5 then unT o++s 0
   else if k=6 then s 0++biT o++s 1
   else if k=7 then s 0++bs "? "++s 1++bs " : "++s 2
   else s 0++bs " @"++qZ wd.toNat
def yD (wide:Bool):List Ex→List (List UInt8)
 | []=>[]
 | x :: l=>zP wide x :: yD wide l
end
def qT:List (List UInt8)→List UInt8
 | []=>[]
 | [x]=>x
 | x :: l=>x++[44]++qT l
mutual
def kF (wide:Bool):List Sx→List UInt8
 | []=>[]
 | x :: l=>jH wide x++bs " # \n"++kF wide l
def jH (wide:Bool):Sx→List UInt8
 | .mk k n es b t e =>
   let r:=es.map (zP wide)
   let tt:=[123]++kF wide t++[125]
   let te:=[123]++kF wide e++[125]
   if k=1 then n++[61]++r.getD 0 []
   else if k=2 then n++[91]++r.getD 0 []++[93,61]++r.getD 1 []
   else if k=3 then bs "write "++qT r
   else if k=4 then bs "flush"
   else if k=5 then bs "barrier"
   else if k=6 then bs "if "++r.getD 0 []++tt++(if e≠[]∨wide then bs "else"++te else [])
   else if k=7 then bs "while "++r.getD 0 []++bs " bound "++qZ b.toNat++tt
   else if k=8 then bs "call "++n++[40]++qT r++[41]
   else []
end
def jJ (wide:Bool) (l:List Sx):List UInt8:=[123]++kF wide l++[125]
def wQ (w:String) (arr:Bool) (d:Dx):List UInt8:=bs ("\n"++w)++d.name++(if arr then [91]++qZ d.size.toNat++[93] else [])++[58]++qZ d.width.toNat
def zH2 (wide:Bool) (p:Gx):List UInt8 :=
 bs "device "++qZ p.blocks.toNat++bs " width "++qZ p.width.toNat
  ++ p.inputs.flatMap (wQ "input " false)++p.ghosts.flatMap (wQ "ghost " false)++p.vars.flatMap (wQ "var " false)++p.arrays.flatMap (wQ "array " true)
  ++ bs " require "++zP wide p.require
  ++ p.inits.flatMap (fun x=>bs " init "++qZ x.block.toNat++[61]++zP wide x.value)
  ++ p.procs.flatMap (fun x=>bs "\nproc "++x.name++[40]++qT (x.params.map fun d=>d.name++[58]++qZ d.width.toNat)++[41]++jJ wide x.body)
  ++ bs "\nwork"++jJ wide p.work++bs "recover"++jJ wide p.recover++bs "invariant "++zP wide p.invariant
section
open Go.RowKit
section
variable {P:Program} {ops:Array Oper} {md:Region.Mode} {w:World}
def jC9 (md:Region.Mode) (ops:Array Oper) (n:Nat):Bool :=
 (List.range ops.size).all fun t=>decide (t≤n) || (List.range t).any fun j=>decide (n≤j) && Region.waitsFor md ops t j
theorem qA4 {n t:Nat} {listed:Array Bool} (hc:jC9 md ops n=true) (inv:HeadInv md ops n listed) (ht:n<t):t ∉ Region.ready md ops listed:=by
 intro hr;obtain⟨_,ot,hot,hall⟩:=mem_ready.1 hr;have htlt:t<ops.size:=(Array.getElem?_eq_some_iff.1 hot).1;have h1:=List.all_eq_true.1 hc t (List.mem_range.2 htlt);simp only [Bool.or_eq_true,cC]at h1;rcases h1 with h1 | h1
 ·omega
 ·obtain⟨j,hj,hj2⟩:=List.any_eq_true.1 h1;simp only [lZ,cC]at hj2;obtain⟨o',ho',e,he,hb,hon⟩:=Region.waitsFor_spec hj2.2;obtain rfl:o'=ot:=Option.some.inj (ho'.symm.trans hot);have h2:=hall e he hb;have hjt:=List.mem_range.1 hj;rw [hon,getD_both (inv.tail j hj2.1 Yo)]at h2;cases h2
theorem qW1 {n:Nat} {listed:Array Bool} (hs:Region.sinkB md ops n=true) (hn:n<ops.size) (inv:HeadInv md ops n listed) :
 ∀ (d i:Nat),n-i=d→i<n→listed.getD i true=false→n ∉ Region.ready md ops listed:=by
 intro d;induction d using Nat.strongRecOn with
 | _ d ih =>
   intro i hd hi hun hr;obtain⟨_,on,hon',hall⟩:=mem_ready.1 hr;obtain⟨j,hj,hj2⟩:=List.any_eq_true.1 (List.all_eq_true.1 hs i (List.mem_range.2 hi));simp only [lZ,cC]at hj2;obtain⟨oj,hoj,e,he,hb,hon⟩:=Region.waitsFor_spec hj2.2;have hjn:j≤n:=by have:=List.mem_range.1 hj;omega
   rcases Nat.lt_or_ge j n with hlt | hge
   ·cases hl:listed.getD j false with
    | true =>
      have h2:=inv.closed j oj hoj hl e he hb;rw [hon,getD_both hun]at h2;cases h2
    | false=>exact ih (n-j) Yo j rfl hlt (getD_in (by rw [inv.size];omega) hl) hr
   ·obtain rfl:j=n:=by omega
    obtain rfl:oj=on:=Option.some.inj (hoj.symm.trans hon');have h2:=hall e he hb;rw [hon,getD_both hun]at h2;cases h2
theorem zM7 {n i j:Nat} {listed:Array Bool} (hs:Region.sinkB md ops n=true) (hc:jC9 md ops n=true) (hn:n<ops.size) (inv:HeadInv md ops n listed) (hi:i<n) (hun:listed.getD i true=false)
 (hj:j∈Region.ready md ops listed):j<n:=by
 rcases Nat.lt_trichotomy j n with h | h | h
 ·exact h
 ·subst h;exact absurd hj (qW1 hs hn inv _ i rfl hi hun)
 ·exact absurd hj (qA4 hc inv h)
theorem qW2 {n i:Nat} {oi:Oper} {v:Value} {L:Array Bool→Act→Prop} (hi:ops[i]?=some oi) (hsel:∀ (j:Nat) (o:Oper) cs b,ops[j]?=some o→o.op≠.select cs b)
 (hs:Region.sinkB md ops n=true) (hc:jC9 md ops n=true) (hn:n<ops.size) (hin:i<n) (hdone:∀ listed a,L listed a→∀ j∈Region.ready md ops listed,n≤j) :
 ∀ (f:Nat) (listed:Array Bool) (a:Act),HeadInv md ops n listed →
  (∀ j oj,ops[j]?=some oj→j≠i→listed.getD j true=false→(∀ e∈oj.after,Region.binds md e=true→e.on≠i)→oi.apart ops oj=true) →
  i∈Region.ready md ops listed→YieldsAt P ops w oi v a →
  wpAnyL P md ops w n L f (listed.setIfInBounds i true) (a.put oi.dst v)→wpAnyL P md ops w n L (f+1) listed a:=by
 intro f;induction f with
 | zero =>
   intro listed a inv _ hr hy H;refine⟨fun h=>(by rw [h]at hr;cases hr),fun j hj=>⟨zM7 hs hc hn inv hin (mem_ready.1 hr).1 hj,?_⟩⟩;by_cases hji:j=i
   ·subst hji;exact hy.stOp hi H
   ·have h1:=hdone _ _ H j (ready_mono hj hji);have h2:=zM7 hs hc hn inv hin (mem_ready.1 hr).1 hj;omega
 | succ f ih =>
   intro listed a inv hfree hr hy H;have hun:=(mem_ready.1 hr).1;refine⟨fun h=>(by rw [h]at hr;cases hr),fun j hj=>?_⟩;have hjn:=zM7 hs hc hn inv hin hun hj;refine⟨hjn,?_⟩;by_cases hji:j=i
   ·subst hji;exact hy.stOp hi H
   ·obtain⟨hjun,oj,hoj,hall⟩:=mem_ready.1 hj;have hnot:∀ e∈oj.after,Region.binds md e=true→e.on≠i:=by intro e he hb heq;have h1:=hall e he hb;rw [heq,getD_both hun]at h1;cases h1
    have h2:=stOp_put hoj (hfree j oj hoj hji hjun hnot) (fun cs b=>hsel i oi cs b hi) (fun cs b=>hsel j oj cs b hoj) hy (H.2 j (ready_mono hj hji)).2;refine stOp_mono (fun a' h3=>ih (listed.setIfInBounds j true) a' (inv.set hj hjn) ?_ (ready_mono hr (cX hji)) h3.1 (by rw [Array.setIfInBounds_comm _ _ hji];exact h3.2)) h2;intro k ok hk hki hunk hno;refine hfree k ok hk hki ?_ hno;by_cases hjk:j=k
    ·subst hjk;exact hjun
    ·rwa [getD_set_ne true hjk]at hunk
def zA6 (md:Region.Mode) (ops:Array Oper) (n:Nat):Nat→Nat→Array Bool→Bool
 | 0,_,listed=>decide (Region.ready md ops listed=[n]) && Region.lexFrom md ops (ops.size-n-1) (n+1) (listed.setIfInBounds n true)
 | f+1,k,listed=>(Region.ready md ops listed).contains k && Region.free md ops listed k && zA6 md ops n f (k+1) (listed.setIfInBounds k true)
def kM5 (md:Region.Mode) (ops:Array Oper) (n:Nat):Bool :=
 Region.noSelect ops && decide (n<ops.size) && Region.sinkB md ops n && jC9 md ops n && zA6 md ops n n 0 (Array.replicate ops.size false)
theorem qP9 {n:Nat} {Lq:Act→Prop} (hsel:Region.noSelect ops=true) (hs:Region.sinkB md ops n=true) (hc:jC9 md ops n=true) (hn:n<ops.size) :
 ∀ (l:List Oper) (k:Nat) (listed:Array Bool) (a:Act),(∀ j,j<l.length→l[j]?=ops[k+j]?)→k+l.length=n→HeadInv md ops n listed →
 zA6 md ops n l.length k listed=true→wpStill P ops w Lq l a →
 wpAnyL P md ops w n (fun listed' a'=>zA6 md ops n 0 n listed'=true∧Lq a') l.length listed a
 | [],k,listed,a,_,hk,_,hB,h=>by
   obtain rfl:k=n:=by simpa using hk
   exact⟨hB,h⟩
 | o :: l,k,listed,a,hl,hk,inv,hB,h=>by
   have h0:ops[k]?=some o:=by simpa using(hl 0 Ym).symm
   simp only [Yc,zA6,lZ]at hB;have hkn:k<n:=by simp only [Yc]at hk;omega
   have hr:k∈Region.ready md ops listed:=by simpa using hB.1.1
   obtain⟨v,hy,hK⟩:=yieldsAt_of_stOp h0 (K:=wpStill P ops w Lq l) (by unfold stOp;simp only [h0];exact h)
   refine qW2 h0 (Region.noSelect_spec hsel) hs hc hn hkn ?_ l.length listed a inv (Region.free_spec h0 hB.1.2) hr hy
    (qP9 hsel hs hc hn l (k+1) _ _ (fun j hj=>by have:=hl (j+1) Yp;simpa [Nat.add_assoc,Nat.add_comm 1 j]using this) (by simp only [Yc]at hk;omega) (inv.set hr hkn) hB.2 hK)
   intro listed' a' hL j hj;simp only [zA6,lZ,cC]at hL;rw [hL.1.1]at hj;have:j=n:=by simpa using hj
   omega
theorem qA5 {id:Nat} {Q:Exit→Act→World→Prop} {a:Act} {w:World} {l:List Oper} (n:Nat) (hm:P.follows .mixedOrders=true) (hB:kM5 .any l.toArray n=true)
 (h:wpStill P l.toArray w.drew (fun a1=>wpOp P l.toArray Q n (fun a2 w2=>wpStill P l.toArray w2 (fun a3=>Q .normal a3 w2) (l.drop (n+1)) a2) a1 w.drew) (l.take n) a) :
 (Code.region id l.toArray true).wp P Q a w:=by
 simp only [kM5,lZ,cC]at hB;obtain⟨⟨⟨⟨hsel,hn⟩,hs⟩,hc⟩,hlex⟩:=hB;have hn':n<l.length:=by simpa using hn
 have htl:(l.take n).length=n:=Yp
 have inv0:HeadInv .any l.toArray n (Array.replicate l.toArray.size false) :=
  ⟨Ym,fun j oj _ hl=>(by rw [getD_replicate_false]at hl;cases hl),fun t _ ht=>getD_in (by simpa using ht) (getD_replicate_false _ _)⟩
 have H:=qP9 (md:=.any) hsel hs hc hn (l.take n) 0 _ a (fun j hj=>by
  have hj':j<n:=by rw [htl]at hj;exact hj
  simp [hj']) (by simpa using htl) inv0 (by rw [htl];exact hlex) h
 refine wp_region_any hm ?_;have hk:=wpAny_of_head (Q':=Q) (g:=l.toArray.size-n) (fun listed a' hL=>?_) _ _ _ H
 ·rw [htl,show n+(l.toArray.size-n)=l.toArray.size by omega]at hk;exact hk
 ·obtain⟨h1,h2⟩:=hL;simp only [zA6,lZ,cC]at h1;rw [show l.toArray.size-n=(l.toArray.size-n-1)+1 by omega];refine⟨fun h0=>(by rw [h1.1]at h0;cases h0),fun i hi=>?_⟩;rw [h1.1]at hi;obtain rfl:i=n:=by simpa using hi
  refine wpOp_mono (fun a2 w2 h3=>wpAny_of_still (Q:=fun a3=>Q .normal a3 w2) (fun _ h=>h) _ _ _ ?_) h2;have hd:(l.drop (i+1)).length=l.toArray.size-i-1:=Yp;have:=wpAnyS_lex (md:=.any) hsel (l.drop (i+1)) (i+1) (listed.setIfInBounds i true) a2 (fun j=>by simp [List.getElem?_drop]) (by rw [hd];exact h1.2) h3;rwa [hd]at this
theorem wT {Q:Exit→Act→World→Prop} {K:Act→World→Prop} {a:Act} {w:World} {i:Nat} {o:Oper} (ho:ops[i]?=some o) (hg:o.guard=none)
 (h:∀ K':Act→World→Prop,(∀ a w,K a w→K' a w)→o.wp P a w K' Q):wpOp P ops Q i K a w:=by
 unfold wpOp;simp only [ho];rw [lM (by simp [Region.wanted,hg])];exact .inl (h K fun _ _ h=>h)
end
end
section
open Go.RowKit
section
variable {P:Program} {ops:Array Oper} {w:World}
theorem zG3 {Q:Act→Prop} (l:List Oper):∀ (a:Act),wpQuiet P ops (fun w'=>w'=w) Q l a→wpStill P ops w Q l a:=by
 induction l with
 | nil=>exact fun _ h=>h
 | cons o l ih =>
   intro a h;unfold wpQuiet at h;unfold wpStill;split at h
   ·rename_i hw;rw [lM hw];obtain⟨v,h1,h2⟩:=h;have h3:=h1 w rfl;unfold Oper.quietAt at h3;unfold Oper.still;generalize (execOp a.eval o).run P w=r at *;cases r with
    | ok n w' =>
      cases n <;> simp only [Oper.quietUpon]at h3 <;> simp only [Oper.stillUpon]
      case value u=>obtain⟨rfl,rfl⟩:=h3;exact⟨rfl,ih _ h2⟩
      case skip=>obtain⟨rfl,rfl⟩:=h3;exact⟨rfl,ih _ h2⟩
      case enter f args=>obtain⟨rfl,hc⟩:=h3;exact⟨rfl,v,hc,ih _ h2⟩
    | halt x w'=>simp only [Oper.quietUpon]at h3
   ·rename_i hw;rw [lN hw];exact ih _ h
theorem still_mono {Q Q':Act→Prop} (hq:∀ a,Q a→Q' a):∀ (l:List Oper) (a:Act),wpStill P ops w Q l a→wpStill P ops w Q' l a
 | [],a,h=>hq a h
 | o :: l,a,h=>by
   unfold wpStill at h ⊢;split at h
   ·rename_i hw;rw [lM hw];exact Oper.still_mono (still_mono hq l) h
   ·rename_i hw;rw [lN hw];exact still_mono hq l _ h
theorem xR {id:Nat} {Q:Exit→Act→World→Prop} {a:Act} {w:World} {l:List Oper} (n:Nat) (hm:P.follows .mixedOrders=true) (hB:kM5 .any l.toArray n=true)
 (h:wpQuiet P l.toArray (fun w'=>w'=w.drew) (fun a1=>wpOp P l.toArray Q n (fun a2 w2=>wpQuiet P l.toArray (fun w'=>w'=w2) (fun a3=>Q .normal a3 w2) (l.drop (n+1)) a2) a1 w.drew) (l.take n) a) :
 (Code.region id l.toArray true).wp P Q a w :=
 qA5 n hm hB (still_mono (fun _ h1=>wpOp_mono (fun _ _ h2=>zG3 _ _ h2) h1) _ _ (zG3 _ _ h))
end
end
end Go.Proofs.YtfdaebgllibphaaGreatDoor
