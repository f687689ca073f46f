import Derived.OrdersHeld
import Derived.Test.YtfdaebgllibphaaGreatDoorWao
set_option linter.unusedVariables false
set_option linter.unusedSimpArgs false
set_option maxRecDepth 100000
set_option maxHeartbeats 16000000
namespace Go.Proofs.YtfdaebgllibphaaGreatDoor
open Go.Proofs.Tryz
section
open Go.RowKit Go.PlainAid
section
variable {B:Nat} {p:Nat} {E:Env} {T:TV}
theorem jQ1 (f:Nat) (q:QSt) (x:Gx) (q':QSt) (hx:kH E f q=some (x,q')) (w:World) (h:Ud (Pq B w p E T q)) (hl:q.l.length≤800000000):Calls prog 43 #[uQ p 0] w fun e w'=>∃ v:GV,e=.returned (.agg (zN5 x v).toArray)∧GxP (fun k=>w.heap.size≤k) w' x v∧PQ B w p E T q' w':=by
 obtain⟨nb,nw,is,qa,gs,qb,vs,qc,ar,qd,rq,qe,ins,qf,ps,qg,wk,qh,rc,qi,iv,hnb,hnw,h1,h2,h3,h4,h5,h6,h7,h8,h9,h10,rfl⟩:=zP4 hx;obtain⟨⟨tk,tt,ta,tf⟩,ht⟩:∃ t,zC E q.s=t:=⟨_,rfl⟩;have hnx:=fun(w1:World) (h1:Ud (Pq B w1 p E T q))=>zI6 q w1 h1;have hqa:q.at E=⟨q.s,q.l++[ta]⟩:=by unfold QSt.at;rw [ht]
 rw [ht]at hnx;dsimp only [nxV,kW]at hnx;rw [hqa]at hnb h1;rw [show bs "device" = [100,101,118,105,99,101] from by decide]at hnb;rw [show bs "width" = [119,105,100,116,104] from by decide]at hnw;rw [show bs "input" = [105,110,112,117,116] from by decide]at h1;rw [show bs "ghost" = [103,104,111,115,116] from by decide]at h2;rw [show bs "var" = [118,97,114] from by decide]at h3;rw [show bs "array" = [97,114,114,97,121] from by decide]at h4;rw [show bs "require" = [114,101,113,117,105,114,101] from by decide]at h5;rw [show bs "work" = [119,111,114,107] from by decide]at h8;rw [show bs "recover" = [114,101,99,111,118,101,114] from by decide]at h9;rw [show bs "invariant" = [105,110,118,97,114,105,97,110,116] from by decide]at h10;have HNB:=Ph hnb;have HNW:=Ph hnw;have H1:=Ph h1;have H2:=Ph h2;have H3:=Ph h3;have H4:=Ph h4;have H5:=Ph h5;have H6:=Ph h6;have H7:=Ph h7;have H8:=Ph h8;have H9:=Ph h9;have H10:=Ph h10;have HNX:=Ph hnx;have HL:=Ph hl;have HB0:=Ph h.o.b;have HTA0:Ud (∀ g off,T.A=some ⟨g,off,none⟩→g<w.heap.size):=Ph fun g off e=>by obtain⟨Q,hps,_⟩:=h.o.ex;obtain⟨cs,fr,hb⟩:=hps.rd.ty g off e;exact zO hb
 have HP:=Ph (PQ.below h.o (qB1 w uP 36).2.2.1);obtain⟨i1,i2,i3,i4⟩:=qB1 w uP 36;have HR:=Ph i1;have HX:=Ph i2;have hW0:=i4;have hpw:p<w.heap.size:=h.o.lt;clear hx hnb hnw h1 h2 h3 h4 h5 h6 h7 h8 h9 h10 hnx hl hqa ht i1 i2 i3 i4;obtain⟨PW,hPW⟩:∃ P:Nat→Prop,P=fun k=>w.heap.size≤k:=⟨_,rfl⟩;rw [←hPW];have HPW:=Ph hPW;clear hPW;go_enter func43,ntmps43
 go_upto_region 2 with fail
 generalize ((World.alloc _ _))=W0 at *;obtain⟨b,hb⟩:∃ b,w.heap.size+1=b:=⟨_,rfl⟩;obtain⟨r,hr⟩:∃ r,w.heap.size=r:=⟨_,rfl⟩;rw [hb]at HX ⊢;rw [hr]at HR ⊢;have hwr:w.heap.size≤r:=Nat.le_of_eq hr;have hrb:r<b:=Yo;have hbW:b<W0.heap.size:=Yo;have hpr:p<r:=Yo;clear hr hb hW0 hpw;go_wp2_with fail
 refine(HNX.o W0 (Ph HP.o.pq)).mono ?_;rintro e w1 ⟨rfl,hb⟩;have hw1:W0.heap.size≤w1.heap.size:=hb.size;have HG:Ud (GS B p E T w r b w1.heap.size uP tk ta tf q PW (fun _ _=>True) (w1.alloc (.cells #[uB tk,uI ta,uI tf] 44))):=Ph ⟨(HP.o.then hb).then zB,zD (zD HR.o hb) zB,zD (zD HX.o hb) zB,Bk.new _ _ _,Yo,Yo,Yo,Yo,hwr,Yo,Yo,KpI.true,trivial⟩;clear hb HP HR HX HNX;go_upto_region 3 with fail
 generalize (w1.alloc _)=W1 at *;obtain⟨t,ht⟩:∃ t,w1.heap.size=t:=⟨_,rfl⟩;rw [ht]at HG ⊢;clear ht hw1 hbW hrb hpr hwr;go_upto_region 3 with fail
 go_cut [] (fun wx=>Ud (PQ B W1 p E T ⟨q.s,q.l++[ta]⟩ wx))
 case first =>
  obtain⟨Q,A2,k2,w6,hps,hrun,hps2,hpq,hfr,hbk,hbk6⟩:=(HG.o.pq.pq.below (lB _ _).drew).atrun ta HL.o;have hpa:=hps.below (zB (o:=(.cells #[uI ta] 3)));have hb0:Bk W1 p 152 (zZ6 E T Q (q).s):=hps.bk;have e4:(W1.alloc (.cells #[uI ta] 3)).cell? ⟨p,4,none⟩=some (uL Q):=(zD hb0 (zB (o:=(.cells #[uI ta] 3)))).cell 4;obtain⟨g0,g1,g2,g3,g4,g5,g6⟩:=hps.cells;obtain⟨a0,a1,a2,a3,a4,a5,a6⟩:=hpa.cells;obtain⟨t0,t1,t2⟩:=zJ (zD HG.o.bt (lB _ _).drew);obtain⟨u0,u1,u2⟩:=zJ (zD (zD HG.o.bt (lB _ _).drew) (zB (o:=(.cells #[uI ta] 3))));obtain⟨v0,v1,v2⟩:=zJ (zD HG.o.bt (zB (o:=(.cells #[uI ta] 3))));have HRUN:=Ph hrun;have HPS2:=Ph hps2;have HPQ:=Ph hpq;have HFR:=Ph hfr;clear hps hpa hb0 hrun hps2 hpq hfr hbk hbk6
  go_region_law (first
   | (refine qG rfl (.tmp 16) (.tmp 19) rfl _ _ _ rfl rfl (HRUN.o _) ?_
      clear g0 g1 g2 g3 g4 g5 g6 a0 a1 a2 a3 a4 a5 a6 t0 t1 t2 u0 u1 u2 e4 v0 v1 v2;obtain⟨g0,g1,g2,g3,g4,g5,g6⟩:=HPS2.o.cells;have gz:=HPS2.o.frozens 4))
  all_goals
   go_wp2
   go_meet
   exact Ph ⟨HPQ.o,(FrQ.of_below (lB _ _).drew).trans HFR.o⟩
 case rest =>
 have hp:=hcut.o;clear hcut;generalize wc=x1 at *;have HQx:Ud (GS B p E T w r b t uP tk ta tf ⟨q.s,q.l++[ta]⟩ PW _ x1):=Ph (HG.o.then hp);clear HG;have HG:=HQx;clear HQx;clear hp;clear HL;go_wp2_with fail
 refine(zM9 (⟨q.s,q.l++[ta]⟩:QSt) [100,101,118,105,99,101] x1 (Ph HG.o.pq.pq)).mono ?_;rintro e x2 ⟨⟨v4,rfl⟩,hp⟩;have HQx:Ud (GS B p E T w r b t uP tk ta tf ⟨zI E q.s [100,101,118,105,99,101],q.l++[ta]⟩ PW _ x2):=Ph (HG.o.then hp);clear HG;have HG:=HQx;clear HQx;clear hp;go_wp2_with fail
 refine(jT8 ⟨zI E q.s [100,101,118,105,99,101],q.l++[ta]⟩ x2 (Ph HG.o.pq.pq)).mono ?_;rintro e x3 ⟨rfl,hp⟩;have hp':PQ B x2 p E T ⟨nb.2,q.l++[ta]⟩ x3:=by have h9:=hp;rw [show(jB E (⟨zI E q.s [100,101,118,105,99,101],q.l++[ta]⟩:QSt).s)=nb from HNB.o]at h9;exact h9
 rw [show(jB E (⟨zI E q.s [100,101,118,105,99,101],q.l++[ta]⟩:QSt).s)=nb from HNB.o];clear hp;have hp:=hp';clear hp';have HQx:Ud (GS B p E T w r b t uP tk ta tf ⟨nb.2,q.l++[ta]⟩ PW _ x3):=Ph (HG.o.then hp);clear HG;have HG:=HQx;clear HQx;clear hp;have y0:x3.cell? ⟨b,0,none⟩=some (uI 0):=HG.o.bx.cell 0;have f0:x3.frozen? ⟨b,0,none⟩=false:=HG.o.bx.frozen 0;have HQx:Ud (GS B p E T w r b t #[uI nb.1,uI 0,uN,uN,uN,uN,uB 0,uB 0,uW 0,uI 0,uT,uN,uN,uN,uN,uN,uB 0,uB 0,uW 0,uI 0,uT,uN] tk ta tf ⟨nb.2,q.l++[ta]⟩ PW _ ((x3.setCell ⟨b,0,none⟩ (uI nb.1)))):=Ph ((HG.o.put HB0.o 0 (uI nb.1)));clear HG;have HG:=HQx;clear HQx;go_upto_region 6 with fail
 generalize (World.setCell _ _ _)=x4 at *;clear y0 f0;go_wp2_with fail
 refine(zM9 (⟨nb.2,q.l++[ta]⟩:QSt) [119,105,100,116,104] x4 (Ph HG.o.pq.pq)).mono ?_;rintro e x5 ⟨⟨v6,rfl⟩,hp⟩;have HQx:Ud (GS B p E T w r b t #[uI nb.1,uI 0,uN,uN,uN,uN,uB 0,uB 0,uW 0,uI 0,uT,uN,uN,uN,uN,uN,uB 0,uB 0,uW 0,uI 0,uT,uN] tk ta tf ⟨zI E nb.2 [119,105,100,116,104],q.l++[ta]⟩ PW _ x5):=Ph (HG.o.then hp);clear HG;have HG:=HQx;clear HQx;clear hp;go_wp2_with fail
 refine(jT8 ⟨zI E nb.2 [119,105,100,116,104],q.l++[ta]⟩ x5 (Ph HG.o.pq.pq)).mono ?_;rintro e x6 ⟨rfl,hp⟩;have hp':PQ B x5 p E T ⟨nw.2,q.l++[ta]⟩ x6:=by have h9:=hp;rw [show(jB E (⟨zI E nb.2 [119,105,100,116,104],q.l++[ta]⟩:QSt).s)=nw from HNW.o]at h9;exact h9
 rw [show(jB E (⟨zI E nb.2 [119,105,100,116,104],q.l++[ta]⟩:QSt).s)=nw from HNW.o];clear hp;have hp:=hp';clear hp';have HQx:Ud (GS B p E T w r b t #[uI nb.1,uI 0,uN,uN,uN,uN,uB 0,uB 0,uW 0,uI 0,uT,uN,uN,uN,uN,uN,uB 0,uB 0,uW 0,uI 0,uT,uN] tk ta tf ⟨nw.2,q.l++[ta]⟩ PW _ x6):=Ph (HG.o.then hp);clear HG;have HG:=HQx;clear HQx;clear hp;have y0:x6.cell? ⟨b,1,none⟩=some (uI 0):=HG.o.bx.cell 1;have f0:x6.frozen? ⟨b,1,none⟩=false:=HG.o.bx.frozen 1;have HQx:Ud (GS B p E T w r b t #[uI nb.1,uI nw.1,uN,uN,uN,uN,uB 0,uB 0,uW 0,uI 0,uT,uN,uN,uN,uN,uN,uB 0,uB 0,uW 0,uI 0,uT,uN] tk ta tf ⟨nw.2,q.l++[ta]⟩ PW _ ((x6.setCell ⟨b,1,none⟩ (uI nw.1)))):=Ph ((HG.o.put HB0.o 1 (uI nw.1)));clear HG;have HG:=HQx;clear HQx;go_upto_region 8 with fail
 generalize (World.setCell _ _ _)=x7 at *;clear y0 f0;go_wp2_with fail
 refine(qQ1 f [105,110,112,117,116] false Yd ⟨nw.2,q.l++[ta]⟩ is qa H1.o x7 (Ph HG.o.pq.pq)).mono ?_;rintro e x8 ⟨S1,rfl,hs,hp⟩;have hsz:w.heap.size≤x7.heap.size:=HG.o.pq.fr.size;have hs':zE2 PW x8 is S1:=hs.mono itD fun k _ hk=>by rw [HPW.o];exact lE hsz hk
 have HQx:Ud (GS B p E T w r b t #[uI nb.1,uI nw.1,uN,uN,uN,uN,uB 0,uB 0,uW 0,uI 0,uT,uN,uN,uN,uN,uN,uB 0,uB 0,uW 0,uI 0,uT,uN] tk ta tf qa PW _ x8):=Ph ((HG.o.then hp).add (KpI.row itD qC is S1) hs');clear HG;have HG:=HQx;clear HQx;clear hp hs hs' hsz;go_wp2_with fail
 refine(qQ1 f [103,104,111,115,116] false Yd qa gs qb H2.o x8 (Ph HG.o.pq.pq)).mono ?_;rintro e x9 ⟨S2,rfl,hs,hp⟩;have hsz:w.heap.size≤x8.heap.size:=HG.o.pq.fr.size;have hs':zE2 PW x9 gs S2:=hs.mono itD fun k _ hk=>by rw [HPW.o];exact lE hsz hk
 have HQx:Ud (GS B p E T w r b t #[uI nb.1,uI nw.1,uN,uN,uN,uN,uB 0,uB 0,uW 0,uI 0,uT,uN,uN,uN,uN,uN,uB 0,uB 0,uW 0,uI 0,uT,uN] tk ta tf qb PW _ x9):=Ph ((HG.o.then hp).add (KpI.row itD qC gs S2) hs');clear HG;have HG:=HQx;clear HQx;clear hp hs hs' hsz;go_wp2_with fail
 refine(qQ1 f [118,97,114] false Yd qb vs qc H3.o x9 (Ph HG.o.pq.pq)).mono ?_;rintro e x10 ⟨S3,rfl,hs,hp⟩;have hsz:w.heap.size≤x9.heap.size:=HG.o.pq.fr.size;have hs':zE2 PW x10 vs S3:=hs.mono itD fun k _ hk=>by rw [HPW.o];exact lE hsz hk
 have HQx:Ud (GS B p E T w r b t #[uI nb.1,uI nw.1,uN,uN,uN,uN,uB 0,uB 0,uW 0,uI 0,uT,uN,uN,uN,uN,uN,uB 0,uB 0,uW 0,uI 0,uT,uN] tk ta tf qc PW _ x10):=Ph ((HG.o.then hp).add (KpI.row itD qC vs S3) hs');clear HG;have HG:=HQx;clear HQx;clear hp hs hs' hsz;go_wp2_with fail
 refine(qQ1 f [97,114,114,97,121] true Yd qc ar qd H4.o x10 (Ph HG.o.pq.pq)).mono ?_;rintro e x11 ⟨S4,rfl,hs,hp⟩;have hsz:w.heap.size≤x10.heap.size:=HG.o.pq.fr.size;have hs':zE2 PW x11 ar S4:=hs.mono itD fun k _ hk=>by rw [HPW.o];exact lE hsz hk
 have HQx:Ud (GS B p E T w r b t #[uI nb.1,uI nw.1,uN,uN,uN,uN,uB 0,uB 0,uW 0,uI 0,uT,uN,uN,uN,uN,uN,uB 0,uB 0,uW 0,uI 0,uT,uN] tk ta tf qd PW _ x11):=Ph ((HG.o.then hp).add (KpI.row itD qC ar S4) hs');clear HG;have HG:=HQx;clear HQx;clear hp hs hs' hsz;have y0:x11.cell? ⟨b,2,none⟩=some (uN):=HG.o.bx.cell 2;have f0:x11.frozen? ⟨b,2,none⟩=false:=HG.o.bx.frozen 2;have y1:x11.cell? ⟨b,3,none⟩=some (uN):=HG.o.bx.cell 3;have f1:x11.frozen? ⟨b,3,none⟩=false:=HG.o.bx.frozen 3;have y2:x11.cell? ⟨b,4,none⟩=some (uN):=HG.o.bx.cell 4;have f2:x11.frozen? ⟨b,4,none⟩=false:=HG.o.bx.frozen 4;have y3:x11.cell? ⟨b,5,none⟩=some (uN):=HG.o.bx.cell 5;have f3:x11.frozen? ⟨b,5,none⟩=false:=HG.o.bx.frozen 5;have HQx:Ud (GS B p E T w r b t #[uI nb.1,uI nw.1,uL S1,uL S2,uL S3,uL S4,uB 0,uB 0,uW 0,uI 0,uT,uN,uN,uN,uN,uN,uB 0,uB 0,uW 0,uI 0,uT,uN] tk ta tf qd PW _ (((((x11.setCell ⟨b,2,none⟩ (uL S1)).setCell ⟨b,3,none⟩ (uL S2)).setCell ⟨b,4,none⟩ (uL S3)).setCell ⟨b,5,none⟩ (uL S4)))):=Ph (((((HG.o.put HB0.o 2 (uL S1)).put HB0.o 3 (uL S2)).put HB0.o 4 (uL S3)).put HB0.o 5 (uL S4)));clear HG;have HG:=HQx;clear HQx;go_upto_region 9 with fail
 generalize (World.setCell _ _ _)=x12 at *;clear y0 y1 y2 y3 f0 f1 f2 f3;have hnx:=fun(w1:World) (h1:Ud (Pq B w1 p E T qd))=>zI6 (qd) w1 h1;obtain⟨⟨kx,tx,ax,fx⟩,ht⟩:∃ t,zC E (qd).s=t:=⟨_,rfl⟩;have HAX:Ud ((zC E (qd).s).at'=ax):=Ph (by rw [ht]);rw [ht]at hnx;dsimp only [nxV,kW]at hnx;have HNX:=Ph hnx;clear hnx ht;go_wp2_with fail
 refine(HNX.o x12 (Ph HG.o.pq.pq)).mono ?_;rintro e x13 ⟨rfl,hb⟩;have HQx:=Ph (HG.o.below hb);clear HG;have HG:=HQx;clear HQx;clear hb HNX;obtain⟨y0,y1,y2⟩:=zJ HG.o.bt;obtain⟨f0,f1,f2,_,_,_,_⟩:=zZ HG.o.bt;have HQx:=Ph (HG.o.tok HB0.o HTA0.o kx ax fx);clear HG;have HG:=HQx;clear HQx;go_upto_region 10 with fail
 generalize (World.setCell _ _ _)=x14 at *;clear y0 y1 y2 f0 f1 f2;have y0:x14.cell? ⟨b,6,none⟩=some (uB 0):=HG.o.bx.cell 6;have f0:x14.frozen? ⟨b,6,none⟩=false:=HG.o.bx.frozen 6;have y1:x14.cell? ⟨b,7,none⟩=some (uB 0):=HG.o.bx.cell 7;have f1:x14.frozen? ⟨b,7,none⟩=false:=HG.o.bx.frozen 7;have y2:x14.cell? ⟨b,8,none⟩=some (uW 0):=HG.o.bx.cell 8;have f2:x14.frozen? ⟨b,8,none⟩=false:=HG.o.bx.frozen 8;have y3:x14.cell? ⟨b,9,none⟩=some (uI 0):=HG.o.bx.cell 9;have f3:x14.frozen? ⟨b,9,none⟩=false:=HG.o.bx.frozen 9;have y4:x14.cell? ⟨b,10,none⟩=some (uT):=HG.o.bx.cell 10;have f4:x14.frozen? ⟨b,10,none⟩=false:=HG.o.bx.frozen 10;have y5:x14.cell? ⟨b,11,none⟩=some (uN):=HG.o.bx.cell 11;have f5:x14.frozen? ⟨b,11,none⟩=false:=HG.o.bx.frozen 11;have HQx:Ud (GS B p E T w r b t #[uI nb.1,uI nw.1,uL S1,uL S2,uL S3,uL S4,uB 1,uB 0,uW 1,uI 1,uT,uN,uN,uN,uN,uN,uB 0,uB 0,uW 0,uI 0,uT,uN] kx ax fx qd PW _ (((((((x14.setCell ⟨b,6,none⟩ (uB 1)).setCell ⟨b,7,none⟩ (uB 0)).setCell ⟨b,8,none⟩ (uW 1)).setCell ⟨b,9,none⟩ (uI 1)).setCell ⟨b,10,none⟩ (uT)).setCell ⟨b,11,none⟩ (uN)))):=Ph (((((((HG.o.put HB0.o 6 (uB 1)).put HB0.o 7 (uB 0)).put HB0.o 8 (uW 1)).put HB0.o 9 (uI 1)).put HB0.o 10 (uT)).put HB0.o 11 (uN)));clear HG;have HG:=HQx;clear HQx;go_upto_region 11 with fail
 generalize (World.setCell _ _ _)=x15 at *;clear y0 f0 y1 f1 y2 f2 y3 f3 y4 f4 y5 f5;have hK:∃ K,Ud (GS B p E T w r b t #[uI nb.1,uI nw.1,uL S1,uL S2,uL S3,uL S4,uB 1,uB 0,uW 1,uI 1,uT,uN,uN,uN,uN,uN,uB 0,uB 0,uW 0,uI 0,uT,uN] kx ax fx qd PW K x15)∧Ud (∀ P W,K P W→zE2 P W is S1∧zE2 P W gs S2∧zE2 P W vs S3∧zE2 P W ar S4):=⟨_,HG,Ph fun P W h=>⟨h.1.1.1.2,h.1.1.2,h.1.2,h.2⟩⟩;clear HG;obtain⟨K4,HG,HK4⟩:=hK;go_wp2_with fail
 refine(isQ qd [114,101,113,117,105,114,101] x15 (Ph HG.o.pq.pq)).mono ?_;rintro e x16 ⟨rfl,hp⟩;have HQx:Ud (GS B p E T w r b t #[uI nb.1,uI nw.1,uL S1,uL S2,uL S3,uL S4,uB 1,uB 0,uW 1,uI 1,uT,uN,uN,uN,uN,uN,uB 0,uB 0,uW 0,uI 0,uT,uN] kx ax fx (qd.on (isS E qd.s [114,101,113,117,105,114,101])) PW _ x16):=Ph (HG.o.then hp);clear HG;have HG:=HQx;clear HQx;clear hp;go_upto_if 53 with fail
 go_cut [] (fun wx=>∃ SQ:SV,Ud (GS B p E T w r b t #[uI nb.1,uI nw.1,uL S1,uL S2,uL S3,uL S4,uB rq.kind,uB rq.op,uW rq.value,uI rq.width,uR rq.name,uL SQ,uN,uN,uN,uN,uB 0,uB 0,uW 0,uI 0,uT,uN] kx ax fx qe PW K4 wx)∧Ud (TX PW wx rq SQ))
 case first =>
  rename_i J1 K1 hR1 hM1;rcases H5.o with⟨hi,hx5⟩ | ⟨hi,hl5,rfl,rfl⟩
  ·have hq:qd.on (isS E qd.s [114,101,113,117,105,114,101])=qd.on (zE qd.s):=by unfold isS;rw [hi];rfl
   rw [hi];rw [hq]at HG;have HX5:=Ph hx5;clear hx5 hi hq;go_wp2_with fail
   refine(zC3 f (qd.on (zE qd.s)) rq qe HX5.o x16 (Ph HG.o.pq.pq)).mono ?_;rintro e x17 ⟨SQ,rfl,hs,hp⟩;have hsz:w.heap.size≤x16.heap.size:=HG.o.pq.fr.size;have HS5:Ud (TX PW x17 rq SQ):=Ph (hs.mono fun k _ hk=>by rw [HPW.o];exact lE hsz hk);clear hs hsz;rw [xL];have HQx:Ud (GS B p E T w r b t #[uI nb.1,uI nw.1,uL S1,uL S2,uL S3,uL S4,uB 1,uB 0,uW 1,uI 1,uT,uN,uN,uN,uN,uN,uB 0,uB 0,uW 0,uI 0,uT,uN] kx ax fx qe PW _ x17):=Ph (HG.o.then hp);clear HG;have HG:=HQx;clear HQx;clear hp;have y0:x17.cell? ⟨b,6,none⟩=some (uB 1):=HG.o.bx.cell 6;have f0:x17.frozen? ⟨b,6,none⟩=false:=HG.o.bx.frozen 6;have y1:x17.cell? ⟨b,7,none⟩=some (uB 0):=HG.o.bx.cell 7;have f1:x17.frozen? ⟨b,7,none⟩=false:=HG.o.bx.frozen 7;have y2:x17.cell? ⟨b,8,none⟩=some (uW 1):=HG.o.bx.cell 8;have f2:x17.frozen? ⟨b,8,none⟩=false:=HG.o.bx.frozen 8;have y3:x17.cell? ⟨b,9,none⟩=some (uI 1):=HG.o.bx.cell 9;have f3:x17.frozen? ⟨b,9,none⟩=false:=HG.o.bx.frozen 9;have y4:x17.cell? ⟨b,10,none⟩=some (uT):=HG.o.bx.cell 10;have f4:x17.frozen? ⟨b,10,none⟩=false:=HG.o.bx.frozen 10;have y5:x17.cell? ⟨b,11,none⟩=some (uN):=HG.o.bx.cell 11;have f5:x17.frozen? ⟨b,11,none⟩=false:=HG.o.bx.frozen 11;have HG0:=HG;have HQx:Ud (GS B p E T w r b t #[uI nb.1,uI nw.1,uL S1,uL S2,uL S3,uL S4,uB rq.kind,uB rq.op,uW rq.value,uI rq.width,uR rq.name,uL SQ,uN,uN,uN,uN,uB 0,uB 0,uW 0,uI 0,uT,uN] kx ax fx qe PW _ (((((((x17.setCell ⟨b,6,none⟩ (uB rq.kind)).setCell ⟨b,7,none⟩ (uB rq.op)).setCell ⟨b,8,none⟩ (uW rq.value)).setCell ⟨b,9,none⟩ (uI rq.width)).setCell ⟨b,10,none⟩ (uR rq.name)).setCell ⟨b,11,none⟩ (uL SQ)))):=Ph (((((((HG.o.put HB0.o 6 (uB rq.kind)).put HB0.o 7 (uB rq.op)).put HB0.o 8 (uW rq.value)).put HB0.o 9 (uI rq.width)).put HB0.o 10 (uR rq.name)).put HB0.o 11 (uL SQ)));clear HG;have HG:=HQx;clear HQx;have HS6:=Ph (HS5.o.stay (Stays.box (kL5 x17 b 6 (uB rq.kind) (uB rq.op) (uW rq.value) (uI rq.width) (uR rq.name) (uL SQ)) HG0.o.bx xT));go_wp2
   go_meet
   exact⟨SQ,HG,HS6⟩
  ·have hq:qd.on (isS E qd.s [114,101,113,117,105,114,101])=qd:=by unfold isS;rw [hi];rfl
   rw [hi];rw [hq]at HG;have HL:=Ph hl5;have hqe:qd.at E=⟨qd.s,qd.l++[ax]⟩:=by unfold QSt.at;rw [HAX.o]
   have HQE:=Ph hqe;clear hl5 hi hq hqe H5;go_upto_region 13 with fail
   go_cut [] (fun wx=>Ud (PQ B x16 p E T ⟨qd.s,qd.l++[ax]⟩ wx))
   case first =>
    obtain⟨Q,A2,k2,w6,hps,hrun,hps2,hpq,hfr,hbk,hbk6⟩:=(HG.o.pq.pq.below (lB _ _).drew).atrun ax HL.o;have hpa:=hps.below (zB (o:=(.cells #[uI ax] 3)));have hb0:Bk x16 p 152 (zZ6 E T Q (qd).s):=hps.bk;have e4:(x16.alloc (.cells #[uI ax] 3)).cell? ⟨p,4,none⟩=some (uL Q):=(zD hb0 (zB (o:=(.cells #[uI ax] 3)))).cell 4;obtain⟨g0,g1,g2,g3,g4,g5,g6⟩:=hps.cells;obtain⟨a0,a1,a2,a3,a4,a5,a6⟩:=hpa.cells;obtain⟨t0,t1,t2⟩:=zJ (zD HG.o.bt (lB _ _).drew);obtain⟨u0,u1,u2⟩:=zJ (zD (zD HG.o.bt (lB _ _).drew) (zB (o:=(.cells #[uI ax] 3))));obtain⟨v0,v1,v2⟩:=zJ (zD HG.o.bt (zB (o:=(.cells #[uI ax] 3))));have HRUN:=Ph hrun;have HPS2:=Ph hps2;have HPQ:=Ph hpq;have HFR:=Ph hfr;clear hps hpa hb0 hrun hps2 hpq hfr hbk hbk6
    go_region_law (first
     | (refine qG rfl (.tmp 61) (.tmp 64) rfl _ _ _ rfl rfl (HRUN.o _) ?_
        clear g0 g1 g2 g3 g4 g5 g6 a0 a1 a2 a3 a4 a5 a6 t0 t1 t2 u0 u1 u2 e4 v0 v1 v2;obtain⟨g0,g1,g2,g3,g4,g5,g6⟩:=HPS2.o.cells;have gz:=HPS2.o.frozens 4))
    all_goals
     go_wp2
     go_meet
     exact Ph ⟨HPQ.o,(FrQ.of_below (lB _ _).drew).trans HFR.o⟩
   case rest =>
   have hp:=hcut.o;clear hcut;generalize wc=x22 at *;have HQx:Ud (GS B p E T w r b t #[uI nb.1,uI nw.1,uL S1,uL S2,uL S3,uL S4,uB 1,uB 0,uW 1,uI 1,uT,uN,uN,uN,uN,uN,uB 0,uB 0,uW 0,uI 0,uT,uN] kx ax fx ⟨qd.s,qd.l++[ax]⟩ PW _ x22):=Ph (HG.o.then hp);clear HG;have HG:=HQx;clear HQx;clear hp;apply hM1;go_meet
   rw [HQE.o];exact⟨⟨none,0,0⟩,HG,Ph (TX.leaf kN2 rfl)⟩
 case rest =>
 obtain⟨SQ,HGn,HSQ⟩:=hcut;clear HG H5;have hsq:=HSQ.o;have HG:=Ph (HGn.o.add (KpI.item itX rq SQ) hsq);clear hsq HSQ HGn;generalize wc=x37 at *;have hK:∃ K,Ud (GS B p E T w r b t #[uI nb.1,uI nw.1,uL S1,uL S2,uL S3,uL S4,uB rq.kind,uB rq.op,uW rq.value,uI rq.width,uR rq.name,uL SQ,uN,uN,uN,uN,uB 0,uB 0,uW 0,uI 0,uT,uN] kx ax fx qe PW K x37)∧Ud (∀ P W,K P W→K4 P W∧TX P W rq SQ):=⟨_,HG,Ph fun P W h=>h⟩;clear HG;obtain⟨K5,HG,HK5⟩:=hK;have hnx:=fun(w1:World) (h1:Ud (Pq B w1 p E T qe))=>zI6 (qe) w1 h1;obtain⟨⟨kx,tx,ax,fx⟩,ht⟩:∃ t,zC E (qe).s=t:=⟨_,rfl⟩;have HAX:Ud ((zC E (qe).s).at'=ax):=Ph (by rw [ht]);rw [ht]at hnx;dsimp only [nxV,kW]at hnx;have HNX:=Ph hnx;clear hnx ht;go_wp2_with fail
 refine(HNX.o x37 (Ph HG.o.pq.pq)).mono ?_;rintro e x38 ⟨rfl,hb⟩;have HQx:=Ph (HG.o.below hb);clear HG;have HG:=HQx;clear HQx;clear hb HNX;obtain⟨y0,y1,y2⟩:=zJ HG.o.bt;obtain⟨f0,f1,f2,_,_,_,_⟩:=zZ HG.o.bt;have HQx:=Ph (HG.o.tok HB0.o HTA0.o kx ax fx);clear HG;have HG:=HQx;clear HQx;go_upto_block 0 with fail
 generalize (World.setCell _ _ _)=x39 at *;clear y0 y1 y2 f0 f1 f2;obtain⟨lim,hlim⟩:∃ l,x39.heap.size=l:=⟨_,rfl⟩;obtain⟨P1,hP1⟩:∃ P:Nat→Prop,P=fun k=>PW k∧k<lim:=⟨_,rfl⟩;have HP1:=Ph hP1;have HLW:Ud (lim≤x39.heap.size):=Ph (Nat.le_of_eq hlim.symm);have HWL:Ud (w.heap.size≤lim):=Ph (hlim▸HG.o.pq.fr.size);have HQx:=Ph (HG.o.mono (P1:=P1) fun k hk1 hk=>by rw [HP1.o];exact⟨hk,Yo⟩);clear HG;have HG:=HQx;clear HQx hlim hP1;go_cut [] (fun wx=>∃ (SI:SV) (kx ax fx:Nat),Ud (GS B p E T w r b t #[uI nb.1,uI nw.1,uL S1,uL S2,uL S3,uL S4,uB rq.kind,uB rq.op,uW rq.value,uI rq.width,uR rq.name,uL SQ,uL SI,uN,uN,uN,uB 0,uB 0,uW 0,uI 0,uT,uN] kx ax fx qf PW K5 wx)∧Ud (jT5 PW wx ins SI))
 case first =>
  rename_i J1 K1 hR1 hM1;refine kI6 f w x39 r b t (uI nb.1) (uI nw.1) (uL S1) (uL S2) (uL S3) (uL S4) (uB rq.kind) (uB rq.op) (uW rq.value) (uI rq.width) (uR rq.name) (uL SQ) (uN) (uN) (uN) (uN) (uB 0) (uB 0) (uW 0) (uI 0) (uT) (uN) kx ax fx lim PW P1 K5 qe qf ins HG HAX HLW HWL HP1 HPW HB0 HTA0 H6 _ Yk _ _ _ _ _ _ _ _ _ _ _ _ _ _ _ _ _ _ _ _ _ _ _ _ _ _ _ _ _ _ _ _ _ _ _ _ _ _ _ _ _ _ _ _ _ _ _ _ _ _ _ _ _ _ _ _ _ _ _ _ _ _ _ _ _ _ _ _ _ _ _ _ _ _ _ _ _ _ _ _ _ _ _ _ _ _ _ _ _ _ _ _ _ _ _ _ _ _ _ _ _ _ _ _ _ _ _ _ _ _ _ _ _ _ _ _ _ _ _ _ _ _ _ _ _ _ _ _ _ _ _ _ _ _ _ _ _ _ _ _ _ _ _ _ _ _ _ K1 _ (fun SI kx ax fx x6 x73 x74 x75 x76 x77 x78 x79 x80 x81 x82 x83 x84 x85 x86 x87 x88 x89 x90 x91 x92 x93 x94 x95 x96 x97 x98 x99 x100 x101 x102 x103 x104 W' h1 h2=>?_);apply hM1;go_meet
  exact⟨SI,kx,ax,fx,h1,h2⟩
 case rest =>
 obtain⟨SI,kx,ax,fx,HGn,HSI⟩:=hcut;clear HG H6 HAX HLW HWL HP1;have hsq:=HSI.o;have HG:=Ph (HGn.o.add (KpI.row itI jZ ins SI) hsq);clear hsq HSI HGn;generalize wc=x40 at *;have hK:∃ K,Ud (GS B p E T w r b t #[uI nb.1,uI nw.1,uL S1,uL S2,uL S3,uL S4,uB rq.kind,uB rq.op,uW rq.value,uI rq.width,uR rq.name,uL SQ,uL SI,uN,uN,uN,uB 0,uB 0,uW 0,uI 0,uT,uN] kx ax fx qf PW K x40)∧Ud (∀ P W,K P W→K5 P W∧jT5 P W ins SI):=⟨_,HG,Ph fun P W h=>h⟩;clear HG;obtain⟨K6,HG,HK6⟩:=hK;have hnx:=fun(w1:World) (h1:Ud (Pq B w1 p E T qf))=>zI6 (qf) w1 h1;obtain⟨⟨kx,tx,ax,fx⟩,ht⟩:∃ t,zC E (qf).s=t:=⟨_,rfl⟩;have HAX:Ud ((zC E (qf).s).at'=ax):=Ph (by rw [ht]);rw [ht]at hnx;dsimp only [nxV,kW]at hnx;have HNX:=Ph hnx;clear hnx ht;go_wp2_with fail
 refine(HNX.o x40 (Ph HG.o.pq.pq)).mono ?_;rintro e x41 ⟨rfl,hb⟩;have HQx:=Ph (HG.o.below hb);clear HG;have HG:=HQx;clear HQx;clear hb HNX;obtain⟨y0,y1,y2⟩:=zJ HG.o.bt;obtain⟨f0,f1,f2,_,_,_,_⟩:=zZ HG.o.bt;have HQx:=Ph (HG.o.tok HB0.o HTA0.o kx ax fx);clear HG;have HG:=HQx;clear HQx;go_upto_block 2 with fail
 generalize (World.setCell _ _ _)=x42 at *;clear y0 y1 y2 f0 f1 f2;obtain⟨lim,hlim⟩:∃ l,x42.heap.size=l:=⟨_,rfl⟩;obtain⟨P1,hP1⟩:∃ P:Nat→Prop,P=fun k=>PW k∧k<lim:=⟨_,rfl⟩;have HP1:=Ph hP1;have HLW:Ud (lim≤x42.heap.size):=Ph (Nat.le_of_eq hlim.symm);have HWL:Ud (w.heap.size≤lim):=Ph (hlim▸HG.o.pq.fr.size);have HQx:=Ph (HG.o.mono (P1:=P1) fun k hk1 hk=>by rw [HP1.o];exact⟨hk,Yo⟩);clear HG;have HG:=HQx;clear HQx hlim hP1;go_cut [] (fun wx=>∃ (SP:SV) (kx ax fx:Nat),Ud (GS B p E T w r b t #[uI nb.1,uI nw.1,uL S1,uL S2,uL S3,uL S4,uB rq.kind,uB rq.op,uW rq.value,uI rq.width,uR rq.name,uL SQ,uL SI,uL SP,uN,uN,uB 0,uB 0,uW 0,uI 0,uT,uN] kx ax fx qg PW K6 wx)∧Ud (jT6 PW wx ps SP))
 case first =>
  rename_i J1 K1 hR1 hM1;refine kI7 f w x42 r b t (uI nb.1) (uI nw.1) (uL S1) (uL S2) (uL S3) (uL S4) (uB rq.kind) (uB rq.op) (uW rq.value) (uI rq.width) (uR rq.name) (uL SQ) (uL SI) (uN) (uN) (uN) (uB 0) (uB 0) (uW 0) (uI 0) (uT) (uN) kx ax fx lim PW P1 K6 qf qg ps HG HAX HLW HWL HP1 HPW HB0 HTA0 H7 _ Yk _ _ _ _ _ _ _ _ _ _ _ _ _ _ _ _ _ _ _ _ _ _ _ _ _ _ _ _ _ _ _ _ _ _ _ _ _ _ _ _ _ _ _ _ _ _ _ _ _ _ _ _ _ _ _ _ _ _ _ _ _ _ _ _ _ _ _ _ _ _ _ _ _ _ _ _ _ _ _ _ _ _ _ _ _ _ _ _ _ _ _ _ _ _ _ _ _ _ _ _ _ _ _ _ _ _ _ _ _ _ _ _ _ _ _ _ _ _ _ _ _ _ _ _ _ _ _ _ _ _ _ _ _ _ _ _ _ _ _ _ _ _ _ _ _ _ _ K1 _ (fun SP kx ax fx x110 x111 x112 x113 x114 x115 x116 x117 x118 x119 x120 x121 x122 x123 x124 x125 x126 x127 x128 x129 x130 x131 x132 x133 x134 W' h1 h2=>?_);apply hM1;go_meet
  exact⟨SP,kx,ax,fx,h1,h2⟩
 case rest =>
 obtain⟨SP,kx,ax,fx,HGn,HSP⟩:=hcut;clear HG H7 HAX HLW HWL HP1;have hsq:=HSP.o;have HG:=Ph (HGn.o.add (KpI.row itR zD1 ps SP) hsq);clear hsq HSP HGn;generalize wc=x43 at *;have hK:∃ K,Ud (GS B p E T w r b t #[uI nb.1,uI nw.1,uL S1,uL S2,uL S3,uL S4,uB rq.kind,uB rq.op,uW rq.value,uI rq.width,uR rq.name,uL SQ,uL SI,uL SP,uN,uN,uB 0,uB 0,uW 0,uI 0,uT,uN] kx ax fx qg PW K x43)∧Ud (∀ P W,K P W→K6 P W∧jT6 P W ps SP):=⟨_,HG,Ph fun P W h=>h⟩;clear HG;obtain⟨K7,HG,HK7⟩:=hK;have HKK:Ud (∀ P W,K7 P W→zE2 P W is S1∧zE2 P W gs S2∧zE2 P W vs S3∧zE2 P W ar S4∧TX P W rq SQ∧jT5 P W ins SI∧jT6 P W ps SP):=Ph fun P W h=>by obtain⟨hk6,hkp⟩:=HK7.o _ _ h;obtain⟨hk5,hkn⟩:=HK6.o _ _ hk6;obtain⟨hk4,hkq⟩:=HK5.o _ _ hk5;obtain⟨k1,k2,k3,k4⟩:=HK4.o _ _ hk4;exact⟨k1,k2,k3,k4,hkq,hkn,hkp⟩
 go_step
 exact jP9 f w x43 r b t kx ax fx nb nw S1 S2 S3 S4 SQ SI SP is gs vs ar rq ins ps wk rc iv PW K7 qg qh qi q' HG HKK HPW HB0 H8 H9 H10 _ Yk _ _ _ _ _ _ _ _ _ _ _ _ _ _ _ _ _ _ _ _ _ _ _ _ _ _ _ _ _ _ _ _ _ _ _ _ _ _ _ _ _ _ _ _ _ _ _ _ _ _ _ _ _ _ _ _ _ _ _ _ _ _ _ _ _ _ _ _ _ _ _ _ _ _ _ _ _ _ _ _ _ _ _ _ _ _ _ _ _ _ _ _ _ _ _ _ _ _ _ _ _ _ _ _ _ _ _ _ _ _ _ _ _ _ _ _ _ _ _ _ _ _ _ _ _ _ _ _ _ _ _ _ _ _ _ _ _ _ _ _ _ _ _ _ _ _ _
end
end
section
open Go.RowKit Go.PlainAid
inductive ExR (f:Nat) (t:List UInt8):Ex→Nat→Nat→Prop where
 | bad (a:Nat) (h:zI3 (kG t)=some a):ExR f t ex0 a 280
 | ok (X:Nd) (s:PSt) (h:zI3 (kG t)=none) (hc:zM ⟨t,zY t (kG t)⟩ f ⟨0,0,0,0⟩=some (X,s)) (he:s.e=0) (hn:(zY t (kG t)).length≤s.n):ExR f t X.1 t.length 0
 | rest (X:Nd) (s:PSt) (h:zI3 (kG t)=none) (hc:zM ⟨t,zY t (kG t)⟩ f ⟨0,0,0,0⟩=some (X,s)) (he:s.e=0) (hn:s.n<(zY t (kG t)).length):ExR f t ex0 (qH ⟨t,zY t (kG t)⟩ s 300).fail 300
 | no (X:Nd) (s:PSt) (h:zI3 (kG t)=none) (hc:zM ⟨t,zY t (kG t)⟩ f ⟨0,0,0,0⟩=some (X,s)) (he:s.e≠0):ExR f t ex0 s.fail s.e
theorem qM9 {f:Nat} {t:List UInt8} {x:Ex} {a e:Nat} (h:xW f t=some (x,a,e)) (hs:t.length≤65536):ExR f t x a e:=by
 unfold xW at h;rw [lN Yo]at h;cases hb:zI3 (kG t)with
 | some b =>
   rw [hb]at h;injection h with h;injection h with h1 h;injection h with h2 h3;subst h1 h2 h3;exact .bad _ hb
 | none =>
   rw [hb]at h;(try dsimp only at h);cases hc:zM ⟨t,zY t (kG t)⟩ f ⟨0,0,0,0⟩with
   | none=>rw [hc]at h;cases h
   | some q =>
     obtain⟨X,s⟩:=q;rw [hc]at h;(try dsimp only at h);by_cases he:s.e=0
     ·by_cases hn:s.n<(zY t (kG t)).length
      ·have hr:zM1 ⟨t,zY t (kG t)⟩ s=qH ⟨t,zY t (kG t)⟩ s 300:=by unfold zM1;rw [lM ⟨he,hn⟩]
       have he3:(qH ⟨t,zY t (kG t)⟩ s 300).e=300:=by unfold qH;rw [lM he]
       rw [hr,lN (by rw [he3];omega),he3]at h;injection h with h;injection h with h1 h;injection h with h2 h3;subst h1 h2 h3;exact .rest X s hb hc he hn
      ·have hr:zM1 ⟨t,zY t (kG t)⟩ s=s:=by unfold zM1;rw [lN (fun h=>hn h.2)]
       rw [hr,lM he]at h;injection h with h;injection h with h1 h;injection h with h2 h3;subst h1 h2 h3;exact .ok X s hb hc he Yo
     ·have hr:zM1 ⟨t,zY t (kG t)⟩ s=s:=by unfold zM1;rw [lN (fun h=>he h.1)]
      rw [hr,lN he]at h;injection h with h;injection h with h1 h;injection h with h2 h3;subst h1 h2 h3;exact .no X s hb hc he
def kI8 (w:World) (x:Ex) (a e:Nat) (en:Ending) (w':World):Prop:=∃ S A n c,en=.returned (.tuple #[.agg (qX x S).toArray,.slice A n c,uI a,uI e])∧TrT w.heap.size w' x S∧Below w.heap.size w w'
theorem jG6:zX3 ex0:=⟨Yd,Yd,Yd,Yd,Yd,Yd,Yd⟩
def zTx:Array Value:=uZ
theorem qX5 (w:World):Bk ((w.alloc (.cells zTx 31)).alloc (.cells zTx 31)) w.heap.size 31 zTx∧Bk ((w.alloc (.cells zTx 31)).alloc (.cells zTx 31)) (w.heap.size+1) 31 zTx∧Below w.heap.size w ((w.alloc (.cells zTx 31)).alloc (.cells zTx 31))∧((w.alloc (.cells zTx 31)).alloc (.cells zTx 31)).heap.size=w.heap.size+2:=by have h2:=Bk.new (w.alloc (.cells zTx 31)) 31 zTx;simp only [lO]at h2;exact⟨(Bk.new w _ zTx).alloc _,h2,zG (zG (lB _ _) _) _,Ym⟩
theorem zB6 {w W WF:World} {r:Nat} (hb:Below w.heap.size w W) (hr:w.heap.size≤r) (hf:Fr (fun k=>k=r) W WF):Below w.heap.size w WF:=hb.trans (hf.below w.heap.size hb.size (fun i hi e=>Yo))
theorem kN7 (f:Nat) (t:List UInt8) (x:Ex) (a e:Nat) (hx:xW f t=some (x,a,e)) (hs:t.length≤65536) (w:World) (hv:Ud (Vars w)) :
 Calls prog 53 #[uR t,uF 54] w (kI8 w x a e):=by
 have HS:Ud (∀ W,Calls prog 10 #[uR t] W (jN3 W t)):=Ph fun W=>jN4 (str t) W (by rw [jV];exact hs);obtain⟨h1,h2,h3,h4⟩:=qX5 w;have HR0:=Ph h1;have HN0:=Ph h2;have HB0:=Ph h3;have HZ0:=Ph h4;unfold zTx at HR0 HN0 HB0 HZ0;clear h1 h2 h3 h4;have hcs:=qM9 hx hs;clear hx;cases hcs with
 | bad a h =>
   have HH:=Ph h;clear h;go_enter func53,ntmps53
   go_wp2_with fail
   generalize ((World.alloc _ _))=W at HR0 HN0 HB0 HZ0 ⊢;refine(HS.o W).mono ?_;rintro en w1 ⟨hb,⟨a1,h1,rfl⟩ | ⟨h1,_⟩⟩
   ·obtain rfl:a=a1:=by have:=HH.o;rw [h1]at this;injection this with this;exact this.symm
    have HR1:=Ph (zD HR0.o hb);have HN1:=Ph (zD HN0.o hb);have HB1:=Ph (zU HB0.o hb);clear hb h1;obtain⟨r,hr⟩:∃ r,w.heap.size=r:=⟨_,rfl⟩;obtain⟨m,hm⟩:∃ m,w.heap.size+1=m:=⟨_,rfl⟩;rw [hm]at HN1;rw [hr]at HR1;rw [hm,hr];have hrm:m≠r:=Yo;have hwr:w.heap.size≤r:=Yo;clear hr hm;obtain⟨x0,x1,x2,x3,x4,x5⟩:=zH HN1.o;obtain⟨y0,y1,y2,y3,y4,y5⟩:=zH HR1.o;obtain⟨f0,f1,f2,f3,f4,f5,_⟩:=zZ HR1.o;have HF:=Ph (fr6 w1 r (uB 0) (uB 0) (uW 0) (uI 0) (uT) (uN));have HK:=Ph (put6 (v0:=uB 0) (v1:=uB 0) (v2:=uW 0) (v3:=uI 0) (v4:=uT) (v5:=uN) HR1.o);go_wp2_with fail
    generalize (World.setCell _ _ _)=WF at HF HK ⊢;obtain⟨r0,r1,r2,r3,r4,r5⟩:=zH HK.o;refine lK (v:=.tuple #[.agg uZ,uN,uI a,uI 280]) (by simp [results,results53,go_sem,r0,r1,r2,r3,r4,r5]) rfl ?_;exact⟨⟨none,0,0⟩,none,0,0,rfl,.leaf jG6 rfl 0,zB6 HB1.o hwr HF.o⟩
   ·have:=HH.o;rw [h1]at this;cases this
 | ok X s h hc he hn =>
   have HC:=Ph hc;have HBD:=Ph h;have HEN:=Ph (qP8 t hs);obtain⟨T,hT⟩:∃ T,zY t (kG t)=T:=⟨_,rfl⟩;rw [hT]at HC HEN hn;have HT:=Ph hT;clear hc h;clear hT;go_enter func53,ntmps53
   go_wp2_with fail
   generalize ((World.alloc _ _))=W at HR0 HN0 HB0 HZ0 ⊢;refine(HS.o W).mono ?_;rintro en w1 ⟨hb,⟨a1,h1,_⟩ | ⟨h1,A,c,rfl,hrd⟩⟩
   ·have:=HBD.o;rw [h1]at this;cases this
   rw [HT.o]at hrd ⊢;have HR1:=Ph (zD HR0.o hb);have HN1:=Ph (zD HN0.o hb);have HB1:=Ph (zU HB0.o hb);have HRD:=Ph hrd;have hz1:w.heap.size+2≤w1.heap.size:=by have:=HZ0.o;have:=hb.size;omega
   clear hb h1 hrd HR0 HN0 HB0 HZ0;obtain⟨r,hr⟩:∃ r,w.heap.size=r:=⟨_,rfl⟩;obtain⟨m,hm⟩:∃ m,w.heap.size+1=m:=⟨_,rfl⟩;rw [hm]at HN1;rw [hr]at HR1;rw [hm,hr];have hrm:m≠r:=Yo;have hwr:w.heap.size≤r:=Yo;have hr1:r<w1.heap.size:=Yo;have hm1:m<w1.heap.size:=Yo;clear hr hm hz1;obtain⟨l0,l1⟩:=(hv.o.below HB1.o).lt;have hBp:=Bk.new w1 152 #[uR t,.slice A T.length c,uI 0,uI 0,uN,uI 0,uI 0];have HP2:Ud (Ps (w1.alloc (.cells #[uR t,.slice A T.length c,uI 0,uI 0,uN,uI 0,uI 0] 152)) w1.heap.size ⟨t,T⟩ ⟨A,T.length,c,w1.heap.size⟩ ⟨none,0,0⟩ ⟨0,0,0,0⟩):=Ph ⟨hBp,HRD.o.below zB,HEN.o,lV _,(hv.o.below HB1.o).below zB,Yo,Yo,by rw [lO];exact Nat.le_succ _⟩;have HB2:Ud (Ue w (w1.alloc (.cells #[uR t,.slice A T.length c,uI 0,uI 0,uN,uI 0,uI 0] 152))):=Ph (zG HB1.o _);have HR2:=Ph (HR1.o.alloc (.cells #[uR t,.slice A T.length c,uI 0,uI 0,uN,uI 0,uI 0] 152));have HN2:=Ph (HN1.o.alloc (.cells #[uR t,.slice A T.length c,uI 0,uI 0,uN,uI 0,uI 0] 152));clear hBp HR1 HN1 HB1 HRD l0 l1;go_upto_region 6 with fail
   have hz2:(w1.alloc (.cells #[uR t,.slice A T.length c,uI 0,uI 0,uN,uI 0,uI 0] 152)).heap.size=w1.heap.size+1:=by rw [lO]
   generalize (w1.alloc _)=W2 at HP2 HB2 HR2 HN2 hz2 ⊢;obtain⟨p,hp⟩:∃ p,w1.heap.size=p:=⟨_,rfl⟩;rw [hp]at HP2;rw [hp];have hrp:r≠p:=Yo;have hmp:m≠p:=Yo;have hr2:r<W2.heap.size:=Yo;have hwp:w.heap.size≤p:=Yo;clear hp hz2 hr1 hm1;have HEC:=Ph (jY4 f _ X s W2 HC.o HP2);go_wp2_with fail
   refine HEC.o.mono ?_;rintro en w3 ⟨S,Q',rfl,ht,hps,hfr⟩;unfold qX;have HX3:=Ph ht;have HP3:=Ph hps;have HR3:=Ph (HR2.o.fr hfr hrp);have HN3:=Ph (HN2.o.fr hfr hmp);have HB3:=Ph (HB2.o.trans (hfr.below w.heap.size HB2.o.size (fun i hi e=>Yo)));have hw23:W2.heap.size≤w3.heap.size:=hfr.size;clear ht hps hfr HEC HR2 HN2;have HYB:=Ph (Bk.new w3 31 (uE X.1 S));have HP4:=Ph (HP3.o.below (zB (o:=(.cells (uE X.1 S) 31))));have HR4:=Ph (HR3.o.alloc (.cells (uE X.1 S) 31));have HN4:=Ph (HN3.o.alloc (.cells (uE X.1 S) 31));have HB4:=Ph (zG HB3.o (.cells (uE X.1 S) 31));have HX4:=Ph (HX3.o.bel (zB (o:=(.cells (uE X.1 S) 31))));have hwx:r<w3.heap.size:=Yo;have hpx:p<w3.heap.size:=HP3.o.lt;clear HP3 HR3 HN3 HB3 HX3 hw23;go_upto_region 7 with fail
   generalize (w3.alloc _)=W4 at HYB HP4 HR4 HN4 HB4 HX4 ⊢;obtain⟨q,hq⟩:∃ q,w3.heap.size=q:=⟨_,rfl⟩;rw [hq]at HYB;rw [hq];have hqr:q≠r:=Yo;have hqp:q≠p:=Yo;have hpr:p≠r:=cX hrp;clear hq hwx hpx;obtain⟨g0,g1,g2,g3,g4,g5,g6⟩:=HP4.o.cells;(try dsimp only at g0 g1 g2 g3 g4 g5 g6);have e1:((s.e:Int) == 0)=true:=Yp;have e2:((s.e:Int) != 0)=false:=Yp;have e3:decide (s.n<T.length)=false:=Yp;obtain⟨x0,x1,x2,x3,x4,x5⟩:=zH HYB.o;have hls:(str t).size=t.length:=jV t;clear he;obtain⟨y0,y1,y2,y3,y4,y5⟩:=zH HR4.o;obtain⟨f0,f1,f2,f3,f4,f5,_⟩:=zZ HR4.o;have HF:=Ph (fr6 W4 r (uB X.1.kind) (uB X.1.op) (uW X.1.value) (uI X.1.width) (uR X.1.name) (uL S)).drew;have HK:=Ph (put6 (v0:=uB X.1.kind) (v1:=uB X.1.op) (v2:=uW X.1.value) (v3:=uI X.1.width) (v4:=uR X.1.name) (v5:=uL S) HR4.o).drew;go_upto_region 11 with fail
   go_region
   clear y0 y1 y2 y3 y4 y5 f0 f1 f2 f3 f4 f5;generalize ((((((W4.setCell ⟨r,0,none⟩ (uB X.1.kind)).setCell ⟨r,1,none⟩ (uB X.1.op)).setCell ⟨r,2,none⟩ (uW X.1.value)).setCell ⟨r,3,none⟩ (uI X.1.width)).setCell ⟨r,4,none⟩ (uR X.1.name)).setCell ⟨r,5,none⟩ (uL S)).drew=WF at HF HK ⊢;go_wp2_with fail
   obtain⟨r0,r1,r2,r3,r4,r5⟩:=zH HK.o;refine lK (v:=.tuple #[.agg (uE X.1 S),uL Q',uI t.length,uI 0]) (by simp [results,results53,go_sem,r0,r1,r2,r3,r4,r5]) rfl ?_;exact⟨S,Q'.A,Q'.n,Q'.c,rfl,(HX4.o.far HF.o hr2).less (lE hwr (Nat.le_of_lt hr2)),zB6 HB4.o hwr HF.o⟩
 | rest X s h hc he hn =>
   have HC:=Ph hc;have HBD:=Ph h;have HEN:=Ph (qP8 t hs);obtain⟨T,hT⟩:∃ T,zY t (kG t)=T:=⟨_,rfl⟩;rw [hT]at HC HEN hn;have HT:=Ph hT;clear hc h;obtain⟨s2,hs2⟩:∃ s2,qH ⟨t,T⟩ s 300=s2:=⟨_,rfl⟩;rw [hT,hs2];have he3:Ud (s2.e=300):=Ph (by rw [←hs2];unfold qH;rw [lM he]);have HS2:=Ph hs2;clear hs2;clear hT;go_enter func53,ntmps53
   go_wp2_with fail
   generalize ((World.alloc _ _))=W at HR0 HN0 HB0 HZ0 ⊢;refine(HS.o W).mono ?_;rintro en w1 ⟨hb,⟨a1,h1,_⟩ | ⟨h1,A,c,rfl,hrd⟩⟩
   ·have:=HBD.o;rw [h1]at this;cases this
   rw [HT.o]at hrd ⊢;have HR1:=Ph (zD HR0.o hb);have HN1:=Ph (zD HN0.o hb);have HB1:=Ph (zU HB0.o hb);have HRD:=Ph hrd;have hz1:w.heap.size+2≤w1.heap.size:=by have:=HZ0.o;have:=hb.size;omega
   clear hb h1 hrd HR0 HN0 HB0 HZ0;obtain⟨r,hr⟩:∃ r,w.heap.size=r:=⟨_,rfl⟩;obtain⟨m,hm⟩:∃ m,w.heap.size+1=m:=⟨_,rfl⟩;rw [hm]at HN1;rw [hr]at HR1;rw [hm,hr];have hrm:m≠r:=Yo;have hwr:w.heap.size≤r:=Yo;have hr1:r<w1.heap.size:=Yo;have hm1:m<w1.heap.size:=Yo;clear hr hm hz1;obtain⟨l0,l1⟩:=(hv.o.below HB1.o).lt;have hBp:=Bk.new w1 152 #[uR t,.slice A T.length c,uI 0,uI 0,uN,uI 0,uI 0];have HP2:Ud (Ps (w1.alloc (.cells #[uR t,.slice A T.length c,uI 0,uI 0,uN,uI 0,uI 0] 152)) w1.heap.size ⟨t,T⟩ ⟨A,T.length,c,w1.heap.size⟩ ⟨none,0,0⟩ ⟨0,0,0,0⟩):=Ph ⟨hBp,HRD.o.below zB,HEN.o,lV _,(hv.o.below HB1.o).below zB,Yo,Yo,by rw [lO];exact Nat.le_succ _⟩;have HB2:Ud (Ue w (w1.alloc (.cells #[uR t,.slice A T.length c,uI 0,uI 0,uN,uI 0,uI 0] 152))):=Ph (zG HB1.o _);have HR2:=Ph (HR1.o.alloc (.cells #[uR t,.slice A T.length c,uI 0,uI 0,uN,uI 0,uI 0] 152));have HN2:=Ph (HN1.o.alloc (.cells #[uR t,.slice A T.length c,uI 0,uI 0,uN,uI 0,uI 0] 152));clear hBp HR1 HN1 HB1 HRD l0 l1;go_upto_region 6 with fail
   have hz2:(w1.alloc (.cells #[uR t,.slice A T.length c,uI 0,uI 0,uN,uI 0,uI 0] 152)).heap.size=w1.heap.size+1:=by rw [lO]
   generalize (w1.alloc _)=W2 at HP2 HB2 HR2 HN2 hz2 ⊢;obtain⟨p,hp⟩:∃ p,w1.heap.size=p:=⟨_,rfl⟩;rw [hp]at HP2;rw [hp];have hrp:r≠p:=Yo;have hmp:m≠p:=Yo;have hr2:r<W2.heap.size:=Yo;have hwp:w.heap.size≤p:=Yo;clear hp hz2 hr1 hm1;have HEC:=Ph (jY4 f _ X s W2 HC.o HP2);go_wp2_with fail
   refine HEC.o.mono ?_;rintro en w3 ⟨S,Q',rfl,ht,hps,hfr⟩;unfold qX;have HX3:=Ph ht;have HP3:=Ph hps;have HR3:=Ph (HR2.o.fr hfr hrp);have HN3:=Ph (HN2.o.fr hfr hmp);have HB3:=Ph (HB2.o.trans (hfr.below w.heap.size HB2.o.size (fun i hi e=>Yo)));have hw23:W2.heap.size≤w3.heap.size:=hfr.size;clear ht hps hfr HEC HR2 HN2;have HYB:=Ph (Bk.new w3 31 (uE X.1 S));have HP4:=Ph (HP3.o.below (zB (o:=(.cells (uE X.1 S) 31))));have HR4:=Ph (HR3.o.alloc (.cells (uE X.1 S) 31));have HN4:=Ph (HN3.o.alloc (.cells (uE X.1 S) 31));have HB4:=Ph (zG HB3.o (.cells (uE X.1 S) 31));have HX4:=Ph (HX3.o.bel (zB (o:=(.cells (uE X.1 S) 31))));have hwx:r<w3.heap.size:=Yo;have hpx:p<w3.heap.size:=HP3.o.lt;clear HP3 HR3 HN3 HB3 HX3 hw23;go_upto_region 7 with fail
   generalize (w3.alloc _)=W4 at HYB HP4 HR4 HN4 HB4 HX4 ⊢;obtain⟨q,hq⟩:∃ q,w3.heap.size=q:=⟨_,rfl⟩;rw [hq]at HYB;rw [hq];have hqr:q≠r:=Yo;have hqp:q≠p:=Yo;have hpr:p≠r:=cX hrp;clear hq hwx hpx;obtain⟨g0,g1,g2,g3,g4,g5,g6⟩:=HP4.o.cells;(try dsimp only at g0 g1 g2 g3 g4 g5 g6);have e1:((s.e:Int) == 0)=true:=Yp;have e3:decide (s.n<T.length)=true:=Yp;have HWC:=Ph (zG2 p ⟨t,T⟩ ⟨A,T.length,c,p⟩ Q' s 300 W4 HP4);rw [HS2.o]at HWC;clear he;go_wp2_with fail
   refine HWC.o.mono ?_;rintro en w5 ⟨⟨v,rfl⟩,hp⟩;have HP5:=Ph hp.ps;have HR5:=Ph (hp.bk HR4.o hrp);have HN5:=Ph (hp.bk HN4.o hmp);have HB5:=Ph (zB6 HB4.o hwp hp.fr);clear hp HP4 HR4 HN4 HB4 HWC g0 g1 g2 g3 g4 g5 g6;obtain⟨g0,g1,g2,g3,g4,g5,g6⟩:=HP5.o.cells;(try dsimp only at g0 g1 g2 g3 g4 g5 g6);rw [he3.o]at g6;obtain⟨x0,x1,x2,x3,x4,x5⟩:=zH HN5.o;obtain⟨y0,y1,y2,y3,y4,y5⟩:=zH HR5.o;obtain⟨f0,f1,f2,f3,f4,f5,_⟩:=zZ HR5.o;have HF:=Ph (fr6 w5 r (uB 0) (uB 0) (uW 0) (uI 0) (uT) (uN)).drew;have HK:=Ph (put6 (v0:=uB 0) (v1:=uB 0) (v2:=uW 0) (v3:=uI 0) (v4:=uT) (v5:=uN) HR5.o).drew;go_upto_region 10 with fail
   go_region
   clear y0 y1 y2 y3 y4 y5 f0 f1 f2 f3 f4 f5;generalize ((((((w5.setCell ⟨r,0,none⟩ (uB 0)).setCell ⟨r,1,none⟩ (uB 0)).setCell ⟨r,2,none⟩ (uW 0)).setCell ⟨r,3,none⟩ (uI 0)).setCell ⟨r,4,none⟩ (uT)).setCell ⟨r,5,none⟩ (uN)).drew=WF at HF HK ⊢;go_wp2_with fail
   obtain⟨r0,r1,r2,r3,r4,r5⟩:=zH HK.o;refine lK (v:=.tuple #[.agg uZ,uN,uI s2.fail,uI 300]) (by simp [results,results53,go_sem,r0,r1,r2,r3,r4,r5]) rfl ?_;exact⟨⟨none,0,0⟩,none,0,0,rfl,.leaf jG6 rfl 0,zB6 HB5.o hwr HF.o⟩
 | no X s h hc he =>
   have HC:=Ph hc;have HBD:=Ph h;have HEN:=Ph (qP8 t hs);obtain⟨T,hT⟩:∃ T,zY t (kG t)=T:=⟨_,rfl⟩;rw [hT]at HC HEN;have HT:=Ph hT;clear hc h;clear hT;go_enter func53,ntmps53
   go_wp2_with fail
   generalize ((World.alloc _ _))=W at HR0 HN0 HB0 HZ0 ⊢;refine(HS.o W).mono ?_;rintro en w1 ⟨hb,⟨a1,h1,_⟩ | ⟨h1,A,c,rfl,hrd⟩⟩
   ·have:=HBD.o;rw [h1]at this;cases this
   rw [HT.o]at hrd ⊢;have HR1:=Ph (zD HR0.o hb);have HN1:=Ph (zD HN0.o hb);have HB1:=Ph (zU HB0.o hb);have HRD:=Ph hrd;have hz1:w.heap.size+2≤w1.heap.size:=by have:=HZ0.o;have:=hb.size;omega
   clear hb h1 hrd HR0 HN0 HB0 HZ0;obtain⟨r,hr⟩:∃ r,w.heap.size=r:=⟨_,rfl⟩;obtain⟨m,hm⟩:∃ m,w.heap.size+1=m:=⟨_,rfl⟩;rw [hm]at HN1;rw [hr]at HR1;rw [hm,hr];have hrm:m≠r:=Yo;have hwr:w.heap.size≤r:=Yo;have hr1:r<w1.heap.size:=Yo;have hm1:m<w1.heap.size:=Yo;clear hr hm hz1;obtain⟨l0,l1⟩:=(hv.o.below HB1.o).lt;have hBp:=Bk.new w1 152 #[uR t,.slice A T.length c,uI 0,uI 0,uN,uI 0,uI 0];have HP2:Ud (Ps (w1.alloc (.cells #[uR t,.slice A T.length c,uI 0,uI 0,uN,uI 0,uI 0] 152)) w1.heap.size ⟨t,T⟩ ⟨A,T.length,c,w1.heap.size⟩ ⟨none,0,0⟩ ⟨0,0,0,0⟩):=Ph ⟨hBp,HRD.o.below zB,HEN.o,lV _,(hv.o.below HB1.o).below zB,Yo,Yo,by rw [lO];exact Nat.le_succ _⟩;have HB2:Ud (Ue w (w1.alloc (.cells #[uR t,.slice A T.length c,uI 0,uI 0,uN,uI 0,uI 0] 152))):=Ph (zG HB1.o _);have HR2:=Ph (HR1.o.alloc (.cells #[uR t,.slice A T.length c,uI 0,uI 0,uN,uI 0,uI 0] 152));have HN2:=Ph (HN1.o.alloc (.cells #[uR t,.slice A T.length c,uI 0,uI 0,uN,uI 0,uI 0] 152));clear hBp HR1 HN1 HB1 HRD l0 l1;go_upto_region 6 with fail
   have hz2:(w1.alloc (.cells #[uR t,.slice A T.length c,uI 0,uI 0,uN,uI 0,uI 0] 152)).heap.size=w1.heap.size+1:=by rw [lO]
   generalize (w1.alloc _)=W2 at HP2 HB2 HR2 HN2 hz2 ⊢;obtain⟨p,hp⟩:∃ p,w1.heap.size=p:=⟨_,rfl⟩;rw [hp]at HP2;rw [hp];have hrp:r≠p:=Yo;have hmp:m≠p:=Yo;have hr2:r<W2.heap.size:=Yo;have hwp:w.heap.size≤p:=Yo;clear hp hz2 hr1 hm1;have HEC:=Ph (jY4 f _ X s W2 HC.o HP2);go_wp2_with fail
   refine HEC.o.mono ?_;rintro en w3 ⟨S,Q',rfl,ht,hps,hfr⟩;unfold qX;have HX3:=Ph ht;have HP3:=Ph hps;have HR3:=Ph (HR2.o.fr hfr hrp);have HN3:=Ph (HN2.o.fr hfr hmp);have HB3:=Ph (HB2.o.trans (hfr.below w.heap.size HB2.o.size (fun i hi e=>Yo)));have hw23:W2.heap.size≤w3.heap.size:=hfr.size;clear ht hps hfr HEC HR2 HN2;have HYB:=Ph (Bk.new w3 31 (uE X.1 S));have HP4:=Ph (HP3.o.below (zB (o:=(.cells (uE X.1 S) 31))));have HR4:=Ph (HR3.o.alloc (.cells (uE X.1 S) 31));have HN4:=Ph (HN3.o.alloc (.cells (uE X.1 S) 31));have HB4:=Ph (zG HB3.o (.cells (uE X.1 S) 31));have HX4:=Ph (HX3.o.bel (zB (o:=(.cells (uE X.1 S) 31))));have hwx:r<w3.heap.size:=Yo;have hpx:p<w3.heap.size:=HP3.o.lt;clear HP3 HR3 HN3 HB3 HX3 hw23;go_upto_region 7 with fail
   generalize (w3.alloc _)=W4 at HYB HP4 HR4 HN4 HB4 HX4 ⊢;obtain⟨q,hq⟩:∃ q,w3.heap.size=q:=⟨_,rfl⟩;rw [hq]at HYB;rw [hq];have hqr:q≠r:=Yo;have hqp:q≠p:=Yo;have hpr:p≠r:=cX hrp;clear hq hwx hpx;obtain⟨g0,g1,g2,g3,g4,g5,g6⟩:=HP4.o.cells;(try dsimp only at g0 g1 g2 g3 g4 g5 g6);have e1:((s.e:Int) == 0)=false:=Yp;have e2:((s.e:Int) != 0)=true:=Yp;obtain⟨x0,x1,x2,x3,x4,x5⟩:=zH HN4.o;clear he;obtain⟨y0,y1,y2,y3,y4,y5⟩:=zH HR4.o;obtain⟨f0,f1,f2,f3,f4,f5,_⟩:=zZ HR4.o;have HF:=Ph (fr6 W4 r (uB 0) (uB 0) (uW 0) (uI 0) (uT) (uN)).drew;have HK:=Ph (put6 (v0:=uB 0) (v1:=uB 0) (v2:=uW 0) (v3:=uI 0) (v4:=uT) (v5:=uN) HR4.o).drew;go_upto_region 10 with fail
   go_region
   clear y0 y1 y2 y3 y4 y5 f0 f1 f2 f3 f4 f5;generalize ((((((W4.setCell ⟨r,0,none⟩ (uB 0)).setCell ⟨r,1,none⟩ (uB 0)).setCell ⟨r,2,none⟩ (uW 0)).setCell ⟨r,3,none⟩ (uI 0)).setCell ⟨r,4,none⟩ (uT)).setCell ⟨r,5,none⟩ (uN)).drew=WF at HF HK ⊢;go_wp2_with fail
   obtain⟨r0,r1,r2,r3,r4,r5⟩:=zH HK.o;refine lK (v:=.tuple #[.agg uZ,uN,uI s.fail,uI s.e]) (by simp [results,results53,go_sem,r0,r1,r2,r3,r4,r5]) rfl ?_;exact⟨⟨none,0,0⟩,none,0,0,rfl,.leaf jG6 rfl 0,zB6 HB4.o hwr HF.o⟩
end
section
open Go.RowKit
section
variable {P:Program} {ops:Array Oper} {md:Region.Mode} {S:World→Prop} {Q:Exit→Act→World→Prop}
def wpY (P:Program) (ops:Array Oper) (S:World→Prop) (Q:Act→Prop):List Oper→Act→Prop
 | [],a=>Q a
 | o :: l,a=>∃ v,YieldsIf P ops S o v a∧wpY P ops S Q l (a.put o.dst v)
def zK4 (md:Region.Mode) (ops:Array Oper):Nat→Nat→Array Bool→Bool
 | 0,_,listed=>decide (Region.ready md ops listed=[])
 | f+1,k,listed=>(Region.ready md ops listed).contains k && Region.free md ops listed k && zK4 md ops f (k+1) (listed.setIfInBounds k true)
def zB7 (md:Region.Mode) (ops:Array Oper) (n:Nat):Nat→Nat→Array Bool→Bool
 | 0,_,listed=>decide (Region.ready md ops listed=[n]) && zK4 md ops (ops.size-n-1) (n+1) (listed.setIfInBounds n true)
 | f+1,k,listed=>(Region.ready md ops listed).contains k && Region.free md ops listed k && zB7 md ops n f (k+1) (listed.setIfInBounds k true)
theorem qG7 (hsel:Region.noSelect ops=true) (hQ:∀ d v c (a:Act) w,Q (.panic c) (a.put d v) w→Q (.panic c) a w) {w:World} (hS:S w) {R:Act→Prop} (hR:∀ a,R a→Q .normal a w) :
 ∀ (l:List Oper) (k:Nat) (listed:Array Bool) (a:Act),(∀ j,j<l.length→l[j]?=ops[k+j]?)→zK4 md ops l.length k listed=true→wpY P ops S R l a→wpAnyH P md ops Q S l.length listed a w
 | [],k,listed,a,_,hB,h=>wpAnyH_done (by simpa [zK4]using hB) (hR a h) 0
 | o :: l,k,listed,a,hl,hB,h=>by
   have h0:ops[k]?=some o:=by simpa using(hl 0 Ym).symm
   simp only [Yc,zK4,lZ]at hB;obtain⟨v,hy,hK⟩:=h
   exact wpAnyH_take h0 hsel hB.1.2 hB.1.1 (fun c a w=>hQ _ _ c a w) hy hS
    (qG7 hsel hQ hS hR l (k+1) _ _ (fun j hj=>by have:=hl (j+1) Yp;simpa [Nat.add_assoc,Nat.add_comm 1 j]using this) hB.2 hK)
theorem qG8 (hsel:Region.noSelect ops=true) (hQ:∀ d v c (a:Act) w,Q (.panic c) (a.put d v) w→Q (.panic c) a w) {n g:Nat} {w:World} (hS:S w) {R:Act→Prop}
 (hfin:∀ listed a,zB7 md ops n 0 n listed=true→R a→wpAnyH P md ops Q S g listed a w) :
 ∀ (l:List Oper) (k:Nat) (listed:Array Bool) (a:Act),(∀ j,j<l.length→l[j]?=ops[k+j]?)→k+l.length=n→zB7 md ops n l.length k listed=true→wpY P ops S R l a→wpAnyH P md ops Q S (l.length+g) listed a w
 | [],k,listed,a,_,hk,hB,h=>by
   obtain rfl:k=n:=by simpa using hk
   rw [Yn,Nat.zero_add];exact hfin listed a hB h
 | o :: l,k,listed,a,hl,hk,hB,h=>by
   have h0:ops[k]?=some o:=by simpa using(hl 0 Ym).symm
   simp only [Yc,zB7,lZ]at hB;obtain⟨v,hy,hK⟩:=h;rw [Yc,show l.length+1+g=(l.length+g)+1 from by omega]
   exact wpAnyH_take h0 hsel hB.1.2 hB.1.1 (fun c a w=>hQ _ _ c a w) hy hS
    (qG8 hsel hQ hS hfin l (k+1) _ _ (fun j hj=>by have:=hl (j+1) Yp;simpa [Nat.add_assoc,Nat.add_comm 1 j]using this) (by simp only [Yc]at hk;omega) hB.2 hK)
theorem zU5 {id:Nat} {a:Act} {w:World} {l:List Oper} (n:Nat) (S:World→Prop) (hm:P.follows .mixedOrders=true) (hsel:Region.noSelect l.toArray=true) (hB:zB7 .any l.toArray n n 0 (Array.replicate l.toArray.size false)=true) (hn:n<l.length)
 (hQ:∀ d v c (a:Act) w,Q (.panic c) (a.put d v) w→Q (.panic c) a w) (hS:S w.drew)
 (h:wpY P l.toArray S (fun a1=>wpOp P l.toArray Q n (fun a2 w2=>S w2∧wpY P l.toArray S (fun a3=>Q .normal a3 w2) (l.drop (n+1)) a2) a1 w.drew) (l.take n) a) :
 (Code.region id l.toArray true).wp P Q a w:=by
 have htl:(l.take n).length=n:=Yp;have hdl:(l.drop (n+1)).length=l.toArray.size-n-1:=Yp;refine wp_region_held (S:=S) hm ?_
 have key:=qG8 (P:=P) (ops:=l.toArray) (md:=.any) (S:=S) (Q:=Q) (n:=n) (g:=l.toArray.size-n) hsel hQ hS
  (R:=fun a1=>wpOp P l.toArray Q n (fun a2 w2=>S w2∧wpY P l.toArray S (fun a3=>Q .normal a3 w2) (l.drop (n+1)) a2) a1 w.drew)
  (fun listed a hL ha=>by
    simp only [zB7,lZ,cC]at hL;rw [show l.toArray.size-n=(l.toArray.size-n-1)+1 from by simp;omega];refine wpAnyH_all hL.1 Ym (fun i hi=>?_);obtain rfl:i=n:=by simpa using hi
    refine wpOp_mono (fun a2 w2 h2=>⟨h2.1,?_⟩) ha;rw [←hdl];exact qG7 hsel hQ h2.1 (fun a3 h3=>h3) (l.drop (i+1)) (i+1) _ a2 (fun j _=>by simp [List.getElem?_drop]) (by rw [hdl];exact hL.2) h2.2)
  (l.take n) 0 (Array.replicate l.toArray.size false) a (fun j hj=>by
    have hj':j<n:=by rw [htl]at hj;exact hj
    simp [hj']) (by rw [htl];omega) (by rw [htl];exact hB) h
 rw [htl,show n+(l.toArray.size-n)=l.toArray.size from by simp;omega]at key;exact key
theorem zO4 {R:Act→Prop} {a:Act} (h:R a):wpY P ops S R [] a:=h
def kI9 (Q:Exit→Act→World→Prop):Exit→Act→World→Prop
 | .normal,a,w=>Q .normal a w
 | _,_,_=>False
theorem wY {id:Nat} {a:Act} {w:World} {l:List Oper} (n:Nat) (S:World→Prop) (hm:P.follows .mixedOrders=true) (hsel:Region.noSelect l.toArray=true) (hB:zB7 .any l.toArray n n 0 (Array.replicate l.toArray.size false)=true) (hn:n<l.length) (hS:S w.drew)
 (h:wpY P l.toArray S (fun a1=>wpOp P l.toArray (kI9 Q) n (fun a2 w2=>S w2∧wpY P l.toArray S (fun a3=>Q .normal a3 w2) (l.drop (n+1)) a2) a1 w.drew) (l.take n) a) :
 (Code.region id l.toArray true).wp P Q a w :=
 Code.wp_mono (Q:=kI9 Q) (fun e a w h=>by cases e <;> first | exact h | exact h.elim) (zU5 n S hm hsel hB hn (fun _ _ _ _ _ h=>h.elim) hS h)
end
end
end Go.Proofs.YtfdaebgllibphaaGreatDoor
