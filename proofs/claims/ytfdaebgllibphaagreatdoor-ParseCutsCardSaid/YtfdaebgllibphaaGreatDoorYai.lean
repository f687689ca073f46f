import Derived.Test.YtfdaebgllibphaaGreatDoorYah
set_option linter.unusedVariables false
set_option linter.unusedSimpArgs false
set_option maxRecDepth 100000
set_option maxHeartbeats 16000000
namespace Go.Proofs.YtfdaebgllibphaaGreatDoor
section
open Go.RowKit Go.PlainAid
theorem jD5:El Tryz.prog 25 87 3:=El.mk' (z:=.agg #[uT,uI 0,uI 0]) (bytes:=32) Tryz.underlying25 Yk rfl Yo Yo
theorem zI9 (x:Dx) (u:Unit):∀ v∈yX x u,v.oneCell'=true:=by intro v hv;simp only [yX,lU,lT,or_false]at hv;rcases hv with rfl | rfl | rfl <;> rfl
theorem OwnD.fr {B:Nat} {w w':World} {l:List Dx} {S:SV} {F:Nat→Prop} (h:OwnD B w l S) (hf:Fr F w w') (hF:∀ k,(Value.slice S.A S.n S.c).ownBlock=some k→¬F k):OwnD B w' l S:=by obtain⟨vs,h1,h2,h3,h4⟩:=h;exact⟨vs,h1,h2,jP h3 hf hF,fun i y v hy hv=>h4 i y v hy hv⟩
section
variable {B:Nat} {p:Nat} {E:Env} {T:TV}
theorem Pq.tokbox {w w':World} {q:QSt} {r:Nat} {cs:Array Value} (h:Pq B w p E T q) (hr:Bk w r 44 cs) (hrp:p≠r) (hB:B≤r) (hA:∀ b off,T.A=some ⟨b,off,none⟩→b<r) (hf:Fr (fun k=>k=r) w w'):Pq B w' p E T q:=by
 obtain⟨Q,h1,h2,h3⟩:=h.ex;have:=h.g0;have:=h.g1;have hrd:RdT w' T.A 44 (E.toks.flatMap zQ1):=by
  refine⟨fun hx=>?_,fun b off he=>?_⟩
  ·obtain⟨b,off,cs,t0,fr,hA2,hb,hc⟩:=h1.rd.rd hx;have:=hA b off hA2;exact⟨b,off,cs,t0,fr,hA2,(hf.block b (zO hb) Yo).trans hb,hc⟩
  ·obtain⟨cs,fr,hb⟩:=h1.rd.ty b off he;have:=hA b off he;exact⟨cs,fr,(hf.block b (zO hb) Yo).trans hb⟩
 exact⟨⟨Q,⟨h1.bk.fr hf hrp,hrd,h1.ok,h1.n,h1.vr.fr hf Yo Yo,h1.g0,h1.g1,lE h1.base hf.size⟩,jP h2 hf (fun k hk e=>yR h2 hr Yd (by rw [hk,e])),h3⟩,h.g0,h.g1,lE h.b hf.size⟩
theorem qW5 {u:List UInt8} {arr:Bool} {f:Nat} {q:QSt} {out:List Dx} {r:List Dx×QSt} (h:jK E u arr (f+1) q out=some r):(isP E q.s u=false∧r=(out,q))∨(isP E q.s u=true∧q.l.length≤800000000 ∧
 ((arr=true∧∃ r1 u1,kN E ⟨zL E (zE q.s),q.l++[(zC E q.s).at']⟩ [91]=some r1∧jX E (r1.on (jB E r1.s).2) [93]=some u1∧jK E u arr f (u1.on (jB E (zI E u1.s [58])).2) (out++[⟨jA E (zE q.s),(jB E (zI E u1.s [58])).1,(jB E r1.s).1⟩])=some r) ∨
  (arr=false∧jK E u arr f ⟨(jB E (zI E (zL E (zE q.s)) [58])).2,q.l++[(zC E q.s).at']⟩ (out++[⟨jA E (zE q.s),(jB E (zI E (zL E (zE q.s)) [58])).1,0⟩])=some r))):=by
 rw [jK]at h;cases hi:isP E q.s u with
 | false=>rw [hi]at h;injection h with h;exact .inl ⟨rfl,h.symm⟩
 | true =>
   rw [hi,lM rfl]at h;cases hl:okL q with
   | false=>rw [hl]at h;cases h
   | true =>
     rw [hl,lM rfl]at h;refine .inr ⟨rfl,cM hl,?_⟩;cases arr with
     | false=>exact .inr ⟨rfl,h⟩
     | true =>
       rw [lM rfl]at h;cases h1:kN E ⟨zL E (zE q.s),q.l++[(zC E q.s).at']⟩ [91]with
       | none=>rw [h1]at h;cases h
       | some r1 =>
         rw [h1]at h;(try dsimp only at h);cases h2:jX E (r1.on (jB E r1.s).2) [93]with
         | none=>rw [h2]at h;cases h
         | some u1 =>
           rw [h2]at h;exact .inl ⟨rfl,r1,u1,rfl,h2,h⟩
theorem qQ1 (f:Nat) (u:List UInt8) (arr:Bool) (harr:decide (u=[97,114,114,97,121])=arr) (q:QSt) (l:List Dx) (q':QSt) (hx:jK E u arr f q []=some (l,q')) (w:World) (h:Hid (Pq B w p E T q)):Calls Tryz.prog 86 #[uQ p 0,uR u] w fun e w'=>∃ S:SV,e=.returned (.slice S.A S.n S.c)∧zE2 (fun k=>w.heap.size≤k) w' l S∧PQ B w p E T q' w':=by
 have HX:=Ph hx;have HB0:=Ph h.out.b;have HTA0:Hid (∀ b off,T.A=some ⟨b,off,none⟩→b<w.heap.size):=Ph fun b off e=>by obtain⟨Q,hps,_⟩:=h.out.ex;obtain⟨cs,fr,hb⟩:=hps.rd.ty b off e;exact zO hb
 have hua:((str u).toList == [97,114,114,97,121])=arr:=(qA7 u _).trans harr;have hnx:=zI6 (p:=p) q w h;obtain⟨⟨tk,tt,ta,tf⟩,ht⟩:∃ t,zC E q.s=t:=⟨_,rfl⟩;have HTA:Hid ((zC E q.s).at'=ta):=Ph (by rw [ht]);rw [ht]at hnx;dsimp only [nxV,kW]at hnx;have HNX:=Ph hnx;have HP:=Ph (PQ.below h.out (lB _ _));clear hx harr hnx ht;go_enter Tryz.func86,Tryz.ntmps86
 go_wp2_with fail
 refine(HNX.out).mono ?_;rintro e w1 ⟨rfl,hb⟩;have HQx:=Ph (HP.out.then hb);clear HP;have HP:=HQx;clear HQx;clear hb;have hw1:w.heap.size≤w1.heap.size:=HP.out.fr.size;have hl_p:p<w1.heap.size:=HP.out.pq.lt;have HQx:=Ph (HP.out.then (zB (o:=(.cells #[uB tk,uI ta,uI tf] 44))));clear HP;have HP:=HQx;clear HQx;have HT:=Ph (Bk.new w1 44 #[uB tk,uI ta,uI tf]);go_wp2_with fail
 generalize (w1.alloc _)=W1 at *;obtain⟨bt,hblk⟩:∃ b,w1.heap.size=b:=⟨_,rfl⟩;rw [hblk]at HT ⊢;have btp:bt≠p:=Yo;have HWT:Hid (w.heap.size≤bt):=Ph (by show w.heap.size≤bt;omega);clear hw1 hblk hl_p;clear HNX btp;go_loopg [5,6] f (fun g v5 v6 wr=>∃ (out:List Dx) (S:SV) (qc:QSt) (bt tk ta tf:Nat),v5=uL S∧v6=uQ bt 0∧Hid (jK E u arr g qc out=some (l,q'))∧Hid (OwnD w.heap.size wr out S)∧Hid (PQ B w p E T qc wr)∧Hid (Bk wr bt 44 #[uB tk,uI ta,uI tf])∧Hid ((zC E qc.s).at'=ta)∧Hid (w.heap.size≤bt)∧Hid (out.length≤qc.s.n))
 case atStart=>exact⟨[],⟨none,0,0⟩,q,bt,tk,ta,tf,rfl,rfl,HX,Ph OwnG.nil,HP,HT,HTA,HWT,Ph (lV _)⟩
 case round =>
  obtain⟨out,S,qc,bt,tk,ta,tf,rfl,rfl,HXc,HO,HPc,HTc,HTAc,HWTc,HLN⟩:=hrel;clear HX HP HT HTA HWT;have HP:=HPc;have HT:=HTc;have HTA:=HTAc;have HWT:=HWTc;clear HPc HTc HTAc HWTc;cases gk with
  | zero=>exact absurd HXc.out (by unfold jK;intro h;cases h)
  | succ gk =>
  have hds:=qW5 HXc.out;clear HXc;have btp:bt≠p:=by obtain⟨_,hb⟩:=HP.out.pq.bk;exact HT.out.ne hb Yd
  go_wp2_with fail
  refine(isQ qc u wr (Ph HP.out.pq)).mono ?_;rintro e w2 ⟨rfl,hp⟩;have HQx:=Ph (hp.bk HT.out Yd btp);clear HT;have HT:=HQx;clear HQx;have HQx:=Ph (HO.out.stay itD qC (HP.out.pq.stays hp.fr));clear HO;have HO:=HQx;clear HQx;have HQx:=Ph (HP.out.trans hp);clear HP;have HP:=HQx;clear HQx;clear hp;rcases hds with⟨hi,hr⟩ | ⟨hi,hl,hd⟩
  ·have hq:qc.on (isS E qc.s u)=qc:=by unfold isS;rw [hi];rfl
   rw [hq]at HP;rw [hi];injection hr with hr1 hr2;subst hr1 hr2;clear hq hi;go_wp2_with fail
   go_ret;exact⟨S,rfl,HO.out.row itD,HP.out⟩
  ·have hq:qc.on (isS E qc.s u)=⟨zE qc.s,qc.l⟩:=by unfold isS;rw [hi];rfl
   rw [hq]at HP;rw [hi];rw [HTA.out]at hd;have HL:Hid ((⟨zE qc.s,qc.l⟩:QSt).l.length≤800000000):=Ph hl;have hSn:S.n<1000000000:=by have h1:=HLN.out;have h2:=HO.out.len;obtain⟨Qc,hps,_⟩:=HP.out.pq.ex;have h3:(zE qc.s).n≤T.n:=hps.n;have h5:(zE qc.s).n=qc.s.n+1:=rfl;have h4:=hps.ok.few;omega
   have HSN:=Ph hSn;have hNL:=HP.out.pq.name_len;obtain⟨nm,hnm⟩:∃ nm,jA E (zE qc.s)=nm:=⟨_,rfl⟩;obtain⟨s1,hs1⟩:∃ s1,zL E (zE qc.s)=s1:=⟨_,rfl⟩;have hn1:qc.s.n+1≤s1.n:=by rw [←hs1];exact zN1 (E:=E) (zE qc.s)
   have HN1:=Ph hn1;rw [hnm,hs1]at hd;have hNL:nm.length≤1000000:=hnm▸hNL;have HNL:=Ph hNL;have HNM:=Ph hnm;have HS1:=Ph hs1;clear hq hi hl hSn hNL hnm hs1 hn1;go_upto_region 5 with fail
   go_cut [] (fun wx=>Hid (PQ B w p E T ⟨(⟨zE qc.s,qc.l⟩:QSt).s,(⟨zE qc.s,qc.l⟩:QSt).l++[ta]⟩ wx)∧Hid (Bk wx bt 44 #[uB tk,uI ta,uI tf])∧Hid (OwnD w.heap.size wx out S))
   case first =>
    obtain⟨Q,A2,k2,w6,hps,hrun,hps2,hpq,hfr,hbk,hbk6⟩:=(HP.out.pq.below (lB _ _).drew).atrun ta HL.out;have hpa:=hps.below (zB (o:=(.cells #[uI ta] 3)));have hb0:Bk w2 p 152 (zZ6 E T Q (⟨zE qc.s,qc.l⟩:QSt).s):=hps.bk;have e4:(w2.alloc (.cells #[uI ta] 3)).cell? ⟨p,4,none⟩=some (uL Q):=(zD hb0 (zB (o:=(.cells #[uI ta] 3)))).cell 4;obtain⟨g0,g1,g2,g3,g4,g5,g6⟩:=hps.cells;obtain⟨a0,a1,a2,a3,a4,a5,a6⟩:=hpa.cells;obtain⟨t0,t1,t2⟩:=zJ (zD HT.out (lB _ _).drew);obtain⟨u0,u1,u2⟩:=zJ (zD (zD HT.out (lB _ _).drew) (zB (o:=(.cells #[uI ta] 3))));obtain⟨v0,v1,v2⟩:=zJ (zD HT.out (zB (o:=(.cells #[uI ta] 3))));have HRUN:=Ph hrun;have HPS2:=Ph hps2;have HPQ:=Ph hpq;have HFR:=Ph hfr;have HBK:=Ph hbk;clear hps hpa hb0 hrun hps2 hpq hfr hbk hbk6
    go_region_law (first
     | (refine qG rfl (.tmp 26) (.tmp 29) rfl _ _ _ rfl rfl (HRUN.out _) ?_
        clear g0 g1 g2 g3 g4 g5 g6 a0 a1 a2 a3 a4 a5 a6 t0 t1 t2 u0 u1 u2 e4 v0 v1 v2;obtain⟨g0,g1,g2,g3,g4,g5,g6⟩:=HPS2.out.cells;have gz:=HPS2.out.frozens 4))
    all_goals
     go_wp2
     go_meet
     exact⟨Ph ⟨HPQ.out,(HP.out.fr.then (lB _ _).drew).trans HFR.out⟩,Ph (HBK.out _ _ _ (zD HT.out (lB _ _).drew) Yd btp),Ph (HO.out.stay itD qC ((Stays.below (lB _ _).drew).trans ((HP.out.pq.below (lB _ _).drew).stays HFR.out)))⟩
   case rest =>
   obtain⟨HPn,HTn,HOn⟩:=hcut;clear HP HT HO;have HP:=HPn;have HT:=HTn;have HO:=HOn;clear HPn HTn HOn;generalize wc=w3 at *;(try dsimp only at HP);go_wp2_with fail
   refine(jD1 _ w3 (Ph HP.out.pq)).mono ?_;rintro e w4 ⟨rfl,hp⟩;have HQx:=Ph (hp.bk HT.out Yd btp);clear HT;have HT:=HQx;clear HQx;have HQx:=Ph (HO.out.stay itD qC (HP.out.pq.stays hp.fr));clear HO;have HO:=HQx;clear HQx;have HQx:=Ph (HP.out.trans hp);clear HP;have HP:=HQx;clear HQx;clear hp;rw [show(⟨zE qc.s,qc.l++[ta]⟩:QSt).s=zE qc.s from rfl,HNM.out];have HPn:Hid (PQ B w p E T ⟨s1,qc.l++[ta]⟩ w4):=Ph (by have:=HP.out;rw [show(⟨zE qc.s,qc.l++[ta]⟩:QSt).s=zE qc.s from rfl,HS1.out]at this;exact this);clear HP;have HP:=HPn;clear HPn;have hw4:w.heap.size≤w4.heap.size:=HP.out.fr.size;have HNB:Hid (∀ k,w4.heap.size≤k→(uL S).ownBlock≠some k):=Ph fun k hk=>HO.out.fresh hk;have hl_p:p<w4.heap.size:=HP.out.pq.lt;have hl_bt:bt<w4.heap.size:=HT.out.lt;have HQx:=Ph (zD HT.out (zB (o:=(.cells #[uR nm,uI 0,uI 0] 87))));clear HT;have HT:=HQx;clear HQx;have HQx:=Ph (HO.out.stay itD qC (Stays.below (zB (o:=(.cells #[uR nm,uI 0,uI 0] 87)))));clear HO;have HO:=HQx;clear HQx;have HQx:=Ph (HP.out.then (zB (o:=(.cells #[uR nm,uI 0,uI 0] 87))));clear HP;have HP:=HQx;clear HQx;have HD:=Ph (Bk.new w4 87 #[uR nm,uI 0,uI 0]);go_upto_region 7 with fail
   generalize (w4.alloc _)=W4 at *;obtain⟨b,hblk⟩:∃ b,w4.heap.size=b:=⟨_,rfl⟩;rw [hblk]at HD ⊢;have bp:b≠p:=Yo;have bbt:b≠bt:=Yo;have HWB:Hid (w.heap.size≤b):=Ph (by show w.heap.size≤b;omega);have HNBb:Hid ((uL S).ownBlock≠some b):=Ph (HNB.out b Yo);clear hw4 HNB hblk hl_p hl_bt;rcases hd with⟨harr,r1,u1,h1,h2,h3⟩ | ⟨harr,h3⟩
   ·have hle2:=zG7 E r1.s;obtain⟨⟨nz,sz⟩,hz⟩:∃ n,jB E r1.s=n:=⟨_,rfl⟩;rw [hz]at hle2 h2 h3;(try dsimp only at hle2 h2 h3);have hle:=zG7 E (zI E u1.s [58]);obtain⟨⟨nb,sn⟩,hn⟩:∃ n,jB E (zI E u1.s [58])=n:=⟨_,rfl⟩;rw [hn]at hle h3;(try dsimp only at hle h3);have hgn:s1.n≤sn.n:=by have g1:s1.n≤r1.s.n:=zN2 h1;have g2:=zP3 (E:=E) r1.s;rw [hz]at g2;have g3:sz.n≤u1.s.n:=zH3 h2;have g4:=xK (E:=E) u1.s [58];have g5:=zP3 (E:=E) (zI E u1.s [58]);rw [hn]at g5;(try dsimp only at g2 g5);omega
    have HGN:=Ph hgn;have H1:=Ph h1;have H2:=Ph h2;have HXN:=Ph h3;have HZ:=Ph hz;have HN:=Ph hn;have HLE:=Ph hle;have HLE2:=Ph hle2;rw [harr]at hua;clear h1 h2 h3 hz hn hle hle2 hgn;go_wp2_with fail
    refine(qF3 _ [91] r1 H1.out W4 (Ph HP.out.pq)).mono ?_;rintro e w5 ⟨⟨v5,rfl⟩,hp⟩;have HQx:=Ph (hp.bk HT.out Yd btp);clear HT;have HT:=HQx;clear HQx;have HQx:=Ph (hp.bk HD.out Yd bp);clear HD;have HD:=HQx;clear HQx;have HQx:=Ph (HO.out.stay itD qC (HP.out.pq.stays hp.fr));clear HO;have HO:=HQx;clear HQx;have HQx:=Ph (HP.out.trans hp);clear HP;have HP:=HQx;clear HQx;clear hp;go_wp2_with fail
    refine(jT8 r1 w5 (Ph HP.out.pq)).mono ?_;rintro e w6 ⟨rfl,hp⟩;have HQx:=Ph (hp.bk HT.out Yd btp);clear HT;have HT:=HQx;clear HQx;have HQx:=Ph (hp.bk HD.out Yd bp);clear HD;have HD:=HQx;clear HQx;have HQx:=Ph (HO.out.stay itD qC (HP.out.pq.stays hp.fr));clear HO;have HO:=HQx;clear HQx;have HQx:=Ph (HP.out.trans hp);clear HP;have HP:=HQx;clear HQx;clear hp;rw [HZ.out]at HP ⊢;(try dsimp only at HP ⊢);obtain⟨y0,y1,y2⟩:=zJ HD.out;obtain⟨f0,f1,f2,_,_,_,_⟩:=zZ HD.out;have hf:Fr (fun k=>k=b) w6 (w6.setCell ⟨b,2,none⟩ (uI nz)):=(Fr.refl (fun k=>k=b) w6).setCell (p:=⟨b,2,none⟩) (.inl rfl) _;have hwb:w.heap.size≤b:=HWB.out;have HDn:Hid (Bk (w6.setCell ⟨b,2,none⟩ (uI nz)) b 87 #[uR nm,uI 0,uI nz]):=Ph (by have:=HD.out.put 2 (uI nz);simpa using this);have HPn:=Ph (HP.out.box HD.out Yd Yd (cX bp) (lE HB0.out hwb) hwb hf);have HTn:=Ph (HT.out.fr hf (cX bbt));have HOn:=Ph (OwnD.fr HO.out hf (fun k hk e=>HNBb.out (e▸hk)));clear hf hwb;go_upto_region 10 with fail
    generalize (World.setCell _ _ _)=W6 at *;clear HP HT HD HO y0 y1 y2 f0 f1 f2;have HP:=HPn;have HT:=HTn;have HD:=HDn;have HO:=HOn;clear HPn HTn HDn HOn;go_wp2_with fail
    refine(zI7 _ [93] u1 H2.out W6 (Ph HP.out.pq)).mono ?_;rintro e w6b ⟨⟨v6,rfl⟩,hp⟩;have HQx:=Ph (hp.bk HT.out Yd btp);clear HT;have HT:=HQx;clear HQx;have HQx:=Ph (hp.bk HD.out Yd bp);clear HD;have HD:=HQx;clear HQx;have HQx:=Ph (HO.out.stay itD qC (HP.out.pq.stays hp.fr));clear HO;have HO:=HQx;clear HQx;have HQx:=Ph (HP.out.trans hp);clear HP;have HP:=HQx;clear HQx;clear hp;go_wp2_with fail
    refine(zM9 u1 [58] w6b (Ph HP.out.pq)).mono ?_;rintro e w7 ⟨⟨v7,rfl⟩,hp⟩;have HQx:=Ph (hp.bk HT.out Yd btp);clear HT;have HT:=HQx;clear HQx;have HQx:=Ph (hp.bk HD.out Yd bp);clear HD;have HD:=HQx;clear HQx;have HQx:=Ph (HO.out.stay itD qC (HP.out.pq.stays hp.fr));clear HO;have HO:=HQx;clear HQx;have HQx:=Ph (HP.out.trans hp);clear HP;have HP:=HQx;clear HQx;clear hp;go_wp2_with fail
    refine(jT8 _ w7 (Ph HP.out.pq)).mono ?_;rintro e w8 ⟨rfl,hp⟩;have HQx:=Ph (hp.bk HT.out Yd btp);clear HT;have HT:=HQx;clear HQx;have HQx:=Ph (hp.bk HD.out Yd bp);clear HD;have HD:=HQx;clear HQx;have HQx:=Ph (HO.out.stay itD qC (HP.out.pq.stays hp.fr));clear HO;have HO:=HQx;clear HQx;have HQx:=Ph (HP.out.trans hp);clear HP;have HP:=HQx;clear HQx;clear hp;have HPn:Hid (PQ B w p E T (u1.on sn) w8):=Ph (by have:=HP.out;rw [show((u1).on (zI E (u1).s [58])).s=zI E (u1).s [58] from rfl,HN.out]at this;exact this);clear HP;have HP:=HPn;clear HPn;rw [show((u1).on (zI E (u1).s [58])).s=zI E (u1).s [58] from rfl,HN.out];dsimp only;obtain⟨y0,y1,y2⟩:=zJ HD.out;obtain⟨f0,f1,f2,_,_,_,_⟩:=zZ HD.out;have hf:Fr (fun k=>k=b) w8 (w8.setCell ⟨b,1,none⟩ (uI nb)):=(Fr.refl (fun k=>k=b) w8).setCell (p:=⟨b,1,none⟩) (.inl rfl) _;have hwb:w.heap.size≤b:=HWB.out;have HDn:Hid (Bk (w8.setCell ⟨b,1,none⟩ (uI nb)) b 87 #[uR nm,uI nb,uI nz]):=Ph (by have:=HD.out.put 1 (uI nb);simpa using this);have HPn:=Ph (HP.out.box HD.out Yd Yd (cX bp) (lE HB0.out hwb) hwb hf);have HTn:=Ph (HT.out.fr hf (cX bbt));have HOn:=Ph (OwnD.fr HO.out hf (fun k hk e=>HNBb.out (e▸hk)));clear hf hwb;go_upto_region 13 with fail
    generalize (World.setCell _ _ _)=W8 at *;clear HP HT HD HO y0 y1 y2 f0 f1 f2;have HP:=HPn;have HT:=HTn;have HD:=HDn;have HO:=HOn;clear HPn HTn HDn HOn;obtain⟨y0,y1,y2⟩:=zJ HD.out;have hx:jO4 (⟨nm,(nb:Int),(nz:Int)⟩:Dx):=⟨HNL.out,by show(-9223372036854775808:Int)≤(nb:Int);omega,by show(nb:Int)≤9223372036854775807;have:=HLE.out;omega,by show(-9223372036854775808:Int)≤(nz:Int);omega,by show(nz:Int)≤9223372036854775807;have:=HLE2.out;omega⟩;have hb9:Below W8.heap.size W8 (W8.alloc (.cells #[uR nm,uI nb,uI nz] 87)):=zB;have hO9:=HO.out.stay itD qC (Stays.below hb9);obtain⟨A2,k2,w9,hrun,hown,hfr⟩:=OwnG.run itD jD5 qC zI9 (fun x v=>rfl) hO9 (⟨nm,(nb:Int),(nz:Int)⟩:Dx) () hx (some ⟨W8.heap.size,0,none⟩) 1 (Rd.new W8 #[uR nm,uI nb,uI nz] 87) HSN.out (lE HP.out.fr.size hb9.size) 0;have HRUN:=Ph hrun;have HO9:=Ph hown;have HP9:=Ph ((HP.out.then hb9).data HB0.out hfr (fun k _ e=>by obtain⟨h1,cs,h2⟩:=OwnG.typed hO9 e;exact⟨h1,_,cs,h2,qC⟩));have HT9:=Ph ((zD HT.out hb9).fr hfr (fun e=>by obtain⟨_,cs,h2⟩:=OwnG.typed hO9 e;exact h2.ne (zD HT.out hb9) Yd rfl));clear hx hb9 hO9 hrun hown hfr HO HP HT HD;go_wp2_with (at_builtin;refine jL rfl (.tmp 50) (.tmp 52) rfl _ _ _ rfl rfl (HRUN.out) ?_;clear y0 y1 y2;obtain⟨y0,y1,y2⟩:=zJ HT9.out)
    have HP:=HP9;have HO:=HO9;have HT:=HT9;clear HP9 HO9 HT9 HRUN;have hnx:=fun(w1:World) (h1:Hid (Pq B w1 p E T (u1.on sn)))=>zI6 (u1.on sn) w1 h1;obtain⟨⟨tk2,tt2,ta2,tf2⟩,ht⟩:∃ t,zC E (u1.on sn).s=t:=⟨_,rfl⟩;have HTA2:Hid ((zC E (u1.on sn).s).at'=ta2):=Ph (by rw [ht]);rw [ht]at hnx;dsimp only [nxV,kW]at hnx;have HNX:=Ph hnx;clear hnx ht;have hl_p:p<w9.heap.size:=HP.out.pq.lt;have hw9:w.heap.size≤w9.heap.size:=HP.out.fr.size;have HQx:=Ph (HO.out.stay itD qC (Stays.below (zB (o:=(.cells #[uB tk,uI ta,uI tf] 44)))));clear HO;have HO:=HQx;clear HQx;have HQx:=Ph (HP.out.then (zB (o:=(.cells #[uB tk,uI ta,uI tf] 44))));clear HP;have HP:=HQx;clear HQx;have HTn:=Ph (Bk.new w9 44 #[uB tk,uI ta,uI tf]);clear HT y0 y1 y2;have HT:=HTn;clear HTn;generalize (w9.alloc _)=W9 at *;obtain⟨bn,hbn⟩:∃ b,w9.heap.size=b:=⟨_,rfl⟩;rw [hbn]at HT ⊢;have bnp:bn≠p:=Yo;have HWN:Hid (w.heap.size≤bn):=Ph (by show w.heap.size≤bn;omega);clear hbn hl_p hw9;refine(HNX.out W9 (Ph HP.out.pq)).mono ?_;rintro e wz ⟨rfl,hb⟩;have HQx:=Ph (zD HT.out hb);clear HT;have HT:=HQx;clear HQx;have HQx:=Ph (HO.out.stay itD qC (Stays.below hb));clear HO;have HO:=HQx;clear HQx;have HQx:=Ph (HP.out.then hb);clear HP;have HP:=HQx;clear HQx;clear hb;obtain⟨y0,y1,y2⟩:=zJ HT.out;obtain⟨f0,f1,f2,_,_,_,_⟩:=zZ HT.out;have HF:=Ph (jD4 wz bn (uB tk2) (uI ta2) (uI tf2));have HK:=Ph (qL7 (v0:=uB tk2) (v1:=uI ta2) (v2:=uI tf2) HT.out);have HPF:Hid (PQ B w p E T (u1.on sn) (((wz.setCell ⟨bn,0,none⟩ (uB tk2)).setCell ⟨bn,1,none⟩ (uI ta2)).setCell ⟨bn,2,none⟩ (uI tf2))):=Ph ⟨HP.out.pq.tokbox HT.out (cX bnp) (lE HB0.out HWN.out) (fun b off e=>lX (HTA0.out b off e) HWN.out) HF.out,HP.out.fr.box HF.out HWN.out⟩;have HOF:=Ph (HO.out.stay itD qC (Stays.box HF.out HT.out (by unfold TTy;decide)));have HLF:Hid ((out++[(⟨nm,(nb:Int),(nz:Int)⟩:Dx)]).length≤(u1.on sn).s.n):=Ph (by have h1:=HLN.out;have h2:=HN1.out;have h3:=HGN.out;rw [Ya];show out.length+1≤sn.n;omega);go_wp2_with fail
    generalize (World.setCell _ _ _)=WF at *;go_roundg gk
    case measure=>omega
    case rel=>exact⟨out++[(⟨nm,(nb:Int),(nz:Int)⟩:Dx)],⟨A2,S.n+1,k2⟩,u1.on sn,bn,tk2,ta2,tf2,rfl,rfl,HXN,HOF,HPF,HK,HTA2,HWN,HLF⟩
   ·have hle:=zG7 E (zI E s1 [58]);obtain⟨⟨nb,sn⟩,hn⟩:∃ n,jB E (zI E s1 [58])=n:=⟨_,rfl⟩;rw [hn]at hle h3;(try dsimp only at hle h3);have hgn:s1.n≤sn.n:=by have g4:=xK (E:=E) s1 [58];have g5:=zP3 (E:=E) (zI E s1 [58]);rw [hn]at g5;(try dsimp only at g5);omega
    have HGN:=Ph hgn;have HXN:=Ph h3;have HN:=Ph hn;have HLE:=Ph hle;rw [harr]at hua;clear h3 hn hle hgn;go_wp2_with fail
    refine(zM9 (⟨s1,qc.l++[ta]⟩:QSt) [58] W4 (Ph HP.out.pq)).mono ?_;rintro e w7 ⟨⟨v7,rfl⟩,hp⟩;have HQx:=Ph (hp.bk HT.out Yd btp);clear HT;have HT:=HQx;clear HQx;have HQx:=Ph (hp.bk HD.out Yd bp);clear HD;have HD:=HQx;clear HQx;have HQx:=Ph (HO.out.stay itD qC (HP.out.pq.stays hp.fr));clear HO;have HO:=HQx;clear HQx;have HQx:=Ph (HP.out.trans hp);clear HP;have HP:=HQx;clear HQx;clear hp;go_wp2_with fail
    refine(jT8 _ w7 (Ph HP.out.pq)).mono ?_;rintro e w8 ⟨rfl,hp⟩;have HQx:=Ph (hp.bk HT.out Yd btp);clear HT;have HT:=HQx;clear HQx;have HQx:=Ph (hp.bk HD.out Yd bp);clear HD;have HD:=HQx;clear HQx;have HQx:=Ph (HO.out.stay itD qC (HP.out.pq.stays hp.fr));clear HO;have HO:=HQx;clear HQx;have HQx:=Ph (HP.out.trans hp);clear HP;have HP:=HQx;clear HQx;clear hp;have HPn:Hid (PQ B w p E T ((⟨s1,qc.l++[ta]⟩:QSt).on sn) w8):=Ph (by have:=HP.out;rw [show(((⟨s1,qc.l++[ta]⟩:QSt)).on (zI E ((⟨s1,qc.l++[ta]⟩:QSt)).s [58])).s=zI E ((⟨s1,qc.l++[ta]⟩:QSt)).s [58] from rfl,HN.out]at this;exact this);clear HP;have HP:=HPn;clear HPn;rw [show(((⟨s1,qc.l++[ta]⟩:QSt)).on (zI E ((⟨s1,qc.l++[ta]⟩:QSt)).s [58])).s=zI E ((⟨s1,qc.l++[ta]⟩:QSt)).s [58] from rfl,HN.out];dsimp only;obtain⟨y0,y1,y2⟩:=zJ HD.out;obtain⟨f0,f1,f2,_,_,_,_⟩:=zZ HD.out;have hf:Fr (fun k=>k=b) w8 (w8.setCell ⟨b,1,none⟩ (uI nb)):=(Fr.refl (fun k=>k=b) w8).setCell (p:=⟨b,1,none⟩) (.inl rfl) _;have hwb:w.heap.size≤b:=HWB.out;have HDn:Hid (Bk (w8.setCell ⟨b,1,none⟩ (uI nb)) b 87 #[uR nm,uI nb,uI 0]):=Ph (by have:=HD.out.put 1 (uI nb);simpa using this);have HPn:=Ph (HP.out.box HD.out Yd Yd (cX bp) (lE HB0.out hwb) hwb hf);have HTn:=Ph (HT.out.fr hf (cX bbt));have HOn:=Ph (OwnD.fr HO.out hf (fun k hk e=>HNBb.out (e▸hk)));clear hf hwb;go_upto_region 13 with fail
    generalize (World.setCell _ _ _)=W8 at *;clear HP HT HD HO y0 y1 y2 f0 f1 f2;have HP:=HPn;have HT:=HTn;have HD:=HDn;have HO:=HOn;clear HPn HTn HDn HOn;obtain⟨y0,y1,y2⟩:=zJ HD.out;have hx:jO4 (⟨nm,(nb:Int),0⟩:Dx):=⟨HNL.out,by show(-9223372036854775808:Int)≤(nb:Int);omega,by show(nb:Int)≤9223372036854775807;have:=HLE.out;omega,by show(-9223372036854775808:Int)≤0;decide,by show(0:Int)≤9223372036854775807;decide⟩;have hb9:Below W8.heap.size W8 (W8.alloc (.cells #[uR nm,uI nb,uI 0] 87)):=zB;have hO9:=HO.out.stay itD qC (Stays.below hb9);obtain⟨A2,k2,w9,hrun,hown,hfr⟩:=OwnG.run itD jD5 qC zI9 (fun x v=>rfl) hO9 (⟨nm,(nb:Int),0⟩:Dx) () hx (some ⟨W8.heap.size,0,none⟩) 1 (Rd.new W8 #[uR nm,uI nb,uI 0] 87) HSN.out (lE HP.out.fr.size hb9.size) 0;have HRUN:=Ph hrun;have HO9:=Ph hown;have HP9:=Ph ((HP.out.then hb9).data HB0.out hfr (fun k _ e=>by obtain⟨h1,cs,h2⟩:=OwnG.typed hO9 e;exact⟨h1,_,cs,h2,qC⟩));have HT9:=Ph ((zD HT.out hb9).fr hfr (fun e=>by obtain⟨_,cs,h2⟩:=OwnG.typed hO9 e;exact h2.ne (zD HT.out hb9) Yd rfl));clear hx hb9 hO9 hrun hown hfr HO HP HT HD;go_wp2_with (at_builtin;refine jL rfl (.tmp 50) (.tmp 52) rfl _ _ _ rfl rfl (HRUN.out) ?_;clear y0 y1 y2;obtain⟨y0,y1,y2⟩:=zJ HT9.out)
    have HP:=HP9;have HO:=HO9;have HT:=HT9;clear HP9 HO9 HT9 HRUN;have hnx:=fun(w1:World) (h1:Hid (Pq B w1 p E T ((⟨s1,qc.l++[ta]⟩:QSt).on sn)))=>zI6 ((⟨s1,qc.l++[ta]⟩:QSt).on sn) w1 h1;obtain⟨⟨tk2,tt2,ta2,tf2⟩,ht⟩:∃ t,zC E ((⟨s1,qc.l++[ta]⟩:QSt).on sn).s=t:=⟨_,rfl⟩;have HTA2:Hid ((zC E ((⟨s1,qc.l++[ta]⟩:QSt).on sn).s).at'=ta2):=Ph (by rw [ht]);rw [ht]at hnx;dsimp only [nxV,kW]at hnx;have HNX:=Ph hnx;clear hnx ht;have hl_p:p<w9.heap.size:=HP.out.pq.lt;have hw9:w.heap.size≤w9.heap.size:=HP.out.fr.size;have HQx:=Ph (HO.out.stay itD qC (Stays.below (zB (o:=(.cells #[uB tk,uI ta,uI tf] 44)))));clear HO;have HO:=HQx;clear HQx;have HQx:=Ph (HP.out.then (zB (o:=(.cells #[uB tk,uI ta,uI tf] 44))));clear HP;have HP:=HQx;clear HQx;have HTn:=Ph (Bk.new w9 44 #[uB tk,uI ta,uI tf]);clear HT y0 y1 y2;have HT:=HTn;clear HTn;generalize (w9.alloc _)=W9 at *;obtain⟨bn,hbn⟩:∃ b,w9.heap.size=b:=⟨_,rfl⟩;rw [hbn]at HT ⊢;have bnp:bn≠p:=Yo;have HWN:Hid (w.heap.size≤bn):=Ph (by show w.heap.size≤bn;omega);clear hbn hl_p hw9;refine(HNX.out W9 (Ph HP.out.pq)).mono ?_;rintro e wz ⟨rfl,hb⟩;have HQx:=Ph (zD HT.out hb);clear HT;have HT:=HQx;clear HQx;have HQx:=Ph (HO.out.stay itD qC (Stays.below hb));clear HO;have HO:=HQx;clear HQx;have HQx:=Ph (HP.out.then hb);clear HP;have HP:=HQx;clear HQx;clear hb;obtain⟨y0,y1,y2⟩:=zJ HT.out;obtain⟨f0,f1,f2,_,_,_,_⟩:=zZ HT.out;have HF:=Ph (jD4 wz bn (uB tk2) (uI ta2) (uI tf2));have HK:=Ph (qL7 (v0:=uB tk2) (v1:=uI ta2) (v2:=uI tf2) HT.out);have HPF:Hid (PQ B w p E T ((⟨s1,qc.l++[ta]⟩:QSt).on sn) (((wz.setCell ⟨bn,0,none⟩ (uB tk2)).setCell ⟨bn,1,none⟩ (uI ta2)).setCell ⟨bn,2,none⟩ (uI tf2))):=Ph ⟨HP.out.pq.tokbox HT.out (cX bnp) (lE HB0.out HWN.out) (fun b off e=>lX (HTA0.out b off e) HWN.out) HF.out,HP.out.fr.box HF.out HWN.out⟩;have HOF:=Ph (HO.out.stay itD qC (Stays.box HF.out HT.out (by unfold TTy;decide)));have HLF:Hid ((out++[(⟨nm,(nb:Int),0⟩:Dx)]).length≤((⟨s1,qc.l++[ta]⟩:QSt).on sn).s.n):=Ph (by have h1:=HLN.out;have h2:=HN1.out;have h3:=HGN.out;rw [Ya];show out.length+1≤sn.n;omega);go_wp2_with fail
    generalize (World.setCell _ _ _)=WF at *;go_roundg gk
    case measure=>omega
    case rel=>exact⟨out++[(⟨nm,(nb:Int),0⟩:Dx)],⟨A2,S.n+1,k2⟩,(⟨s1,qc.l++[ta]⟩:QSt).on sn,bn,tk2,ta2,tf2,rfl,rfl,HXN,HOF,HPF,HK,HTA2,HWN,HLF⟩
end
end
section
open Go.RowKit Go.PlainAid
theorem qL8 (t:List UInt8):(kM t=none∧t≠[119,114,105,116,101]∧t≠[102,108,117,115,104]∧t≠[98,97,114,114,105,101,114]∧t≠[105,102]∧t≠[119,104,105,108,101]∧t≠[99,97,108,108])∨(kM t=some 3∧t=[119,114,105,116,101])∨(kM t=some 4∧t=[102,108,117,115,104])∨(kM t=some 5∧t=[98,97,114,114,105,101,114])∨(kM t=some 6∧t=[105,102])∨(kM t=some 7∧t=[119,104,105,108,101])∨(kM t=some 8∧t=[99,97,108,108]):=by
 have e:bs "write" = [119,114,105,116,101]∧bs "flush" = [102,108,117,115,104]∧bs "barrier" = [98,97,114,114,105,101,114]∧bs "if" = [105,102]∧bs "while" = [119,104,105,108,101]∧bs "call" = [99,97,108,108]:=Yd;obtain⟨e0,e1,e2,e3,e4,e5⟩:=e;unfold kM;rw [e0,e1,e2,e3,e4,e5];by_cases h0:t=[119,114,105,116,101]
 ·exact .inr (.inl (⟨by rw [lM h0],h0⟩))
 by_cases h1:t=[102,108,117,115,104]
 ·exact .inr (.inr (.inl (⟨by rw [lN h0];rw [lM h1],h1⟩)))
 by_cases h2:t=[98,97,114,114,105,101,114]
 ·exact .inr (.inr (.inr (.inl (⟨by rw [lN h0];rw [lN h1];rw [lM h2],h2⟩))))
 by_cases h3:t=[105,102]
 ·exact .inr (.inr (.inr (.inr (.inl (⟨by rw [lN h0];rw [lN h1];rw [lN h2];rw [lM h3],h3⟩)))))
 by_cases h4:t=[119,104,105,108,101]
 ·exact .inr (.inr (.inr (.inr (.inr (.inl (⟨by rw [lN h0];rw [lN h1];rw [lN h2];rw [lN h3];rw [lM h4],h4⟩))))))
 by_cases h5:t=[99,97,108,108]
 ·exact .inr (.inr (.inr (.inr (.inr (.inr (⟨by rw [lN h0];rw [lN h1];rw [lN h2];rw [lN h3];rw [lN h4];rw [lM h5],h5⟩))))))
 exact .inl ⟨by rw [lN h0,lN h1,lN h2,lN h3,lN h4,lN h5],h0,h1,h2,h3,h4,h5⟩
theorem zH4 (t u:List UInt8):(u == (str t).toList)=decide (t=u):=by
 rw [qB,qE];by_cases h:t=u
 ·simp [h]
 ·simp [h];exact fun e=>h e.symm
theorem jD6 (w:World):Calls Tryz.prog 133 #[] w fun e w'=>e=.returned (.agg #[.string ⟨#[119,114,105,116,101]⟩,uF 148,.string ⟨#[102,108,117,115,104]⟩,uF 149,.string ⟨#[98,97,114,114,105,101,114]⟩,uF 150,.string ⟨#[105,102]⟩,uF 151,.string ⟨#[119,104,105,108,101]⟩,uF 152,.string ⟨#[99,97,108,108]⟩,uF 153])∧Below w.heap.size w w':=by
 go_enter Tryz.func133,Tryz.ntmps133
 go_wp2_with fail
 have c0:(w.alloc (.cells #[.string ⟨#[119,114,105,116,101]⟩,uF 148,.string ⟨#[102,108,117,115,104]⟩,uF 149,.string ⟨#[98,97,114,114,105,101,114]⟩,uF 150,.string ⟨#[105,102]⟩,uF 151,.string ⟨#[119,104,105,108,101]⟩,uF 152,.string ⟨#[99,97,108,108]⟩,uF 153] 200)).cell? ⟨w.heap.size,0,none⟩=some (.string ⟨#[119,114,105,116,101]⟩):=(Bk.new w _ _).cell 0;have c1:(w.alloc (.cells #[.string ⟨#[119,114,105,116,101]⟩,uF 148,.string ⟨#[102,108,117,115,104]⟩,uF 149,.string ⟨#[98,97,114,114,105,101,114]⟩,uF 150,.string ⟨#[105,102]⟩,uF 151,.string ⟨#[119,104,105,108,101]⟩,uF 152,.string ⟨#[99,97,108,108]⟩,uF 153] 200)).cell? ⟨w.heap.size,1,none⟩=some (uF 148):=(Bk.new w _ _).cell 1;have c2:(w.alloc (.cells #[.string ⟨#[119,114,105,116,101]⟩,uF 148,.string ⟨#[102,108,117,115,104]⟩,uF 149,.string ⟨#[98,97,114,114,105,101,114]⟩,uF 150,.string ⟨#[105,102]⟩,uF 151,.string ⟨#[119,104,105,108,101]⟩,uF 152,.string ⟨#[99,97,108,108]⟩,uF 153] 200)).cell? ⟨w.heap.size,2,none⟩=some (.string ⟨#[102,108,117,115,104]⟩):=(Bk.new w _ _).cell 2;have c3:(w.alloc (.cells #[.string ⟨#[119,114,105,116,101]⟩,uF 148,.string ⟨#[102,108,117,115,104]⟩,uF 149,.string ⟨#[98,97,114,114,105,101,114]⟩,uF 150,.string ⟨#[105,102]⟩,uF 151,.string ⟨#[119,104,105,108,101]⟩,uF 152,.string ⟨#[99,97,108,108]⟩,uF 153] 200)).cell? ⟨w.heap.size,3,none⟩=some (uF 149):=(Bk.new w _ _).cell 3;have c4:(w.alloc (.cells #[.string ⟨#[119,114,105,116,101]⟩,uF 148,.string ⟨#[102,108,117,115,104]⟩,uF 149,.string ⟨#[98,97,114,114,105,101,114]⟩,uF 150,.string ⟨#[105,102]⟩,uF 151,.string ⟨#[119,104,105,108,101]⟩,uF 152,.string ⟨#[99,97,108,108]⟩,uF 153] 200)).cell? ⟨w.heap.size,4,none⟩=some (.string ⟨#[98,97,114,114,105,101,114]⟩):=(Bk.new w _ _).cell 4;have c5:(w.alloc (.cells #[.string ⟨#[119,114,105,116,101]⟩,uF 148,.string ⟨#[102,108,117,115,104]⟩,uF 149,.string ⟨#[98,97,114,114,105,101,114]⟩,uF 150,.string ⟨#[105,102]⟩,uF 151,.string ⟨#[119,104,105,108,101]⟩,uF 152,.string ⟨#[99,97,108,108]⟩,uF 153] 200)).cell? ⟨w.heap.size,5,none⟩=some (uF 150):=(Bk.new w _ _).cell 5;have c6:(w.alloc (.cells #[.string ⟨#[119,114,105,116,101]⟩,uF 148,.string ⟨#[102,108,117,115,104]⟩,uF 149,.string ⟨#[98,97,114,114,105,101,114]⟩,uF 150,.string ⟨#[105,102]⟩,uF 151,.string ⟨#[119,104,105,108,101]⟩,uF 152,.string ⟨#[99,97,108,108]⟩,uF 153] 200)).cell? ⟨w.heap.size,6,none⟩=some (.string ⟨#[105,102]⟩):=(Bk.new w _ _).cell 6;have c7:(w.alloc (.cells #[.string ⟨#[119,114,105,116,101]⟩,uF 148,.string ⟨#[102,108,117,115,104]⟩,uF 149,.string ⟨#[98,97,114,114,105,101,114]⟩,uF 150,.string ⟨#[105,102]⟩,uF 151,.string ⟨#[119,104,105,108,101]⟩,uF 152,.string ⟨#[99,97,108,108]⟩,uF 153] 200)).cell? ⟨w.heap.size,7,none⟩=some (uF 151):=(Bk.new w _ _).cell 7;have c8:(w.alloc (.cells #[.string ⟨#[119,114,105,116,101]⟩,uF 148,.string ⟨#[102,108,117,115,104]⟩,uF 149,.string ⟨#[98,97,114,114,105,101,114]⟩,uF 150,.string ⟨#[105,102]⟩,uF 151,.string ⟨#[119,104,105,108,101]⟩,uF 152,.string ⟨#[99,97,108,108]⟩,uF 153] 200)).cell? ⟨w.heap.size,8,none⟩=some (.string ⟨#[119,104,105,108,101]⟩):=(Bk.new w _ _).cell 8;have c9:(w.alloc (.cells #[.string ⟨#[119,114,105,116,101]⟩,uF 148,.string ⟨#[102,108,117,115,104]⟩,uF 149,.string ⟨#[98,97,114,114,105,101,114]⟩,uF 150,.string ⟨#[105,102]⟩,uF 151,.string ⟨#[119,104,105,108,101]⟩,uF 152,.string ⟨#[99,97,108,108]⟩,uF 153] 200)).cell? ⟨w.heap.size,9,none⟩=some (uF 152):=(Bk.new w _ _).cell 9;have c10:(w.alloc (.cells #[.string ⟨#[119,114,105,116,101]⟩,uF 148,.string ⟨#[102,108,117,115,104]⟩,uF 149,.string ⟨#[98,97,114,114,105,101,114]⟩,uF 150,.string ⟨#[105,102]⟩,uF 151,.string ⟨#[119,104,105,108,101]⟩,uF 152,.string ⟨#[99,97,108,108]⟩,uF 153] 200)).cell? ⟨w.heap.size,10,none⟩=some (.string ⟨#[99,97,108,108]⟩):=(Bk.new w _ _).cell 10;have c11:(w.alloc (.cells #[.string ⟨#[119,114,105,116,101]⟩,uF 148,.string ⟨#[102,108,117,115,104]⟩,uF 149,.string ⟨#[98,97,114,114,105,101,114]⟩,uF 150,.string ⟨#[105,102]⟩,uF 151,.string ⟨#[119,104,105,108,101]⟩,uF 152,.string ⟨#[99,97,108,108]⟩,uF 153] 200)).cell? ⟨w.heap.size,11,none⟩=some (uF 153):=(Bk.new w _ _).cell 11;refine lK (v:=.agg #[.string ⟨#[119,114,105,116,101]⟩,uF 148,.string ⟨#[102,108,117,115,104]⟩,uF 149,.string ⟨#[98,97,114,114,105,101,114]⟩,uF 150,.string ⟨#[105,102]⟩,uF 151,.string ⟨#[119,104,105,108,101]⟩,uF 152,.string ⟨#[99,97,108,108]⟩,uF 153]) (by simp [results,Tryz.results133,go_sem,c0,c1,c2,c3,c4,c5,c6,c7,c8,c9,c10,c11]) rfl ?_;exact⟨rfl,zB⟩
end
section
open Go.RowKit Go.Shelf
theorem zS7 {W:World} {l:Nat} {o':Obj} {k:Nat} {o:Obj} (hk:k≠l) (h:W.heap[k]?=some o):(W.putObj l o').heap[k]?=some o:=(World.putObj_heap_other hk).trans h
theorem jD7 {α:Type} {F:Fence} {n:Nat} {P:Program} {g:Operand} {ps:Array Tmp} {assign body:Code} {Q:Exit→Act→World→Prop} {a:Act} {w:World}
 (hro:F.round=none) (h1:1≤n) {gf:Nat} {lb:Array Value} (hg:a.eval g=.func (.func gf) #[] lb) (hFg:F.fn gf) (eg:∀ args w,(callFunc gf args).run P w=.ok (.enter gf args) w)
 {encs:α→Array Value} (hps:∀ x,(encs x).size=ps.size) (I:List α→World→Prop) (G:List α→α→World→World→Prop) (R:α→World→Prop) (S:List α→Prop) (Rf:World→Prop)
 (hI:∀ pre W l o o',w.heap.size≤l→I pre W→W.heap[l]?=some o→o.isCells=false→I pre (W.putObj l o'))
 (hR:∀ x W l o o',w.heap.size≤l→R x W→W.heap[l]?=some o→o.isCells=false→R x (W.putObj l o'))
 (hRf:∀ W l o o',w.heap.size≤l→Rf W→W.heap[l]?=some o→o.isCells=false→Rf (W.putObj l o'))
 (h0:∀ o,I [] ((w.alloc (.deferred (some []))).alloc (.loop o)))
 (hseq:∀ (l:Nat) (J:List α→World→Prop) (o:Loop),(∀ pre W,J pre W→I pre W)→(∀ pre W W',J pre W→KeepsOthers W W'→I pre W'→J pre W') →
   (∀ pre x W0 W,J pre W0→J pre W→G pre x W0 W→YieldAt F (n-1-1) P l (encs x) W fun e W'=>e=.returned (.bool true)∧J (pre++[x]) W'∧R x W') →
   J [] ((w.alloc (.deferred (some []))).alloc (.loop o)) →
   CallsIn F (n-1) P gf (#[.func (.yield l) #[] #[]]++lb) ((w.alloc (.deferred (some []))).alloc (.loop o)) fun e W'=>(∃ v,e=.returned v)∧∃ xs,S xs∧J xs W'∧Rf W')
 (hround:∀ (l:Nat) (pre:List α) (x:α) (W0 W:World),I pre W0→G pre x W0 W→assign.wpIn (F.inRound l) (n-1-1) P (Exit.then (fun a' W'=>KeepsOthers W W' ∧
   ∀ o o',w.heap.size≤l→W'.heap[l]?=some o→o.isCells=false→body.wpIn (F.inRound l) (n-1-1) P (fun e _ W3=>e=.normal∧KeepsOthers (W'.putObj l o') W3∧I (pre++[x]) W3∧R x W3) a' (W'.putObj l o')) (fun _ _ _=>False))
   { tmps:=(ps.zip (encs x)).foldl (fun t (p,v)=>t.setIfInBounds p v) a.tmps,defers:=[] } W)
 (hdone:∀ (D:Nat) (xs:List α) (W:World),w.heap.size≤D→S xs→I xs W→Rf W→W.heap[D]?=some (.deferred (some []))→Q .normal { a with defers:={ target:=.collected D,args:=#[] } :: a.defers } W) :
 (Code.rangeFunc g ps assign body).wpIn F n P Q a w:=by
 refine wpIn_rangeFunc fun fn hfn=>?_;rw [hro];let rc:Loop:={ state:=.ready,pending:=none,fn,tmps:=a.tmps,params:=ps,assign,body,defers:=w.heap.size }
 have hl0:((w.alloc (.deferred (some []))).alloc (.loop rc)).heap[w.heap.size+1]?=some (.loop rc):=by have:=World.alloc_heap_new (w.alloc (.deferred (some []))) (.loop rc);rwa [lO]at this
 have hd0:((w.alloc (.deferred (some []))).alloc (.loop rc)).heap[w.heap.size]?=some (.deferred (some [])):=(Below.heap_alloc _ _ _ Ym).trans (World.alloc_heap_new w _)
 refine⟨w.heap.size+1,[{ target:=.collected w.heap.size,args:=#[] }],((w.alloc (.deferred (some []))).alloc (.loop rc)),{ target:=.fn (.func gf) lb,args:=#[.func (.yield (w.heap.size+1)) #[] #[]] },((w.alloc (.deferred (some []))).alloc (.loop rc)),gf,#[.func (.yield (w.heap.size+1)) #[] #[]]++lb,((w.alloc (.deferred (some []))).alloc (.loop rc)),
  run_enterLoop_outer fn a.tmps ps assign body,?_,?_,?_,fun _=>h1,?_⟩
 ·simp only [resolve,hg];simp [go_sem]
 ·intro f' hf';simp [Target.leads]at hf';subst hf';exact hFg
 ·simp [invoke,go_sem,eg]
 ·refine(hseq (w.heap.size+1) (fun pre W=>I pre W∧W.heap[w.heap.size+1]?=some (.loop rc)∧W.heap[w.heap.size]?=some (.deferred (some []))) rc (fun pre W h=>h.1)
   (fun pre W W' h hk hi=>⟨hi,hk.same _ _ h.2.1 rfl,hk.same _ _ h.2.2 rfl⟩) ?_ ⟨h0 rc,hl0,hd0⟩).mono ?_
  ·rintro pre x W0 W ⟨hi0,_,_⟩ ⟨hi,hl,hd⟩ hgx;refine⟨fn,_,assign,body,run_yield (P:=P) (args:=encs x) hl (hps x),roundIn_of_wpIn hfn (wpIn_mono (hround _ pre x W0 W hi0 hgx) ?_)⟩;rintro e a' W' he;cases e with
   | normal =>
     obtain⟨hk,hb⟩:=he;have hl':=hk.same _ _ hl rfl;have hd':=hk.same _ _ hd rfl;have hlt:w.heap.size+1<W'.heap.size:=zO hl';refine⟨_,run_beginRound hl' rfl,wpIn_mono (hb _ _ Yo hl' rfl) ?_⟩;rintro e a3 W3 ⟨rfl,hk3,hi3,hr3⟩;have hl2:(W'.putObj (w.heap.size+1) (.loop { rc with state:=.busy })).heap[w.heap.size+1]?=some (.loop { rc with state:=.busy }):=World.putObj_heap_same hlt;have hl3:=hk3.same _ _ hl2 rfl;have hd3:=hk3.same _ _ (zS7 (l:=w.heap.size+1) (o':=.loop { rc with state:=.busy }) Yo hd') rfl;have hlt3:w.heap.size+1<W3.heap.size:=zO hl3;refine⟨_,_,run_endRound (P:=P) none hl3,rfl,⟨hI _ _ _ _ _ Yo hi3 hl3 rfl,World.putObj_heap_same hlt3,zS7 Yo hd3⟩,hR _ _ _ _ _ Yo hr3 hl3 rfl⟩
   | ret=>exact he.elim
   | exit id=>exact he.elim
   | goto t=>exact he.elim
   | panic ch=>exact he.elim
   | outgrown=>exact he.elim
  ·rintro e W2 ⟨⟨v,rfl⟩,xs,hS,⟨hi,hl,hd⟩,hrf⟩;exact⟨none,_,run_endLoop (P:=P) hl (by simp [rc]),hdone _ xs _ (lF _) hS (hI _ _ _ _ _ Yo hi hl rfl) (hRf _ _ _ _ Yo hrf hl rfl) (zS7 Yo hd)⟩
end
section
open Go.RowKit Go.PlainAid
def vI (n:Nat):Code→Option Code
 | .region m o d=>if m=n then some (.region m o d) else none
 | .seq a b=>match vI n a with
   | some c=>some c
   | none=>vI n b
 | .cond _ a b=>match vI n a with
   | some c=>some c
   | none=>vI n b
 | .block _ b=>vI n b
 | .loop b=>vI n b
 | .scope b=>vI n b
 | _=>none
section
variable {B:Nat} {p:Nat} {E:Env} {T:TV}
theorem kG7 (q:QSt) (W:World) (pb bt tk ta tf:Nat) (HP:Hid (Pq B W p E T q)) (HL:Hid (q.l.length≤800000000)) (HT:Hid (Bk W bt 44 #[uB tk,uI ta,uI tf])) (HPB:Hid (Bk W pb 103 #[uQ p 0]))
 (c:Code) (hc:(Tryz.f130.body.bind (vI 12))=some c) (s0 s2 s4 s5 s6 s7 s8 s9 s10 s11 s12 s13 s14 s15 s16 s17 s18 s19 s20 s21 s22 s23 s24 s25 s26 s27 s28 s29 s30 s31 s32 s33 s34 s35 s36 s37 s38 s39 s40 s41 s42 s43 s44 s45 s46 s47 s48 s49 s50 s51 s52 s53 s54 s55 s56 s57 s58 s59 s60 s61 s62 s63:Value) (K1:Act→World→Prop) (Q1:Exit→Act→World→Prop)
 (hK:∀ (x47 x48 x49 x50 x51 x52 x53 x54 x55 x56 x57:Value) (W':World),Hid (PQ B W p E T ⟨q.s,q.l++[ta]⟩ W')→K1 ⟨#[s0,uQ pb 0,s2,uQ bt 0,s4,s5,s6,s7,s8,s9,s10,s11,s12,s13,s14,s15,s16,s17,s18,s19,s20,s21,s22,s23,s24,s25,s26,s27,s28,s29,s30,s31,s32,s33,s34,s35,s36,s37,s38,s39,s40,s41,s42,s43,s44,s45,s46,x47,x48,x49,x50,x51,x52,x53,x54,x55,x56,x57,s58,s59,s60,s61,s62,s63],[]⟩ W'):Code.wp Tryz.prog c (Exit.then K1 Q1) ⟨#[s0,uQ pb 0,s2,uQ bt 0,s4,s5,s6,s7,s8,s9,s10,s11,s12,s13,s14,s15,s16,s17,s18,s19,s20,s21,s22,s23,s24,s25,s26,s27,s28,s29,s30,s31,s32,s33,s34,s35,s36,s37,s38,s39,s40,s41,s42,s43,s44,s45,s46,s47,s48,s49,s50,s51,s52,s53,s54,s55,s56,s57,s58,s59,s60,s61,s62,s63],[]⟩ W:=by
 have hc2:some _=some c:=hc;injection hc2 with hc2;subst hc2;clear hc;refine Code.wp_mono (Q:=Exit.then K1 (fun _ _ _=>False)) (fun e a w h=>by cases e <;> first | exact h | exact h.elim) ?_;obtain⟨Q,A2,k2,w6,hps,hrun,hps2,hpq,hfr,hbk,hbk6⟩:=(HP.out.below (lB _ _).drew).atrun ta HL.out;have hpa:=hps.below (zB (o:=(.cells #[uI ta] 3)));have hb0:Bk W p 152 (zZ6 E T Q q.s):=hps.bk;have e4:(W.alloc (.cells #[uI ta] 3)).cell? ⟨p,4,none⟩=some (uL Q):=(zD hb0 (zB (o:=(.cells #[uI ta] 3)))).cell 4;have g4:=hps.cells.2.2.2.2.1;have a4:=hpa.cells.2.2.2.2.1;have t1:=(zD HT.out (lB _ _).drew).cell 1;have u1:=(zD (zD HT.out (lB _ _).drew) (zB (o:=(.cells #[uI ta] 3)))).cell 1;have v1:=(zD HT.out (zB (o:=(.cells #[uI ta] 3)))).cell 1;have pb0:W.drew.cell? ⟨pb,0,none⟩=some (uQ p 0):=HPB.out.cell 0;have pb1:(W.alloc (.cells #[uI ta] 3)).cell? ⟨pb,0,none⟩=some (uQ p 0):=(zD HPB.out zB).cell 0;have pb2:w6.cell? ⟨pb,0,none⟩=some (uQ p 0):=(hbk6 _ _ _ (show Bk W.drew pb 103 #[uQ p 0] from HPB.out) Yd).cell 0;have pb3:W.cell? ⟨pb,0,none⟩=some (uQ p 0):=HPB.out.cell 0;have t1:W.drew.cell? ⟨bt,1,none⟩=some (uI ta):=t1;have u1:(W.drew.alloc (.cells #[uI ta] 3)).cell? ⟨bt,1,none⟩=some (uI ta):=u1;have v1:(W.alloc (.cells #[uI ta] 3)).cell? ⟨bt,1,none⟩=some (uI ta):=v1;have HRUN:=Ph hrun;have HPS2:=Ph hps2;have HPQ:=Ph hpq;have HFR:=Ph hfr;have HK1:=Ph hK;clear hps hpa hb0 hrun hps2 hpq hfr hbk hbk6 hK
 go_region_law (first
  | (refine qG rfl (.tmp 51) (.tmp 54) rfl _ _ _ rfl rfl (HRUN.out _) ?_
     clear g4 a4 t1 u1 e4 v1;obtain⟨g0,g1,g2,g3,g4,g5,g6⟩:=HPS2.out.cells;have gz:=HPS2.out.frozens 4))
 all_goals
  go_wp2
  with_reducible exact HK1.out _ _ _ _ _ _ _ _ _ _ _ _ (Ph ⟨HPQ.out,(FrQ.of_below (lB _ _).drew).trans HFR.out⟩)
end
end
end Go.Proofs.YtfdaebgllibphaaGreatDoor
