import Derived.Test.YtfdaebgllibphaaGreatDoorWai
set_option linter.unusedVariables false
set_option linter.unusedSimpArgs false
set_option maxRecDepth 100000
set_option maxHeartbeats 16000000
namespace Go.Proofs.YtfdaebgllibphaaGreatDoor
open Go.Proofs.Tryz
section
open Go.RowKit Go.PlainAid
theorem qG {P:Program} {ops:Array Oper} {t:TypeId} {w w':World} {o:Oper} {a:Act} {K:Act→World→Prop} {Q:Exit→Act→World→Prop} {E':Prop} (hgd:o.guard=none) (s x:Operand) (ho:o.op=.call { callee:=.builtin .append,args:=#[s,x],argTypes:=#[t,t] }) (v u r:Value) (hs:a.eval s=v) (hx:a.eval x=u)
 (hrun:(Builtin.append_ #[t,t] o.type #[v,u]).run P w=.ok r w') (h:K (a.put o.dst r) w'):if Region.wanted o (yielded ops a.tmps)=true then Oper.wp P o a w K Q else E':=by
 have hw:Region.wanted o (yielded ops a.tmps)=true:=by simp [Region.wanted,hgd]
 rw [lM hw];exact jC6 (ty0:=t) s x ho v u r hs hx hrun h
section
variable {B:Nat} {p:Nat} {E:Env} {T:TV}
theorem Bx.data {w W W':World} {r b:Nat} {cs:Array Value} {q:QSt} {out:List Ex} {S:SV} (h:Bx B p E T w r b cs q W) (hB:B≤w.heap.size) (hf:Fr (fun k=>(Value.slice S.A S.n S.c).ownBlock=some k) W W') (ho:OwnX (b+1) W out S):Bx B p E T w r b cs q W':=by have hw:=h.wb;exact⟨h.pq.data hB hf (fun k _ e=>by obtain⟨h1,cs,h2⟩:=ho.typed e;exact⟨Yo,_,cs,h2,qW⟩),h.rs.fr hf (fun e=>by obtain⟨_,cs,h2⟩:=ho.typed e;exact h2.ne h.rs Yd rfl),h.bx.fr hf (fun e=>by obtain⟨h1,_⟩:=ho.typed e;omega),h.rp,h.bp,h.br,h.wr,h.wb⟩
theorem jZ2 (f:Nat) (q:QSt) (s:Sx) (q':QSt) (hs:qY E (f+1) 0 q=some (s,q')) (w:World) (h:Ud (Pq B w p E T q)):Calls prog 131 #[uQ p 0] w (vH B w p E T s q'):=by
 have hc:=vW hs;have HL:=Ph h.o.name_len;obtain⟨nm,hnm⟩:∃ nm,jA E q.s=nm:=⟨_,rfl⟩;rw [hnm]at HL hc;have HNM:=Ph hnm;obtain⟨qn,hqn⟩:∃ qn,q.on (zL E q.s)=qn:=⟨_,rfl⟩;have HQN:=Ph hqn;have hqs:zL E q.s=qn.s:=by rw [←hqn];rfl
 have hqm:q.on (zI E (zL E q.s) [61])=qn.on (zI E qn.s [61]):=by rw [←hqn];rfl
 rw [hqn,hqs]at hc;rw [hqs]at hqm;rw [hqm]at hc;clear hs hnm hqn hqs hqm;have HR:=Ph (Bk.new w 108 uS);have HP:=Ph (PQ.below h.o (zB (o:=.cells uS 108)));have hpl:p<w.heap.size:=h.o.lt;go_enter func131,ntmps131
 go_upto_region 1 with fail
 have hW:(w.alloc (.cells uS 108)).heap.size=w.heap.size+1:=Ym;generalize (w.alloc _)=W at HR HP hW ⊢;obtain⟨r,hr⟩:∃ r,w.heap.size=r:=⟨_,rfl⟩;rw [hr]at HR hW ⊢;have hrp:p≠r:=Yo;have hwr:w.heap.size≤r:=Yo;clear hr hpl;go_wp2_with fail
 refine(jD1 q W (Ph HP.o.pq)).mono ?_;rintro e w1 ⟨rfl,hp⟩;rw [HNM.o];rw [HQN.o]at hp;have hr1:r+1≤w1.heap.size:=lE (Nat.le_of_eq hW.symm) hp.fr.size;have hp1:p<w1.heap.size:=hp.pq.lt;have HBX:Ud (Bx B p E T w r w1.heap.size #[uB 1,uR nm,uN,uI 0,uN,uN] qn (w1.alloc (.cells #[uB 1,uR nm,uN,uI 0,uN,uN] 108))):=Ph ⟨(HP.o.trans hp).then zB,zD (hp.bk HR.o Yd (cX hrp)) zB,Bk.new _ _ _,hrp,Yo,Yo,hwr,Yo⟩;clear hp HP HR hW hp1;go_upto_region 2 with fail
 have hsz:(w1.alloc (.cells #[uB 1,uR nm,uN,uI 0,uN,uN] 108)).heap.size=w1.heap.size+1:=Ym;generalize (w1.alloc _)=W2 at HBX hsz ⊢;obtain⟨b,hb⟩:∃ b,w1.heap.size=b:=⟨_,rfl⟩;rw [hb]at HBX hsz ⊢;have HRB:Ud (r<b):=Ph (by show r<b;omega);clear hb hr1 hrp hwr hsz;have HNX:=Ph (zI6 qn W2 (Ph HBX.o.pq.pq));have hbt:((str (zC E qn.s).text).toList == [91])=decide ((zC E qn.s).text=[91]):=qA7 _ _;obtain⟨⟨tk,tt,ta,tf⟩,ht⟩:∃ t,zC E qn.s=t:=⟨_,rfl⟩;rw [ht]at HNX hc hbt;dsimp only [nxV,kW]at HNX;(try dsimp only at hc hbt);clear ht;go_wp2_with fail
 refine HNX.o.mono ?_;rintro e w2 ⟨rfl,hb⟩;have HB:=Ph ((HBX.o.then (PQ.below HBX.o.pq.pq hb)).then (PQ.below (HBX.o.pq.pq.below hb) (zB (o:=.cells #[uB tk,uI ta,uI tf] 44))));clear hb HNX HBX;go_upto_region 3 with fail
 generalize (w2.alloc _)=W3 at HB ⊢;have HO:Ud (OwnX (b+1) W3 [] ⟨none,0,0⟩):=Ph OwnG.nil;rcases hc with⟨ht,q1,i,q2,q3,x,h1,h2,h3,h4,rfl⟩ | ⟨ht,x,h4,rfl⟩
 ·rw [lH ht]at hbt;have H1:=Ph h1;have H2:=Ph h2;have H3:=Ph h3;have H4:=Ph h4;clear h1 h2 h3 h4 ht;obtain⟨y0,y1,y2,y3,y4,y5⟩:=zH HB.o.bx;obtain⟨f0,f1,f2,f3,f4,f5,_⟩:=zZ HB.o.bx;obtain⟨hb1,hb2⟩:=HB.o.put h.o.b 0 (uB 2);have HBn:Ud (Bx B p E T w r b #[uB 2,uR nm,uN,uI 0,uN,uN] qn (W3.setCell ⟨b,0,none⟩ (uB 2))):=Ph hb1;clear hb1 hb2;go_upto_region 5 with fail
  generalize (World.setCell _ _ _)=W4 at HBn ⊢;clear HB HO y0 y1 y2 y3 y4 y5 f0 f1 f2 f3 f4 f5 hbt;have HB:=HBn;have HO:Ud (OwnX (b+1) W4 [] ⟨none,0,0⟩):=Ph OwnG.nil;clear HBn;go_wp2_with fail
  refine(qF3 qn [91] q1 H1.o W4 (Ph HB.o.pq.pq)).mono ?_;rintro e w4 ⟨⟨v,rfl⟩,hp⟩;have HQx:=Ph (HO.o.stay itX qW (HB.o.pq.pq.stays hp.fr));clear HO;have HO:=HQx;clear HQx;have HQx:=Ph (HB.o.then hp);clear HB hp;have HB:=HQx;clear HQx;go_upto_region 6 with fail
  go_cut [] (fun wx=>∃ (A2:Option Addr) (k2:Nat),Ud (Bx B p E T w r b #[uB 2,uR nm,.slice A2 (0+1) k2,uI 0,uN,uN] q2 wx)∧Ud (OwnX (b+1) wx (([]:List Ex)++[i]) ⟨A2,0+1,k2⟩))
  case first =>
   have HBD:=Ph (HB.o.then (PQ.below HB.o.pq.pq (lB _ _).drew));have HOD:=Ph (HO.o.stay itX qW (Stays.below (lB _ _).drew));have hbl:b+1≤w4.drew.heap.size:=HBD.o.bx.lt;have hSn:0<1000000000:=Yd;obtain⟨c0,c1,c2,c3,c4,c5⟩:=zH HBD.o.bx;have HCL:Ud (Calls prog 54 #[uQ p 0] w4.drew fun e w'=>∃ S,e=.returned (.agg (uE i S))∧TX (fun k=>w4.drew.heap.size≤k) w' i S∧PQ B w4.drew p E T q2 w'):=Ph (zC3 f q1 i q2 H2.o w4.drew (Ph HBD.o.pq.pq))
   go_region_law (first
    | (refine qG rfl (.tmp 20) (.tmp 23) rfl _ _ _ rfl rfl (HRUN.o _) ?_
       clear c0 c1 c2 c3 c4 c5 d0 d1 d2 d3 d4 d5;obtain⟨c0,c1,c2,c3,c4,c5⟩:=zH HB7.o.bx;obtain⟨f0,f1,f2,f3,f4,f5,_⟩:=zZ HB7.o.bx)
    | (go_simp
       go_at_call 54
       with_reducible refine HCL.o.mono ?_
       rintro e w5 ⟨S1,rfl,ht,hp⟩;obtain⟨A2,k2,w6,hrun,hown,hfr,hown0⟩:=OwnX.push (B:=b+1) (S:=⟨none,0,0⟩) HOD.o hbl (HBD.o.pq.pq.stays hp.fr) hp.fr.size ht hSn;rw [xL]at hrun hown0 hfr;have HB5:=Ph (HBD.o.then hp);have HB6:=Ph (HB5.o.then (PQ.below HB5.o.pq.pq (zB (o:=.cells (uE i S1) 31))));have HB7:=Ph (HB6.o.data h.o.b hfr hown0);have HRUN:=Ph hrun;have HOW:=Ph hown;clear hrun hown hfr hown0 ht hp HCL c0 c1 c2 c3 c4 c5;obtain⟨c0,c1,c2,c3,c4,c5⟩:=zH HB5.o.bx;obtain⟨d0,d1,d2,d3,d4,d5⟩:=zH HB6.o.bx))
   all_goals
    obtain⟨hb1,hb2⟩:=HB7.o.put h.o.b 2 (.slice A2 (0+1) k2);have HBn:Ud (Bx B p E T w r b #[uB 2,uR nm,.slice A2 (0+1) k2,uI 0,uN,uN] q2 (w6.setCell ⟨b,2,none⟩ (.slice A2 (0+1) k2))):=Ph hb1;have HOn:=Ph (HOW.o.stay itX qW (Stays.fr hb2 (fun k _ hk e=>Yo)));clear hb1 hb2;go_wp2
    go_meet
    exact⟨A2,k2,HBn,HOn⟩
  case rest =>
  obtain⟨A2,k2,HBn,HOn⟩:=hcut;clear HB HO;have HB:=HBn;have HO:=HOn;clear HBn HOn;go_wp2_with fail
  refine(zI7 q2 [93] q3 H3.o _ (Ph HB.o.pq.pq)).mono ?_;rintro e w6 ⟨⟨v6,rfl⟩,hp⟩;have HQx:=Ph (HO.o.stay itX qW (HB.o.pq.pq.stays hp.fr));clear HO;have HO:=HQx;clear HQx;have HQx:=Ph (HB.o.then hp);clear HB hp;have HB:=HQx;clear HQx;go_wp2_with fail
  refine(zM9 q3 [61] w6 (Ph HB.o.pq.pq)).mono ?_;rintro e w7 ⟨⟨v7,rfl⟩,hp⟩;have HQx:=Ph (HO.o.stay itX qW (HB.o.pq.pq.stays hp.fr));clear HO;have HO:=HQx;clear HQx;have HQx:=Ph (HB.o.then hp);clear HB hp;have HB:=HQx;clear HQx;obtain⟨A1,hA1⟩:∃ A,A2=A:=⟨_,rfl⟩;obtain⟨k1,hk1⟩:∃ k,k2=k:=⟨_,rfl⟩;rw [hA1,hk1]at HB HO;clear hA1 hk1;go_upto_region 9 with fail
  go_cut [] (fun wx=>∃ (A2:Option Addr) (k2:Nat),Ud (Bx B p E T w r b #[uB 2,uR nm,.slice A2 (0+1+1) k2,uI 0,uN,uN] q' wx)∧Ud (OwnX (b+1) wx ([i]++[x]) ⟨A2,(0+1)+1,k2⟩))
  case first =>
   have HBD:=Ph (HB.o.then (PQ.below HB.o.pq.pq (lB _ _).drew));have HOD:=Ph (HO.o.stay itX qW (Stays.below (lB _ _).drew));have hbl:b+1≤w7.drew.heap.size:=HBD.o.bx.lt;have hSn:(0+1)<1000000000:=Yd;obtain⟨c0,c1,c2,c3,c4,c5⟩:=zH HBD.o.bx;have HCL:Ud (Calls prog 54 #[uQ p 0] w7.drew fun e w'=>∃ S,e=.returned (.agg (uE x S))∧TX (fun k=>w7.drew.heap.size≤k) w' x S∧PQ B w7.drew p E T q' w'):=Ph (zC3 f (q3.on (zI E q3.s [61])) x q' H4.o w7.drew (Ph HBD.o.pq.pq))
   go_region_law (first
    | (refine qG rfl (.tmp 31) (.tmp 34) rfl _ _ _ rfl rfl (HRUN.o _) ?_
       clear c0 c1 c2 c3 c4 c5 d0 d1 d2 d3 d4 d5;obtain⟨c0,c1,c2,c3,c4,c5⟩:=zH HB7.o.bx;obtain⟨f0,f1,f2,f3,f4,f5,_⟩:=zZ HB7.o.bx)
    | (go_simp
       go_at_call 54
       with_reducible refine HCL.o.mono ?_
       rintro e w5 ⟨S1,rfl,ht,hp⟩;obtain⟨A2,k2,w6,hrun,hown,hfr,hown0⟩:=OwnX.push (B:=b+1) (S:=⟨A1,0+1,k1⟩) HOD.o hbl (HBD.o.pq.pq.stays hp.fr) hp.fr.size ht hSn;rw [xL]at hrun hown0 hfr;have HB5:=Ph (HBD.o.then hp);have HB6:=Ph (HB5.o.then (PQ.below HB5.o.pq.pq (zB (o:=.cells (uE x S1) 31))));have HB7:=Ph (HB6.o.data h.o.b hfr hown0);have HRUN:=Ph hrun;have HOW:=Ph hown;clear hrun hown hfr hown0 ht hp HCL c0 c1 c2 c3 c4 c5;obtain⟨c0,c1,c2,c3,c4,c5⟩:=zH HB5.o.bx;obtain⟨d0,d1,d2,d3,d4,d5⟩:=zH HB6.o.bx))
   all_goals
    obtain⟨hb1,hb2⟩:=HB7.o.put h.o.b 2 (.slice A2 ((0+1)+1) k2);have HBn:Ud (Bx B p E T w r b #[uB 2,uR nm,.slice A2 (0+1+1) k2,uI 0,uN,uN] q' (w6.setCell ⟨b,2,none⟩ (.slice A2 ((0+1)+1) k2))):=Ph hb1;have HOn:=Ph (HOW.o.stay itX qW (Stays.fr hb2 (fun k _ hk e=>Yo)));clear hb1 hb2;go_wp2
    go_meet
    exact⟨A2,k2,HBn,HOn⟩
  case rest =>
  obtain⟨A2,k2,HBn,HOn⟩:=hcut;clear HB HO;have HB:=HBn;have HO:=HOn;clear HBn HOn;obtain⟨x0,x1,x2,x3,x4,x5⟩:=zH HB.o.bx;have HRz:=Ph HB.o.rs;have hrp:=HB.o.rp;have hwr:=HB.o.wr;have hbr:=HB.o.br;have hrb:r<b:=by have h1:=HB.o.wr;have h2:=HB.o.wb;exact HRB.o
  have HPz:=Ph HB.o.pq;have HRW:=Ph (HO.o.row itX);obtain⟨y0,y1,y2,y3,y4,y5⟩:=zH HRz.o;obtain⟨f0,f1,f2,f3,f4,f5,_⟩:=zZ HRz.o;have HF:=Ph (fr6 wc r (uB 2) (uR nm) (.slice A2 ((0+1)+1) k2) (uI 0) (uN) (uN));have HK:=Ph (put6 (v0:=uB 2) (v1:=uR nm) (v2:=.slice A2 ((0+1)+1) k2) (v3:=uI 0) (v4:=uN) (v5:=uN) HRz.o);go_wp2_with fail
  generalize (World.setCell _ _ _)=WF at HF HK ⊢;obtain⟨r0,r1,r2,r3,r4,r5⟩:=zH HK.o;refine lK (v:=stV (.mk 2 nm [i,x] 0 [] []) (⟨A2,(0+1)+1,k2⟩,zK,zK)) (by simp [results,results131,go_sem,r0,r1,r2,r3,r4,r5,stV,zC6,Sx.kind,Sx.name,Sx.bound,str]) rfl ?_;refine⟨(⟨A2,(0+1)+1,k2⟩,zK,zK),rfl,⟨⟨by show(2:Nat)≤255;decide,by show(-9223372036854775808:Int)≤0;decide,by show(0:Int)≤9223372036854775807;decide,HL.o⟩,(HRW.o.stay itX qW (Stays.fr HF.o (fun k _ hk e=>Yo))).mono itX fun k _ hk=>Yo,StsP.nil,StsP.nil⟩,?_⟩;exact HPz.o.box HRz.o Yd Yd hrp (lE h.o.b hwr) hwr HF.o
 ·rw [lG ht]at hbt;have H4:=Ph h4;clear h4 ht;go_wp2_with fail
  refine(zM9 qn [61] W3 (Ph HB.o.pq.pq)).mono ?_;rintro e w7 ⟨⟨v7,rfl⟩,hp⟩;have HQx:=Ph (HO.o.stay itX qW (HB.o.pq.pq.stays hp.fr));clear HO;have HO:=HQx;clear HQx;have HQx:=Ph (HB.o.then hp);clear HB hp;have HB:=HQx;clear HQx;go_upto_region 9 with fail
  go_cut [] (fun wx=>∃ (A2:Option Addr) (k2:Nat),Ud (Bx B p E T w r b #[uB 1,uR nm,.slice A2 (0+1) k2,uI 0,uN,uN] q' wx)∧Ud (OwnX (b+1) wx (([]:List Ex)++[x]) ⟨A2,0+1,k2⟩))
  case first =>
   have HBD:=Ph (HB.o.then (PQ.below HB.o.pq.pq (lB _ _).drew));have HOD:=Ph (HO.o.stay itX qW (Stays.below (lB _ _).drew));have hbl:b+1≤w7.drew.heap.size:=HBD.o.bx.lt;have hSn:0<1000000000:=Yd;obtain⟨c0,c1,c2,c3,c4,c5⟩:=zH HBD.o.bx;have HCL:Ud (Calls prog 54 #[uQ p 0] w7.drew fun e w'=>∃ S,e=.returned (.agg (uE x S))∧TX (fun k=>w7.drew.heap.size≤k) w' x S∧PQ B w7.drew p E T q' w'):=Ph (zC3 f (qn.on (zI E qn.s [61])) x q' H4.o w7.drew (Ph HBD.o.pq.pq))
   go_region_law (first
    | (refine qG rfl (.tmp 31) (.tmp 34) rfl _ _ _ rfl rfl (HRUN.o _) ?_
       clear c0 c1 c2 c3 c4 c5 d0 d1 d2 d3 d4 d5;obtain⟨c0,c1,c2,c3,c4,c5⟩:=zH HB7.o.bx;obtain⟨f0,f1,f2,f3,f4,f5,_⟩:=zZ HB7.o.bx)
    | (go_simp
       go_at_call 54
       with_reducible refine HCL.o.mono ?_
       rintro e w5 ⟨S1,rfl,ht,hp⟩;obtain⟨A2,k2,w6,hrun,hown,hfr,hown0⟩:=OwnX.push (B:=b+1) (S:=⟨none,0,0⟩) HOD.o hbl (HBD.o.pq.pq.stays hp.fr) hp.fr.size ht hSn;rw [xL]at hrun hown0 hfr;have HB5:=Ph (HBD.o.then hp);have HB6:=Ph (HB5.o.then (PQ.below HB5.o.pq.pq (zB (o:=.cells (uE x S1) 31))));have HB7:=Ph (HB6.o.data h.o.b hfr hown0);have HRUN:=Ph hrun;have HOW:=Ph hown;clear hrun hown hfr hown0 ht hp HCL c0 c1 c2 c3 c4 c5;obtain⟨c0,c1,c2,c3,c4,c5⟩:=zH HB5.o.bx;obtain⟨d0,d1,d2,d3,d4,d5⟩:=zH HB6.o.bx))
   all_goals
    obtain⟨hb1,hb2⟩:=HB7.o.put h.o.b 2 (.slice A2 (0+1) k2);have HBn:Ud (Bx B p E T w r b #[uB 1,uR nm,.slice A2 (0+1) k2,uI 0,uN,uN] q' (w6.setCell ⟨b,2,none⟩ (.slice A2 (0+1) k2))):=Ph hb1;have HOn:=Ph (HOW.o.stay itX qW (Stays.fr hb2 (fun k _ hk e=>Yo)));clear hb1 hb2;go_wp2
    go_meet
    exact⟨A2,k2,HBn,HOn⟩
  case rest =>
  obtain⟨A2,k2,HBn,HOn⟩:=hcut;clear HB HO;have HB:=HBn;have HO:=HOn;clear HBn HOn;obtain⟨x0,x1,x2,x3,x4,x5⟩:=zH HB.o.bx;have HRz:=Ph HB.o.rs;have hrp:=HB.o.rp;have hwr:=HB.o.wr;have hbr:=HB.o.br;have hrb:r<b:=by have h1:=HB.o.wr;have h2:=HB.o.wb;exact HRB.o
  have HPz:=Ph HB.o.pq;have HRW:=Ph (HO.o.row itX);obtain⟨y0,y1,y2,y3,y4,y5⟩:=zH HRz.o;obtain⟨f0,f1,f2,f3,f4,f5,_⟩:=zZ HRz.o;have HF:=Ph (fr6 wc r (uB 1) (uR nm) (.slice A2 (0+1) k2) (uI 0) (uN) (uN));have HK:=Ph (put6 (v0:=uB 1) (v1:=uR nm) (v2:=.slice A2 (0+1) k2) (v3:=uI 0) (v4:=uN) (v5:=uN) HRz.o);go_wp2_with fail
  generalize (World.setCell _ _ _)=WF at HF HK ⊢;obtain⟨r0,r1,r2,r3,r4,r5⟩:=zH HK.o;refine lK (v:=stV (.mk 1 nm [x] 0 [] []) (⟨A2,0+1,k2⟩,zK,zK)) (by simp [results,results131,go_sem,r0,r1,r2,r3,r4,r5,stV,zC6,Sx.kind,Sx.name,Sx.bound,str]) rfl ?_;refine⟨(⟨A2,0+1,k2⟩,zK,zK),rfl,⟨⟨by show(1:Nat)≤255;decide,by show(-9223372036854775808:Int)≤0;decide,by show(0:Int)≤9223372036854775807;decide,HL.o⟩,(HRW.o.stay itX qW (Stays.fr HF.o (fun k _ hk e=>Yo))).mono itX fun k _ hk=>Yo,StsP.nil,StsP.nil⟩,?_⟩;exact HPz.o.box HRz.o Yd Yd hrp (lE h.o.b hwr) hwr HF.o
end
end
section
open Go.RowKit Go.PlainAid
theorem jD4 (w:World) (g:Nat) (v0 v1 v2:Value):Fr (fun k=>k=g) w (((w.setCell ⟨g,0,none⟩ v0).setCell ⟨g,1,none⟩ v1).setCell ⟨g,2,none⟩ v2):=((((Fr.refl (fun k=>k=g) w).setCell (p:=⟨g,0,none⟩) (.inl rfl) v0).setCell (p:=⟨g,1,none⟩) (.inl rfl) v1).setCell (p:=⟨g,2,none⟩) (.inl rfl) v2)
theorem qL7 {w:World} {g:Nat} {t:TypeId} {u0 u1 u2 v0 v1 v2:Value} (h:Bk w g t #[u0,u1,u2]):Bk (((w.setCell ⟨g,0,none⟩ v0).setCell ⟨g,1,none⟩ v1).setCell ⟨g,2,none⟩ v2) g t #[v0,v1,v2]:=by have h1:=((h.put 0 v0).put 1 v1).put 2 v2;simpa using h1
section
variable {B:Nat} {p:Nat} {E:Env} {T:TV}
theorem Pq.atrun {w:World} {q:QSt} (h:Pq B w p E T q) (a:Nat) (hl:q.l.length≤800000000):∃ (Q:SV) (A:Option Addr) (c:Nat) (w':World),Ps w p E T Q q.s ∧
 (∀ ty,(Builtin.append_ #[45,45] ty #[.slice Q.A Q.n Q.c,.slice (some ⟨w.heap.size,0,none⟩) 1 1]).run prog (w.alloc (.cells #[uI a] 3))=.ok (.slice A (Q.n+1) c) w') ∧
 Ps w' p E T Q q.s∧Pq B (w'.setCell ⟨p,4,none⟩ (.slice A (Q.n+1) c)) p E T ⟨q.s,q.l++[a]⟩∧FrQ B p w (w'.setCell ⟨p,4,none⟩ (.slice A (Q.n+1) c)) ∧
 (∀ r t cs,Bk w r t cs→t≠3→r≠p→Bk (w'.setCell ⟨p,4,none⟩ (.slice A (Q.n+1) c)) r t cs)∧(∀ r t cs,Bk w r t cs→t≠3→Bk w' r t cs):=by
 obtain⟨Q,h1,h2,h3⟩:=h.ex;have hb:Ue w (w.alloc (.cells #[uI a] 3)):=zB;have h1a:=h1.below hb;have h2a:AtO B (w.alloc (.cells #[uI a] 3)) Q q.l:=jP h2 (Fr.of_below (F:=fun _=>False) hb) (fun _ _ h=>h);obtain⟨A',c',w',hrun,ho,hg,hat⟩:=zG6 jN5 0 B _ Q.n _ h2a (some ⟨w.heap.size,0,none⟩) 1 1 [uI a] (Rd.new w #[uI a] 3) rfl (fun u hu=>by simp at hu;subst hu;rfl) Yo (lE h.b hb.size);have hf4:Fr (fun k=>(uL Q).ownBlock=some k) (w.alloc (.cells #[uI a] 3)) w':=(Fr.refl _ _).grown hg (fun k hk=>.inl hk);have hps:=h1a.grown h2a h.g0 h.g1 hg;obtain⟨hs1,hs2⟩:=hps.setAt ⟨A',Q.n+1,c'⟩;have ho2:AtO B w' ⟨A',Q.n+1,c'⟩ (q.l++[a]):=by show World.ownsRow _ _ _ _ _ _ _;rw [zR9];exact ho
 have hfq:FrQ B p w (w'.setCell ⟨p,4,none⟩ (.slice A' (Q.n+1) c')):=by
  have e1:FrQ B p w w':=by refine⟨hf4.os.trans hb.os,hf4.tape.trans hb.tape,hf4.output.trans hb.output,lE hb.size hf4.size,fun i hi hf=>?_⟩;refine(hf4.block i (lX hi hb.size) fun e=>hf (.inr ?_)).trans (hb.block i hi);obtain⟨h9,cs,hc⟩:=qF h2 i e;exact⟨h9,cs,_,hc⟩
  exact e1.trans (FrQ.of_p hs2)
 refine⟨Q,A',c',w',h1,fun ty=>hrun,hps,⟨⟨⟨A',Q.n+1,c'⟩,hs1,AtO.fr (Q:=⟨A',Q.n+1,c'⟩) ho2 hps hs2,by simp [h3]⟩,h.g0,h.g1,lE h.b hfq.size⟩,hfq,fun r t cs hb ht hr=>hfq.bk hb ht hr,fun r t cs hbk ht=>(zD hbk hb).fr hf4 (fun e=>yR h2a (zD hbk hb) (cX ht) e.symm)⟩
def deV (x:Dx):Value:=.agg (yX x ()).toArray
theorem jU1 (q:QSt) (w:World) (h:Ud (Pq B w p E T q)) (hl:q.l.length≤800000000):Calls prog 114 #[uQ p 0] w fun e w'=>e=.returned (deV (qV E q).1)∧jO4 (qV E q).1∧PQ B w p E T (qV E q).2 w':=by
 have HL:=Ph hl;have hNL:=h.o.name_len;have hle:=zG7 E (zI E (zL E q.s) [58]);obtain⟨⟨nb,sn⟩,hn⟩:∃ n,jB E (zI E (zL E q.s) [58])=n:=⟨_,rfl⟩;obtain⟨nm,hnm⟩:∃ nm,jA E q.s=nm:=⟨_,rfl⟩;have hnx:∀ w1,Ud (Pq B w1 p E T q)→_:=fun w1 h1=>zI6 (p:=p) q w1 h1;obtain⟨⟨tk,tt,ta,tf⟩,ht⟩:∃ t,zC E q.s=t:=⟨_,rfl⟩;have hR:qV E q=(⟨nm,(nb:Int),0⟩,⟨sn,q.l++[ta]⟩):=by unfold qV;simp only [hn,hnm,ht]
 rw [hR];rw [ht]at hnx;dsimp only [nxV,kW]at hnx;rw [hnm]at hNL;rw [hn]at hle;have HNX:=Ph hnx;have HN:=Ph hn;have HNM:=Ph hnm;have HLE:=Ph hle;have HNL:=Ph hNL;have HB0:=Ph h.o.b;have HP:=Ph (PQ.below h.o (lB _ _));clear hl hNL hle hn hnm hnx ht hR;go_enter func114,ntmps114
 have hl_p:p<w.heap.size:=HP.o.pq.lt;have HQx:=Ph (HP.o.then (zB (o:=(.cells #[uT,uI 0,uI 0] 87))));clear HP;have HP:=HQx;clear HQx;have HR:=Ph (Bk.new w 87 #[uT,uI 0,uI 0]);go_upto_region 1 with fail
 generalize (w.alloc _)=W1 at *;obtain⟨r,hblk⟩:∃ b,w.heap.size=b:=⟨_,rfl⟩;rw [hblk]at HR ⊢;have rp:r≠p:=Yo;have HWR:Ud (w.heap.size≤r):=Ph (by show w.heap.size≤r;omega);clear hblk hl_p;have hwr:w.heap.size≤r:=by have:=HR.o.lt;exact HWR.o
 go_wp2_with fail
 refine(HNX.o W1 (Ph HP.o.pq)).mono ?_;rintro e w2 ⟨rfl,hb⟩;have HQx:=Ph (zD HR.o hb);clear HR;have HR:=HQx;clear HQx;have HQx:=Ph (HP.o.then hb);clear HP;have HP:=HQx;clear HQx;clear hb;have hl_p:p<w2.heap.size:=HP.o.pq.lt;have hl_r:r<w2.heap.size:=HR.o.lt;have HQx:=Ph (zD HR.o (zB (o:=(.cells #[uB tk,uI ta,uI tf] 44))));clear HR;have HR:=HQx;clear HQx;have HQx:=Ph (HP.o.then (zB (o:=(.cells #[uB tk,uI ta,uI tf] 44))));clear HP;have HP:=HQx;clear HQx;have HT:=Ph (Bk.new w2 44 #[uB tk,uI ta,uI tf]);go_upto_region 2 with fail
 generalize (w2.alloc _)=W2 at *;obtain⟨bt,hblk⟩:∃ b,w2.heap.size=b:=⟨_,rfl⟩;rw [hblk]at HT ⊢;have btp:bt≠p:=Yo;have btr:bt≠r:=Yo;clear hblk hl_p hl_r;go_upto_region 2 with fail
 go_cut [] (fun wx=>Ud (PQ B w p E T ⟨(q).s,(q).l++[ta]⟩ wx)∧Ud (Bk wx r 87 #[uT,uI 0,uI 0])∧Ud (Bk wx bt 44 #[uB tk,uI ta,uI tf]))
 case first =>
  obtain⟨Q,A2,k2,w6,hps,hrun,hps2,hpq,hfr,hbk,hbk6⟩:=(HP.o.pq.below (lB _ _).drew).atrun ta HL.o;have hpa:=hps.below (zB (o:=(.cells #[uI ta] 3)));have hb0:Bk W2 p 152 (zZ6 E T Q (q).s):=hps.bk;have e4:(W2.alloc (.cells #[uI ta] 3)).cell? ⟨p,4,none⟩=some (uL Q):=(zD hb0 (zB (o:=(.cells #[uI ta] 3)))).cell 4;obtain⟨g0,g1,g2,g3,g4,g5,g6⟩:=hps.cells;obtain⟨a0,a1,a2,a3,a4,a5,a6⟩:=hpa.cells;obtain⟨t0,t1,t2⟩:=zJ (zD HT.o (lB _ _).drew);obtain⟨u0,u1,u2⟩:=zJ (zD (zD HT.o (lB _ _).drew) (zB (o:=(.cells #[uI ta] 3))));obtain⟨v0,v1,v2⟩:=zJ (zD HT.o (zB (o:=(.cells #[uI ta] 3))));have HRUN:=Ph hrun;have HPS2:=Ph hps2;have HPQ:=Ph hpq;have HFR:=Ph hfr;have HBK:=Ph hbk;clear hps hpa hb0 hrun hps2 hpq hfr hbk hbk6
  go_region_law (first
   | (refine qG rfl (.tmp 15) (.tmp 18) rfl _ _ _ rfl rfl (HRUN.o _) ?_
      clear g0 g1 g2 g3 g4 g5 g6 a0 a1 a2 a3 a4 a5 a6 t0 t1 t2 u0 u1 u2 e4 v0 v1 v2;obtain⟨g0,g1,g2,g3,g4,g5,g6⟩:=HPS2.o.cells;have gz:=HPS2.o.frozens 4))
  all_goals
   go_wp2
   go_meet
   exact⟨Ph ⟨HPQ.o,(HP.o.fr.then (lB _ _).drew).trans HFR.o⟩,Ph (HBK.o _ _ _ (zD HR.o (lB _ _).drew) Yd rp),Ph (HBK.o _ _ _ (zD HT.o (lB _ _).drew) Yd btp)⟩
 case rest =>
 obtain⟨HPn,HRn,HTn⟩:=hcut;clear HP HR HT;have HP:=HPn;have HR:=HRn;have HT:=HTn;clear HPn HRn HTn;generalize wc=W3 at *;clear HT;go_wp2_with fail
 refine(jD1 _ W3 (Ph HP.o.pq)).mono ?_;rintro e w4 ⟨rfl,hp⟩;have HQx:=Ph (hp.bk HR.o Yd rp);clear HR;have HR:=HQx;clear HQx;have HQx:=Ph (HP.o.trans hp);clear HP;have HP:=HQx;clear HQx;clear hp;rw [show(⟨q.s,q.l++[ta]⟩:QSt).s=q.s from rfl,HNM.o];have hl_p:p<w4.heap.size:=HP.o.pq.lt;have hl_r:r<w4.heap.size:=HR.o.lt;have HQx:=Ph (zD HR.o (zB (o:=(.cells #[uR nm,uI 0,uI 0] 87))));clear HR;have HR:=HQx;clear HQx;have HQx:=Ph (HP.o.then (zB (o:=(.cells #[uR nm,uI 0,uI 0] 87))));clear HP;have HP:=HQx;clear HQx;have HD:=Ph (Bk.new w4 87 #[uR nm,uI 0,uI 0]);go_upto_region 4 with fail
 generalize (w4.alloc _)=W4 at *;obtain⟨b,hblk⟩:∃ b,w4.heap.size=b:=⟨_,rfl⟩;rw [hblk]at HD ⊢;have bp:b≠p:=Yo;have br:b≠r:=Yo;have HWB:Ud (w.heap.size≤b):=Ph (by show w.heap.size≤b;have:=HWR.o;omega);clear hblk hl_p hl_r;go_wp2_with fail
 refine(zM9 _ [58] W4 (Ph HP.o.pq)).mono ?_;rintro e w5 ⟨⟨v5,rfl⟩,hp⟩;have HQx:=Ph (hp.bk HR.o Yd rp);clear HR;have HR:=HQx;clear HQx;have HQx:=Ph (hp.bk HD.o Yd bp);clear HD;have HD:=HQx;clear HQx;have HQx:=Ph (HP.o.trans hp);clear HP;have HP:=HQx;clear HQx;clear hp;go_wp2_with fail
 refine(jT8 _ w5 (Ph HP.o.pq)).mono ?_;rintro e w6 ⟨rfl,hp⟩;have HQx:=Ph (hp.bk HR.o Yd rp);clear HR;have HR:=HQx;clear HQx;have HQx:=Ph (hp.bk HD.o Yd bp);clear HD;have HD:=HQx;clear HQx;have HQx:=Ph (HP.o.trans hp);clear HP;have HP:=HQx;clear HQx;clear hp;rw [show(((⟨q.s,q.l++[ta]⟩:QSt).on (zL E (⟨q.s,q.l++[ta]⟩:QSt).s)).on (zI E ((⟨q.s,q.l++[ta]⟩:QSt).on (zL E (⟨q.s,q.l++[ta]⟩:QSt).s)).s [58])).s=zI E (zL E q.s) [58] from rfl,HN.o]at HP ⊢;have HPn:Ud (PQ B w p E T ⟨sn,q.l++[ta]⟩ w6):=HP;clear HP;have HP:=HPn;clear HPn;(try dsimp only at HP ⊢);obtain⟨y0,y1,y2⟩:=zJ HD.o;obtain⟨f0,f1,f2,_,_,_,_⟩:=zZ HD.o;have hf:Fr (fun k=>k=b) w6 (w6.setCell ⟨b,1,none⟩ (uI nb)):=(Fr.refl (fun k=>k=b) w6).setCell (p:=⟨b,1,none⟩) (.inl rfl) _;have hwb:w.heap.size≤b:=HWB.o;have HDn:Ud (Bk (w6.setCell ⟨b,1,none⟩ (uI nb)) b 87 #[uR nm,uI nb,uI 0]):=Ph (by have:=HD.o.put 1 (uI nb);simpa using this);have HPn:=Ph (HP.o.box HD.o Yd Yd (cX bp) (lE HB0.o hwb) hwb hf);have HRn:=Ph (HR.o.fr hf (cX br));clear hf;go_upto_region 6 with fail
 generalize (World.setCell _ _ _)=W7 at *;clear HP HR HD y0 y1 y2 f0 f1 f2;have HP:=HPn;have HR:=HRn;have HD:=HDn;clear HPn HRn HDn;obtain⟨x0,x1,x2⟩:=zJ HD.o;obtain⟨y0,y1,y2⟩:=zJ HR.o;obtain⟨f0,f1,f2,_,_,_,_⟩:=zZ HR.o;have HF:=Ph (jD4 W7 r (uR nm) (uI nb) (uI 0));have HK:=Ph (qL7 (v0:=uR nm) (v1:=uI nb) (v2:=uI 0) HR.o);go_wp2_with fail
 generalize (World.setCell _ _ _)=WF at HF HK ⊢;obtain⟨r0,r1,r2⟩:=zJ HK.o;refine lK (v:=deV ⟨nm,(nb:Int),0⟩) (by simp [results,results114,go_sem,r0,r1,r2,deV,yX]) rfl ?_;exact⟨rfl,⟨HNL.o,by show(-9223372036854775808:Int)≤(nb:Int);omega,by show(nb:Int)≤9223372036854775807;have:=HLE.o;omega,by show(-9223372036854775808:Int)≤0;decide,by show(0:Int)≤9223372036854775807;decide⟩,HP.o.box HR.o Yd Yd (cX rp) (lE HB0.o HWR.o) HWR.o HF.o⟩
end
end
section
open Go.RowKit Go.PlainAid
theorem jD5:El prog 25 87 3:=El.mk' (z:=.agg #[uT,uI 0,uI 0]) (bytes:=32) underlying25 Yk rfl Yo Yo
theorem zI9 (x:Dx) (u:Unit):∀ v∈yX x u,v.oneCell'=true:=by intro v hv;simp only [yX,lU,lT,or_false]at hv;rcases hv with rfl | rfl | rfl <;> rfl
theorem OwnD.fr {B:Nat} {w w':World} {l:List Dx} {S:SV} {F:Nat→Prop} (h:OwnD B w l S) (hf:Fr F w w') (hF:∀ k,(Value.slice S.A S.n S.c).ownBlock=some k→¬F k):OwnD B w' l S:=by obtain⟨vs,h1,h2,h3,h4⟩:=h;exact⟨vs,h1,h2,jP h3 hf hF,fun i y v hy hv=>h4 i y v hy hv⟩
section
variable {B:Nat} {p:Nat} {E:Env} {T:TV}
theorem Pq.tokbox {w w':World} {q:QSt} {r:Nat} {cs:Array Value} (h:Pq B w p E T q) (hr:Bk w r 44 cs) (hrp:p≠r) (hB:B≤r) (hA:∀ b off,T.A=some ⟨b,off,none⟩→b<r) (hf:Fr (fun k=>k=r) w w'):Pq B w' p E T q:=by
 obtain⟨Q,h1,h2,h3⟩:=h.ex;have:=h.g0;have:=h.g1;have hrd:RdT w' T.A 44 (E.toks.flatMap zQ1):=by
  refine⟨fun hx=>?_,fun b off he=>?_⟩
  ·obtain⟨b,off,cs,t0,fr,hA2,hb,hc⟩:=h1.rd.rd hx;have:=hA b off hA2;exact⟨b,off,cs,t0,fr,hA2,(hf.block b (zO hb) Yo).trans hb,hc⟩
  ·obtain⟨cs,fr,hb⟩:=h1.rd.ty b off he;have:=hA b off he;exact⟨cs,fr,(hf.block b (zO hb) Yo).trans hb⟩
 exact⟨⟨Q,⟨h1.bk.fr hf hrp,hrd,h1.ok,h1.n,h1.vr.fr hf Yo Yo,h1.g0,h1.g1,lE h1.base hf.size⟩,jP h2 hf (fun k hk e=>yR h2 hr Yd (by rw [hk,e])),h3⟩,h.g0,h.g1,lE h.b hf.size⟩
theorem qW5 {u:List UInt8} {arr:Bool} {f:Nat} {q:QSt} {out:List Dx} {r:List Dx×QSt} (h:jK E u arr (f+1) q out=some r):(isP E q.s u=false∧r=(out,q))∨(isP E q.s u=true∧q.l.length≤800000000 ∧
 ((arr=true∧∃ r1 u1,kN E ⟨zL E (zE q.s),q.l++[(zC E q.s).at']⟩ [91]=some r1∧jX E (r1.on (jB E r1.s).2) [93]=some u1∧jK E u arr f (u1.on (jB E (zI E u1.s [58])).2) (out++[⟨jA E (zE q.s),(jB E (zI E u1.s [58])).1,(jB E r1.s).1⟩])=some r) ∨
  (arr=false∧jK E u arr f ⟨(jB E (zI E (zL E (zE q.s)) [58])).2,q.l++[(zC E q.s).at']⟩ (out++[⟨jA E (zE q.s),(jB E (zI E (zL E (zE q.s)) [58])).1,0⟩])=some r))):=by
 rw [jK]at h;cases hi:isP E q.s u with
 | false=>rw [hi]at h;injection h with h;exact .inl ⟨rfl,h.symm⟩
 | true =>
   rw [hi,lM rfl]at h;cases hl:okL q with
   | false=>rw [hl]at h;cases h
   | true =>
     rw [hl,lM rfl]at h;refine .inr ⟨rfl,cM hl,?_⟩;cases arr with
     | false=>exact .inr ⟨rfl,h⟩
     | true =>
       rw [lM rfl]at h;cases h1:kN E ⟨zL E (zE q.s),q.l++[(zC E q.s).at']⟩ [91]with
       | none=>rw [h1]at h;cases h
       | some r1 =>
         rw [h1]at h;(try dsimp only at h);cases h2:jX E (r1.on (jB E r1.s).2) [93]with
         | none=>rw [h2]at h;cases h
         | some u1 =>
           rw [h2]at h;exact .inl ⟨rfl,r1,u1,rfl,h2,h⟩
theorem qQ1 (f:Nat) (u:List UInt8) (arr:Bool) (harr:decide (u=[97,114,114,97,121])=arr) (q:QSt) (l:List Dx) (q':QSt) (hx:jK E u arr f q []=some (l,q')) (w:World) (h:Ud (Pq B w p E T q)):Calls prog 86 #[uQ p 0,uR u] w fun e w'=>∃ S:SV,e=.returned (.slice S.A S.n S.c)∧zE2 (fun k=>w.heap.size≤k) w' l S∧PQ B w p E T q' w':=by
 have HX:=Ph hx;have HB0:=Ph h.o.b;have HTA0:Ud (∀ b off,T.A=some ⟨b,off,none⟩→b<w.heap.size):=Ph fun b off e=>by obtain⟨Q,hps,_⟩:=h.o.ex;obtain⟨cs,fr,hb⟩:=hps.rd.ty b off e;exact zO hb
 have hua:((str u).toList == [97,114,114,97,121])=arr:=(qA7 u _).trans harr;have hnx:=zI6 (p:=p) q w h;obtain⟨⟨tk,tt,ta,tf⟩,ht⟩:∃ t,zC E q.s=t:=⟨_,rfl⟩;have HTA:Ud ((zC E q.s).at'=ta):=Ph (by rw [ht]);rw [ht]at hnx;dsimp only [nxV,kW]at hnx;have HNX:=Ph hnx;have HP:=Ph (PQ.below h.o (lB _ _));clear hx harr hnx ht;go_enter func86,ntmps86
 go_wp2_with fail
 refine(HNX.o).mono ?_;rintro e w1 ⟨rfl,hb⟩;have HQx:=Ph (HP.o.then hb);clear HP;have HP:=HQx;clear HQx;clear hb;have hw1:w.heap.size≤w1.heap.size:=HP.o.fr.size;have hl_p:p<w1.heap.size:=HP.o.pq.lt;have HQx:=Ph (HP.o.then (zB (o:=(.cells #[uB tk,uI ta,uI tf] 44))));clear HP;have HP:=HQx;clear HQx;have HT:=Ph (Bk.new w1 44 #[uB tk,uI ta,uI tf]);go_wp2_with fail
 generalize (w1.alloc _)=W1 at *;obtain⟨bt,hblk⟩:∃ b,w1.heap.size=b:=⟨_,rfl⟩;rw [hblk]at HT ⊢;have btp:bt≠p:=Yo;have HWT:Ud (w.heap.size≤bt):=Ph (by show w.heap.size≤bt;omega);clear hw1 hblk hl_p;clear HNX btp;go_loopg [5,6] f (fun g v5 v6 wr=>∃ (out:List Dx) (S:SV) (qc:QSt) (bt tk ta tf:Nat),v5=uL S∧v6=uQ bt 0∧Ud (jK E u arr g qc out=some (l,q'))∧Ud (OwnD w.heap.size wr out S)∧Ud (PQ B w p E T qc wr)∧Ud (Bk wr bt 44 #[uB tk,uI ta,uI tf])∧Ud ((zC E qc.s).at'=ta)∧Ud (w.heap.size≤bt)∧Ud (out.length≤qc.s.n))
 case atStart=>exact⟨[],⟨none,0,0⟩,q,bt,tk,ta,tf,rfl,rfl,HX,Ph OwnG.nil,HP,HT,HTA,HWT,Ph (lV _)⟩
 case round =>
  obtain⟨out,S,qc,bt,tk,ta,tf,rfl,rfl,HXc,HO,HPc,HTc,HTAc,HWTc,HLN⟩:=hrel;clear HX HP HT HTA HWT;have HP:=HPc;have HT:=HTc;have HTA:=HTAc;have HWT:=HWTc;clear HPc HTc HTAc HWTc;cases gk with
  | zero=>exact absurd HXc.o (by unfold jK;intro h;cases h)
  | succ gk =>
  have hds:=qW5 HXc.o;clear HXc;have btp:bt≠p:=by obtain⟨_,hb⟩:=HP.o.pq.bk;exact HT.o.ne hb Yd
  go_wp2_with fail
  refine(isQ qc u wr (Ph HP.o.pq)).mono ?_;rintro e w2 ⟨rfl,hp⟩;have HQx:=Ph (hp.bk HT.o Yd btp);clear HT;have HT:=HQx;clear HQx;have HQx:=Ph (HO.o.stay itD qC (HP.o.pq.stays hp.fr));clear HO;have HO:=HQx;clear HQx;have HQx:=Ph (HP.o.trans hp);clear HP;have HP:=HQx;clear HQx;clear hp;rcases hds with⟨hi,hr⟩ | ⟨hi,hl,hd⟩
  ·have hq:qc.on (isS E qc.s u)=qc:=by unfold isS;rw [hi];rfl
   rw [hq]at HP;rw [hi];injection hr with hr1 hr2;subst hr1 hr2;clear hq hi;go_wp2_with fail
   go_ret;exact⟨S,rfl,HO.o.row itD,HP.o⟩
  ·have hq:qc.on (isS E qc.s u)=⟨zE qc.s,qc.l⟩:=by unfold isS;rw [hi];rfl
   rw [hq]at HP;rw [hi];rw [HTA.o]at hd;have HL:Ud ((⟨zE qc.s,qc.l⟩:QSt).l.length≤800000000):=Ph hl;have hSn:S.n<1000000000:=by have h1:=HLN.o;have h2:=HO.o.len;obtain⟨Qc,hps,_⟩:=HP.o.pq.ex;have h3:(zE qc.s).n≤T.n:=hps.n;have h5:(zE qc.s).n=qc.s.n+1:=rfl;have h4:=hps.ok.few;omega
   have HSN:=Ph hSn;have hNL:=HP.o.pq.name_len;obtain⟨nm,hnm⟩:∃ nm,jA E (zE qc.s)=nm:=⟨_,rfl⟩;obtain⟨s1,hs1⟩:∃ s1,zL E (zE qc.s)=s1:=⟨_,rfl⟩;have hn1:qc.s.n+1≤s1.n:=by rw [←hs1];exact zN1 (E:=E) (zE qc.s)
   have HN1:=Ph hn1;rw [hnm,hs1]at hd;have hNL:nm.length≤1000000:=hnm▸hNL;have HNL:=Ph hNL;have HNM:=Ph hnm;have HS1:=Ph hs1;clear hq hi hl hSn hNL hnm hs1 hn1;go_upto_region 5 with fail
   go_cut [] (fun wx=>Ud (PQ B w p E T ⟨(⟨zE qc.s,qc.l⟩:QSt).s,(⟨zE qc.s,qc.l⟩:QSt).l++[ta]⟩ wx)∧Ud (Bk wx bt 44 #[uB tk,uI ta,uI tf])∧Ud (OwnD w.heap.size wx out S))
   case first =>
    obtain⟨Q,A2,k2,w6,hps,hrun,hps2,hpq,hfr,hbk,hbk6⟩:=(HP.o.pq.below (lB _ _).drew).atrun ta HL.o;have hpa:=hps.below (zB (o:=(.cells #[uI ta] 3)));have hb0:Bk w2 p 152 (zZ6 E T Q (⟨zE qc.s,qc.l⟩:QSt).s):=hps.bk;have e4:(w2.alloc (.cells #[uI ta] 3)).cell? ⟨p,4,none⟩=some (uL Q):=(zD hb0 (zB (o:=(.cells #[uI ta] 3)))).cell 4;obtain⟨g0,g1,g2,g3,g4,g5,g6⟩:=hps.cells;obtain⟨a0,a1,a2,a3,a4,a5,a6⟩:=hpa.cells;obtain⟨t0,t1,t2⟩:=zJ (zD HT.o (lB _ _).drew);obtain⟨u0,u1,u2⟩:=zJ (zD (zD HT.o (lB _ _).drew) (zB (o:=(.cells #[uI ta] 3))));obtain⟨v0,v1,v2⟩:=zJ (zD HT.o (zB (o:=(.cells #[uI ta] 3))));have HRUN:=Ph hrun;have HPS2:=Ph hps2;have HPQ:=Ph hpq;have HFR:=Ph hfr;have HBK:=Ph hbk;clear hps hpa hb0 hrun hps2 hpq hfr hbk hbk6
    go_region_law (first
     | (refine qG rfl (.tmp 26) (.tmp 29) rfl _ _ _ rfl rfl (HRUN.o _) ?_
        clear g0 g1 g2 g3 g4 g5 g6 a0 a1 a2 a3 a4 a5 a6 t0 t1 t2 u0 u1 u2 e4 v0 v1 v2;obtain⟨g0,g1,g2,g3,g4,g5,g6⟩:=HPS2.o.cells;have gz:=HPS2.o.frozens 4))
    all_goals
     go_wp2
     go_meet
     exact⟨Ph ⟨HPQ.o,(HP.o.fr.then (lB _ _).drew).trans HFR.o⟩,Ph (HBK.o _ _ _ (zD HT.o (lB _ _).drew) Yd btp),Ph (HO.o.stay itD qC ((Stays.below (lB _ _).drew).trans ((HP.o.pq.below (lB _ _).drew).stays HFR.o)))⟩
   case rest =>
   obtain⟨HPn,HTn,HOn⟩:=hcut;clear HP HT HO;have HP:=HPn;have HT:=HTn;have HO:=HOn;clear HPn HTn HOn;generalize wc=w3 at *;(try dsimp only at HP);go_wp2_with fail
   refine(jD1 _ w3 (Ph HP.o.pq)).mono ?_;rintro e w4 ⟨rfl,hp⟩;have HQx:=Ph (hp.bk HT.o Yd btp);clear HT;have HT:=HQx;clear HQx;have HQx:=Ph (HO.o.stay itD qC (HP.o.pq.stays hp.fr));clear HO;have HO:=HQx;clear HQx;have HQx:=Ph (HP.o.trans hp);clear HP;have HP:=HQx;clear HQx;clear hp;rw [show(⟨zE qc.s,qc.l++[ta]⟩:QSt).s=zE qc.s from rfl,HNM.o];have HPn:Ud (PQ B w p E T ⟨s1,qc.l++[ta]⟩ w4):=Ph (by have:=HP.o;rw [show(⟨zE qc.s,qc.l++[ta]⟩:QSt).s=zE qc.s from rfl,HS1.o]at this;exact this);clear HP;have HP:=HPn;clear HPn;have hw4:w.heap.size≤w4.heap.size:=HP.o.fr.size;have HNB:Ud (∀ k,w4.heap.size≤k→(uL S).ownBlock≠some k):=Ph fun k hk=>HO.o.fresh hk;have hl_p:p<w4.heap.size:=HP.o.pq.lt;have hl_bt:bt<w4.heap.size:=HT.o.lt;have HQx:=Ph (zD HT.o (zB (o:=(.cells #[uR nm,uI 0,uI 0] 87))));clear HT;have HT:=HQx;clear HQx;have HQx:=Ph (HO.o.stay itD qC (Stays.below (zB (o:=(.cells #[uR nm,uI 0,uI 0] 87)))));clear HO;have HO:=HQx;clear HQx;have HQx:=Ph (HP.o.then (zB (o:=(.cells #[uR nm,uI 0,uI 0] 87))));clear HP;have HP:=HQx;clear HQx;have HD:=Ph (Bk.new w4 87 #[uR nm,uI 0,uI 0]);go_upto_region 7 with fail
   generalize (w4.alloc _)=W4 at *;obtain⟨b,hblk⟩:∃ b,w4.heap.size=b:=⟨_,rfl⟩;rw [hblk]at HD ⊢;have bp:b≠p:=Yo;have bbt:b≠bt:=Yo;have HWB:Ud (w.heap.size≤b):=Ph (by show w.heap.size≤b;omega);have HNBb:Ud ((uL S).ownBlock≠some b):=Ph (HNB.o b Yo);clear hw4 HNB hblk hl_p hl_bt;rcases hd with⟨harr,r1,u1,h1,h2,h3⟩ | ⟨harr,h3⟩
   ·have hle2:=zG7 E r1.s;obtain⟨⟨nz,sz⟩,hz⟩:∃ n,jB E r1.s=n:=⟨_,rfl⟩;rw [hz]at hle2 h2 h3;(try dsimp only at hle2 h2 h3);have hle:=zG7 E (zI E u1.s [58]);obtain⟨⟨nb,sn⟩,hn⟩:∃ n,jB E (zI E u1.s [58])=n:=⟨_,rfl⟩;rw [hn]at hle h3;(try dsimp only at hle h3);have hgn:s1.n≤sn.n:=by have g1:s1.n≤r1.s.n:=zN2 h1;have g2:=zP3 (E:=E) r1.s;rw [hz]at g2;have g3:sz.n≤u1.s.n:=zH3 h2;have g4:=xK (E:=E) u1.s [58];have g5:=zP3 (E:=E) (zI E u1.s [58]);rw [hn]at g5;(try dsimp only at g2 g5);omega
    have HGN:=Ph hgn;have H1:=Ph h1;have H2:=Ph h2;have HXN:=Ph h3;have HZ:=Ph hz;have HN:=Ph hn;have HLE:=Ph hle;have HLE2:=Ph hle2;rw [harr]at hua;clear h1 h2 h3 hz hn hle hle2 hgn;go_wp2_with fail
    refine(qF3 _ [91] r1 H1.o W4 (Ph HP.o.pq)).mono ?_;rintro e w5 ⟨⟨v5,rfl⟩,hp⟩;have HQx:=Ph (hp.bk HT.o Yd btp);clear HT;have HT:=HQx;clear HQx;have HQx:=Ph (hp.bk HD.o Yd bp);clear HD;have HD:=HQx;clear HQx;have HQx:=Ph (HO.o.stay itD qC (HP.o.pq.stays hp.fr));clear HO;have HO:=HQx;clear HQx;have HQx:=Ph (HP.o.trans hp);clear HP;have HP:=HQx;clear HQx;clear hp;go_wp2_with fail
    refine(jT8 r1 w5 (Ph HP.o.pq)).mono ?_;rintro e w6 ⟨rfl,hp⟩;have HQx:=Ph (hp.bk HT.o Yd btp);clear HT;have HT:=HQx;clear HQx;have HQx:=Ph (hp.bk HD.o Yd bp);clear HD;have HD:=HQx;clear HQx;have HQx:=Ph (HO.o.stay itD qC (HP.o.pq.stays hp.fr));clear HO;have HO:=HQx;clear HQx;have HQx:=Ph (HP.o.trans hp);clear HP;have HP:=HQx;clear HQx;clear hp;rw [HZ.o]at HP ⊢;(try dsimp only at HP ⊢);obtain⟨y0,y1,y2⟩:=zJ HD.o;obtain⟨f0,f1,f2,_,_,_,_⟩:=zZ HD.o;have hf:Fr (fun k=>k=b) w6 (w6.setCell ⟨b,2,none⟩ (uI nz)):=(Fr.refl (fun k=>k=b) w6).setCell (p:=⟨b,2,none⟩) (.inl rfl) _;have hwb:w.heap.size≤b:=HWB.o;have HDn:Ud (Bk (w6.setCell ⟨b,2,none⟩ (uI nz)) b 87 #[uR nm,uI 0,uI nz]):=Ph (by have:=HD.o.put 2 (uI nz);simpa using this);have HPn:=Ph (HP.o.box HD.o Yd Yd (cX bp) (lE HB0.o hwb) hwb hf);have HTn:=Ph (HT.o.fr hf (cX bbt));have HOn:=Ph (OwnD.fr HO.o hf (fun k hk e=>HNBb.o (e▸hk)));clear hf hwb;go_upto_region 10 with fail
    generalize (World.setCell _ _ _)=W6 at *;clear HP HT HD HO y0 y1 y2 f0 f1 f2;have HP:=HPn;have HT:=HTn;have HD:=HDn;have HO:=HOn;clear HPn HTn HDn HOn;go_wp2_with fail
    refine(zI7 _ [93] u1 H2.o W6 (Ph HP.o.pq)).mono ?_;rintro e w6b ⟨⟨v6,rfl⟩,hp⟩;have HQx:=Ph (hp.bk HT.o Yd btp);clear HT;have HT:=HQx;clear HQx;have HQx:=Ph (hp.bk HD.o Yd bp);clear HD;have HD:=HQx;clear HQx;have HQx:=Ph (HO.o.stay itD qC (HP.o.pq.stays hp.fr));clear HO;have HO:=HQx;clear HQx;have HQx:=Ph (HP.o.trans hp);clear HP;have HP:=HQx;clear HQx;clear hp;go_wp2_with fail
    refine(zM9 u1 [58] w6b (Ph HP.o.pq)).mono ?_;rintro e w7 ⟨⟨v7,rfl⟩,hp⟩;have HQx:=Ph (hp.bk HT.o Yd btp);clear HT;have HT:=HQx;clear HQx;have HQx:=Ph (hp.bk HD.o Yd bp);clear HD;have HD:=HQx;clear HQx;have HQx:=Ph (HO.o.stay itD qC (HP.o.pq.stays hp.fr));clear HO;have HO:=HQx;clear HQx;have HQx:=Ph (HP.o.trans hp);clear HP;have HP:=HQx;clear HQx;clear hp;go_wp2_with fail
    refine(jT8 _ w7 (Ph HP.o.pq)).mono ?_;rintro e w8 ⟨rfl,hp⟩;have HQx:=Ph (hp.bk HT.o Yd btp);clear HT;have HT:=HQx;clear HQx;have HQx:=Ph (hp.bk HD.o Yd bp);clear HD;have HD:=HQx;clear HQx;have HQx:=Ph (HO.o.stay itD qC (HP.o.pq.stays hp.fr));clear HO;have HO:=HQx;clear HQx;have HQx:=Ph (HP.o.trans hp);clear HP;have HP:=HQx;clear HQx;clear hp;have HPn:Ud (PQ B w p E T (u1.on sn) w8):=Ph (by have:=HP.o;rw [show((u1).on (zI E (u1).s [58])).s=zI E (u1).s [58] from rfl,HN.o]at this;exact this);clear HP;have HP:=HPn;clear HPn;rw [show((u1).on (zI E (u1).s [58])).s=zI E (u1).s [58] from rfl,HN.o];dsimp only;obtain⟨y0,y1,y2⟩:=zJ HD.o;obtain⟨f0,f1,f2,_,_,_,_⟩:=zZ HD.o;have hf:Fr (fun k=>k=b) w8 (w8.setCell ⟨b,1,none⟩ (uI nb)):=(Fr.refl (fun k=>k=b) w8).setCell (p:=⟨b,1,none⟩) (.inl rfl) _;have hwb:w.heap.size≤b:=HWB.o;have HDn:Ud (Bk (w8.setCell ⟨b,1,none⟩ (uI nb)) b 87 #[uR nm,uI nb,uI nz]):=Ph (by have:=HD.o.put 1 (uI nb);simpa using this);have HPn:=Ph (HP.o.box HD.o Yd Yd (cX bp) (lE HB0.o hwb) hwb hf);have HTn:=Ph (HT.o.fr hf (cX bbt));have HOn:=Ph (OwnD.fr HO.o hf (fun k hk e=>HNBb.o (e▸hk)));clear hf hwb;go_upto_region 13 with fail
    generalize (World.setCell _ _ _)=W8 at *;clear HP HT HD HO y0 y1 y2 f0 f1 f2;have HP:=HPn;have HT:=HTn;have HD:=HDn;have HO:=HOn;clear HPn HTn HDn HOn;obtain⟨y0,y1,y2⟩:=zJ HD.o;have hx:jO4 (⟨nm,(nb:Int),(nz:Int)⟩:Dx):=⟨HNL.o,by show(-9223372036854775808:Int)≤(nb:Int);omega,by show(nb:Int)≤9223372036854775807;have:=HLE.o;omega,by show(-9223372036854775808:Int)≤(nz:Int);omega,by show(nz:Int)≤9223372036854775807;have:=HLE2.o;omega⟩;have hb9:Below W8.heap.size W8 (W8.alloc (.cells #[uR nm,uI nb,uI nz] 87)):=zB;have hO9:=HO.o.stay itD qC (Stays.below hb9);obtain⟨A2,k2,w9,hrun,hown,hfr⟩:=OwnG.run itD jD5 qC zI9 (fun x v=>rfl) hO9 (⟨nm,(nb:Int),(nz:Int)⟩:Dx) () hx (some ⟨W8.heap.size,0,none⟩) 1 (Rd.new W8 #[uR nm,uI nb,uI nz] 87) HSN.o (lE HP.o.fr.size hb9.size) 0;have HRUN:=Ph hrun;have HO9:=Ph hown;have HP9:=Ph ((HP.o.then hb9).data HB0.o hfr (fun k _ e=>by obtain⟨h1,cs,h2⟩:=OwnG.typed hO9 e;exact⟨h1,_,cs,h2,qC⟩));have HT9:=Ph ((zD HT.o hb9).fr hfr (fun e=>by obtain⟨_,cs,h2⟩:=OwnG.typed hO9 e;exact h2.ne (zD HT.o hb9) Yd rfl));clear hx hb9 hO9 hrun hown hfr HO HP HT HD;go_wp2_with (at_builtin;refine jL rfl (.tmp 50) (.tmp 52) rfl _ _ _ rfl rfl (HRUN.o) ?_;clear y0 y1 y2;obtain⟨y0,y1,y2⟩:=zJ HT9.o)
    have HP:=HP9;have HO:=HO9;have HT:=HT9;clear HP9 HO9 HT9 HRUN;have hnx:=fun(w1:World) (h1:Ud (Pq B w1 p E T (u1.on sn)))=>zI6 (u1.on sn) w1 h1;obtain⟨⟨tk2,tt2,ta2,tf2⟩,ht⟩:∃ t,zC E (u1.on sn).s=t:=⟨_,rfl⟩;have HTA2:Ud ((zC E (u1.on sn).s).at'=ta2):=Ph (by rw [ht]);rw [ht]at hnx;dsimp only [nxV,kW]at hnx;have HNX:=Ph hnx;clear hnx ht;have hl_p:p<w9.heap.size:=HP.o.pq.lt;have hw9:w.heap.size≤w9.heap.size:=HP.o.fr.size;have HQx:=Ph (HO.o.stay itD qC (Stays.below (zB (o:=(.cells #[uB tk,uI ta,uI tf] 44)))));clear HO;have HO:=HQx;clear HQx;have HQx:=Ph (HP.o.then (zB (o:=(.cells #[uB tk,uI ta,uI tf] 44))));clear HP;have HP:=HQx;clear HQx;have HTn:=Ph (Bk.new w9 44 #[uB tk,uI ta,uI tf]);clear HT y0 y1 y2;have HT:=HTn;clear HTn;generalize (w9.alloc _)=W9 at *;obtain⟨bn,hbn⟩:∃ b,w9.heap.size=b:=⟨_,rfl⟩;rw [hbn]at HT ⊢;have bnp:bn≠p:=Yo;have HWN:Ud (w.heap.size≤bn):=Ph (by show w.heap.size≤bn;omega);clear hbn hl_p hw9;refine(HNX.o W9 (Ph HP.o.pq)).mono ?_;rintro e wz ⟨rfl,hb⟩;have HQx:=Ph (zD HT.o hb);clear HT;have HT:=HQx;clear HQx;have HQx:=Ph (HO.o.stay itD qC (Stays.below hb));clear HO;have HO:=HQx;clear HQx;have HQx:=Ph (HP.o.then hb);clear HP;have HP:=HQx;clear HQx;clear hb;obtain⟨y0,y1,y2⟩:=zJ HT.o;obtain⟨f0,f1,f2,_,_,_,_⟩:=zZ HT.o;have HF:=Ph (jD4 wz bn (uB tk2) (uI ta2) (uI tf2));have HK:=Ph (qL7 (v0:=uB tk2) (v1:=uI ta2) (v2:=uI tf2) HT.o);have HPF:Ud (PQ B w p E T (u1.on sn) (((wz.setCell ⟨bn,0,none⟩ (uB tk2)).setCell ⟨bn,1,none⟩ (uI ta2)).setCell ⟨bn,2,none⟩ (uI tf2))):=Ph ⟨HP.o.pq.tokbox HT.o (cX bnp) (lE HB0.o HWN.o) (fun b off e=>lX (HTA0.o b off e) HWN.o) HF.o,HP.o.fr.box HF.o HWN.o⟩;have HOF:=Ph (HO.o.stay itD qC (Stays.box HF.o HT.o (by unfold TTy;decide)));have HLF:Ud ((out++[(⟨nm,(nb:Int),(nz:Int)⟩:Dx)]).length≤(u1.on sn).s.n):=Ph (by have h1:=HLN.o;have h2:=HN1.o;have h3:=HGN.o;rw [Ya];show out.length+1≤sn.n;omega);go_wp2_with fail
    generalize (World.setCell _ _ _)=WF at *;go_roundg gk
    case measure=>omega
    case rel=>exact⟨out++[(⟨nm,(nb:Int),(nz:Int)⟩:Dx)],⟨A2,S.n+1,k2⟩,u1.on sn,bn,tk2,ta2,tf2,rfl,rfl,HXN,HOF,HPF,HK,HTA2,HWN,HLF⟩
   ·have hle:=zG7 E (zI E s1 [58]);obtain⟨⟨nb,sn⟩,hn⟩:∃ n,jB E (zI E s1 [58])=n:=⟨_,rfl⟩;rw [hn]at hle h3;(try dsimp only at hle h3);have hgn:s1.n≤sn.n:=by have g4:=xK (E:=E) s1 [58];have g5:=zP3 (E:=E) (zI E s1 [58]);rw [hn]at g5;(try dsimp only at g5);omega
    have HGN:=Ph hgn;have HXN:=Ph h3;have HN:=Ph hn;have HLE:=Ph hle;rw [harr]at hua;clear h3 hn hle hgn;go_wp2_with fail
    refine(zM9 (⟨s1,qc.l++[ta]⟩:QSt) [58] W4 (Ph HP.o.pq)).mono ?_;rintro e w7 ⟨⟨v7,rfl⟩,hp⟩;have HQx:=Ph (hp.bk HT.o Yd btp);clear HT;have HT:=HQx;clear HQx;have HQx:=Ph (hp.bk HD.o Yd bp);clear HD;have HD:=HQx;clear HQx;have HQx:=Ph (HO.o.stay itD qC (HP.o.pq.stays hp.fr));clear HO;have HO:=HQx;clear HQx;have HQx:=Ph (HP.o.trans hp);clear HP;have HP:=HQx;clear HQx;clear hp;go_wp2_with fail
    refine(jT8 _ w7 (Ph HP.o.pq)).mono ?_;rintro e w8 ⟨rfl,hp⟩;have HQx:=Ph (hp.bk HT.o Yd btp);clear HT;have HT:=HQx;clear HQx;have HQx:=Ph (hp.bk HD.o Yd bp);clear HD;have HD:=HQx;clear HQx;have HQx:=Ph (HO.o.stay itD qC (HP.o.pq.stays hp.fr));clear HO;have HO:=HQx;clear HQx;have HQx:=Ph (HP.o.trans hp);clear HP;have HP:=HQx;clear HQx;clear hp;have HPn:Ud (PQ B w p E T ((⟨s1,qc.l++[ta]⟩:QSt).on sn) w8):=Ph (by have:=HP.o;rw [show(((⟨s1,qc.l++[ta]⟩:QSt)).on (zI E ((⟨s1,qc.l++[ta]⟩:QSt)).s [58])).s=zI E ((⟨s1,qc.l++[ta]⟩:QSt)).s [58] from rfl,HN.o]at this;exact this);clear HP;have HP:=HPn;clear HPn;rw [show(((⟨s1,qc.l++[ta]⟩:QSt)).on (zI E ((⟨s1,qc.l++[ta]⟩:QSt)).s [58])).s=zI E ((⟨s1,qc.l++[ta]⟩:QSt)).s [58] from rfl,HN.o];dsimp only;obtain⟨y0,y1,y2⟩:=zJ HD.o;obtain⟨f0,f1,f2,_,_,_,_⟩:=zZ HD.o;have hf:Fr (fun k=>k=b) w8 (w8.setCell ⟨b,1,none⟩ (uI nb)):=(Fr.refl (fun k=>k=b) w8).setCell (p:=⟨b,1,none⟩) (.inl rfl) _;have hwb:w.heap.size≤b:=HWB.o;have HDn:Ud (Bk (w8.setCell ⟨b,1,none⟩ (uI nb)) b 87 #[uR nm,uI nb,uI 0]):=Ph (by have:=HD.o.put 1 (uI nb);simpa using this);have HPn:=Ph (HP.o.box HD.o Yd Yd (cX bp) (lE HB0.o hwb) hwb hf);have HTn:=Ph (HT.o.fr hf (cX bbt));have HOn:=Ph (OwnD.fr HO.o hf (fun k hk e=>HNBb.o (e▸hk)));clear hf hwb;go_upto_region 13 with fail
    generalize (World.setCell _ _ _)=W8 at *;clear HP HT HD HO y0 y1 y2 f0 f1 f2;have HP:=HPn;have HT:=HTn;have HD:=HDn;have HO:=HOn;clear HPn HTn HDn HOn;obtain⟨y0,y1,y2⟩:=zJ HD.o;have hx:jO4 (⟨nm,(nb:Int),0⟩:Dx):=⟨HNL.o,by show(-9223372036854775808:Int)≤(nb:Int);omega,by show(nb:Int)≤9223372036854775807;have:=HLE.o;omega,by show(-9223372036854775808:Int)≤0;decide,by show(0:Int)≤9223372036854775807;decide⟩;have hb9:Below W8.heap.size W8 (W8.alloc (.cells #[uR nm,uI nb,uI 0] 87)):=zB;have hO9:=HO.o.stay itD qC (Stays.below hb9);obtain⟨A2,k2,w9,hrun,hown,hfr⟩:=OwnG.run itD jD5 qC zI9 (fun x v=>rfl) hO9 (⟨nm,(nb:Int),0⟩:Dx) () hx (some ⟨W8.heap.size,0,none⟩) 1 (Rd.new W8 #[uR nm,uI nb,uI 0] 87) HSN.o (lE HP.o.fr.size hb9.size) 0;have HRUN:=Ph hrun;have HO9:=Ph hown;have HP9:=Ph ((HP.o.then hb9).data HB0.o hfr (fun k _ e=>by obtain⟨h1,cs,h2⟩:=OwnG.typed hO9 e;exact⟨h1,_,cs,h2,qC⟩));have HT9:=Ph ((zD HT.o hb9).fr hfr (fun e=>by obtain⟨_,cs,h2⟩:=OwnG.typed hO9 e;exact h2.ne (zD HT.o hb9) Yd rfl));clear hx hb9 hO9 hrun hown hfr HO HP HT HD;go_wp2_with (at_builtin;refine jL rfl (.tmp 50) (.tmp 52) rfl _ _ _ rfl rfl (HRUN.o) ?_;clear y0 y1 y2;obtain⟨y0,y1,y2⟩:=zJ HT9.o)
    have HP:=HP9;have HO:=HO9;have HT:=HT9;clear HP9 HO9 HT9 HRUN;have hnx:=fun(w1:World) (h1:Ud (Pq B w1 p E T ((⟨s1,qc.l++[ta]⟩:QSt).on sn)))=>zI6 ((⟨s1,qc.l++[ta]⟩:QSt).on sn) w1 h1;obtain⟨⟨tk2,tt2,ta2,tf2⟩,ht⟩:∃ t,zC E ((⟨s1,qc.l++[ta]⟩:QSt).on sn).s=t:=⟨_,rfl⟩;have HTA2:Ud ((zC E ((⟨s1,qc.l++[ta]⟩:QSt).on sn).s).at'=ta2):=Ph (by rw [ht]);rw [ht]at hnx;dsimp only [nxV,kW]at hnx;have HNX:=Ph hnx;clear hnx ht;have hl_p:p<w9.heap.size:=HP.o.pq.lt;have hw9:w.heap.size≤w9.heap.size:=HP.o.fr.size;have HQx:=Ph (HO.o.stay itD qC (Stays.below (zB (o:=(.cells #[uB tk,uI ta,uI tf] 44)))));clear HO;have HO:=HQx;clear HQx;have HQx:=Ph (HP.o.then (zB (o:=(.cells #[uB tk,uI ta,uI tf] 44))));clear HP;have HP:=HQx;clear HQx;have HTn:=Ph (Bk.new w9 44 #[uB tk,uI ta,uI tf]);clear HT y0 y1 y2;have HT:=HTn;clear HTn;generalize (w9.alloc _)=W9 at *;obtain⟨bn,hbn⟩:∃ b,w9.heap.size=b:=⟨_,rfl⟩;rw [hbn]at HT ⊢;have bnp:bn≠p:=Yo;have HWN:Ud (w.heap.size≤bn):=Ph (by show w.heap.size≤bn;omega);clear hbn hl_p hw9;refine(HNX.o W9 (Ph HP.o.pq)).mono ?_;rintro e wz ⟨rfl,hb⟩;have HQx:=Ph (zD HT.o hb);clear HT;have HT:=HQx;clear HQx;have HQx:=Ph (HO.o.stay itD qC (Stays.below hb));clear HO;have HO:=HQx;clear HQx;have HQx:=Ph (HP.o.then hb);clear HP;have HP:=HQx;clear HQx;clear hb;obtain⟨y0,y1,y2⟩:=zJ HT.o;obtain⟨f0,f1,f2,_,_,_,_⟩:=zZ HT.o;have HF:=Ph (jD4 wz bn (uB tk2) (uI ta2) (uI tf2));have HK:=Ph (qL7 (v0:=uB tk2) (v1:=uI ta2) (v2:=uI tf2) HT.o);have HPF:Ud (PQ B w p E T ((⟨s1,qc.l++[ta]⟩:QSt).on sn) (((wz.setCell ⟨bn,0,none⟩ (uB tk2)).setCell ⟨bn,1,none⟩ (uI ta2)).setCell ⟨bn,2,none⟩ (uI tf2))):=Ph ⟨HP.o.pq.tokbox HT.o (cX bnp) (lE HB0.o HWN.o) (fun b off e=>lX (HTA0.o b off e) HWN.o) HF.o,HP.o.fr.box HF.o HWN.o⟩;have HOF:=Ph (HO.o.stay itD qC (Stays.box HF.o HT.o (by unfold TTy;decide)));have HLF:Ud ((out++[(⟨nm,(nb:Int),0⟩:Dx)]).length≤((⟨s1,qc.l++[ta]⟩:QSt).on sn).s.n):=Ph (by have h1:=HLN.o;have h2:=HN1.o;have h3:=HGN.o;rw [Ya];show out.length+1≤sn.n;omega);go_wp2_with fail
    generalize (World.setCell _ _ _)=WF at *;go_roundg gk
    case measure=>omega
    case rel=>exact⟨out++[(⟨nm,(nb:Int),0⟩:Dx)],⟨A2,S.n+1,k2⟩,(⟨s1,qc.l++[ta]⟩:QSt).on sn,bn,tk2,ta2,tf2,rfl,rfl,HXN,HOF,HPF,HK,HTA2,HWN,HLF⟩
end
end
section
open Go.RowKit Go.PlainAid
theorem qL8 (t:List UInt8):(kM t=none∧t≠[119,114,105,116,101]∧t≠[102,108,117,115,104]∧t≠[98,97,114,114,105,101,114]∧t≠[105,102]∧t≠[119,104,105,108,101]∧t≠[99,97,108,108])∨(kM t=some 3∧t=[119,114,105,116,101])∨(kM t=some 4∧t=[102,108,117,115,104])∨(kM t=some 5∧t=[98,97,114,114,105,101,114])∨(kM t=some 6∧t=[105,102])∨(kM t=some 7∧t=[119,104,105,108,101])∨(kM t=some 8∧t=[99,97,108,108]):=by
 have e:bs "write" = [119,114,105,116,101]∧bs "flush" = [102,108,117,115,104]∧bs "barrier" = [98,97,114,114,105,101,114]∧bs "if" = [105,102]∧bs "while" = [119,104,105,108,101]∧bs "call" = [99,97,108,108]:=Yd;obtain⟨e0,e1,e2,e3,e4,e5⟩:=e;unfold kM;rw [e0,e1,e2,e3,e4,e5];by_cases h0:t=[119,114,105,116,101]
 ·exact .inr (.inl (⟨by rw [lM h0],h0⟩))
 by_cases h1:t=[102,108,117,115,104]
 ·exact .inr (.inr (.inl (⟨by rw [lN h0];rw [lM h1],h1⟩)))
 by_cases h2:t=[98,97,114,114,105,101,114]
 ·exact .inr (.inr (.inr (.inl (⟨by rw [lN h0];rw [lN h1];rw [lM h2],h2⟩))))
 by_cases h3:t=[105,102]
 ·exact .inr (.inr (.inr (.inr (.inl (⟨by rw [lN h0];rw [lN h1];rw [lN h2];rw [lM h3],h3⟩)))))
 by_cases h4:t=[119,104,105,108,101]
 ·exact .inr (.inr (.inr (.inr (.inr (.inl (⟨by rw [lN h0];rw [lN h1];rw [lN h2];rw [lN h3];rw [lM h4],h4⟩))))))
 by_cases h5:t=[99,97,108,108]
 ·exact .inr (.inr (.inr (.inr (.inr (.inr (⟨by rw [lN h0];rw [lN h1];rw [lN h2];rw [lN h3];rw [lN h4];rw [lM h5],h5⟩))))))
 exact .inl ⟨by rw [lN h0,lN h1,lN h2,lN h3,lN h4,lN h5],h0,h1,h2,h3,h4,h5⟩
theorem zH4 (t u:List UInt8):(u == (str t).toList)=decide (t=u):=by
 rw [qB,qE];by_cases h:t=u
 ·simp [h]
 ·simp [h];exact fun e=>h e.symm
theorem jD6 (w:World):Calls prog 133 #[] w fun e w'=>e=.returned (.agg #[.string ⟨#[119,114,105,116,101]⟩,uF 148,.string ⟨#[102,108,117,115,104]⟩,uF 149,.string ⟨#[98,97,114,114,105,101,114]⟩,uF 150,.string ⟨#[105,102]⟩,uF 151,.string ⟨#[119,104,105,108,101]⟩,uF 152,.string ⟨#[99,97,108,108]⟩,uF 153])∧Below w.heap.size w w':=by
 go_enter func133,ntmps133
 go_wp2_with fail
 have c0:(w.alloc (.cells #[.string ⟨#[119,114,105,116,101]⟩,uF 148,.string ⟨#[102,108,117,115,104]⟩,uF 149,.string ⟨#[98,97,114,114,105,101,114]⟩,uF 150,.string ⟨#[105,102]⟩,uF 151,.string ⟨#[119,104,105,108,101]⟩,uF 152,.string ⟨#[99,97,108,108]⟩,uF 153] 200)).cell? ⟨w.heap.size,0,none⟩=some (.string ⟨#[119,114,105,116,101]⟩):=(Bk.new w _ _).cell 0;have c1:(w.alloc (.cells #[.string ⟨#[119,114,105,116,101]⟩,uF 148,.string ⟨#[102,108,117,115,104]⟩,uF 149,.string ⟨#[98,97,114,114,105,101,114]⟩,uF 150,.string ⟨#[105,102]⟩,uF 151,.string ⟨#[119,104,105,108,101]⟩,uF 152,.string ⟨#[99,97,108,108]⟩,uF 153] 200)).cell? ⟨w.heap.size,1,none⟩=some (uF 148):=(Bk.new w _ _).cell 1;have c2:(w.alloc (.cells #[.string ⟨#[119,114,105,116,101]⟩,uF 148,.string ⟨#[102,108,117,115,104]⟩,uF 149,.string ⟨#[98,97,114,114,105,101,114]⟩,uF 150,.string ⟨#[105,102]⟩,uF 151,.string ⟨#[119,104,105,108,101]⟩,uF 152,.string ⟨#[99,97,108,108]⟩,uF 153] 200)).cell? ⟨w.heap.size,2,none⟩=some (.string ⟨#[102,108,117,115,104]⟩):=(Bk.new w _ _).cell 2;have c3:(w.alloc (.cells #[.string ⟨#[119,114,105,116,101]⟩,uF 148,.string ⟨#[102,108,117,115,104]⟩,uF 149,.string ⟨#[98,97,114,114,105,101,114]⟩,uF 150,.string ⟨#[105,102]⟩,uF 151,.string ⟨#[119,104,105,108,101]⟩,uF 152,.string ⟨#[99,97,108,108]⟩,uF 153] 200)).cell? ⟨w.heap.size,3,none⟩=some (uF 149):=(Bk.new w _ _).cell 3;have c4:(w.alloc (.cells #[.string ⟨#[119,114,105,116,101]⟩,uF 148,.string ⟨#[102,108,117,115,104]⟩,uF 149,.string ⟨#[98,97,114,114,105,101,114]⟩,uF 150,.string ⟨#[105,102]⟩,uF 151,.string ⟨#[119,104,105,108,101]⟩,uF 152,.string ⟨#[99,97,108,108]⟩,uF 153] 200)).cell? ⟨w.heap.size,4,none⟩=some (.string ⟨#[98,97,114,114,105,101,114]⟩):=(Bk.new w _ _).cell 4;have c5:(w.alloc (.cells #[.string ⟨#[119,114,105,116,101]⟩,uF 148,.string ⟨#[102,108,117,115,104]⟩,uF 149,.string ⟨#[98,97,114,114,105,101,114]⟩,uF 150,.string ⟨#[105,102]⟩,uF 151,.string ⟨#[119,104,105,108,101]⟩,uF 152,.string ⟨#[99,97,108,108]⟩,uF 153] 200)).cell? ⟨w.heap.size,5,none⟩=some (uF 150):=(Bk.new w _ _).cell 5;have c6:(w.alloc (.cells #[.string ⟨#[119,114,105,116,101]⟩,uF 148,.string ⟨#[102,108,117,115,104]⟩,uF 149,.string ⟨#[98,97,114,114,105,101,114]⟩,uF 150,.string ⟨#[105,102]⟩,uF 151,.string ⟨#[119,104,105,108,101]⟩,uF 152,.string ⟨#[99,97,108,108]⟩,uF 153] 200)).cell? ⟨w.heap.size,6,none⟩=some (.string ⟨#[105,102]⟩):=(Bk.new w _ _).cell 6;have c7:(w.alloc (.cells #[.string ⟨#[119,114,105,116,101]⟩,uF 148,.string ⟨#[102,108,117,115,104]⟩,uF 149,.string ⟨#[98,97,114,114,105,101,114]⟩,uF 150,.string ⟨#[105,102]⟩,uF 151,.string ⟨#[119,104,105,108,101]⟩,uF 152,.string ⟨#[99,97,108,108]⟩,uF 153] 200)).cell? ⟨w.heap.size,7,none⟩=some (uF 151):=(Bk.new w _ _).cell 7;have c8:(w.alloc (.cells #[.string ⟨#[119,114,105,116,101]⟩,uF 148,.string ⟨#[102,108,117,115,104]⟩,uF 149,.string ⟨#[98,97,114,114,105,101,114]⟩,uF 150,.string ⟨#[105,102]⟩,uF 151,.string ⟨#[119,104,105,108,101]⟩,uF 152,.string ⟨#[99,97,108,108]⟩,uF 153] 200)).cell? ⟨w.heap.size,8,none⟩=some (.string ⟨#[119,104,105,108,101]⟩):=(Bk.new w _ _).cell 8;have c9:(w.alloc (.cells #[.string ⟨#[119,114,105,116,101]⟩,uF 148,.string ⟨#[102,108,117,115,104]⟩,uF 149,.string ⟨#[98,97,114,114,105,101,114]⟩,uF 150,.string ⟨#[105,102]⟩,uF 151,.string ⟨#[119,104,105,108,101]⟩,uF 152,.string ⟨#[99,97,108,108]⟩,uF 153] 200)).cell? ⟨w.heap.size,9,none⟩=some (uF 152):=(Bk.new w _ _).cell 9;have c10:(w.alloc (.cells #[.string ⟨#[119,114,105,116,101]⟩,uF 148,.string ⟨#[102,108,117,115,104]⟩,uF 149,.string ⟨#[98,97,114,114,105,101,114]⟩,uF 150,.string ⟨#[105,102]⟩,uF 151,.string ⟨#[119,104,105,108,101]⟩,uF 152,.string ⟨#[99,97,108,108]⟩,uF 153] 200)).cell? ⟨w.heap.size,10,none⟩=some (.string ⟨#[99,97,108,108]⟩):=(Bk.new w _ _).cell 10;have c11:(w.alloc (.cells #[.string ⟨#[119,114,105,116,101]⟩,uF 148,.string ⟨#[102,108,117,115,104]⟩,uF 149,.string ⟨#[98,97,114,114,105,101,114]⟩,uF 150,.string ⟨#[105,102]⟩,uF 151,.string ⟨#[119,104,105,108,101]⟩,uF 152,.string ⟨#[99,97,108,108]⟩,uF 153] 200)).cell? ⟨w.heap.size,11,none⟩=some (uF 153):=(Bk.new w _ _).cell 11;refine lK (v:=.agg #[.string ⟨#[119,114,105,116,101]⟩,uF 148,.string ⟨#[102,108,117,115,104]⟩,uF 149,.string ⟨#[98,97,114,114,105,101,114]⟩,uF 150,.string ⟨#[105,102]⟩,uF 151,.string ⟨#[119,104,105,108,101]⟩,uF 152,.string ⟨#[99,97,108,108]⟩,uF 153]) (by simp [results,results133,go_sem,c0,c1,c2,c3,c4,c5,c6,c7,c8,c9,c10,c11]) rfl ?_;exact⟨rfl,zB⟩
end
section
open Go.RowKit Go.PlainAid
def vI (n:Nat):Code→Option Code
 | .region m o d=>if m=n then some (.region m o d) else none
 | .seq a b=>match vI n a with
   | some c=>some c
   | none=>vI n b
 | .cond _ a b=>match vI n a with
   | some c=>some c
   | none=>vI n b
 | .block _ b=>vI n b
 | .loop b=>vI n b
 | .scope b=>vI n b
 | _=>none
section
variable {B:Nat} {p:Nat} {E:Env} {T:TV}
theorem kG7 (q:QSt) (W:World) (pb bt tk ta tf:Nat) (HP:Ud (Pq B W p E T q)) (HL:Ud (q.l.length≤800000000)) (HT:Ud (Bk W bt 44 #[uB tk,uI ta,uI tf])) (HPB:Ud (Bk W pb 103 #[uQ p 0]))
 (c:Code) (hc:(Tryz.f130.body.bind (vI 12))=some c) (s0 s2 s4 s5 s6 s7 s8 s9 s10 s11 s12 s13 s14 s15 s16 s17 s18 s19 s20 s21 s22 s23 s24 s25 s26 s27 s28 s29 s30 s31 s32 s33 s34 s35 s36 s37 s38 s39 s40 s41 s42 s43 s44 s45 s46 s47 s48 s49 s50 s51 s52 s53 s54 s55 s56 s57 s58 s59 s60 s61 s62 s63:Value) (K1:Act→World→Prop) (Q1:Exit→Act→World→Prop)
 (hK:∀ (x47 x48 x49 x50 x51 x52 x53 x54 x55 x56 x57:Value) (W':World),Ud (PQ B W p E T ⟨q.s,q.l++[ta]⟩ W')→K1 ⟨#[s0,uQ pb 0,s2,uQ bt 0,s4,s5,s6,s7,s8,s9,s10,s11,s12,s13,s14,s15,s16,s17,s18,s19,s20,s21,s22,s23,s24,s25,s26,s27,s28,s29,s30,s31,s32,s33,s34,s35,s36,s37,s38,s39,s40,s41,s42,s43,s44,s45,s46,x47,x48,x49,x50,x51,x52,x53,x54,x55,x56,x57,s58,s59,s60,s61,s62,s63],[]⟩ W'):Code.wp prog c (Exit.then K1 Q1) ⟨#[s0,uQ pb 0,s2,uQ bt 0,s4,s5,s6,s7,s8,s9,s10,s11,s12,s13,s14,s15,s16,s17,s18,s19,s20,s21,s22,s23,s24,s25,s26,s27,s28,s29,s30,s31,s32,s33,s34,s35,s36,s37,s38,s39,s40,s41,s42,s43,s44,s45,s46,s47,s48,s49,s50,s51,s52,s53,s54,s55,s56,s57,s58,s59,s60,s61,s62,s63],[]⟩ W:=by
 have hc2:some _=some c:=hc;injection hc2 with hc2;subst hc2;clear hc;refine Code.wp_mono (Q:=Exit.then K1 (fun _ _ _=>False)) (fun e a w h=>by cases e <;> first | exact h | exact h.elim) ?_;obtain⟨Q,A2,k2,w6,hps,hrun,hps2,hpq,hfr,hbk,hbk6⟩:=(HP.o.below (lB _ _).drew).atrun ta HL.o;have hpa:=hps.below (zB (o:=(.cells #[uI ta] 3)));have hb0:Bk W p 152 (zZ6 E T Q q.s):=hps.bk;have e4:(W.alloc (.cells #[uI ta] 3)).cell? ⟨p,4,none⟩=some (uL Q):=(zD hb0 (zB (o:=(.cells #[uI ta] 3)))).cell 4;have g4:=hps.cells.2.2.2.2.1;have a4:=hpa.cells.2.2.2.2.1;have t1:=(zD HT.o (lB _ _).drew).cell 1;have u1:=(zD (zD HT.o (lB _ _).drew) (zB (o:=(.cells #[uI ta] 3)))).cell 1;have v1:=(zD HT.o (zB (o:=(.cells #[uI ta] 3)))).cell 1;have pb0:W.drew.cell? ⟨pb,0,none⟩=some (uQ p 0):=HPB.o.cell 0;have pb1:(W.alloc (.cells #[uI ta] 3)).cell? ⟨pb,0,none⟩=some (uQ p 0):=(zD HPB.o zB).cell 0;have pb2:w6.cell? ⟨pb,0,none⟩=some (uQ p 0):=(hbk6 _ _ _ (show Bk W.drew pb 103 #[uQ p 0] from HPB.o) Yd).cell 0;have pb3:W.cell? ⟨pb,0,none⟩=some (uQ p 0):=HPB.o.cell 0;have t1:W.drew.cell? ⟨bt,1,none⟩=some (uI ta):=t1;have u1:(W.drew.alloc (.cells #[uI ta] 3)).cell? ⟨bt,1,none⟩=some (uI ta):=u1;have v1:(W.alloc (.cells #[uI ta] 3)).cell? ⟨bt,1,none⟩=some (uI ta):=v1;have HRUN:=Ph hrun;have HPS2:=Ph hps2;have HPQ:=Ph hpq;have HFR:=Ph hfr;have HK1:=Ph hK;clear hps hpa hb0 hrun hps2 hpq hfr hbk hbk6 hK
 go_region_law (first
  | (refine qG rfl (.tmp 51) (.tmp 54) rfl _ _ _ rfl rfl (HRUN.o _) ?_
     clear g4 a4 t1 u1 e4 v1;obtain⟨g0,g1,g2,g3,g4,g5,g6⟩:=HPS2.o.cells;have gz:=HPS2.o.frozens 4))
 all_goals
  go_wp2
  with_reducible exact HK1.o _ _ _ _ _ _ _ _ _ _ _ _ (Ph ⟨HPQ.o,(FrQ.of_below (lB _ _).drew).trans HFR.o⟩)
end
end
end Go.Proofs.YtfdaebgllibphaaGreatDoor
