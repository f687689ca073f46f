import Derived.Test.YtfdaebgllibphaaGreatDoorZal
set_option linter.unusedVariables false
set_option linter.unusedSimpArgs false
set_option maxRecDepth 100000
set_option maxHeartbeats 16000000
namespace Go.Proofs.YtfdaebgllibphaaGreatDoor
section
open Go.RowKit Go.PlainAid Go.Shelf
attribute [local go_sem] Oper.semAt_some
abbrev Yi:=Sx×(SV×SV×SV)×QSt
theorem jP2 {E:Env} {q q1:QSt} {g:Nat} {x:Sx} (hk:(zC E q.s).kind=1) (hr:vO (zC E q.s).text=false) (h:qY E (g+1) 0 (q.at E)=some (x,q1)):q.s.n+1≤q1.s.n:=by
 have hb:nameB E q.s=true:=by unfold nameB;rw [hk,hr];rfl
 have hn:zL E (q.at E).s=zE q.s:=by show zL E q.s=zE q.s;unfold zL;rw [hb];rfl
 have hn1:(zL E (q.at E).s).n=q.s.n+1:=by rw [hn];rfl
 rcases vW h with⟨_,r,i,q2,r2,y,h1,h2,h3,h4,_⟩ | ⟨_,y,h4,_⟩
 ·have g1:(zL E (q.at E).s).n≤r.s.n:=zN2 h1;have g2:=yY h2;have g3:=zH3 h3;have g4:(zI E r2.s [61]).n≤q1.s.n:=yY h4;have g5:=xK (E:=E) r2.s [61];omega
 ·have g4:(zI E (zL E (q.at E).s) [61]).n≤q1.s.n:=yY h4;have g5:=xK (E:=E) (zL E (q.at E).s) [61];omega
section
variable {B:Nat} {p:Nat} {E:Env} {T:TV}
structure GY (B:Nat) (p:Nat) (E:Env) (T:TV) (x:Yi) (W0 W:World):Prop where
 s:SxP (fun k=>W0.heap.size≤k) W x.1 x.2.1
 pq:PQ B W0 p E T x.2.2 W
def stF (m:Nat):Nat:=[148,149,150,151,152,153].getD m 131
theorem kG8 (t:List UInt8):∃ m,m≤6∧(([119,114,105,116,101]:List UInt8) == (str t).toList)=decide (m=0)∧(([102,108,117,115,104]:List UInt8) == (str t).toList)=decide (m=1)∧(([98,97,114,114,105,101,114]:List UInt8) == (str t).toList)=decide (m=2)∧(([105,102]:List UInt8) == (str t).toList)=decide (m=3)∧(([119,104,105,108,101]:List UInt8) == (str t).toList)=decide (m=4)∧(([99,97,108,108]:List UInt8) == (str t).toList)=decide (m=5)∧((m<6∧kM t=some (m+3))∨(m=6∧kM t=none)):=by
 have e:=fun u=>zH4 t u;rcases qL8 t with⟨h,h0,h1,h2,h3,h4,h5⟩ | ⟨h,rfl⟩ | ⟨h,rfl⟩ | ⟨h,rfl⟩ | ⟨h,rfl⟩ | ⟨h,rfl⟩ | ⟨h,rfl⟩
 ·exact⟨6,Yo,by rw [e,lG h0];rfl,by rw [e,lG h1];rfl,by rw [e,lG h2];rfl,by rw [e,lG h3];rfl,by rw [e,lG h4];rfl,by rw [e,lG h5];rfl,.inr ⟨rfl,h⟩⟩
 ·exact⟨0,Yo,by rw [e];decide,by rw [e];decide,by rw [e];decide,by rw [e];decide,by rw [e];decide,by rw [e];decide,.inl ⟨Yo,h⟩⟩
 ·exact⟨1,Yo,by rw [e];decide,by rw [e];decide,by rw [e];decide,by rw [e];decide,by rw [e];decide,by rw [e];decide,.inl ⟨Yo,h⟩⟩
 ·exact⟨2,Yo,by rw [e];decide,by rw [e];decide,by rw [e];decide,by rw [e];decide,by rw [e];decide,by rw [e];decide,.inl ⟨Yo,h⟩⟩
 ·exact⟨3,Yo,by rw [e];decide,by rw [e];decide,by rw [e];decide,by rw [e];decide,by rw [e];decide,by rw [e];decide,.inl ⟨Yo,h⟩⟩
 ·exact⟨4,Yo,by rw [e];decide,by rw [e];decide,by rw [e];decide,by rw [e];decide,by rw [e];decide,by rw [e];decide,.inl ⟨Yo,h⟩⟩
 ·exact⟨5,Yo,by rw [e];decide,by rw [e];decide,by rw [e];decide,by rw [e];decide,by rw [e];decide,by rw [e];decide,.inl ⟨Yo,h⟩⟩
theorem jD8 (n l pb f:Nat) (q0:QSt) (lst:List Sx) (q':QSt) (hx:jM E f q0 []=some (lst,q')) (IH:∀ g,g<f→qF4 B p E T g) (W1:World) (hp:Pq B W1 p E T q0) (J:List Yi→World→Prop)
 (hJq:∀ pre W W',J pre W→(∃ q,Pq B W p E T q)→FrQ B p W W'→J pre W') (hJb:∀ pre W,J pre W→Bk W pb 103 #[uQ p 0])
 (hY:∀ pre x W0 W,J pre W0→J pre W→GY B p E T x W0 W→pre.length<1000000000→YieldAt Fence.wide (n-1) Tryz.prog l #[stV x.1 x.2.1] W fun e W'=>e=.returned (.bool true)∧J (pre++[x]) W'∧Pq B W' p E T x.2.2) (h0:J [] W1) :
 CallsIn Fence.wide n Tryz.prog 130 #[.func (.yield l) #[] #[],uQ pb 0] W1 fun e W'=>(∃ v,e=.returned v)∧∃ xs:List Yi,xs.map (·.1)=lst∧J xs W'∧Pq B W' p E T q':=by
 have HX:=Ph hx;have HIH:=Ph IH;have HP0:=Ph hp;have HJQ:=Ph hJq;have HJB:=Ph hJb;have HY:=Ph hY;have HJ0:=Ph h0;clear hx IH hp hJq hJb hY h0;refine callsIn_wide.2 ?_;go_enter Tryz.func130,Tryz.ntmps130
 go_wp2
 go_step3
 go_wp2
 go_step3
 go_wp2
 go_loopg [] f (fun g wr=>∃ (pre:List Yi) (qc:QSt),Hid (pre.length+g≤f∧pre.length≤qc.s.n)∧Hid (jM E g qc (pre.map (·.1))=some (lst,q'))∧Hid (J pre wr)∧Hid (Pq B wr p E T qc))
 case atStart=>exact⟨[],q0,Ph ⟨by show 0+f≤f;omega,lV _⟩,HX,HJ0,HP0⟩
 case round =>
  obtain⟨pre,qc,HGF,HS,HJ,HPc⟩:=hrel;have HLT:Hid (pre.length<1000000000):=Ph (by have h1:=HGF.out;obtain⟨Qc,hps,_⟩:=HPc.out.ex;have h3:=hps.n;have h4:=hps.ok.few;omega);clear HX HJ0 HP0;generalize wr=wo at *;cases gk with
  | zero=>exact absurd HS.out (by unfold jM;intro h;cases h)
  | succ gk =>
  have hst:=zF1 HS.out;clear HS;obtain⟨Qc,hps,_⟩:=HPc.out.ex;obtain⟨g0,g1,g2,g3,g4,g5,g6⟩:=hps.cells;clear hps;have b0:wo.cell? ⟨pb,0,none⟩=some (uQ p 0):=(HJB.out pre wo HJ.out).cell 0;by_cases he:qc.s.e=0
  ·have e1:((qc.s.e:Int) == 0)=true:=by simp;omega
   have hnx:=fun(w1:World) (h1:Hid (Pq B w1 p E T qc))=>zI6 qc w1 h1;obtain⟨⟨tk,tt,ta,tf⟩,ht⟩:∃ t,zC E qc.s=t:=⟨_,rfl⟩;rw [ht]at hnx hst;dsimp only [nxV,kW]at hnx;(try dsimp only at hst);have HNX:=Ph hnx;have HTQ:=Ph ht;have HP:=Ph (PQ.below HPc.out (lB _ _));have HJR:Hid (∀ W,FrQ B p wo W→J pre W):=Ph fun W hf=>HJQ.out pre wo W HJ.out ⟨qc,HPc.out⟩ hf;have HST:=Ph hst;have HE0:=Ph he;clear hnx ht he hst;go_wp2_with fail
   refine(HNX.out wo HPc).mono ?_;rintro e w1 ⟨rfl,hb⟩;have HQx:=Ph (HP.out.then hb);clear HP;have HP:=HQx;clear HQx;clear hb;clear g0 g1 g2 g3 g4 g5 g6 b0 e1 HNX;have hl_p:p<w1.heap.size:=HP.out.pq.lt;have HPw1:wo.heap.size≤w1.heap.size:=HP.out.fr.size;have HQx:=Ph (HP.out.then (zB (o:=(.cells #[uB tk,uI ta,uI tf] 44))));clear HP;have HP:=HQx;clear HQx;have HT:=Ph (Bk.new w1 44 #[uB tk,uI ta,uI tf]);go_upto_region 2 with fail
   generalize (w1.alloc _)=W1a at *;obtain⟨bt,hblk⟩:∃ b,w1.heap.size=b:=⟨_,rfl⟩;rw [hblk]at HT ⊢;have btp:bt≠p:=Yo;have HWTx:wo.heap.size≤bt:=by have h1:=HPw1;omega
   clear hblk hl_p;have HWT:Hid (wo.heap.size≤bt):=Ph HWTx;obtain⟨k0,hk0⟩:∃ k0,(decide (tk=1) && !vO tt)=k0:=⟨_,rfl⟩;have HK0:=Ph hk0;go_upto_region 3 with fail
   go_cut [6] (fun v6 wx=>v6=.bool k0∧Hid (PQ B wo p E T qc wx)∧Hid (Bk wx bt 44 #[uB tk,uI ta,uI tf]))
   case first =>
    obtain⟨t0,t1,t2⟩:=zJ HT.out;by_cases hk:tk=1
    ·have e2:((tk:Int) == 1)=true:=by simp;omega
     have hk1:(!vO tt)=k0:=by rw [←hk0,lH hk];rfl
     go_wp2_with fail
     refine(jX2 tt _ (Ph HP.out.pq.vr)).mono ?_;rintro e w3 ⟨rfl,hb⟩;go_wp2
     go_meet
     exact⟨by first | rfl | (rw [←hk1];rfl),Ph (HP.out.then hb),Ph (zD HT.out hb)⟩
    ·have e2:((tk:Int) == 1)=false:=by simp;omega
     have hk1:k0=false:=by rw [←hk0,lG hk];rfl
     subst hk1;clear hk0;go_wp2_with fail
     go_meet
     exact⟨rfl,Ph HP.out,Ph HT.out⟩
   case rest =>
   obtain⟨rfl,HPn,HTn⟩:=hcut;clear HP HT;try clear hk0
   have HP:=HPn;have HT:=HTn;clear HPn HTn;generalize wc=W3 at *;go_wp2_with fail
   refine(jD6 W3).mono ?_;rintro e w4 ⟨rfl,hb⟩;have HQx:=Ph (zD HT.out hb);clear HT;have HT:=HQx;clear HQx;have HQx:=Ph (HP.out.then hb);clear HP;have HP:=HQx;clear HQx;clear hb;obtain⟨m,hm6,t0,t1,t2,t3,t4,t5,hmk⟩:=kG8 tt;have HMK:=Ph hmk;clear hmk;have HTL:Hid (w4=w4):=Ph rfl;go_wp2_with fail
   go_loopw [5,6,28] (fun v5 v6 v28 wx=>∃ i:Nat,v28=uI i∧i≤6∧Hid (Bk wx bt 44 #[uB tk,uI ta,uI tf])∧((i≤m∧v5=uF 131∧v6=.bool k0∧Hid (PQ B wo p E T qc wx))∨(m<i∧v5=uF (stF m)∧v6=.bool true∧Hid (PQ B wo p E T ⟨zE qc.s,qc.l⟩ wx)))) (fun _ _ v28 _=>6-(intOf v28).toNat)
   case atStart=>exact⟨0,rfl,Yo,HT,.inl ⟨Yo,rfl,rfl,HP⟩⟩
   case round =>
    obtain⟨i,rfl,hi6,HTi,hdis⟩:=hrel;clear HP HT HTL;rcases(by omega:i=0∨i=1∨i=2∨i=3∨i=4∨i=5∨i=6)with rfl | rfl | rfl | rfl | rfl | rfl | rfl
    ·rcases hdis with⟨him,rfl,rfl,HPi⟩ | ⟨him,rfl,rfl,HPi⟩
     ·by_cases hmi:m=0
      ·clear t1;clear t2;clear t3;clear t4;clear t5;have et:(([119,114,105,116,101]:List UInt8) == (str tt).toList)=true:=by rw [t0];exact lH hmi
       have ix:∀ w,(Instr.index 200 (.agg #[.string ⟨#[119,114,105,116,101]⟩,uF 148,.string ⟨#[102,108,117,115,104]⟩,uF 149,.string ⟨#[98,97,114,114,105,101,114]⟩,uF 150,.string ⟨#[105,102]⟩,uF 151,.string ⟨#[119,104,105,108,101]⟩,uF 152,.string ⟨#[99,97,108,108]⟩,uF 153]) (uI 0)).run Tryz.prog w=.ok (.agg #[.string ⟨#[119,114,105,116,101]⟩,uF 148]) w:=fun _=>Yk;go_upto_region 7 with fail
       clear ix;have HSB:=Ph (Bk.new wr 199 #[.string ⟨#[119,114,105,116,101]⟩,uF 148]);have hbS:Below wr.heap.size wr (wr.alloc (.cells #[.string ⟨#[119,114,105,116,101]⟩,uF 148] 199)):=zB;have HPn:=Ph (HPi.out.then hbS);have HTn:=Ph (zD HTi.out hbS);clear hbS;generalize (wr.alloc _)=wy at *;generalize wr.heap.size=bs' at *;have s0:wy.cell? ⟨bs',0,none⟩=some (.string ⟨#[119,114,105,116,101]⟩):=HSB.out.cell 0;have s1:wy.cell? ⟨bs',1,none⟩=some (uF 148):=HSB.out.cell 1;clear HPi HTi;have b0:wy.cell? ⟨pb,0,none⟩=some (uQ p 0):=(HJB.out pre wy (HJR.out wy HPn.out.fr)).cell 0;obtain⟨Qy,hps,hat,hln⟩:=HPn.out.pq.ex;obtain⟨g0,g1,g2,g3,g4,g5,g6⟩:=hps.cells;have gz:=hps.frozens 2;have hnf:=hps.ok.few;have hne:(zC E qc.s).text≠[]:=by rw [HTQ.out];rintro rfl;rw [zH4]at et;exact absurd et Yd
       obtain⟨_,hsn,_⟩:=hps.tok (.inr hne);have wn:IntKind.i64.wrap ((qc.s.n:Int)+1)=(qc.s.n:Int)+1:=by rw [lL];omega
       have hP2:=hps.setN (qc.s.n+1) hsn;rw [show((qc.s.n+1:Nat):Int)=(qc.s.n:Int)+1 from by omega]at hP2;have HP2:Hid (PQ B wo p E T ⟨zE qc.s,qc.l⟩ (wy.setCell ⟨p,2,none⟩ (uI ((qc.s.n:Int)+1)))):=Ph (HPn.out.trans (HPn.out.pq.pp hps hat hln hP2));have HT2:=Ph (hP2.bk HTn.out btp);clear hps hat hln hP2 hne hsn hnf;go_wp2_with fail
       generalize (World.setCell _ _ _)=wz at *;go_roundw
       case rel=>exact⟨1,rfl,Yo,HT2,.inr ⟨Yo,by rw [hmi];rfl,rfl,HP2⟩⟩
       case measure=>simp [intOf]
      ·clear t1;clear t2;clear t3;clear t4;clear t5;have et:(([119,114,105,116,101]:List UInt8) == (str tt).toList)=false:=by rw [t0];exact lG hmi
       have ix:∀ w,(Instr.index 200 (.agg #[.string ⟨#[119,114,105,116,101]⟩,uF 148,.string ⟨#[102,108,117,115,104]⟩,uF 149,.string ⟨#[98,97,114,114,105,101,114]⟩,uF 150,.string ⟨#[105,102]⟩,uF 151,.string ⟨#[119,104,105,108,101]⟩,uF 152,.string ⟨#[99,97,108,108]⟩,uF 153]) (uI 0)).run Tryz.prog w=.ok (.agg #[.string ⟨#[119,114,105,116,101]⟩,uF 148]) w:=fun _=>Yk;go_upto_region 7 with fail
       clear ix;have HSB:=Ph (Bk.new wr 199 #[.string ⟨#[119,114,105,116,101]⟩,uF 148]);have hbS:Below wr.heap.size wr (wr.alloc (.cells #[.string ⟨#[119,114,105,116,101]⟩,uF 148] 199)):=zB;have HPn:=Ph (HPi.out.then hbS);have HTn:=Ph (zD HTi.out hbS);clear hbS;generalize (wr.alloc _)=wy at *;generalize wr.heap.size=bs' at *;have s0:wy.cell? ⟨bs',0,none⟩=some (.string ⟨#[119,114,105,116,101]⟩):=HSB.out.cell 0;have s1:wy.cell? ⟨bs',1,none⟩=some (uF 148):=HSB.out.cell 1;clear HPi HTi;go_wp2_with fail
       go_roundw
       case rel=>exact⟨1,rfl,Yo,HTn,.inl ⟨Yo,rfl,rfl,HPn⟩⟩
       case measure=>simp [intOf]
     ·exact absurd him Yo
    ·rcases hdis with⟨him,rfl,rfl,HPi⟩ | ⟨him,rfl,rfl,HPi⟩
     ·by_cases hmi:m=1
      ·clear t0;clear t2;clear t3;clear t4;clear t5;have et:(([102,108,117,115,104]:List UInt8) == (str tt).toList)=true:=by rw [t1];exact lH hmi
       have ix:∀ w,(Instr.index 200 (.agg #[.string ⟨#[119,114,105,116,101]⟩,uF 148,.string ⟨#[102,108,117,115,104]⟩,uF 149,.string ⟨#[98,97,114,114,105,101,114]⟩,uF 150,.string ⟨#[105,102]⟩,uF 151,.string ⟨#[119,104,105,108,101]⟩,uF 152,.string ⟨#[99,97,108,108]⟩,uF 153]) (uI 1)).run Tryz.prog w=.ok (.agg #[.string ⟨#[102,108,117,115,104]⟩,uF 149]) w:=fun _=>Yk;go_upto_region 7 with fail
       clear ix;have HSB:=Ph (Bk.new wr 199 #[.string ⟨#[102,108,117,115,104]⟩,uF 149]);have hbS:Below wr.heap.size wr (wr.alloc (.cells #[.string ⟨#[102,108,117,115,104]⟩,uF 149] 199)):=zB;have HPn:=Ph (HPi.out.then hbS);have HTn:=Ph (zD HTi.out hbS);clear hbS;generalize (wr.alloc _)=wy at *;generalize wr.heap.size=bs' at *;have s0:wy.cell? ⟨bs',0,none⟩=some (.string ⟨#[102,108,117,115,104]⟩):=HSB.out.cell 0;have s1:wy.cell? ⟨bs',1,none⟩=some (uF 149):=HSB.out.cell 1;clear HPi HTi;have b0:wy.cell? ⟨pb,0,none⟩=some (uQ p 0):=(HJB.out pre wy (HJR.out wy HPn.out.fr)).cell 0;obtain⟨Qy,hps,hat,hln⟩:=HPn.out.pq.ex;obtain⟨g0,g1,g2,g3,g4,g5,g6⟩:=hps.cells;have gz:=hps.frozens 2;have hnf:=hps.ok.few;have hne:(zC E qc.s).text≠[]:=by rw [HTQ.out];rintro rfl;rw [zH4]at et;exact absurd et Yd
       obtain⟨_,hsn,_⟩:=hps.tok (.inr hne);have wn:IntKind.i64.wrap ((qc.s.n:Int)+1)=(qc.s.n:Int)+1:=by rw [lL];omega
       have hP2:=hps.setN (qc.s.n+1) hsn;rw [show((qc.s.n+1:Nat):Int)=(qc.s.n:Int)+1 from by omega]at hP2;have HP2:Hid (PQ B wo p E T ⟨zE qc.s,qc.l⟩ (wy.setCell ⟨p,2,none⟩ (uI ((qc.s.n:Int)+1)))):=Ph (HPn.out.trans (HPn.out.pq.pp hps hat hln hP2));have HT2:=Ph (hP2.bk HTn.out btp);clear hps hat hln hP2 hne hsn hnf;go_wp2_with fail
       generalize (World.setCell _ _ _)=wz at *;go_roundw
       case rel=>exact⟨2,rfl,Yo,HT2,.inr ⟨Yo,by rw [hmi];rfl,rfl,HP2⟩⟩
       case measure=>simp [intOf]
      ·clear t0;clear t2;clear t3;clear t4;clear t5;have et:(([102,108,117,115,104]:List UInt8) == (str tt).toList)=false:=by rw [t1];exact lG hmi
       have ix:∀ w,(Instr.index 200 (.agg #[.string ⟨#[119,114,105,116,101]⟩,uF 148,.string ⟨#[102,108,117,115,104]⟩,uF 149,.string ⟨#[98,97,114,114,105,101,114]⟩,uF 150,.string ⟨#[105,102]⟩,uF 151,.string ⟨#[119,104,105,108,101]⟩,uF 152,.string ⟨#[99,97,108,108]⟩,uF 153]) (uI 1)).run Tryz.prog w=.ok (.agg #[.string ⟨#[102,108,117,115,104]⟩,uF 149]) w:=fun _=>Yk;go_upto_region 7 with fail
       clear ix;have HSB:=Ph (Bk.new wr 199 #[.string ⟨#[102,108,117,115,104]⟩,uF 149]);have hbS:Below wr.heap.size wr (wr.alloc (.cells #[.string ⟨#[102,108,117,115,104]⟩,uF 149] 199)):=zB;have HPn:=Ph (HPi.out.then hbS);have HTn:=Ph (zD HTi.out hbS);clear hbS;generalize (wr.alloc _)=wy at *;generalize wr.heap.size=bs' at *;have s0:wy.cell? ⟨bs',0,none⟩=some (.string ⟨#[102,108,117,115,104]⟩):=HSB.out.cell 0;have s1:wy.cell? ⟨bs',1,none⟩=some (uF 149):=HSB.out.cell 1;clear HPi HTi;go_wp2_with fail
       go_roundw
       case rel=>exact⟨2,rfl,Yo,HTn,.inl ⟨Yo,rfl,rfl,HPn⟩⟩
       case measure=>simp [intOf]
     ·have hmi:m≠1:=by omega
      clear t0;clear t2;clear t3;clear t4;clear t5;have et:(([102,108,117,115,104]:List UInt8) == (str tt).toList)=false:=by rw [t1];exact lG hmi
      have ix:∀ w,(Instr.index 200 (.agg #[.string ⟨#[119,114,105,116,101]⟩,uF 148,.string ⟨#[102,108,117,115,104]⟩,uF 149,.string ⟨#[98,97,114,114,105,101,114]⟩,uF 150,.string ⟨#[105,102]⟩,uF 151,.string ⟨#[119,104,105,108,101]⟩,uF 152,.string ⟨#[99,97,108,108]⟩,uF 153]) (uI 1)).run Tryz.prog w=.ok (.agg #[.string ⟨#[102,108,117,115,104]⟩,uF 149]) w:=fun _=>Yk;go_upto_region 7 with fail
      clear ix;have HSB:=Ph (Bk.new wr 199 #[.string ⟨#[102,108,117,115,104]⟩,uF 149]);have hbS:Below wr.heap.size wr (wr.alloc (.cells #[.string ⟨#[102,108,117,115,104]⟩,uF 149] 199)):=zB;have HPn:=Ph (HPi.out.then hbS);have HTn:=Ph (zD HTi.out hbS);clear hbS;generalize (wr.alloc _)=wy at *;generalize wr.heap.size=bs' at *;have s0:wy.cell? ⟨bs',0,none⟩=some (.string ⟨#[102,108,117,115,104]⟩):=HSB.out.cell 0;have s1:wy.cell? ⟨bs',1,none⟩=some (uF 149):=HSB.out.cell 1;clear HPi HTi;go_wp2_with fail
      go_roundw
      case rel=>exact⟨2,rfl,Yo,HTn,.inr ⟨Yo,rfl,rfl,HPn⟩⟩
      case measure=>simp [intOf]
    ·rcases hdis with⟨him,rfl,rfl,HPi⟩ | ⟨him,rfl,rfl,HPi⟩
     ·by_cases hmi:m=2
      ·clear t0;clear t1;clear t3;clear t4;clear t5;have et:(([98,97,114,114,105,101,114]:List UInt8) == (str tt).toList)=true:=by rw [t2];exact lH hmi
       have ix:∀ w,(Instr.index 200 (.agg #[.string ⟨#[119,114,105,116,101]⟩,uF 148,.string ⟨#[102,108,117,115,104]⟩,uF 149,.string ⟨#[98,97,114,114,105,101,114]⟩,uF 150,.string ⟨#[105,102]⟩,uF 151,.string ⟨#[119,104,105,108,101]⟩,uF 152,.string ⟨#[99,97,108,108]⟩,uF 153]) (uI 2)).run Tryz.prog w=.ok (.agg #[.string ⟨#[98,97,114,114,105,101,114]⟩,uF 150]) w:=fun _=>Yk;go_upto_region 7 with fail
       clear ix;have HSB:=Ph (Bk.new wr 199 #[.string ⟨#[98,97,114,114,105,101,114]⟩,uF 150]);have hbS:Below wr.heap.size wr (wr.alloc (.cells #[.string ⟨#[98,97,114,114,105,101,114]⟩,uF 150] 199)):=zB;have HPn:=Ph (HPi.out.then hbS);have HTn:=Ph (zD HTi.out hbS);clear hbS;generalize (wr.alloc _)=wy at *;generalize wr.heap.size=bs' at *;have s0:wy.cell? ⟨bs',0,none⟩=some (.string ⟨#[98,97,114,114,105,101,114]⟩):=HSB.out.cell 0;have s1:wy.cell? ⟨bs',1,none⟩=some (uF 150):=HSB.out.cell 1;clear HPi HTi;have b0:wy.cell? ⟨pb,0,none⟩=some (uQ p 0):=(HJB.out pre wy (HJR.out wy HPn.out.fr)).cell 0;obtain⟨Qy,hps,hat,hln⟩:=HPn.out.pq.ex;obtain⟨g0,g1,g2,g3,g4,g5,g6⟩:=hps.cells;have gz:=hps.frozens 2;have hnf:=hps.ok.few;have hne:(zC E qc.s).text≠[]:=by rw [HTQ.out];rintro rfl;rw [zH4]at et;exact absurd et Yd
       obtain⟨_,hsn,_⟩:=hps.tok (.inr hne);have wn:IntKind.i64.wrap ((qc.s.n:Int)+1)=(qc.s.n:Int)+1:=by rw [lL];omega
       have hP2:=hps.setN (qc.s.n+1) hsn;rw [show((qc.s.n+1:Nat):Int)=(qc.s.n:Int)+1 from by omega]at hP2;have HP2:Hid (PQ B wo p E T ⟨zE qc.s,qc.l⟩ (wy.setCell ⟨p,2,none⟩ (uI ((qc.s.n:Int)+1)))):=Ph (HPn.out.trans (HPn.out.pq.pp hps hat hln hP2));have HT2:=Ph (hP2.bk HTn.out btp);clear hps hat hln hP2 hne hsn hnf;go_wp2_with fail
       generalize (World.setCell _ _ _)=wz at *;go_roundw
       case rel=>exact⟨3,rfl,Yo,HT2,.inr ⟨Yo,by rw [hmi];rfl,rfl,HP2⟩⟩
       case measure=>simp [intOf]
      ·clear t0;clear t1;clear t3;clear t4;clear t5;have et:(([98,97,114,114,105,101,114]:List UInt8) == (str tt).toList)=false:=by rw [t2];exact lG hmi
       have ix:∀ w,(Instr.index 200 (.agg #[.string ⟨#[119,114,105,116,101]⟩,uF 148,.string ⟨#[102,108,117,115,104]⟩,uF 149,.string ⟨#[98,97,114,114,105,101,114]⟩,uF 150,.string ⟨#[105,102]⟩,uF 151,.string ⟨#[119,104,105,108,101]⟩,uF 152,.string ⟨#[99,97,108,108]⟩,uF 153]) (uI 2)).run Tryz.prog w=.ok (.agg #[.string ⟨#[98,97,114,114,105,101,114]⟩,uF 150]) w:=fun _=>Yk;go_upto_region 7 with fail
       clear ix;have HSB:=Ph (Bk.new wr 199 #[.string ⟨#[98,97,114,114,105,101,114]⟩,uF 150]);have hbS:Below wr.heap.size wr (wr.alloc (.cells #[.string ⟨#[98,97,114,114,105,101,114]⟩,uF 150] 199)):=zB;have HPn:=Ph (HPi.out.then hbS);have HTn:=Ph (zD HTi.out hbS);clear hbS;generalize (wr.alloc _)=wy at *;generalize wr.heap.size=bs' at *;have s0:wy.cell? ⟨bs',0,none⟩=some (.string ⟨#[98,97,114,114,105,101,114]⟩):=HSB.out.cell 0;have s1:wy.cell? ⟨bs',1,none⟩=some (uF 150):=HSB.out.cell 1;clear HPi HTi;go_wp2_with fail
       go_roundw
       case rel=>exact⟨3,rfl,Yo,HTn,.inl ⟨Yo,rfl,rfl,HPn⟩⟩
       case measure=>simp [intOf]
     ·have hmi:m≠2:=by omega
      clear t0;clear t1;clear t3;clear t4;clear t5;have et:(([98,97,114,114,105,101,114]:List UInt8) == (str tt).toList)=false:=by rw [t2];exact lG hmi
      have ix:∀ w,(Instr.index 200 (.agg #[.string ⟨#[119,114,105,116,101]⟩,uF 148,.string ⟨#[102,108,117,115,104]⟩,uF 149,.string ⟨#[98,97,114,114,105,101,114]⟩,uF 150,.string ⟨#[105,102]⟩,uF 151,.string ⟨#[119,104,105,108,101]⟩,uF 152,.string ⟨#[99,97,108,108]⟩,uF 153]) (uI 2)).run Tryz.prog w=.ok (.agg #[.string ⟨#[98,97,114,114,105,101,114]⟩,uF 150]) w:=fun _=>Yk;go_upto_region 7 with fail
      clear ix;have HSB:=Ph (Bk.new wr 199 #[.string ⟨#[98,97,114,114,105,101,114]⟩,uF 150]);have hbS:Below wr.heap.size wr (wr.alloc (.cells #[.string ⟨#[98,97,114,114,105,101,114]⟩,uF 150] 199)):=zB;have HPn:=Ph (HPi.out.then hbS);have HTn:=Ph (zD HTi.out hbS);clear hbS;generalize (wr.alloc _)=wy at *;generalize wr.heap.size=bs' at *;have s0:wy.cell? ⟨bs',0,none⟩=some (.string ⟨#[98,97,114,114,105,101,114]⟩):=HSB.out.cell 0;have s1:wy.cell? ⟨bs',1,none⟩=some (uF 150):=HSB.out.cell 1;clear HPi HTi;go_wp2_with fail
      go_roundw
      case rel=>exact⟨3,rfl,Yo,HTn,.inr ⟨Yo,rfl,rfl,HPn⟩⟩
      case measure=>simp [intOf]
    ·rcases hdis with⟨him,rfl,rfl,HPi⟩ | ⟨him,rfl,rfl,HPi⟩
     ·by_cases hmi:m=3
      ·clear t0;clear t1;clear t2;clear t4;clear t5;have et:(([105,102]:List UInt8) == (str tt).toList)=true:=by rw [t3];exact lH hmi
       have ix:∀ w,(Instr.index 200 (.agg #[.string ⟨#[119,114,105,116,101]⟩,uF 148,.string ⟨#[102,108,117,115,104]⟩,uF 149,.string ⟨#[98,97,114,114,105,101,114]⟩,uF 150,.string ⟨#[105,102]⟩,uF 151,.string ⟨#[119,104,105,108,101]⟩,uF 152,.string ⟨#[99,97,108,108]⟩,uF 153]) (uI 3)).run Tryz.prog w=.ok (.agg #[.string ⟨#[105,102]⟩,uF 151]) w:=fun _=>Yk;go_upto_region 7 with fail
       clear ix;have HSB:=Ph (Bk.new wr 199 #[.string ⟨#[105,102]⟩,uF 151]);have hbS:Below wr.heap.size wr (wr.alloc (.cells #[.string ⟨#[105,102]⟩,uF 151] 199)):=zB;have HPn:=Ph (HPi.out.then hbS);have HTn:=Ph (zD HTi.out hbS);clear hbS;generalize (wr.alloc _)=wy at *;generalize wr.heap.size=bs' at *;have s0:wy.cell? ⟨bs',0,none⟩=some (.string ⟨#[105,102]⟩):=HSB.out.cell 0;have s1:wy.cell? ⟨bs',1,none⟩=some (uF 151):=HSB.out.cell 1;clear HPi HTi;have b0:wy.cell? ⟨pb,0,none⟩=some (uQ p 0):=(HJB.out pre wy (HJR.out wy HPn.out.fr)).cell 0;obtain⟨Qy,hps,hat,hln⟩:=HPn.out.pq.ex;obtain⟨g0,g1,g2,g3,g4,g5,g6⟩:=hps.cells;have gz:=hps.frozens 2;have hnf:=hps.ok.few;have hne:(zC E qc.s).text≠[]:=by rw [HTQ.out];rintro rfl;rw [zH4]at et;exact absurd et Yd
       obtain⟨_,hsn,_⟩:=hps.tok (.inr hne);have wn:IntKind.i64.wrap ((qc.s.n:Int)+1)=(qc.s.n:Int)+1:=by rw [lL];omega
       have hP2:=hps.setN (qc.s.n+1) hsn;rw [show((qc.s.n+1:Nat):Int)=(qc.s.n:Int)+1 from by omega]at hP2;have HP2:Hid (PQ B wo p E T ⟨zE qc.s,qc.l⟩ (wy.setCell ⟨p,2,none⟩ (uI ((qc.s.n:Int)+1)))):=Ph (HPn.out.trans (HPn.out.pq.pp hps hat hln hP2));have HT2:=Ph (hP2.bk HTn.out btp);clear hps hat hln hP2 hne hsn hnf;go_wp2_with fail
       generalize (World.setCell _ _ _)=wz at *;go_roundw
       case rel=>exact⟨4,rfl,Yo,HT2,.inr ⟨Yo,by rw [hmi];rfl,rfl,HP2⟩⟩
       case measure=>simp [intOf]
      ·clear t0;clear t1;clear t2;clear t4;clear t5;have et:(([105,102]:List UInt8) == (str tt).toList)=false:=by rw [t3];exact lG hmi
       have ix:∀ w,(Instr.index 200 (.agg #[.string ⟨#[119,114,105,116,101]⟩,uF 148,.string ⟨#[102,108,117,115,104]⟩,uF 149,.string ⟨#[98,97,114,114,105,101,114]⟩,uF 150,.string ⟨#[105,102]⟩,uF 151,.string ⟨#[119,104,105,108,101]⟩,uF 152,.string ⟨#[99,97,108,108]⟩,uF 153]) (uI 3)).run Tryz.prog w=.ok (.agg #[.string ⟨#[105,102]⟩,uF 151]) w:=fun _=>Yk;go_upto_region 7 with fail
       clear ix;have HSB:=Ph (Bk.new wr 199 #[.string ⟨#[105,102]⟩,uF 151]);have hbS:Below wr.heap.size wr (wr.alloc (.cells #[.string ⟨#[105,102]⟩,uF 151] 199)):=zB;have HPn:=Ph (HPi.out.then hbS);have HTn:=Ph (zD HTi.out hbS);clear hbS;generalize (wr.alloc _)=wy at *;generalize wr.heap.size=bs' at *;have s0:wy.cell? ⟨bs',0,none⟩=some (.string ⟨#[105,102]⟩):=HSB.out.cell 0;have s1:wy.cell? ⟨bs',1,none⟩=some (uF 151):=HSB.out.cell 1;clear HPi HTi;go_wp2_with fail
       go_roundw
       case rel=>exact⟨4,rfl,Yo,HTn,.inl ⟨Yo,rfl,rfl,HPn⟩⟩
       case measure=>simp [intOf]
     ·have hmi:m≠3:=by omega
      clear t0;clear t1;clear t2;clear t4;clear t5;have et:(([105,102]:List UInt8) == (str tt).toList)=false:=by rw [t3];exact lG hmi
      have ix:∀ w,(Instr.index 200 (.agg #[.string ⟨#[119,114,105,116,101]⟩,uF 148,.string ⟨#[102,108,117,115,104]⟩,uF 149,.string ⟨#[98,97,114,114,105,101,114]⟩,uF 150,.string ⟨#[105,102]⟩,uF 151,.string ⟨#[119,104,105,108,101]⟩,uF 152,.string ⟨#[99,97,108,108]⟩,uF 153]) (uI 3)).run Tryz.prog w=.ok (.agg #[.string ⟨#[105,102]⟩,uF 151]) w:=fun _=>Yk;go_upto_region 7 with fail
      clear ix;have HSB:=Ph (Bk.new wr 199 #[.string ⟨#[105,102]⟩,uF 151]);have hbS:Below wr.heap.size wr (wr.alloc (.cells #[.string ⟨#[105,102]⟩,uF 151] 199)):=zB;have HPn:=Ph (HPi.out.then hbS);have HTn:=Ph (zD HTi.out hbS);clear hbS;generalize (wr.alloc _)=wy at *;generalize wr.heap.size=bs' at *;have s0:wy.cell? ⟨bs',0,none⟩=some (.string ⟨#[105,102]⟩):=HSB.out.cell 0;have s1:wy.cell? ⟨bs',1,none⟩=some (uF 151):=HSB.out.cell 1;clear HPi HTi;go_wp2_with fail
      go_roundw
      case rel=>exact⟨4,rfl,Yo,HTn,.inr ⟨Yo,rfl,rfl,HPn⟩⟩
      case measure=>simp [intOf]
    ·rcases hdis with⟨him,rfl,rfl,HPi⟩ | ⟨him,rfl,rfl,HPi⟩
     ·by_cases hmi:m=4
      ·clear t0;clear t1;clear t2;clear t3;clear t5;have et:(([119,104,105,108,101]:List UInt8) == (str tt).toList)=true:=by rw [t4];exact lH hmi
       have ix:∀ w,(Instr.index 200 (.agg #[.string ⟨#[119,114,105,116,101]⟩,uF 148,.string ⟨#[102,108,117,115,104]⟩,uF 149,.string ⟨#[98,97,114,114,105,101,114]⟩,uF 150,.string ⟨#[105,102]⟩,uF 151,.string ⟨#[119,104,105,108,101]⟩,uF 152,.string ⟨#[99,97,108,108]⟩,uF 153]) (uI 4)).run Tryz.prog w=.ok (.agg #[.string ⟨#[119,104,105,108,101]⟩,uF 152]) w:=fun _=>Yk;go_upto_region 7 with fail
       clear ix;have HSB:=Ph (Bk.new wr 199 #[.string ⟨#[119,104,105,108,101]⟩,uF 152]);have hbS:Below wr.heap.size wr (wr.alloc (.cells #[.string ⟨#[119,104,105,108,101]⟩,uF 152] 199)):=zB;have HPn:=Ph (HPi.out.then hbS);have HTn:=Ph (zD HTi.out hbS);clear hbS;generalize (wr.alloc _)=wy at *;generalize wr.heap.size=bs' at *;have s0:wy.cell? ⟨bs',0,none⟩=some (.string ⟨#[119,104,105,108,101]⟩):=HSB.out.cell 0;have s1:wy.cell? ⟨bs',1,none⟩=some (uF 152):=HSB.out.cell 1;clear HPi HTi;have b0:wy.cell? ⟨pb,0,none⟩=some (uQ p 0):=(HJB.out pre wy (HJR.out wy HPn.out.fr)).cell 0;obtain⟨Qy,hps,hat,hln⟩:=HPn.out.pq.ex;obtain⟨g0,g1,g2,g3,g4,g5,g6⟩:=hps.cells;have gz:=hps.frozens 2;have hnf:=hps.ok.few;have hne:(zC E qc.s).text≠[]:=by rw [HTQ.out];rintro rfl;rw [zH4]at et;exact absurd et Yd
       obtain⟨_,hsn,_⟩:=hps.tok (.inr hne);have wn:IntKind.i64.wrap ((qc.s.n:Int)+1)=(qc.s.n:Int)+1:=by rw [lL];omega
       have hP2:=hps.setN (qc.s.n+1) hsn;rw [show((qc.s.n+1:Nat):Int)=(qc.s.n:Int)+1 from by omega]at hP2;have HP2:Hid (PQ B wo p E T ⟨zE qc.s,qc.l⟩ (wy.setCell ⟨p,2,none⟩ (uI ((qc.s.n:Int)+1)))):=Ph (HPn.out.trans (HPn.out.pq.pp hps hat hln hP2));have HT2:=Ph (hP2.bk HTn.out btp);clear hps hat hln hP2 hne hsn hnf;go_wp2_with fail
       generalize (World.setCell _ _ _)=wz at *;go_roundw
       case rel=>exact⟨5,rfl,Yo,HT2,.inr ⟨Yo,by rw [hmi];rfl,rfl,HP2⟩⟩
       case measure=>simp [intOf]
      ·clear t0;clear t1;clear t2;clear t3;clear t5;have et:(([119,104,105,108,101]:List UInt8) == (str tt).toList)=false:=by rw [t4];exact lG hmi
       have ix:∀ w,(Instr.index 200 (.agg #[.string ⟨#[119,114,105,116,101]⟩,uF 148,.string ⟨#[102,108,117,115,104]⟩,uF 149,.string ⟨#[98,97,114,114,105,101,114]⟩,uF 150,.string ⟨#[105,102]⟩,uF 151,.string ⟨#[119,104,105,108,101]⟩,uF 152,.string ⟨#[99,97,108,108]⟩,uF 153]) (uI 4)).run Tryz.prog w=.ok (.agg #[.string ⟨#[119,104,105,108,101]⟩,uF 152]) w:=fun _=>Yk;go_upto_region 7 with fail
       clear ix;have HSB:=Ph (Bk.new wr 199 #[.string ⟨#[119,104,105,108,101]⟩,uF 152]);have hbS:Below wr.heap.size wr (wr.alloc (.cells #[.string ⟨#[119,104,105,108,101]⟩,uF 152] 199)):=zB;have HPn:=Ph (HPi.out.then hbS);have HTn:=Ph (zD HTi.out hbS);clear hbS;generalize (wr.alloc _)=wy at *;generalize wr.heap.size=bs' at *;have s0:wy.cell? ⟨bs',0,none⟩=some (.string ⟨#[119,104,105,108,101]⟩):=HSB.out.cell 0;have s1:wy.cell? ⟨bs',1,none⟩=some (uF 152):=HSB.out.cell 1;clear HPi HTi;go_wp2_with fail
       go_roundw
       case rel=>exact⟨5,rfl,Yo,HTn,.inl ⟨Yo,rfl,rfl,HPn⟩⟩
       case measure=>simp [intOf]
     ·have hmi:m≠4:=by omega
      clear t0;clear t1;clear t2;clear t3;clear t5;have et:(([119,104,105,108,101]:List UInt8) == (str tt).toList)=false:=by rw [t4];exact lG hmi
      have ix:∀ w,(Instr.index 200 (.agg #[.string ⟨#[119,114,105,116,101]⟩,uF 148,.string ⟨#[102,108,117,115,104]⟩,uF 149,.string ⟨#[98,97,114,114,105,101,114]⟩,uF 150,.string ⟨#[105,102]⟩,uF 151,.string ⟨#[119,104,105,108,101]⟩,uF 152,.string ⟨#[99,97,108,108]⟩,uF 153]) (uI 4)).run Tryz.prog w=.ok (.agg #[.string ⟨#[119,104,105,108,101]⟩,uF 152]) w:=fun _=>Yk;go_upto_region 7 with fail
      clear ix;have HSB:=Ph (Bk.new wr 199 #[.string ⟨#[119,104,105,108,101]⟩,uF 152]);have hbS:Below wr.heap.size wr (wr.alloc (.cells #[.string ⟨#[119,104,105,108,101]⟩,uF 152] 199)):=zB;have HPn:=Ph (HPi.out.then hbS);have HTn:=Ph (zD HTi.out hbS);clear hbS;generalize (wr.alloc _)=wy at *;generalize wr.heap.size=bs' at *;have s0:wy.cell? ⟨bs',0,none⟩=some (.string ⟨#[119,104,105,108,101]⟩):=HSB.out.cell 0;have s1:wy.cell? ⟨bs',1,none⟩=some (uF 152):=HSB.out.cell 1;clear HPi HTi;go_wp2_with fail
      go_roundw
      case rel=>exact⟨5,rfl,Yo,HTn,.inr ⟨Yo,rfl,rfl,HPn⟩⟩
      case measure=>simp [intOf]
    ·rcases hdis with⟨him,rfl,rfl,HPi⟩ | ⟨him,rfl,rfl,HPi⟩
     ·by_cases hmi:m=5
      ·clear t0;clear t1;clear t2;clear t3;clear t4;have et:(([99,97,108,108]:List UInt8) == (str tt).toList)=true:=by rw [t5];exact lH hmi
       have ix:∀ w,(Instr.index 200 (.agg #[.string ⟨#[119,114,105,116,101]⟩,uF 148,.string ⟨#[102,108,117,115,104]⟩,uF 149,.string ⟨#[98,97,114,114,105,101,114]⟩,uF 150,.string ⟨#[105,102]⟩,uF 151,.string ⟨#[119,104,105,108,101]⟩,uF 152,.string ⟨#[99,97,108,108]⟩,uF 153]) (uI 5)).run Tryz.prog w=.ok (.agg #[.string ⟨#[99,97,108,108]⟩,uF 153]) w:=fun _=>Yk;go_upto_region 7 with fail
       clear ix;have HSB:=Ph (Bk.new wr 199 #[.string ⟨#[99,97,108,108]⟩,uF 153]);have hbS:Below wr.heap.size wr (wr.alloc (.cells #[.string ⟨#[99,97,108,108]⟩,uF 153] 199)):=zB;have HPn:=Ph (HPi.out.then hbS);have HTn:=Ph (zD HTi.out hbS);clear hbS;generalize (wr.alloc _)=wy at *;generalize wr.heap.size=bs' at *;have s0:wy.cell? ⟨bs',0,none⟩=some (.string ⟨#[99,97,108,108]⟩):=HSB.out.cell 0;have s1:wy.cell? ⟨bs',1,none⟩=some (uF 153):=HSB.out.cell 1;clear HPi HTi;have b0:wy.cell? ⟨pb,0,none⟩=some (uQ p 0):=(HJB.out pre wy (HJR.out wy HPn.out.fr)).cell 0;obtain⟨Qy,hps,hat,hln⟩:=HPn.out.pq.ex;obtain⟨g0,g1,g2,g3,g4,g5,g6⟩:=hps.cells;have gz:=hps.frozens 2;have hnf:=hps.ok.few;have hne:(zC E qc.s).text≠[]:=by rw [HTQ.out];rintro rfl;rw [zH4]at et;exact absurd et Yd
       obtain⟨_,hsn,_⟩:=hps.tok (.inr hne);have wn:IntKind.i64.wrap ((qc.s.n:Int)+1)=(qc.s.n:Int)+1:=by rw [lL];omega
       have hP2:=hps.setN (qc.s.n+1) hsn;rw [show((qc.s.n+1:Nat):Int)=(qc.s.n:Int)+1 from by omega]at hP2;have HP2:Hid (PQ B wo p E T ⟨zE qc.s,qc.l⟩ (wy.setCell ⟨p,2,none⟩ (uI ((qc.s.n:Int)+1)))):=Ph (HPn.out.trans (HPn.out.pq.pp hps hat hln hP2));have HT2:=Ph (hP2.bk HTn.out btp);clear hps hat hln hP2 hne hsn hnf;go_wp2_with fail
       generalize (World.setCell _ _ _)=wz at *;go_roundw
       case rel=>exact⟨6,rfl,Yo,HT2,.inr ⟨Yo,by rw [hmi];rfl,rfl,HP2⟩⟩
       case measure=>simp [intOf]
      ·clear t0;clear t1;clear t2;clear t3;clear t4;have et:(([99,97,108,108]:List UInt8) == (str tt).toList)=false:=by rw [t5];exact lG hmi
       have ix:∀ w,(Instr.index 200 (.agg #[.string ⟨#[119,114,105,116,101]⟩,uF 148,.string ⟨#[102,108,117,115,104]⟩,uF 149,.string ⟨#[98,97,114,114,105,101,114]⟩,uF 150,.string ⟨#[105,102]⟩,uF 151,.string ⟨#[119,104,105,108,101]⟩,uF 152,.string ⟨#[99,97,108,108]⟩,uF 153]) (uI 5)).run Tryz.prog w=.ok (.agg #[.string ⟨#[99,97,108,108]⟩,uF 153]) w:=fun _=>Yk;go_upto_region 7 with fail
       clear ix;have HSB:=Ph (Bk.new wr 199 #[.string ⟨#[99,97,108,108]⟩,uF 153]);have hbS:Below wr.heap.size wr (wr.alloc (.cells #[.string ⟨#[99,97,108,108]⟩,uF 153] 199)):=zB;have HPn:=Ph (HPi.out.then hbS);have HTn:=Ph (zD HTi.out hbS);clear hbS;generalize (wr.alloc _)=wy at *;generalize wr.heap.size=bs' at *;have s0:wy.cell? ⟨bs',0,none⟩=some (.string ⟨#[99,97,108,108]⟩):=HSB.out.cell 0;have s1:wy.cell? ⟨bs',1,none⟩=some (uF 153):=HSB.out.cell 1;clear HPi HTi;go_wp2_with fail
       go_roundw
       case rel=>exact⟨6,rfl,Yo,HTn,.inl ⟨Yo,rfl,rfl,HPn⟩⟩
       case measure=>simp [intOf]
     ·have hmi:m≠5:=by omega
      clear t0;clear t1;clear t2;clear t3;clear t4;have et:(([99,97,108,108]:List UInt8) == (str tt).toList)=false:=by rw [t5];exact lG hmi
      have ix:∀ w,(Instr.index 200 (.agg #[.string ⟨#[119,114,105,116,101]⟩,uF 148,.string ⟨#[102,108,117,115,104]⟩,uF 149,.string ⟨#[98,97,114,114,105,101,114]⟩,uF 150,.string ⟨#[105,102]⟩,uF 151,.string ⟨#[119,104,105,108,101]⟩,uF 152,.string ⟨#[99,97,108,108]⟩,uF 153]) (uI 5)).run Tryz.prog w=.ok (.agg #[.string ⟨#[99,97,108,108]⟩,uF 153]) w:=fun _=>Yk;go_upto_region 7 with fail
      clear ix;have HSB:=Ph (Bk.new wr 199 #[.string ⟨#[99,97,108,108]⟩,uF 153]);have hbS:Below wr.heap.size wr (wr.alloc (.cells #[.string ⟨#[99,97,108,108]⟩,uF 153] 199)):=zB;have HPn:=Ph (HPi.out.then hbS);have HTn:=Ph (zD HTi.out hbS);clear hbS;generalize (wr.alloc _)=wy at *;generalize wr.heap.size=bs' at *;have s0:wy.cell? ⟨bs',0,none⟩=some (.string ⟨#[99,97,108,108]⟩):=HSB.out.cell 0;have s1:wy.cell? ⟨bs',1,none⟩=some (uF 153):=HSB.out.cell 1;clear HPi HTi;go_wp2_with fail
      go_roundw
      case rel=>exact⟨6,rfl,Yo,HTn,.inr ⟨Yo,rfl,rfl,HPn⟩⟩
      case measure=>simp [intOf]
    ·clear t0 t1 t2 t3 t4 t5;generalize wr=W5 at *;have HT:=HTi;clear HTi;rcases hdis with⟨him,rfl,rfl,HP⟩ | ⟨him,rfl,rfl,HP⟩
     ·have hmk:kM tt=none:=HMK.out.elim (fun h=>absurd h.1 Yo) (fun h=>h.2);rcases HST.out with⟨k,x,q1,_,_,hk,_,_⟩ | ⟨x,q1,_,hl,_,hkd,hrs,hr,hn⟩ | ⟨hend,hr⟩
      ·rw [hmk]at hk;cases hk
      ·have hk1:k0=true:=by rw [←HK0.out,lH hkd,hrs];rfl
       subst hk1;have HL:=Ph hl;have hRD:gk≠0:=by rintro rfl;unfold qY at hr;cases hr
       obtain⟨g2,rfl⟩:∃ g2,gk=g2+1:=⟨gk-1,Yo⟩;have HGR:Hid (qc.s.n+1≤q1.s.n):=Ph (jP2 (by rw [HTQ.out];exact hkd) (by rw [HTQ.out];exact hrs) hr);have hqa:qc.at E=⟨qc.s,qc.l++[ta]⟩:=by unfold QSt.at;rw [HTQ.out]
       rw [hqa]at hr;have HPB:=Ph (HJB.out pre W5 (HJR.out W5 HP.out.fr));go_upto_region 12 with fail
       go_cut [] (fun wr=>Hid (PQ B wo p E T ⟨(qc).s,(qc).l++[ta]⟩ wr))
       case first =>
        rename_i J1 K1 hR1 hM1;refine kG7 (qc) W5 pb bt tk ta tf (Ph HP.out.pq) HL HT HPB _ Yk _ _ _ _ _ _ _ _ _ _ _ _ _ _ _ _ _ _ _ _ _ _ _ _ _ _ _ _ _ _ _ _ _ _ _ _ _ _ _ _ _ _ _ _ _ _ _ _ _ _ _ _ _ _ _ _ _ _ _ _ _ _ K1 _ (fun x47 x48 x49 x50 x51 x52 x53 x54 x55 x56 x57 W' h12=>?_);apply hM1;go_meet
        exact Ph (HP.out.trans h12.out)
       case rest =>
       have HPn:=hcut;clear HP HT HPB;have HP:=HPn;clear HPn;generalize wc=W6 at *;have b1:W6.cell? ⟨pb,0,none⟩=some (uQ p 0):=(HJB.out pre W6 (HJR.out W6 HP.out.fr)).cell 0;have HCC:=Ph (jZ2 g2 _ x q1 hr W6 (Ph HP.out.pq));have HQ:Hid (∀ e W,vH B W6 p E T x q1 e W→∃ v,e=.returned (stV x v)∧J pre W∧GY B p E T (x,v,q1) W6 W):=Ph fun e W ⟨v,hv,hs,hq⟩=>⟨v,hv,HJQ.out pre W6 W (HJR.out W6 HP.out.fr) ⟨_,HP.out.pq⟩ hq.fr,⟨hs,hq⟩⟩;have HJ6:Hid (J pre W6):=Ph (HJR.out W6 HP.out.fr);go_upto_region 13 with fail
       refine(wpIn_wide (n:=n)).1 ?_;gi_wp2_with (refine⟨trivial,fun h=>absurd h Yd,?_⟩;gi_at_call 131;refine(callsIn_wide.2 HCC.out).mono ?_;rintro e7 W7 hsp;obtain⟨v,rfl,hJ7,hG7⟩:=HQ.out _ _ hsp;obtain⟨fn7,tmps7,assign7,body7,hy7,hRn⟩:=HY.out pre (x,v,q1) W6 W7 HJ6.out hJ7 hG7 HLT.out;have HRn:=Ph hRn;clear hsp hJ7 hG7 hRn)
       gi_wp2
       refine⟨fun h=>absurd h Yd,HRn.out.mono ?_⟩;clear hy7;rintro e8 W8 ⟨rfl,hJ8,hP8⟩;have HJ8:=Ph hJ8;have HP8:=Ph hP8;clear hJ8 hP8 HRn;gi_wp2
       go_wp2
       go_roundg (g2+1)
       case measure=>omega
       case rel=>exact⟨pre++[(x,v,q1)],q1,Ph (by have:=HGF.out;have:=HGR.out;simp only [Ya,List.length_singleton];omega),Ph (by rw [cB];exact hn),HJ8,HP8⟩
      ·have hk1:k0=false:=by
        rcases hend with h | ⟨_,_,h⟩
        ·exact absurd HE0.out h
        ·rw [←HK0.out];cases hrs:vO tt with
         | true=>simp
         | false =>
           have:tk≠1:=fun e=>h ⟨e,hrs⟩;rw [lG this];rfl
       subst hk1;injection hr with hr1 hr2;subst hr2;go_wp2_with fail
       simp only [Exit.noGoto];go_end0
       exact⟨⟨_,rfl⟩,pre,hr1.symm,HJR.out _ HP.out.fr,HP.out.pq⟩
     ·have hmk:kM tt=some (m+3):=HMK.out.elim (fun h=>h.2) (fun h=>absurd h.1 Yo);rcases HST.out with⟨k,x,q1,_,hl,hk,hr,hn⟩ | ⟨x,q1,_,_,hk,_⟩ | ⟨hend,hr⟩
      ·have HGR:Hid (qc.s.n+1≤q1.s.n):=Ph ((grT E _).read _ (.inr (zD2 hk)) _ _ _ hr);rw [hmk]at hk;injection hk with hk;subst hk;have HL:Hid ((⟨zE qc.s,qc.l⟩:QSt).l.length≤800000000):=Ph hl;have hRD:gk≠0:=by rintro rfl;unfold qY at hr;cases hr
       obtain⟨g2,rfl⟩:∃ g2,gk=g2+1:=⟨gk-1,Yo⟩;have HB2:Hid (qF4 B p E T g2):=Ph (HIH.out g2 (by have:=HGF.out;omega));have HPB:=Ph (HJB.out pre W5 (HJR.out W5 HP.out.fr));go_upto_region 12 with fail
       go_cut [] (fun wr=>Hid (PQ B wo p E T ⟨((⟨zE qc.s,qc.l⟩:QSt)).s,((⟨zE qc.s,qc.l⟩:QSt)).l++[ta]⟩ wr))
       case first =>
        rename_i J1 K1 hR1 hM1;refine kG7 ((⟨zE qc.s,qc.l⟩:QSt)) W5 pb bt tk ta tf (Ph HP.out.pq) HL HT HPB _ Yk _ _ _ _ _ _ _ _ _ _ _ _ _ _ _ _ _ _ _ _ _ _ _ _ _ _ _ _ _ _ _ _ _ _ _ _ _ _ _ _ _ _ _ _ _ _ _ _ _ _ _ _ _ _ _ _ _ _ _ _ _ _ K1 _ (fun x47 x48 x49 x50 x51 x52 x53 x54 x55 x56 x57 W' h12=>?_);apply hM1;go_meet
        exact Ph (HP.out.trans h12.out)
       case rest =>
       have HPn:=hcut;clear HP HT HPB;have HP:=HPn;clear HPn;generalize wc=W6 at *;(try dsimp only at HP);rcases(by omega:m=0∨m=1∨m=2∨m=3∨m=4∨m=5)with rfl | rfl | rfl | rfl | rfl | rfl
       ·simp only [show stF 0=148 from rfl];change qY E (g2+1) 3 _=some (x,q1)at hr;obtain⟨b',x',q1',h1',h2',rfl⟩:=zE4 hr;have b1:W6.cell? ⟨pb,0,none⟩=some (uQ p 0):=(HJB.out pre W6 (HJR.out W6 HP.out.fr)).cell 0;have HCC:=Ph (kG6 g2 _ b' x' q1' q1 h1' h2' W6 (Ph HP.out.pq));have HQ:Hid (∀ e W,vH B W6 p E T (.mk 3 [] [b',x'] 0 [] []) q1 e W→∃ v,e=.returned (stV (.mk 3 [] [b',x'] 0 [] []) v)∧J pre W∧GY B p E T ((.mk 3 [] [b',x'] 0 [] []),v,q1) W6 W):=Ph fun e W ⟨v,hv,hs,hq⟩=>⟨v,hv,HJQ.out pre W6 W (HJR.out W6 HP.out.fr) ⟨_,HP.out.pq⟩ hq.fr,⟨hs,hq⟩⟩;have HJ6:Hid (J pre W6):=Ph (HJR.out W6 HP.out.fr);go_upto_region 13 with fail
        refine(wpIn_wide (n:=n)).1 ?_;gi_wp2_with (refine⟨trivial,fun h=>absurd h Yd,?_⟩;gi_at_call 148;refine(callsIn_wide.2 HCC.out).mono ?_;rintro e7 W7 hsp;obtain⟨v,rfl,hJ7,hG7⟩:=HQ.out _ _ hsp;obtain⟨fn7,tmps7,assign7,body7,hy7,hRn⟩:=HY.out pre ((.mk 3 [] [b',x'] 0 [] []),v,q1) W6 W7 HJ6.out hJ7 hG7 HLT.out;have HRn:=Ph hRn;clear hsp hJ7 hG7 hRn)
        gi_wp2
        refine⟨fun h=>absurd h Yd,HRn.out.mono ?_⟩;clear hy7;rintro e8 W8 ⟨rfl,hJ8,hP8⟩;have HJ8:=Ph hJ8;have HP8:=Ph hP8;clear hJ8 hP8 HRn;gi_wp2
        go_wp2
        go_roundg (g2+1)
        case measure=>omega
        case rel=>exact⟨pre++[((.mk 3 [] [b',x'] 0 [] []),v,q1)],q1,Ph (by have:=HGF.out;have:=HGR.out;simp only [Ya,List.length_singleton];omega),Ph (by rw [cB];exact hn),HJ8,HP8⟩
       ·simp only [show stF 1=149 from rfl];change qY E (g2+1) 4 _=some (x,q1)at hr;obtain⟨rfl,rfl⟩:=zE5 hr;have b1:W6.cell? ⟨pb,0,none⟩=some (uQ p 0):=(HJB.out pre W6 (HJR.out W6 HP.out.fr)).cell 0;have HCC:=Ph (kG5 _ W6 (Ph HP.out.pq));have HQ:Hid (∀ e W,vH B W6 p E T (.mk 4 [] [] 0 [] []) (⟨zE qc.s,qc.l++[ta]⟩:QSt) e W→∃ v,e=.returned (stV (.mk 4 [] [] 0 [] []) v)∧J pre W∧GY B p E T ((.mk 4 [] [] 0 [] []),v,(⟨zE qc.s,qc.l++[ta]⟩:QSt)) W6 W):=Ph fun e W ⟨v,hv,hs,hq⟩=>⟨v,hv,HJQ.out pre W6 W (HJR.out W6 HP.out.fr) ⟨_,HP.out.pq⟩ hq.fr,⟨hs,hq⟩⟩;have HJ6:Hid (J pre W6):=Ph (HJR.out W6 HP.out.fr);go_upto_region 13 with fail
        refine(wpIn_wide (n:=n)).1 ?_;gi_wp2_with (refine⟨trivial,fun h=>absurd h Yd,?_⟩;gi_at_call 149;refine(callsIn_wide.2 HCC.out).mono ?_;rintro e7 W7 hsp;obtain⟨v,rfl,hJ7,hG7⟩:=HQ.out _ _ hsp;obtain⟨fn7,tmps7,assign7,body7,hy7,hRn⟩:=HY.out pre ((.mk 4 [] [] 0 [] []),v,(⟨zE qc.s,qc.l++[ta]⟩:QSt)) W6 W7 HJ6.out hJ7 hG7 HLT.out;have HRn:=Ph hRn;clear hsp hJ7 hG7 hRn)
        gi_wp2
        refine⟨fun h=>absurd h Yd,HRn.out.mono ?_⟩;clear hy7;rintro e8 W8 ⟨rfl,hJ8,hP8⟩;have HJ8:=Ph hJ8;have HP8:=Ph hP8;clear hJ8 hP8 HRn;gi_wp2
        go_wp2
        go_roundg (g2+1)
        case measure=>omega
        case rel=>exact⟨pre++[((.mk 4 [] [] 0 [] []),v,(⟨zE qc.s,qc.l++[ta]⟩:QSt))],(⟨zE qc.s,qc.l++[ta]⟩:QSt),Ph (by have:=HGF.out;have:=HGR.out;simp only [Ya,List.length_singleton];omega),Ph (by rw [cB];exact hn),HJ8,HP8⟩
       ·simp only [show stF 2=150 from rfl];change qY E (g2+1) 5 _=some (x,q1)at hr;obtain⟨rfl,rfl⟩:=zE6 hr;have b1:W6.cell? ⟨pb,0,none⟩=some (uQ p 0):=(HJB.out pre W6 (HJR.out W6 HP.out.fr)).cell 0;have HCC:=Ph (jP1 _ W6 (Ph HP.out.pq));have HQ:Hid (∀ e W,vH B W6 p E T (.mk 5 [] [] 0 [] []) (⟨zE qc.s,qc.l++[ta]⟩:QSt) e W→∃ v,e=.returned (stV (.mk 5 [] [] 0 [] []) v)∧J pre W∧GY B p E T ((.mk 5 [] [] 0 [] []),v,(⟨zE qc.s,qc.l++[ta]⟩:QSt)) W6 W):=Ph fun e W ⟨v,hv,hs,hq⟩=>⟨v,hv,HJQ.out pre W6 W (HJR.out W6 HP.out.fr) ⟨_,HP.out.pq⟩ hq.fr,⟨hs,hq⟩⟩;have HJ6:Hid (J pre W6):=Ph (HJR.out W6 HP.out.fr);go_upto_region 13 with fail
        refine(wpIn_wide (n:=n)).1 ?_;gi_wp2_with (refine⟨trivial,fun h=>absurd h Yd,?_⟩;gi_at_call 150;refine(callsIn_wide.2 HCC.out).mono ?_;rintro e7 W7 hsp;obtain⟨v,rfl,hJ7,hG7⟩:=HQ.out _ _ hsp;obtain⟨fn7,tmps7,assign7,body7,hy7,hRn⟩:=HY.out pre ((.mk 5 [] [] 0 [] []),v,(⟨zE qc.s,qc.l++[ta]⟩:QSt)) W6 W7 HJ6.out hJ7 hG7 HLT.out;have HRn:=Ph hRn;clear hsp hJ7 hG7 hRn)
        gi_wp2
        refine⟨fun h=>absurd h Yd,HRn.out.mono ?_⟩;clear hy7;rintro e8 W8 ⟨rfl,hJ8,hP8⟩;have HJ8:=Ph hJ8;have HP8:=Ph hP8;clear hJ8 hP8 HRn;gi_wp2
        go_wp2
        go_roundg (g2+1)
        case measure=>omega
        case rel=>exact⟨pre++[((.mk 5 [] [] 0 [] []),v,(⟨zE qc.s,qc.l++[ta]⟩:QSt))],(⟨zE qc.s,qc.l++[ta]⟩:QSt),Ph (by have:=HGF.out;have:=HGR.out;simp only [Ya,List.length_singleton];omega),Ph (by rw [cB];exact hn),HJ8,HP8⟩
       ·simp only [show stF 3=151 from rfl];change qY E (g2+1) 6 _=some (x,q1)at hr;have b1:W6.cell? ⟨pb,0,none⟩=some (uQ p 0):=(HJB.out pre W6 (HJR.out W6 HP.out.fr)).cell 0;have HCC:=Ph (jZ1 g2 HB2.out _ x q1 hr W6 (Ph HP.out.pq));have HQ:Hid (∀ e W,vH B W6 p E T x q1 e W→∃ v,e=.returned (stV x v)∧J pre W∧GY B p E T (x,v,q1) W6 W):=Ph fun e W ⟨v,hv,hs,hq⟩=>⟨v,hv,HJQ.out pre W6 W (HJR.out W6 HP.out.fr) ⟨_,HP.out.pq⟩ hq.fr,⟨hs,hq⟩⟩;have HJ6:Hid (J pre W6):=Ph (HJR.out W6 HP.out.fr);go_upto_region 13 with fail
        refine(wpIn_wide (n:=n)).1 ?_;gi_wp2_with (refine⟨trivial,fun h=>absurd h Yd,?_⟩;gi_at_call 151;refine(callsIn_wide.2 HCC.out).mono ?_;rintro e7 W7 hsp;obtain⟨v,rfl,hJ7,hG7⟩:=HQ.out _ _ hsp;obtain⟨fn7,tmps7,assign7,body7,hy7,hRn⟩:=HY.out pre (x,v,q1) W6 W7 HJ6.out hJ7 hG7 HLT.out;have HRn:=Ph hRn;clear hsp hJ7 hG7 hRn)
        gi_wp2
        refine⟨fun h=>absurd h Yd,HRn.out.mono ?_⟩;clear hy7;rintro e8 W8 ⟨rfl,hJ8,hP8⟩;have HJ8:=Ph hJ8;have HP8:=Ph hP8;clear hJ8 hP8 HRn;gi_wp2
        go_wp2
        go_roundg (g2+1)
        case measure=>omega
        case rel=>exact⟨pre++[(x,v,q1)],q1,Ph (by have:=HGF.out;have:=HGR.out;simp only [Ya,List.length_singleton];omega),Ph (by rw [cB];exact hn),HJ8,HP8⟩
       ·simp only [show stF 4=152 from rfl];change qY E (g2+1) 7 _=some (x,q1)at hr;have b1:W6.cell? ⟨pb,0,none⟩=some (uQ p 0):=(HJB.out pre W6 (HJR.out W6 HP.out.fr)).cell 0;have HCC:=Ph (kM7 g2 HB2.out _ x q1 hr W6 (Ph HP.out.pq));have HQ:Hid (∀ e W,vH B W6 p E T x q1 e W→∃ v,e=.returned (stV x v)∧J pre W∧GY B p E T (x,v,q1) W6 W):=Ph fun e W ⟨v,hv,hs,hq⟩=>⟨v,hv,HJQ.out pre W6 W (HJR.out W6 HP.out.fr) ⟨_,HP.out.pq⟩ hq.fr,⟨hs,hq⟩⟩;have HJ6:Hid (J pre W6):=Ph (HJR.out W6 HP.out.fr);go_upto_region 13 with fail
        refine(wpIn_wide (n:=n)).1 ?_;gi_wp2_with (refine⟨trivial,fun h=>absurd h Yd,?_⟩;gi_at_call 152;refine(callsIn_wide.2 HCC.out).mono ?_;rintro e7 W7 hsp;obtain⟨v,rfl,hJ7,hG7⟩:=HQ.out _ _ hsp;obtain⟨fn7,tmps7,assign7,body7,hy7,hRn⟩:=HY.out pre (x,v,q1) W6 W7 HJ6.out hJ7 hG7 HLT.out;have HRn:=Ph hRn;clear hsp hJ7 hG7 hRn)
        gi_wp2
        refine⟨fun h=>absurd h Yd,HRn.out.mono ?_⟩;clear hy7;rintro e8 W8 ⟨rfl,hJ8,hP8⟩;have HJ8:=Ph hJ8;have HP8:=Ph hP8;clear hJ8 hP8 HRn;gi_wp2
        go_wp2
        go_roundg (g2+1)
        case measure=>omega
        case rel=>exact⟨pre++[(x,v,q1)],q1,Ph (by have:=HGF.out;have:=HGR.out;simp only [Ya,List.length_singleton];omega),Ph (by rw [cB];exact hn),HJ8,HP8⟩
       ·simp only [show stF 5=153 from rfl];change qY E (g2+1) 8 _=some (x,q1)at hr;obtain⟨l',h1',rfl⟩:=zE9 hr;have b1:W6.cell? ⟨pb,0,none⟩=some (uQ p 0):=(HJB.out pre W6 (HJR.out W6 HP.out.fr)).cell 0;have HCC:=Ph (kM6 g2 _ l' q1 h1' W6 (Ph HP.out.pq));have HQ:Hid (∀ e W,vH B W6 p E T (.mk 8 (jA E (zE qc.s)) l' 0 [] []) q1 e W→∃ v,e=.returned (stV (.mk 8 (jA E (zE qc.s)) l' 0 [] []) v)∧J pre W∧GY B p E T ((.mk 8 (jA E (zE qc.s)) l' 0 [] []),v,q1) W6 W):=Ph fun e W ⟨v,hv,hs,hq⟩=>⟨v,hv,HJQ.out pre W6 W (HJR.out W6 HP.out.fr) ⟨_,HP.out.pq⟩ hq.fr,⟨hs,hq⟩⟩;have HJ6:Hid (J pre W6):=Ph (HJR.out W6 HP.out.fr);go_upto_region 13 with fail
        refine(wpIn_wide (n:=n)).1 ?_;gi_wp2_with (refine⟨trivial,fun h=>absurd h Yd,?_⟩;gi_at_call 153;refine(callsIn_wide.2 HCC.out).mono ?_;rintro e7 W7 hsp;obtain⟨v,rfl,hJ7,hG7⟩:=HQ.out _ _ hsp;obtain⟨fn7,tmps7,assign7,body7,hy7,hRn⟩:=HY.out pre ((.mk 8 (jA E (zE qc.s)) l' 0 [] []),v,q1) W6 W7 HJ6.out hJ7 hG7 HLT.out;have HRn:=Ph hRn;clear hsp hJ7 hG7 hRn)
        gi_wp2
        refine⟨fun h=>absurd h Yd,HRn.out.mono ?_⟩;clear hy7;rintro e8 W8 ⟨rfl,hJ8,hP8⟩;have HJ8:=Ph hJ8;have HP8:=Ph hP8;clear hJ8 hP8 HRn;gi_wp2
        go_wp2
        go_roundg (g2+1)
        case measure=>omega
        case rel=>exact⟨pre++[((.mk 8 (jA E (zE qc.s)) l' 0 [] []),v,q1)],q1,Ph (by have:=HGF.out;have:=HGR.out;simp only [Ya,List.length_singleton];omega),Ph (by rw [cB];exact hn),HJ8,HP8⟩
      ·rw [hmk]at hk;cases hk
      ·exfalso;rcases hend with h | ⟨_,h,_⟩
       ·exact h HE0.out
       ·rw [hmk]at h;cases h
  ·have e1:((qc.s.e:Int) == 0)=false:=by simp;omega
   rcases hst with⟨_,_,_,h,_⟩ | ⟨_,_,h,_⟩ | ⟨_,hr⟩
   ·exact absurd h he
   ·exact absurd h he
   ·injection hr with hr1 hr2;subst hr2;go_wp2_with fail
    simp only [Exit.noGoto];go_end0
    exact⟨⟨_,rfl⟩,pre,hr1.symm,HJ.out,HPc.out⟩
end
end
section
open Go.RowKit Go.Shelf
section
variable {n l:Nat} {P:Program} {ops:Array Oper} {Q:Exit→Act→World→Prop} {md:Region.Mode}
theorem qW6 (hq:¬LetsOut Q) {o:Oper} (hd:∀ c,o.op≠.defer c) {K:Act→World→Prop} {a:Act} {w:World} (h:o.wp P a w K Q):o.wpIn (Fence.wide.inRound l) n P a w K Q:=by
 unfold Oper.wpIn Oper.wp at *;refine⟨fun f _=>trivial,?_⟩;rw [show(Fence.wide.inRound l).round=some l from rfl,Oper.semAt_some l _ _ hd];generalize (execOp a.eval o).run P w=r at *;cases r with
 | ok x w' =>
   have hd0:(Fence.wide.inRound l).depth.isSome=true→1≤n:=fun h=>absurd (show(none:Option Nat).isSome=true from h) Yd;cases x with
   | value v=>exact h
   | skip=>exact h
   | defer d=>exact h
   | enter f args=>exact⟨hd0,CallsIn.inRound l (callsIn_wide.2 h)⟩
   | row r args=>exact⟨hd0,fun c cs _=>let⟨v,w2,r,s⟩:=h c cs;⟨v,w2,r,stepsIn_wide.2 s⟩⟩
   | _=>exact False.elim h
 | halt x w'=>cases x <;> simp only [Oper.upon,Oper.uponIn]at h ⊢ <;> exact h
theorem qL9 (hq:¬LetsOut Q) (hd:∀ o∈ops,∀ c,o.op≠.defer c):∀ (k:Nat) (listed:Array Bool) (a:Act) (w:World),wpAny P md ops Q k listed a w→wpAnyIn (Fence.wide.inRound l) n P md ops Q k listed a w:=by
 intro k;induction k with
 | zero=>intro listed a w h;exact h
 | succ k ih =>
   intro listed a w h;refine⟨h.1,fun i hi=>?_⟩;have h1:=h.2 i hi;unfold wpOp at h1;unfold wpOpIn;cases ho:ops[i]? with
   | none=>rw [ho]at h1;exact ih _ _ _ h1
   | some o =>
     rw [ho]at h1;have hm:o∈ops:=Array.mem_of_getElem? ho;simp only at h1 ⊢;split
     ·rename_i hw;rw [lM hw]at h1;rcases h1 with h1 | ⟨_,h1⟩
      ·exact Oper.wpIn_mono (fun a w h=>ih _ a w h) (qW6 hq (hd o hm) h1)
      ·exact absurd h1 hq
     ·rename_i hw;rw [lN hw]at h1;exact⟨fun f _=>trivial,ih _ _ _ h1⟩
theorem qF5 {id:Nat} {a:Act} {w:World} (hm:P.follows .mixedOrders=true) (hq:¬LetsOut Q) (hd:∀ o∈ops,∀ c,o.op≠.defer c)
 (h:wpAny P .any ops Q ops.size (Array.replicate ops.size false) a w.drew):(Code.region id ops true).wpIn (Fence.wide.inRound l) n P Q a w :=
 wpIn_region_any hm (qL9 hq hd _ _ _ _ h)
end
end
end Go.Proofs.YtfdaebgllibphaaGreatDoor
