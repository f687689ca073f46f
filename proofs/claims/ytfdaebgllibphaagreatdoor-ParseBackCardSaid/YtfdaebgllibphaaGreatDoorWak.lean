import Derived.Test.YtfdaebgllibphaaGreatDoorWaj
set_option linter.unusedVariables false
set_option linter.unusedSimpArgs false
set_option maxRecDepth 100000
set_option maxHeartbeats 16000000
namespace Go.Proofs.YtfdaebgllibphaaGreatDoor
open Go.Proofs.Tryz
section
open Go.RowKit Go.PlainAid Go.Shelf
attribute [local go_sem] Oper.semAt_some
abbrev Yi:=Sx×(SV×SV×SV)×QSt
theorem jP2 {E:Env} {q q1:QSt} {g:Nat} {x:Sx} (hk:(zC E q.s).kind=1) (hr:vO (zC E q.s).text=false) (h:qY E (g+1) 0 (q.at E)=some (x,q1)):q.s.n+1≤q1.s.n:=by
 have hb:kJ E q.s=true:=by unfold kJ;rw [hk,hr];rfl
 have hn:zL E (q.at E).s=zE q.s:=by show zL E q.s=zE q.s;unfold zL;rw [hb];rfl
 have hn1:(zL E (q.at E).s).n=q.s.n+1:=by rw [hn];rfl
 rcases vW h with⟨_,r,i,q2,r2,y,h1,h2,h3,h4,_⟩ | ⟨_,y,h4,_⟩
 ·have g1:(zL E (q.at E).s).n≤r.s.n:=zN2 h1;have g2:=yY h2;have g3:=zH3 h3;have g4:(zI E r2.s [61]).n≤q1.s.n:=yY h4;have g5:=xK (E:=E) r2.s [61];omega
 ·have g4:(zI E (zL E (q.at E).s) [61]).n≤q1.s.n:=yY h4;have g5:=xK (E:=E) (zL E (q.at E).s) [61];omega
section
variable {B:Nat} {p:Nat} {E:Env} {T:TV}
structure GY (B:Nat) (p:Nat) (E:Env) (T:TV) (x:Yi) (W0 W:World):Prop where
 s:SxP (fun k=>W0.heap.size≤k) W x.1 x.2.1
 pq:PQ B W0 p E T x.2.2 W
def stF (m:Nat):Nat:=[148,149,150,151,152,153].getD m 131
theorem kG8 (t:List UInt8):∃ m,m≤6∧(([119,114,105,116,101]:List UInt8) == (str t).toList)=decide (m=0)∧(([102,108,117,115,104]:List UInt8) == (str t).toList)=decide (m=1)∧(([98,97,114,114,105,101,114]:List UInt8) == (str t).toList)=decide (m=2)∧(([105,102]:List UInt8) == (str t).toList)=decide (m=3)∧(([119,104,105,108,101]:List UInt8) == (str t).toList)=decide (m=4)∧(([99,97,108,108]:List UInt8) == (str t).toList)=decide (m=5)∧((m<6∧kM t=some (m+3))∨(m=6∧kM t=none)):=by
 have e:=fun u=>zH4 t u;rcases qL8 t with⟨h,h0,h1,h2,h3,h4,h5⟩ | ⟨h,rfl⟩ | ⟨h,rfl⟩ | ⟨h,rfl⟩ | ⟨h,rfl⟩ | ⟨h,rfl⟩ | ⟨h,rfl⟩
 ·exact⟨6,Yo,by rw [e,lG h0];rfl,by rw [e,lG h1];rfl,by rw [e,lG h2];rfl,by rw [e,lG h3];rfl,by rw [e,lG h4];rfl,by rw [e,lG h5];rfl,.inr ⟨rfl,h⟩⟩
 ·exact⟨0,Yo,by rw [e];decide,by rw [e];decide,by rw [e];decide,by rw [e];decide,by rw [e];decide,by rw [e];decide,.inl ⟨Yo,h⟩⟩
 ·exact⟨1,Yo,by rw [e];decide,by rw [e];decide,by rw [e];decide,by rw [e];decide,by rw [e];decide,by rw [e];decide,.inl ⟨Yo,h⟩⟩
 ·exact⟨2,Yo,by rw [e];decide,by rw [e];decide,by rw [e];decide,by rw [e];decide,by rw [e];decide,by rw [e];decide,.inl ⟨Yo,h⟩⟩
 ·exact⟨3,Yo,by rw [e];decide,by rw [e];decide,by rw [e];decide,by rw [e];decide,by rw [e];decide,by rw [e];decide,.inl ⟨Yo,h⟩⟩
 ·exact⟨4,Yo,by rw [e];decide,by rw [e];decide,by rw [e];decide,by rw [e];decide,by rw [e];decide,by rw [e];decide,.inl ⟨Yo,h⟩⟩
 ·exact⟨5,Yo,by rw [e];decide,by rw [e];decide,by rw [e];decide,by rw [e];decide,by rw [e];decide,by rw [e];decide,.inl ⟨Yo,h⟩⟩
theorem jD8 (n l pb f:Nat) (q0:QSt) (lst:List Sx) (q':QSt) (hx:jM E f q0 []=some (lst,q')) (IH:∀ g,g<f→qF4 B p E T g) (W1:World) (hp:Pq B W1 p E T q0) (J:List Yi→World→Prop)
 (hJq:∀ pre W W',J pre W→(∃ q,Pq B W p E T q)→FrQ B p W W'→J pre W') (hJb:∀ pre W,J pre W→Bk W pb 103 #[uQ p 0])
 (hY:∀ pre x W0 W,J pre W0→J pre W→GY B p E T x W0 W→pre.length<1000000000→YieldAt Fence.wide (n-1) prog l #[stV x.1 x.2.1] W fun e W'=>e=.returned (.bool true)∧J (pre++[x]) W'∧Pq B W' p E T x.2.2) (h0:J [] W1) :
 CallsIn Fence.wide n prog 130 #[.func (.yield l) #[] #[],uQ pb 0] W1 fun e W'=>(∃ v,e=.returned v)∧∃ xs:List Yi,xs.map (·.1)=lst∧J xs W'∧Pq B W' p E T q':=by
 have HX:=Ph hx;have HIH:=Ph IH;have HP0:=Ph hp;have HJQ:=Ph hJq;have HJB:=Ph hJb;have HY:=Ph hY;have HJ0:=Ph h0;clear hx IH hp hJq hJb hY h0;refine callsIn_wide.2 ?_;go_enter func130,ntmps130
 go_wp2
 go_step3
 go_wp2
 go_step3
 go_wp2
 go_loopg [] f (fun g wr=>∃ (pre:List Yi) (qc:QSt),Ud (pre.length+g≤f∧pre.length≤qc.s.n)∧Ud (jM E g qc (pre.map (·.1))=some (lst,q'))∧Ud (J pre wr)∧Ud (Pq B wr p E T qc))
 case atStart=>exact⟨[],q0,Ph ⟨by show 0+f≤f;omega,lV _⟩,HX,HJ0,HP0⟩
 case round =>
  obtain⟨pre,qc,HGF,HS,HJ,HPc⟩:=hrel;have HLT:Ud (pre.length<1000000000):=Ph (by have h1:=HGF.o;obtain⟨Qc,hps,_⟩:=HPc.o.ex;have h3:=hps.n;have h4:=hps.ok.few;omega);clear HX HJ0 HP0;generalize wr=wo at *;cases gk with
  | zero=>exact absurd HS.o (by unfold jM;intro h;cases h)
  | succ gk =>
  have hst:=zF1 HS.o;clear HS;obtain⟨Qc,hps,_⟩:=HPc.o.ex;obtain⟨g0,g1,g2,g3,g4,g5,g6⟩:=hps.cells;clear hps;have b0:wo.cell? ⟨pb,0,none⟩=some (uQ p 0):=(HJB.o pre wo HJ.o).cell 0;by_cases he:qc.s.e=0
  ·have e1:((qc.s.e:Int) == 0)=true:=by simp;omega
   have hnx:=fun(w1:World) (h1:Ud (Pq B w1 p E T qc))=>zI6 qc w1 h1;obtain⟨⟨tk,tt,ta,tf⟩,ht⟩:∃ t,zC E qc.s=t:=⟨_,rfl⟩;rw [ht]at hnx hst;dsimp only [nxV,kW]at hnx;(try dsimp only at hst);have HNX:=Ph hnx;have HTQ:=Ph ht;have HP:=Ph (PQ.below HPc.o (lB _ _));have HJR:Ud (∀ W,FrQ B p wo W→J pre W):=Ph fun W hf=>HJQ.o pre wo W HJ.o ⟨qc,HPc.o⟩ hf;have HST:=Ph hst;have HE0:=Ph he;clear hnx ht he hst;go_wp2_with fail
   refine(HNX.o wo HPc).mono ?_;rintro e w1 ⟨rfl,hb⟩;have HQx:=Ph (HP.o.then hb);clear HP;have HP:=HQx;clear HQx;clear hb;clear g0 g1 g2 g3 g4 g5 g6 b0 e1 HNX;have hl_p:p<w1.heap.size:=HP.o.pq.lt;have HPw1:wo.heap.size≤w1.heap.size:=HP.o.fr.size;have HQx:=Ph (HP.o.then (zB (o:=(.cells #[uB tk,uI ta,uI tf] 44))));clear HP;have HP:=HQx;clear HQx;have HT:=Ph (Bk.new w1 44 #[uB tk,uI ta,uI tf]);go_upto_region 2 with fail
   generalize (w1.alloc _)=W1a at *;obtain⟨bt,hblk⟩:∃ b,w1.heap.size=b:=⟨_,rfl⟩;rw [hblk]at HT ⊢;have btp:bt≠p:=Yo;have HWTx:wo.heap.size≤bt:=by have h1:=HPw1;omega
   clear hblk hl_p;have HWT:Ud (wo.heap.size≤bt):=Ph HWTx;obtain⟨k0,hk0⟩:∃ k0,(decide (tk=1) && !vO tt)=k0:=⟨_,rfl⟩;have HK0:=Ph hk0;go_upto_region 3 with fail
   go_cut [6] (fun v6 wx=>v6=.bool k0∧Ud (PQ B wo p E T qc wx)∧Ud (Bk wx bt 44 #[uB tk,uI ta,uI tf]))
   case first =>
    obtain⟨t0,t1,t2⟩:=zJ HT.o;by_cases hk:tk=1
    ·have e2:((tk:Int) == 1)=true:=by simp;omega
     have hk1:(!vO tt)=k0:=by rw [←hk0,lH hk];rfl
     go_wp2_with fail
     refine(jX2 tt _ (Ph HP.o.pq.vr)).mono ?_;rintro e w3 ⟨rfl,hb⟩;go_wp2
     go_meet
     exact⟨by first | rfl | (rw [←hk1];rfl),Ph (HP.o.then hb),Ph (zD HT.o hb)⟩
    ·have e2:((tk:Int) == 1)=false:=by simp;omega
     have hk1:k0=false:=by rw [←hk0,lG hk];rfl
     subst hk1;clear hk0;go_wp2_with fail
     go_meet
     exact⟨rfl,Ph HP.o,Ph HT.o⟩
   case rest =>
   obtain⟨rfl,HPn,HTn⟩:=hcut;clear HP HT;try clear hk0
   have HP:=HPn;have HT:=HTn;clear HPn HTn;generalize wc=W3 at *;go_wp2_with fail
   refine(jD6 W3).mono ?_;rintro e w4 ⟨rfl,hb⟩;have HQx:=Ph (zD HT.o hb);clear HT;have HT:=HQx;clear HQx;have HQx:=Ph (HP.o.then hb);clear HP;have HP:=HQx;clear HQx;clear hb;obtain⟨m,hm6,t0,t1,t2,t3,t4,t5,hmk⟩:=kG8 tt;have HMK:=Ph hmk;clear hmk;have HTL:Ud (w4=w4):=Ph rfl;go_wp2_with fail
   go_loopw [5,6,28] (fun v5 v6 v28 wx=>∃ i:Nat,v28=uI i∧i≤6∧Ud (Bk wx bt 44 #[uB tk,uI ta,uI tf])∧((i≤m∧v5=uF 131∧v6=.bool k0∧Ud (PQ B wo p E T qc wx))∨(m<i∧v5=uF (stF m)∧v6=.bool true∧Ud (PQ B wo p E T ⟨zE qc.s,qc.l⟩ wx)))) (fun _ _ v28 _=>6-(intOf v28).toNat)
   case atStart=>exact⟨0,rfl,Yo,HT,.inl ⟨Yo,rfl,rfl,HP⟩⟩
   case round =>
    obtain⟨i,rfl,hi6,HTi,hdis⟩:=hrel;clear HP HT HTL;rcases(by omega:i=0∨i=1∨i=2∨i=3∨i=4∨i=5∨i=6)with rfl | rfl | rfl | rfl | rfl | rfl | rfl
    ·rcases hdis with⟨him,rfl,rfl,HPi⟩ | ⟨him,rfl,rfl,HPi⟩
     ·by_cases hmi:m=0
      ·clear t1;clear t2;clear t3;clear t4;clear t5;have et:(([119,114,105,116,101]:List UInt8) == (str tt).toList)=true:=by rw [t0];exact lH hmi
       have ix:∀ w,(Instr.index 200 (.agg #[.string ⟨#[119,114,105,116,101]⟩,uF 148,.string ⟨#[102,108,117,115,104]⟩,uF 149,.string ⟨#[98,97,114,114,105,101,114]⟩,uF 150,.string ⟨#[105,102]⟩,uF 151,.string ⟨#[119,104,105,108,101]⟩,uF 152,.string ⟨#[99,97,108,108]⟩,uF 153]) (uI 0)).run prog w=.ok (.agg #[.string ⟨#[119,114,105,116,101]⟩,uF 148]) w:=fun _=>Yk;go_upto_region 7 with fail
       clear ix;have HSB:=Ph (Bk.new wr 199 #[.string ⟨#[119,114,105,116,101]⟩,uF 148]);have hbS:Ue wr (wr.alloc (.cells #[.string ⟨#[119,114,105,116,101]⟩,uF 148] 199)):=zB;have HPn:=Ph (HPi.o.then hbS);have HTn:=Ph (zD HTi.o hbS);clear hbS;generalize (wr.alloc _)=wy at *;generalize wr.heap.size=bs' at *;have s0:wy.cell? ⟨bs',0,none⟩=some (.string ⟨#[119,114,105,116,101]⟩):=HSB.o.cell 0;have s1:wy.cell? ⟨bs',1,none⟩=some (uF 148):=HSB.o.cell 1;clear HPi HTi;have b0:wy.cell? ⟨pb,0,none⟩=some (uQ p 0):=(HJB.o pre wy (HJR.o wy HPn.o.fr)).cell 0;obtain⟨Qy,hps,hat,hln⟩:=HPn.o.pq.ex;obtain⟨g0,g1,g2,g3,g4,g5,g6⟩:=hps.cells;have gz:=hps.frozens 2;have hnf:=hps.ok.few;have hne:(zC E qc.s).text≠[]:=by rw [HTQ.o];rintro rfl;rw [zH4]at et;exact absurd et Yd
       obtain⟨_,hsn,_⟩:=hps.tok (.inr hne);have wn:IntKind.i64.wrap ((qc.s.n:Int)+1)=(qc.s.n:Int)+1:=by rw [lL];omega
       have hP2:=hps.setN (qc.s.n+1) hsn;rw [show((qc.s.n+1:Nat):Int)=(qc.s.n:Int)+1 from by omega]at hP2;have HP2:Ud (PQ B wo p E T ⟨zE qc.s,qc.l⟩ (wy.setCell ⟨p,2,none⟩ (uI ((qc.s.n:Int)+1)))):=Ph (HPn.o.trans (HPn.o.pq.pp hps hat hln hP2));have HT2:=Ph (hP2.bk HTn.o btp);clear hps hat hln hP2 hne hsn hnf;go_wp2_with fail
       generalize (World.setCell _ _ _)=wz at *;go_roundw
       case rel=>exact⟨1,rfl,Yo,HT2,.inr ⟨Yo,by rw [hmi];rfl,rfl,HP2⟩⟩
       case measure=>simp [intOf]
      ·clear t1;clear t2;clear t3;clear t4;clear t5;have et:(([119,114,105,116,101]:List UInt8) == (str tt).toList)=false:=by rw [t0];exact lG hmi
       have ix:∀ w,(Instr.index 200 (.agg #[.string ⟨#[119,114,105,116,101]⟩,uF 148,.string ⟨#[102,108,117,115,104]⟩,uF 149,.string ⟨#[98,97,114,114,105,101,114]⟩,uF 150,.string ⟨#[105,102]⟩,uF 151,.string ⟨#[119,104,105,108,101]⟩,uF 152,.string ⟨#[99,97,108,108]⟩,uF 153]) (uI 0)).run prog w=.ok (.agg #[.string ⟨#[119,114,105,116,101]⟩,uF 148]) w:=fun _=>Yk;go_upto_region 7 with fail
       clear ix;have HSB:=Ph (Bk.new wr 199 #[.string ⟨#[119,114,105,116,101]⟩,uF 148]);have hbS:Ue wr (wr.alloc (.cells #[.string ⟨#[119,114,105,116,101]⟩,uF 148] 199)):=zB;have HPn:=Ph (HPi.o.then hbS);have HTn:=Ph (zD HTi.o hbS);clear hbS;generalize (wr.alloc _)=wy at *;generalize wr.heap.size=bs' at *;have s0:wy.cell? ⟨bs',0,none⟩=some (.string ⟨#[119,114,105,116,101]⟩):=HSB.o.cell 0;have s1:wy.cell? ⟨bs',1,none⟩=some (uF 148):=HSB.o.cell 1;clear HPi HTi;go_wp2_with fail
       go_roundw
       case rel=>exact⟨1,rfl,Yo,HTn,.inl ⟨Yo,rfl,rfl,HPn⟩⟩
       case measure=>simp [intOf]
     ·exact absurd him Yo
    ·rcases hdis with⟨him,rfl,rfl,HPi⟩ | ⟨him,rfl,rfl,HPi⟩
     ·by_cases hmi:m=1
      ·clear t0;clear t2;clear t3;clear t4;clear t5;have et:(([102,108,117,115,104]:List UInt8) == (str tt).toList)=true:=by rw [t1];exact lH hmi
       have ix:∀ w,(Instr.index 200 (.agg #[.string ⟨#[119,114,105,116,101]⟩,uF 148,.string ⟨#[102,108,117,115,104]⟩,uF 149,.string ⟨#[98,97,114,114,105,101,114]⟩,uF 150,.string ⟨#[105,102]⟩,uF 151,.string ⟨#[119,104,105,108,101]⟩,uF 152,.string ⟨#[99,97,108,108]⟩,uF 153]) (uI 1)).run prog w=.ok (.agg #[.string ⟨#[102,108,117,115,104]⟩,uF 149]) w:=fun _=>Yk;go_upto_region 7 with fail
       clear ix;have HSB:=Ph (Bk.new wr 199 #[.string ⟨#[102,108,117,115,104]⟩,uF 149]);have hbS:Ue wr (wr.alloc (.cells #[.string ⟨#[102,108,117,115,104]⟩,uF 149] 199)):=zB;have HPn:=Ph (HPi.o.then hbS);have HTn:=Ph (zD HTi.o hbS);clear hbS;generalize (wr.alloc _)=wy at *;generalize wr.heap.size=bs' at *;have s0:wy.cell? ⟨bs',0,none⟩=some (.string ⟨#[102,108,117,115,104]⟩):=HSB.o.cell 0;have s1:wy.cell? ⟨bs',1,none⟩=some (uF 149):=HSB.o.cell 1;clear HPi HTi;have b0:wy.cell? ⟨pb,0,none⟩=some (uQ p 0):=(HJB.o pre wy (HJR.o wy HPn.o.fr)).cell 0;obtain⟨Qy,hps,hat,hln⟩:=HPn.o.pq.ex;obtain⟨g0,g1,g2,g3,g4,g5,g6⟩:=hps.cells;have gz:=hps.frozens 2;have hnf:=hps.ok.few;have hne:(zC E qc.s).text≠[]:=by rw [HTQ.o];rintro rfl;rw [zH4]at et;exact absurd et Yd
       obtain⟨_,hsn,_⟩:=hps.tok (.inr hne);have wn:IntKind.i64.wrap ((qc.s.n:Int)+1)=(qc.s.n:Int)+1:=by rw [lL];omega
       have hP2:=hps.setN (qc.s.n+1) hsn;rw [show((qc.s.n+1:Nat):Int)=(qc.s.n:Int)+1 from by omega]at hP2;have HP2:Ud (PQ B wo p E T ⟨zE qc.s,qc.l⟩ (wy.setCell ⟨p,2,none⟩ (uI ((qc.s.n:Int)+1)))):=Ph (HPn.o.trans (HPn.o.pq.pp hps hat hln hP2));have HT2:=Ph (hP2.bk HTn.o btp);clear hps hat hln hP2 hne hsn hnf;go_wp2_with fail
       generalize (World.setCell _ _ _)=wz at *;go_roundw
       case rel=>exact⟨2,rfl,Yo,HT2,.inr ⟨Yo,by rw [hmi];rfl,rfl,HP2⟩⟩
       case measure=>simp [intOf]
      ·clear t0;clear t2;clear t3;clear t4;clear t5;have et:(([102,108,117,115,104]:List UInt8) == (str tt).toList)=false:=by rw [t1];exact lG hmi
       have ix:∀ w,(Instr.index 200 (.agg #[.string ⟨#[119,114,105,116,101]⟩,uF 148,.string ⟨#[102,108,117,115,104]⟩,uF 149,.string ⟨#[98,97,114,114,105,101,114]⟩,uF 150,.string ⟨#[105,102]⟩,uF 151,.string ⟨#[119,104,105,108,101]⟩,uF 152,.string ⟨#[99,97,108,108]⟩,uF 153]) (uI 1)).run prog w=.ok (.agg #[.string ⟨#[102,108,117,115,104]⟩,uF 149]) w:=fun _=>Yk;go_upto_region 7 with fail
       clear ix;have HSB:=Ph (Bk.new wr 199 #[.string ⟨#[102,108,117,115,104]⟩,uF 149]);have hbS:Ue wr (wr.alloc (.cells #[.string ⟨#[102,108,117,115,104]⟩,uF 149] 199)):=zB;have HPn:=Ph (HPi.o.then hbS);have HTn:=Ph (zD HTi.o hbS);clear hbS;generalize (wr.alloc _)=wy at *;generalize wr.heap.size=bs' at *;have s0:wy.cell? ⟨bs',0,none⟩=some (.string ⟨#[102,108,117,115,104]⟩):=HSB.o.cell 0;have s1:wy.cell? ⟨bs',1,none⟩=some (uF 149):=HSB.o.cell 1;clear HPi HTi;go_wp2_with fail
       go_roundw
       case rel=>exact⟨2,rfl,Yo,HTn,.inl ⟨Yo,rfl,rfl,HPn⟩⟩
       case measure=>simp [intOf]
     ·have hmi:m≠1:=by omega
      clear t0;clear t2;clear t3;clear t4;clear t5;have et:(([102,108,117,115,104]:List UInt8) == (str tt).toList)=false:=by rw [t1];exact lG hmi
      have ix:∀ w,(Instr.index 200 (.agg #[.string ⟨#[119,114,105,116,101]⟩,uF 148,.string ⟨#[102,108,117,115,104]⟩,uF 149,.string ⟨#[98,97,114,114,105,101,114]⟩,uF 150,.string ⟨#[105,102]⟩,uF 151,.string ⟨#[119,104,105,108,101]⟩,uF 152,.string ⟨#[99,97,108,108]⟩,uF 153]) (uI 1)).run prog w=.ok (.agg #[.string ⟨#[102,108,117,115,104]⟩,uF 149]) w:=fun _=>Yk;go_upto_region 7 with fail
      clear ix;have HSB:=Ph (Bk.new wr 199 #[.string ⟨#[102,108,117,115,104]⟩,uF 149]);have hbS:Ue wr (wr.alloc (.cells #[.string ⟨#[102,108,117,115,104]⟩,uF 149] 199)):=zB;have HPn:=Ph (HPi.o.then hbS);have HTn:=Ph (zD HTi.o hbS);clear hbS;generalize (wr.alloc _)=wy at *;generalize wr.heap.size=bs' at *;have s0:wy.cell? ⟨bs',0,none⟩=some (.string ⟨#[102,108,117,115,104]⟩):=HSB.o.cell 0;have s1:wy.cell? ⟨bs',1,none⟩=some (uF 149):=HSB.o.cell 1;clear HPi HTi;go_wp2_with fail
      go_roundw
      case rel=>exact⟨2,rfl,Yo,HTn,.inr ⟨Yo,rfl,rfl,HPn⟩⟩
      case measure=>simp [intOf]
    ·rcases hdis with⟨him,rfl,rfl,HPi⟩ | ⟨him,rfl,rfl,HPi⟩
     ·by_cases hmi:m=2
      ·clear t0;clear t1;clear t3;clear t4;clear t5;have et:(([98,97,114,114,105,101,114]:List UInt8) == (str tt).toList)=true:=by rw [t2];exact lH hmi
       have ix:∀ w,(Instr.index 200 (.agg #[.string ⟨#[119,114,105,116,101]⟩,uF 148,.string ⟨#[102,108,117,115,104]⟩,uF 149,.string ⟨#[98,97,114,114,105,101,114]⟩,uF 150,.string ⟨#[105,102]⟩,uF 151,.string ⟨#[119,104,105,108,101]⟩,uF 152,.string ⟨#[99,97,108,108]⟩,uF 153]) (uI 2)).run prog w=.ok (.agg #[.string ⟨#[98,97,114,114,105,101,114]⟩,uF 150]) w:=fun _=>Yk;go_upto_region 7 with fail
       clear ix;have HSB:=Ph (Bk.new wr 199 #[.string ⟨#[98,97,114,114,105,101,114]⟩,uF 150]);have hbS:Ue wr (wr.alloc (.cells #[.string ⟨#[98,97,114,114,105,101,114]⟩,uF 150] 199)):=zB;have HPn:=Ph (HPi.o.then hbS);have HTn:=Ph (zD HTi.o hbS);clear hbS;generalize (wr.alloc _)=wy at *;generalize wr.heap.size=bs' at *;have s0:wy.cell? ⟨bs',0,none⟩=some (.string ⟨#[98,97,114,114,105,101,114]⟩):=HSB.o.cell 0;have s1:wy.cell? ⟨bs',1,none⟩=some (uF 150):=HSB.o.cell 1;clear HPi HTi;have b0:wy.cell? ⟨pb,0,none⟩=some (uQ p 0):=(HJB.o pre wy (HJR.o wy HPn.o.fr)).cell 0;obtain⟨Qy,hps,hat,hln⟩:=HPn.o.pq.ex;obtain⟨g0,g1,g2,g3,g4,g5,g6⟩:=hps.cells;have gz:=hps.frozens 2;have hnf:=hps.ok.few;have hne:(zC E qc.s).text≠[]:=by rw [HTQ.o];rintro rfl;rw [zH4]at et;exact absurd et Yd
       obtain⟨_,hsn,_⟩:=hps.tok (.inr hne);have wn:IntKind.i64.wrap ((qc.s.n:Int)+1)=(qc.s.n:Int)+1:=by rw [lL];omega
       have hP2:=hps.setN (qc.s.n+1) hsn;rw [show((qc.s.n+1:Nat):Int)=(qc.s.n:Int)+1 from by omega]at hP2;have HP2:Ud (PQ B wo p E T ⟨zE qc.s,qc.l⟩ (wy.setCell ⟨p,2,none⟩ (uI ((qc.s.n:Int)+1)))):=Ph (HPn.o.trans (HPn.o.pq.pp hps hat hln hP2));have HT2:=Ph (hP2.bk HTn.o btp);clear hps hat hln hP2 hne hsn hnf;go_wp2_with fail
       generalize (World.setCell _ _ _)=wz at *;go_roundw
       case rel=>exact⟨3,rfl,Yo,HT2,.inr ⟨Yo,by rw [hmi];rfl,rfl,HP2⟩⟩
       case measure=>simp [intOf]
      ·clear t0;clear t1;clear t3;clear t4;clear t5;have et:(([98,97,114,114,105,101,114]:List UInt8) == (str tt).toList)=false:=by rw [t2];exact lG hmi
       have ix:∀ w,(Instr.index 200 (.agg #[.string ⟨#[119,114,105,116,101]⟩,uF 148,.string ⟨#[102,108,117,115,104]⟩,uF 149,.string ⟨#[98,97,114,114,105,101,114]⟩,uF 150,.string ⟨#[105,102]⟩,uF 151,.string ⟨#[119,104,105,108,101]⟩,uF 152,.string ⟨#[99,97,108,108]⟩,uF 153]) (uI 2)).run prog w=.ok (.agg #[.string ⟨#[98,97,114,114,105,101,114]⟩,uF 150]) w:=fun _=>Yk;go_upto_region 7 with fail
       clear ix;have HSB:=Ph (Bk.new wr 199 #[.string ⟨#[98,97,114,114,105,101,114]⟩,uF 150]);have hbS:Ue wr (wr.alloc (.cells #[.string ⟨#[98,97,114,114,105,101,114]⟩,uF 150] 199)):=zB;have HPn:=Ph (HPi.o.then hbS);have HTn:=Ph (zD HTi.o hbS);clear hbS;generalize (wr.alloc _)=wy at *;generalize wr.heap.size=bs' at *;have s0:wy.cell? ⟨bs',0,none⟩=some (.string ⟨#[98,97,114,114,105,101,114]⟩):=HSB.o.cell 0;have s1:wy.cell? ⟨bs',1,none⟩=some (uF 150):=HSB.o.cell 1;clear HPi HTi;go_wp2_with fail
       go_roundw
       case rel=>exact⟨3,rfl,Yo,HTn,.inl ⟨Yo,rfl,rfl,HPn⟩⟩
       case measure=>simp [intOf]
     ·have hmi:m≠2:=by omega
      clear t0;clear t1;clear t3;clear t4;clear t5;have et:(([98,97,114,114,105,101,114]:List UInt8) == (str tt).toList)=false:=by rw [t2];exact lG hmi
      have ix:∀ w,(Instr.index 200 (.agg #[.string ⟨#[119,114,105,116,101]⟩,uF 148,.string ⟨#[102,108,117,115,104]⟩,uF 149,.string ⟨#[98,97,114,114,105,101,114]⟩,uF 150,.string ⟨#[105,102]⟩,uF 151,.string ⟨#[119,104,105,108,101]⟩,uF 152,.string ⟨#[99,97,108,108]⟩,uF 153]) (uI 2)).run prog w=.ok (.agg #[.string ⟨#[98,97,114,114,105,101,114]⟩,uF 150]) w:=fun _=>Yk;go_upto_region 7 with fail
      clear ix;have HSB:=Ph (Bk.new wr 199 #[.string ⟨#[98,97,114,114,105,101,114]⟩,uF 150]);have hbS:Ue wr (wr.alloc (.cells #[.string ⟨#[98,97,114,114,105,101,114]⟩,uF 150] 199)):=zB;have HPn:=Ph (HPi.o.then hbS);have HTn:=Ph (zD HTi.o hbS);clear hbS;generalize (wr.alloc _)=wy at *;generalize wr.heap.size=bs' at *;have s0:wy.cell? ⟨bs',0,none⟩=some (.string ⟨#[98,97,114,114,105,101,114]⟩):=HSB.o.cell 0;have s1:wy.cell? ⟨bs',1,none⟩=some (uF 150):=HSB.o.cell 1;clear HPi HTi;go_wp2_with fail
      go_roundw
      case rel=>exact⟨3,rfl,Yo,HTn,.inr ⟨Yo,rfl,rfl,HPn⟩⟩
      case measure=>simp [intOf]
    ·rcases hdis with⟨him,rfl,rfl,HPi⟩ | ⟨him,rfl,rfl,HPi⟩
     ·by_cases hmi:m=3
      ·clear t0;clear t1;clear t2;clear t4;clear t5;have et:(([105,102]:List UInt8) == (str tt).toList)=true:=by rw [t3];exact lH hmi
       have ix:∀ w,(Instr.index 200 (.agg #[.string ⟨#[119,114,105,116,101]⟩,uF 148,.string ⟨#[102,108,117,115,104]⟩,uF 149,.string ⟨#[98,97,114,114,105,101,114]⟩,uF 150,.string ⟨#[105,102]⟩,uF 151,.string ⟨#[119,104,105,108,101]⟩,uF 152,.string ⟨#[99,97,108,108]⟩,uF 153]) (uI 3)).run prog w=.ok (.agg #[.string ⟨#[105,102]⟩,uF 151]) w:=fun _=>Yk;go_upto_region 7 with fail
       clear ix;have HSB:=Ph (Bk.new wr 199 #[.string ⟨#[105,102]⟩,uF 151]);have hbS:Ue wr (wr.alloc (.cells #[.string ⟨#[105,102]⟩,uF 151] 199)):=zB;have HPn:=Ph (HPi.o.then hbS);have HTn:=Ph (zD HTi.o hbS);clear hbS;generalize (wr.alloc _)=wy at *;generalize wr.heap.size=bs' at *;have s0:wy.cell? ⟨bs',0,none⟩=some (.string ⟨#[105,102]⟩):=HSB.o.cell 0;have s1:wy.cell? ⟨bs',1,none⟩=some (uF 151):=HSB.o.cell 1;clear HPi HTi;have b0:wy.cell? ⟨pb,0,none⟩=some (uQ p 0):=(HJB.o pre wy (HJR.o wy HPn.o.fr)).cell 0;obtain⟨Qy,hps,hat,hln⟩:=HPn.o.pq.ex;obtain⟨g0,g1,g2,g3,g4,g5,g6⟩:=hps.cells;have gz:=hps.frozens 2;have hnf:=hps.ok.few;have hne:(zC E qc.s).text≠[]:=by rw [HTQ.o];rintro rfl;rw [zH4]at et;exact absurd et Yd
       obtain⟨_,hsn,_⟩:=hps.tok (.inr hne);have wn:IntKind.i64.wrap ((qc.s.n:Int)+1)=(qc.s.n:Int)+1:=by rw [lL];omega
       have hP2:=hps.setN (qc.s.n+1) hsn;rw [show((qc.s.n+1:Nat):Int)=(qc.s.n:Int)+1 from by omega]at hP2;have HP2:Ud (PQ B wo p E T ⟨zE qc.s,qc.l⟩ (wy.setCell ⟨p,2,none⟩ (uI ((qc.s.n:Int)+1)))):=Ph (HPn.o.trans (HPn.o.pq.pp hps hat hln hP2));have HT2:=Ph (hP2.bk HTn.o btp);clear hps hat hln hP2 hne hsn hnf;go_wp2_with fail
       generalize (World.setCell _ _ _)=wz at *;go_roundw
       case rel=>exact⟨4,rfl,Yo,HT2,.inr ⟨Yo,by rw [hmi];rfl,rfl,HP2⟩⟩
       case measure=>simp [intOf]
      ·clear t0;clear t1;clear t2;clear t4;clear t5;have et:(([105,102]:List UInt8) == (str tt).toList)=false:=by rw [t3];exact lG hmi
       have ix:∀ w,(Instr.index 200 (.agg #[.string ⟨#[119,114,105,116,101]⟩,uF 148,.string ⟨#[102,108,117,115,104]⟩,uF 149,.string ⟨#[98,97,114,114,105,101,114]⟩,uF 150,.string ⟨#[105,102]⟩,uF 151,.string ⟨#[119,104,105,108,101]⟩,uF 152,.string ⟨#[99,97,108,108]⟩,uF 153]) (uI 3)).run prog w=.ok (.agg #[.string ⟨#[105,102]⟩,uF 151]) w:=fun _=>Yk;go_upto_region 7 with fail
       clear ix;have HSB:=Ph (Bk.new wr 199 #[.string ⟨#[105,102]⟩,uF 151]);have hbS:Ue wr (wr.alloc (.cells #[.string ⟨#[105,102]⟩,uF 151] 199)):=zB;have HPn:=Ph (HPi.o.then hbS);have HTn:=Ph (zD HTi.o hbS);clear hbS;generalize (wr.alloc _)=wy at *;generalize wr.heap.size=bs' at *;have s0:wy.cell? ⟨bs',0,none⟩=some (.string ⟨#[105,102]⟩):=HSB.o.cell 0;have s1:wy.cell? ⟨bs',1,none⟩=some (uF 151):=HSB.o.cell 1;clear HPi HTi;go_wp2_with fail
       go_roundw
       case rel=>exact⟨4,rfl,Yo,HTn,.inl ⟨Yo,rfl,rfl,HPn⟩⟩
       case measure=>simp [intOf]
     ·have hmi:m≠3:=by omega
      clear t0;clear t1;clear t2;clear t4;clear t5;have et:(([105,102]:List UInt8) == (str tt).toList)=false:=by rw [t3];exact lG hmi
      have ix:∀ w,(Instr.index 200 (.agg #[.string ⟨#[119,114,105,116,101]⟩,uF 148,.string ⟨#[102,108,117,115,104]⟩,uF 149,.string ⟨#[98,97,114,114,105,101,114]⟩,uF 150,.string ⟨#[105,102]⟩,uF 151,.string ⟨#[119,104,105,108,101]⟩,uF 152,.string ⟨#[99,97,108,108]⟩,uF 153]) (uI 3)).run prog w=.ok (.agg #[.string ⟨#[105,102]⟩,uF 151]) w:=fun _=>Yk;go_upto_region 7 with fail
      clear ix;have HSB:=Ph (Bk.new wr 199 #[.string ⟨#[105,102]⟩,uF 151]);have hbS:Ue wr (wr.alloc (.cells #[.string ⟨#[105,102]⟩,uF 151] 199)):=zB;have HPn:=Ph (HPi.o.then hbS);have HTn:=Ph (zD HTi.o hbS);clear hbS;generalize (wr.alloc _)=wy at *;generalize wr.heap.size=bs' at *;have s0:wy.cell? ⟨bs',0,none⟩=some (.string ⟨#[105,102]⟩):=HSB.o.cell 0;have s1:wy.cell? ⟨bs',1,none⟩=some (uF 151):=HSB.o.cell 1;clear HPi HTi;go_wp2_with fail
      go_roundw
      case rel=>exact⟨4,rfl,Yo,HTn,.inr ⟨Yo,rfl,rfl,HPn⟩⟩
      case measure=>simp [intOf]
    ·rcases hdis with⟨him,rfl,rfl,HPi⟩ | ⟨him,rfl,rfl,HPi⟩
     ·by_cases hmi:m=4
      ·clear t0;clear t1;clear t2;clear t3;clear t5;have et:(([119,104,105,108,101]:List UInt8) == (str tt).toList)=true:=by rw [t4];exact lH hmi
       have ix:∀ w,(Instr.index 200 (.agg #[.string ⟨#[119,114,105,116,101]⟩,uF 148,.string ⟨#[102,108,117,115,104]⟩,uF 149,.string ⟨#[98,97,114,114,105,101,114]⟩,uF 150,.string ⟨#[105,102]⟩,uF 151,.string ⟨#[119,104,105,108,101]⟩,uF 152,.string ⟨#[99,97,108,108]⟩,uF 153]) (uI 4)).run prog w=.ok (.agg #[.string ⟨#[119,104,105,108,101]⟩,uF 152]) w:=fun _=>Yk;go_upto_region 7 with fail
       clear ix;have HSB:=Ph (Bk.new wr 199 #[.string ⟨#[119,104,105,108,101]⟩,uF 152]);have hbS:Ue wr (wr.alloc (.cells #[.string ⟨#[119,104,105,108,101]⟩,uF 152] 199)):=zB;have HPn:=Ph (HPi.o.then hbS);have HTn:=Ph (zD HTi.o hbS);clear hbS;generalize (wr.alloc _)=wy at *;generalize wr.heap.size=bs' at *;have s0:wy.cell? ⟨bs',0,none⟩=some (.string ⟨#[119,104,105,108,101]⟩):=HSB.o.cell 0;have s1:wy.cell? ⟨bs',1,none⟩=some (uF 152):=HSB.o.cell 1;clear HPi HTi;have b0:wy.cell? ⟨pb,0,none⟩=some (uQ p 0):=(HJB.o pre wy (HJR.o wy HPn.o.fr)).cell 0;obtain⟨Qy,hps,hat,hln⟩:=HPn.o.pq.ex;obtain⟨g0,g1,g2,g3,g4,g5,g6⟩:=hps.cells;have gz:=hps.frozens 2;have hnf:=hps.ok.few;have hne:(zC E qc.s).text≠[]:=by rw [HTQ.o];rintro rfl;rw [zH4]at et;exact absurd et Yd
       obtain⟨_,hsn,_⟩:=hps.tok (.inr hne);have wn:IntKind.i64.wrap ((qc.s.n:Int)+1)=(qc.s.n:Int)+1:=by rw [lL];omega
       have hP2:=hps.setN (qc.s.n+1) hsn;rw [show((qc.s.n+1:Nat):Int)=(qc.s.n:Int)+1 from by omega]at hP2;have HP2:Ud (PQ B wo p E T ⟨zE qc.s,qc.l⟩ (wy.setCell ⟨p,2,none⟩ (uI ((qc.s.n:Int)+1)))):=Ph (HPn.o.trans (HPn.o.pq.pp hps hat hln hP2));have HT2:=Ph (hP2.bk HTn.o btp);clear hps hat hln hP2 hne hsn hnf;go_wp2_with fail
       generalize (World.setCell _ _ _)=wz at *;go_roundw
       case rel=>exact⟨5,rfl,Yo,HT2,.inr ⟨Yo,by rw [hmi];rfl,rfl,HP2⟩⟩
       case measure=>simp [intOf]
      ·clear t0;clear t1;clear t2;clear t3;clear t5;have et:(([119,104,105,108,101]:List UInt8) == (str tt).toList)=false:=by rw [t4];exact lG hmi
       have ix:∀ w,(Instr.index 200 (.agg #[.string ⟨#[119,114,105,116,101]⟩,uF 148,.string ⟨#[102,108,117,115,104]⟩,uF 149,.string ⟨#[98,97,114,114,105,101,114]⟩,uF 150,.string ⟨#[105,102]⟩,uF 151,.string ⟨#[119,104,105,108,101]⟩,uF 152,.string ⟨#[99,97,108,108]⟩,uF 153]) (uI 4)).run prog w=.ok (.agg #[.string ⟨#[119,104,105,108,101]⟩,uF 152]) w:=fun _=>Yk;go_upto_region 7 with fail
       clear ix;have HSB:=Ph (Bk.new wr 199 #[.string ⟨#[119,104,105,108,101]⟩,uF 152]);have hbS:Ue wr (wr.alloc (.cells #[.string ⟨#[119,104,105,108,101]⟩,uF 152] 199)):=zB;have HPn:=Ph (HPi.o.then hbS);have HTn:=Ph (zD HTi.o hbS);clear hbS;generalize (wr.alloc _)=wy at *;generalize wr.heap.size=bs' at *;have s0:wy.cell? ⟨bs',0,none⟩=some (.string ⟨#[119,104,105,108,101]⟩):=HSB.o.cell 0;have s1:wy.cell? ⟨bs',1,none⟩=some (uF 152):=HSB.o.cell 1;clear HPi HTi;go_wp2_with fail
       go_roundw
       case rel=>exact⟨5,rfl,Yo,HTn,.inl ⟨Yo,rfl,rfl,HPn⟩⟩
       case measure=>simp [intOf]
     ·have hmi:m≠4:=by omega
      clear t0;clear t1;clear t2;clear t3;clear t5;have et:(([119,104,105,108,101]:List UInt8) == (str tt).toList)=false:=by rw [t4];exact lG hmi
      have ix:∀ w,(Instr.index 200 (.agg #[.string ⟨#[119,114,105,116,101]⟩,uF 148,.string ⟨#[102,108,117,115,104]⟩,uF 149,.string ⟨#[98,97,114,114,105,101,114]⟩,uF 150,.string ⟨#[105,102]⟩,uF 151,.string ⟨#[119,104,105,108,101]⟩,uF 152,.string ⟨#[99,97,108,108]⟩,uF 153]) (uI 4)).run prog w=.ok (.agg #[.string ⟨#[119,104,105,108,101]⟩,uF 152]) w:=fun _=>Yk;go_upto_region 7 with fail
      clear ix;have HSB:=Ph (Bk.new wr 199 #[.string ⟨#[119,104,105,108,101]⟩,uF 152]);have hbS:Ue wr (wr.alloc (.cells #[.string ⟨#[119,104,105,108,101]⟩,uF 152] 199)):=zB;have HPn:=Ph (HPi.o.then hbS);have HTn:=Ph (zD HTi.o hbS);clear hbS;generalize (wr.alloc _)=wy at *;generalize wr.heap.size=bs' at *;have s0:wy.cell? ⟨bs',0,none⟩=some (.string ⟨#[119,104,105,108,101]⟩):=HSB.o.cell 0;have s1:wy.cell? ⟨bs',1,none⟩=some (uF 152):=HSB.o.cell 1;clear HPi HTi;go_wp2_with fail
      go_roundw
      case rel=>exact⟨5,rfl,Yo,HTn,.inr ⟨Yo,rfl,rfl,HPn⟩⟩
      case measure=>simp [intOf]
    ·rcases hdis with⟨him,rfl,rfl,HPi⟩ | ⟨him,rfl,rfl,HPi⟩
     ·by_cases hmi:m=5
      ·clear t0;clear t1;clear t2;clear t3;clear t4;have et:(([99,97,108,108]:List UInt8) == (str tt).toList)=true:=by rw [t5];exact lH hmi
       have ix:∀ w,(Instr.index 200 (.agg #[.string ⟨#[119,114,105,116,101]⟩,uF 148,.string ⟨#[102,108,117,115,104]⟩,uF 149,.string ⟨#[98,97,114,114,105,101,114]⟩,uF 150,.string ⟨#[105,102]⟩,uF 151,.string ⟨#[119,104,105,108,101]⟩,uF 152,.string ⟨#[99,97,108,108]⟩,uF 153]) (uI 5)).run prog w=.ok (.agg #[.string ⟨#[99,97,108,108]⟩,uF 153]) w:=fun _=>Yk;go_upto_region 7 with fail
       clear ix;have HSB:=Ph (Bk.new wr 199 #[.string ⟨#[99,97,108,108]⟩,uF 153]);have hbS:Ue wr (wr.alloc (.cells #[.string ⟨#[99,97,108,108]⟩,uF 153] 199)):=zB;have HPn:=Ph (HPi.o.then hbS);have HTn:=Ph (zD HTi.o hbS);clear hbS;generalize (wr.alloc _)=wy at *;generalize wr.heap.size=bs' at *;have s0:wy.cell? ⟨bs',0,none⟩=some (.string ⟨#[99,97,108,108]⟩):=HSB.o.cell 0;have s1:wy.cell? ⟨bs',1,none⟩=some (uF 153):=HSB.o.cell 1;clear HPi HTi;have b0:wy.cell? ⟨pb,0,none⟩=some (uQ p 0):=(HJB.o pre wy (HJR.o wy HPn.o.fr)).cell 0;obtain⟨Qy,hps,hat,hln⟩:=HPn.o.pq.ex;obtain⟨g0,g1,g2,g3,g4,g5,g6⟩:=hps.cells;have gz:=hps.frozens 2;have hnf:=hps.ok.few;have hne:(zC E qc.s).text≠[]:=by rw [HTQ.o];rintro rfl;rw [zH4]at et;exact absurd et Yd
       obtain⟨_,hsn,_⟩:=hps.tok (.inr hne);have wn:IntKind.i64.wrap ((qc.s.n:Int)+1)=(qc.s.n:Int)+1:=by rw [lL];omega
       have hP2:=hps.setN (qc.s.n+1) hsn;rw [show((qc.s.n+1:Nat):Int)=(qc.s.n:Int)+1 from by omega]at hP2;have HP2:Ud (PQ B wo p E T ⟨zE qc.s,qc.l⟩ (wy.setCell ⟨p,2,none⟩ (uI ((qc.s.n:Int)+1)))):=Ph (HPn.o.trans (HPn.o.pq.pp hps hat hln hP2));have HT2:=Ph (hP2.bk HTn.o btp);clear hps hat hln hP2 hne hsn hnf;go_wp2_with fail
       generalize (World.setCell _ _ _)=wz at *;go_roundw
       case rel=>exact⟨6,rfl,Yo,HT2,.inr ⟨Yo,by rw [hmi];rfl,rfl,HP2⟩⟩
       case measure=>simp [intOf]
      ·clear t0;clear t1;clear t2;clear t3;clear t4;have et:(([99,97,108,108]:List UInt8) == (str tt).toList)=false:=by rw [t5];exact lG hmi
       have ix:∀ w,(Instr.index 200 (.agg #[.string ⟨#[119,114,105,116,101]⟩,uF 148,.string ⟨#[102,108,117,115,104]⟩,uF 149,.string ⟨#[98,97,114,114,105,101,114]⟩,uF 150,.string ⟨#[105,102]⟩,uF 151,.string ⟨#[119,104,105,108,101]⟩,uF 152,.string ⟨#[99,97,108,108]⟩,uF 153]) (uI 5)).run prog w=.ok (.agg #[.string ⟨#[99,97,108,108]⟩,uF 153]) w:=fun _=>Yk;go_upto_region 7 with fail
       clear ix;have HSB:=Ph (Bk.new wr 199 #[.string ⟨#[99,97,108,108]⟩,uF 153]);have hbS:Ue wr (wr.alloc (.cells #[.string ⟨#[99,97,108,108]⟩,uF 153] 199)):=zB;have HPn:=Ph (HPi.o.then hbS);have HTn:=Ph (zD HTi.o hbS);clear hbS;generalize (wr.alloc _)=wy at *;generalize wr.heap.size=bs' at *;have s0:wy.cell? ⟨bs',0,none⟩=some (.string ⟨#[99,97,108,108]⟩):=HSB.o.cell 0;have s1:wy.cell? ⟨bs',1,none⟩=some (uF 153):=HSB.o.cell 1;clear HPi HTi;go_wp2_with fail
       go_roundw
       case rel=>exact⟨6,rfl,Yo,HTn,.inl ⟨Yo,rfl,rfl,HPn⟩⟩
       case measure=>simp [intOf]
     ·have hmi:m≠5:=by omega
      clear t0;clear t1;clear t2;clear t3;clear t4;have et:(([99,97,108,108]:List UInt8) == (str tt).toList)=false:=by rw [t5];exact lG hmi
      have ix:∀ w,(Instr.index 200 (.agg #[.string ⟨#[119,114,105,116,101]⟩,uF 148,.string ⟨#[102,108,117,115,104]⟩,uF 149,.string ⟨#[98,97,114,114,105,101,114]⟩,uF 150,.string ⟨#[105,102]⟩,uF 151,.string ⟨#[119,104,105,108,101]⟩,uF 152,.string ⟨#[99,97,108,108]⟩,uF 153]) (uI 5)).run prog w=.ok (.agg #[.string ⟨#[99,97,108,108]⟩,uF 153]) w:=fun _=>Yk;go_upto_region 7 with fail
      clear ix;have HSB:=Ph (Bk.new wr 199 #[.string ⟨#[99,97,108,108]⟩,uF 153]);have hbS:Ue wr (wr.alloc (.cells #[.string ⟨#[99,97,108,108]⟩,uF 153] 199)):=zB;have HPn:=Ph (HPi.o.then hbS);have HTn:=Ph (zD HTi.o hbS);clear hbS;generalize (wr.alloc _)=wy at *;generalize wr.heap.size=bs' at *;have s0:wy.cell? ⟨bs',0,none⟩=some (.string ⟨#[99,97,108,108]⟩):=HSB.o.cell 0;have s1:wy.cell? ⟨bs',1,none⟩=some (uF 153):=HSB.o.cell 1;clear HPi HTi;go_wp2_with fail
      go_roundw
      case rel=>exact⟨6,rfl,Yo,HTn,.inr ⟨Yo,rfl,rfl,HPn⟩⟩
      case measure=>simp [intOf]
    ·clear t0 t1 t2 t3 t4 t5;generalize wr=W5 at *;have HT:=HTi;clear HTi;rcases hdis with⟨him,rfl,rfl,HP⟩ | ⟨him,rfl,rfl,HP⟩
     ·have hmk:kM tt=none:=HMK.o.elim (fun h=>absurd h.1 Yo) (fun h=>h.2);rcases HST.o with⟨k,x,q1,_,_,hk,_,_⟩ | ⟨x,q1,_,hl,_,hkd,hrs,hr,hn⟩ | ⟨hend,hr⟩
      ·rw [hmk]at hk;cases hk
      ·have hk1:k0=true:=by rw [←HK0.o,lH hkd,hrs];rfl
       subst hk1;have HL:=Ph hl;have hRD:gk≠0:=by rintro rfl;unfold qY at hr;cases hr
       obtain⟨g2,rfl⟩:∃ g2,gk=g2+1:=⟨gk-1,Yo⟩;have HGR:Ud (qc.s.n+1≤q1.s.n):=Ph (jP2 (by rw [HTQ.o];exact hkd) (by rw [HTQ.o];exact hrs) hr);have hqa:qc.at E=⟨qc.s,qc.l++[ta]⟩:=by unfold QSt.at;rw [HTQ.o]
       rw [hqa]at hr;have HPB:=Ph (HJB.o pre W5 (HJR.o W5 HP.o.fr));go_upto_region 12 with fail
       go_cut [] (fun wr=>Ud (PQ B wo p E T ⟨(qc).s,(qc).l++[ta]⟩ wr))
       case first =>
        rename_i J1 K1 hR1 hM1;refine kG7 (qc) W5 pb bt tk ta tf (Ph HP.o.pq) HL HT HPB _ Yk _ _ _ _ _ _ _ _ _ _ _ _ _ _ _ _ _ _ _ _ _ _ _ _ _ _ _ _ _ _ _ _ _ _ _ _ _ _ _ _ _ _ _ _ _ _ _ _ _ _ _ _ _ _ _ _ _ _ _ _ _ _ K1 _ (fun x47 x48 x49 x50 x51 x52 x53 x54 x55 x56 x57 W' h12=>?_);apply hM1;go_meet
        exact Ph (HP.o.trans h12.o)
       case rest =>
       have HPn:=hcut;clear HP HT HPB;have HP:=HPn;clear HPn;generalize wc=W6 at *;have b1:W6.cell? ⟨pb,0,none⟩=some (uQ p 0):=(HJB.o pre W6 (HJR.o W6 HP.o.fr)).cell 0;have HCC:=Ph (jZ2 g2 _ x q1 hr W6 (Ph HP.o.pq));have HQ:Ud (∀ e W,vH B W6 p E T x q1 e W→∃ v,e=.returned (stV x v)∧J pre W∧GY B p E T (x,v,q1) W6 W):=Ph fun e W ⟨v,hv,hs,hq⟩=>⟨v,hv,HJQ.o pre W6 W (HJR.o W6 HP.o.fr) ⟨_,HP.o.pq⟩ hq.fr,⟨hs,hq⟩⟩;have HJ6:Ud (J pre W6):=Ph (HJR.o W6 HP.o.fr);go_upto_region 13 with fail
       refine(wpIn_wide (n:=n)).1 ?_;gi_wp2_with (refine⟨trivial,fun h=>absurd h Yd,?_⟩;gi_at_call 131;refine(callsIn_wide.2 HCC.o).mono ?_;rintro e7 W7 hsp;obtain⟨v,rfl,hJ7,hG7⟩:=HQ.o _ _ hsp;obtain⟨fn7,tmps7,assign7,body7,hy7,hRn⟩:=HY.o pre (x,v,q1) W6 W7 HJ6.o hJ7 hG7 HLT.o;have HRn:=Ph hRn;clear hsp hJ7 hG7 hRn)
       gi_wp2
       refine⟨fun h=>absurd h Yd,HRn.o.mono ?_⟩;clear hy7;rintro e8 W8 ⟨rfl,hJ8,hP8⟩;have HJ8:=Ph hJ8;have HP8:=Ph hP8;clear hJ8 hP8 HRn;gi_wp2
       go_wp2
       go_roundg (g2+1)
       case measure=>omega
       case rel=>exact⟨pre++[(x,v,q1)],q1,Ph (by have:=HGF.o;have:=HGR.o;simp only [Ya,List.length_singleton];omega),Ph (by rw [cB];exact hn),HJ8,HP8⟩
      ·have hk1:k0=false:=by
        rcases hend with h | ⟨_,_,h⟩
        ·exact absurd HE0.o h
        ·rw [←HK0.o];cases hrs:vO tt with
         | true=>simp
         | false =>
           have:tk≠1:=fun e=>h ⟨e,hrs⟩;rw [lG this];rfl
       subst hk1;injection hr with hr1 hr2;subst hr2;go_wp2_with fail
       simp only [Exit.noGoto];go_end0
       exact⟨⟨_,rfl⟩,pre,hr1.symm,HJR.o _ HP.o.fr,HP.o.pq⟩
     ·have hmk:kM tt=some (m+3):=HMK.o.elim (fun h=>h.2) (fun h=>absurd h.1 Yo);rcases HST.o with⟨k,x,q1,_,hl,hk,hr,hn⟩ | ⟨x,q1,_,_,hk,_⟩ | ⟨hend,hr⟩
      ·have HGR:Ud (qc.s.n+1≤q1.s.n):=Ph ((grT E _).read _ (.inr (zD2 hk)) _ _ _ hr);rw [hmk]at hk;injection hk with hk;subst hk;have HL:Ud ((⟨zE qc.s,qc.l⟩:QSt).l.length≤800000000):=Ph hl;have hRD:gk≠0:=by rintro rfl;unfold qY at hr;cases hr
       obtain⟨g2,rfl⟩:∃ g2,gk=g2+1:=⟨gk-1,Yo⟩;have HB2:Ud (qF4 B p E T g2):=Ph (HIH.o g2 (by have:=HGF.o;omega));have HPB:=Ph (HJB.o pre W5 (HJR.o W5 HP.o.fr));go_upto_region 12 with fail
       go_cut [] (fun wr=>Ud (PQ B wo p E T ⟨((⟨zE qc.s,qc.l⟩:QSt)).s,((⟨zE qc.s,qc.l⟩:QSt)).l++[ta]⟩ wr))
       case first =>
        rename_i J1 K1 hR1 hM1;refine kG7 ((⟨zE qc.s,qc.l⟩:QSt)) W5 pb bt tk ta tf (Ph HP.o.pq) HL HT HPB _ Yk _ _ _ _ _ _ _ _ _ _ _ _ _ _ _ _ _ _ _ _ _ _ _ _ _ _ _ _ _ _ _ _ _ _ _ _ _ _ _ _ _ _ _ _ _ _ _ _ _ _ _ _ _ _ _ _ _ _ _ _ _ _ K1 _ (fun x47 x48 x49 x50 x51 x52 x53 x54 x55 x56 x57 W' h12=>?_);apply hM1;go_meet
        exact Ph (HP.o.trans h12.o)
       case rest =>
       have HPn:=hcut;clear HP HT HPB;have HP:=HPn;clear HPn;generalize wc=W6 at *;(try dsimp only at HP);rcases(by omega:m=0∨m=1∨m=2∨m=3∨m=4∨m=5)with rfl | rfl | rfl | rfl | rfl | rfl
       ·simp only [show stF 0=148 from rfl];change qY E (g2+1) 3 _=some (x,q1)at hr;obtain⟨b',x',q1',h1',h2',rfl⟩:=zE4 hr;have b1:W6.cell? ⟨pb,0,none⟩=some (uQ p 0):=(HJB.o pre W6 (HJR.o W6 HP.o.fr)).cell 0;have HCC:=Ph (kG6 g2 _ b' x' q1' q1 h1' h2' W6 (Ph HP.o.pq));have HQ:Ud (∀ e W,vH B W6 p E T (.mk 3 [] [b',x'] 0 [] []) q1 e W→∃ v,e=.returned (stV (.mk 3 [] [b',x'] 0 [] []) v)∧J pre W∧GY B p E T ((.mk 3 [] [b',x'] 0 [] []),v,q1) W6 W):=Ph fun e W ⟨v,hv,hs,hq⟩=>⟨v,hv,HJQ.o pre W6 W (HJR.o W6 HP.o.fr) ⟨_,HP.o.pq⟩ hq.fr,⟨hs,hq⟩⟩;have HJ6:Ud (J pre W6):=Ph (HJR.o W6 HP.o.fr);go_upto_region 13 with fail
        refine(wpIn_wide (n:=n)).1 ?_;gi_wp2_with (refine⟨trivial,fun h=>absurd h Yd,?_⟩;gi_at_call 148;refine(callsIn_wide.2 HCC.o).mono ?_;rintro e7 W7 hsp;obtain⟨v,rfl,hJ7,hG7⟩:=HQ.o _ _ hsp;obtain⟨fn7,tmps7,assign7,body7,hy7,hRn⟩:=HY.o pre ((.mk 3 [] [b',x'] 0 [] []),v,q1) W6 W7 HJ6.o hJ7 hG7 HLT.o;have HRn:=Ph hRn;clear hsp hJ7 hG7 hRn)
        gi_wp2
        refine⟨fun h=>absurd h Yd,HRn.o.mono ?_⟩;clear hy7;rintro e8 W8 ⟨rfl,hJ8,hP8⟩;have HJ8:=Ph hJ8;have HP8:=Ph hP8;clear hJ8 hP8 HRn;gi_wp2
        go_wp2
        go_roundg (g2+1)
        case measure=>omega
        case rel=>exact⟨pre++[((.mk 3 [] [b',x'] 0 [] []),v,q1)],q1,Ph (by have:=HGF.o;have:=HGR.o;simp only [Ya,List.length_singleton];omega),Ph (by rw [cB];exact hn),HJ8,HP8⟩
       ·simp only [show stF 1=149 from rfl];change qY E (g2+1) 4 _=some (x,q1)at hr;obtain⟨rfl,rfl⟩:=zE5 hr;have b1:W6.cell? ⟨pb,0,none⟩=some (uQ p 0):=(HJB.o pre W6 (HJR.o W6 HP.o.fr)).cell 0;have HCC:=Ph (kG5 _ W6 (Ph HP.o.pq));have HQ:Ud (∀ e W,vH B W6 p E T (.mk 4 [] [] 0 [] []) (⟨zE qc.s,qc.l++[ta]⟩:QSt) e W→∃ v,e=.returned (stV (.mk 4 [] [] 0 [] []) v)∧J pre W∧GY B p E T ((.mk 4 [] [] 0 [] []),v,(⟨zE qc.s,qc.l++[ta]⟩:QSt)) W6 W):=Ph fun e W ⟨v,hv,hs,hq⟩=>⟨v,hv,HJQ.o pre W6 W (HJR.o W6 HP.o.fr) ⟨_,HP.o.pq⟩ hq.fr,⟨hs,hq⟩⟩;have HJ6:Ud (J pre W6):=Ph (HJR.o W6 HP.o.fr);go_upto_region 13 with fail
        refine(wpIn_wide (n:=n)).1 ?_;gi_wp2_with (refine⟨trivial,fun h=>absurd h Yd,?_⟩;gi_at_call 149;refine(callsIn_wide.2 HCC.o).mono ?_;rintro e7 W7 hsp;obtain⟨v,rfl,hJ7,hG7⟩:=HQ.o _ _ hsp;obtain⟨fn7,tmps7,assign7,body7,hy7,hRn⟩:=HY.o pre ((.mk 4 [] [] 0 [] []),v,(⟨zE qc.s,qc.l++[ta]⟩:QSt)) W6 W7 HJ6.o hJ7 hG7 HLT.o;have HRn:=Ph hRn;clear hsp hJ7 hG7 hRn)
        gi_wp2
        refine⟨fun h=>absurd h Yd,HRn.o.mono ?_⟩;clear hy7;rintro e8 W8 ⟨rfl,hJ8,hP8⟩;have HJ8:=Ph hJ8;have HP8:=Ph hP8;clear hJ8 hP8 HRn;gi_wp2
        go_wp2
        go_roundg (g2+1)
        case measure=>omega
        case rel=>exact⟨pre++[((.mk 4 [] [] 0 [] []),v,(⟨zE qc.s,qc.l++[ta]⟩:QSt))],(⟨zE qc.s,qc.l++[ta]⟩:QSt),Ph (by have:=HGF.o;have:=HGR.o;simp only [Ya,List.length_singleton];omega),Ph (by rw [cB];exact hn),HJ8,HP8⟩
       ·simp only [show stF 2=150 from rfl];change qY E (g2+1) 5 _=some (x,q1)at hr;obtain⟨rfl,rfl⟩:=zE6 hr;have b1:W6.cell? ⟨pb,0,none⟩=some (uQ p 0):=(HJB.o pre W6 (HJR.o W6 HP.o.fr)).cell 0;have HCC:=Ph (jP1 _ W6 (Ph HP.o.pq));have HQ:Ud (∀ e W,vH B W6 p E T (.mk 5 [] [] 0 [] []) (⟨zE qc.s,qc.l++[ta]⟩:QSt) e W→∃ v,e=.returned (stV (.mk 5 [] [] 0 [] []) v)∧J pre W∧GY B p E T ((.mk 5 [] [] 0 [] []),v,(⟨zE qc.s,qc.l++[ta]⟩:QSt)) W6 W):=Ph fun e W ⟨v,hv,hs,hq⟩=>⟨v,hv,HJQ.o pre W6 W (HJR.o W6 HP.o.fr) ⟨_,HP.o.pq⟩ hq.fr,⟨hs,hq⟩⟩;have HJ6:Ud (J pre W6):=Ph (HJR.o W6 HP.o.fr);go_upto_region 13 with fail
        refine(wpIn_wide (n:=n)).1 ?_;gi_wp2_with (refine⟨trivial,fun h=>absurd h Yd,?_⟩;gi_at_call 150;refine(callsIn_wide.2 HCC.o).mono ?_;rintro e7 W7 hsp;obtain⟨v,rfl,hJ7,hG7⟩:=HQ.o _ _ hsp;obtain⟨fn7,tmps7,assign7,body7,hy7,hRn⟩:=HY.o pre ((.mk 5 [] [] 0 [] []),v,(⟨zE qc.s,qc.l++[ta]⟩:QSt)) W6 W7 HJ6.o hJ7 hG7 HLT.o;have HRn:=Ph hRn;clear hsp hJ7 hG7 hRn)
        gi_wp2
        refine⟨fun h=>absurd h Yd,HRn.o.mono ?_⟩;clear hy7;rintro e8 W8 ⟨rfl,hJ8,hP8⟩;have HJ8:=Ph hJ8;have HP8:=Ph hP8;clear hJ8 hP8 HRn;gi_wp2
        go_wp2
        go_roundg (g2+1)
        case measure=>omega
        case rel=>exact⟨pre++[((.mk 5 [] [] 0 [] []),v,(⟨zE qc.s,qc.l++[ta]⟩:QSt))],(⟨zE qc.s,qc.l++[ta]⟩:QSt),Ph (by have:=HGF.o;have:=HGR.o;simp only [Ya,List.length_singleton];omega),Ph (by rw [cB];exact hn),HJ8,HP8⟩
       ·simp only [show stF 3=151 from rfl];change qY E (g2+1) 6 _=some (x,q1)at hr;have b1:W6.cell? ⟨pb,0,none⟩=some (uQ p 0):=(HJB.o pre W6 (HJR.o W6 HP.o.fr)).cell 0;have HCC:=Ph (jZ1 g2 HB2.o _ x q1 hr W6 (Ph HP.o.pq));have HQ:Ud (∀ e W,vH B W6 p E T x q1 e W→∃ v,e=.returned (stV x v)∧J pre W∧GY B p E T (x,v,q1) W6 W):=Ph fun e W ⟨v,hv,hs,hq⟩=>⟨v,hv,HJQ.o pre W6 W (HJR.o W6 HP.o.fr) ⟨_,HP.o.pq⟩ hq.fr,⟨hs,hq⟩⟩;have HJ6:Ud (J pre W6):=Ph (HJR.o W6 HP.o.fr);go_upto_region 13 with fail
        refine(wpIn_wide (n:=n)).1 ?_;gi_wp2_with (refine⟨trivial,fun h=>absurd h Yd,?_⟩;gi_at_call 151;refine(callsIn_wide.2 HCC.o).mono ?_;rintro e7 W7 hsp;obtain⟨v,rfl,hJ7,hG7⟩:=HQ.o _ _ hsp;obtain⟨fn7,tmps7,assign7,body7,hy7,hRn⟩:=HY.o pre (x,v,q1) W6 W7 HJ6.o hJ7 hG7 HLT.o;have HRn:=Ph hRn;clear hsp hJ7 hG7 hRn)
        gi_wp2
        refine⟨fun h=>absurd h Yd,HRn.o.mono ?_⟩;clear hy7;rintro e8 W8 ⟨rfl,hJ8,hP8⟩;have HJ8:=Ph hJ8;have HP8:=Ph hP8;clear hJ8 hP8 HRn;gi_wp2
        go_wp2
        go_roundg (g2+1)
        case measure=>omega
        case rel=>exact⟨pre++[(x,v,q1)],q1,Ph (by have:=HGF.o;have:=HGR.o;simp only [Ya,List.length_singleton];omega),Ph (by rw [cB];exact hn),HJ8,HP8⟩
       ·simp only [show stF 4=152 from rfl];change qY E (g2+1) 7 _=some (x,q1)at hr;have b1:W6.cell? ⟨pb,0,none⟩=some (uQ p 0):=(HJB.o pre W6 (HJR.o W6 HP.o.fr)).cell 0;have HCC:=Ph (kM7 g2 HB2.o _ x q1 hr W6 (Ph HP.o.pq));have HQ:Ud (∀ e W,vH B W6 p E T x q1 e W→∃ v,e=.returned (stV x v)∧J pre W∧GY B p E T (x,v,q1) W6 W):=Ph fun e W ⟨v,hv,hs,hq⟩=>⟨v,hv,HJQ.o pre W6 W (HJR.o W6 HP.o.fr) ⟨_,HP.o.pq⟩ hq.fr,⟨hs,hq⟩⟩;have HJ6:Ud (J pre W6):=Ph (HJR.o W6 HP.o.fr);go_upto_region 13 with fail
        refine(wpIn_wide (n:=n)).1 ?_;gi_wp2_with (refine⟨trivial,fun h=>absurd h Yd,?_⟩;gi_at_call 152;refine(callsIn_wide.2 HCC.o).mono ?_;rintro e7 W7 hsp;obtain⟨v,rfl,hJ7,hG7⟩:=HQ.o _ _ hsp;obtain⟨fn7,tmps7,assign7,body7,hy7,hRn⟩:=HY.o pre (x,v,q1) W6 W7 HJ6.o hJ7 hG7 HLT.o;have HRn:=Ph hRn;clear hsp hJ7 hG7 hRn)
        gi_wp2
        refine⟨fun h=>absurd h Yd,HRn.o.mono ?_⟩;clear hy7;rintro e8 W8 ⟨rfl,hJ8,hP8⟩;have HJ8:=Ph hJ8;have HP8:=Ph hP8;clear hJ8 hP8 HRn;gi_wp2
        go_wp2
        go_roundg (g2+1)
        case measure=>omega
        case rel=>exact⟨pre++[(x,v,q1)],q1,Ph (by have:=HGF.o;have:=HGR.o;simp only [Ya,List.length_singleton];omega),Ph (by rw [cB];exact hn),HJ8,HP8⟩
       ·simp only [show stF 5=153 from rfl];change qY E (g2+1) 8 _=some (x,q1)at hr;obtain⟨l',h1',rfl⟩:=zE9 hr;have b1:W6.cell? ⟨pb,0,none⟩=some (uQ p 0):=(HJB.o pre W6 (HJR.o W6 HP.o.fr)).cell 0;have HCC:=Ph (kM6 g2 _ l' q1 h1' W6 (Ph HP.o.pq));have HQ:Ud (∀ e W,vH B W6 p E T (.mk 8 (jA E (zE qc.s)) l' 0 [] []) q1 e W→∃ v,e=.returned (stV (.mk 8 (jA E (zE qc.s)) l' 0 [] []) v)∧J pre W∧GY B p E T ((.mk 8 (jA E (zE qc.s)) l' 0 [] []),v,q1) W6 W):=Ph fun e W ⟨v,hv,hs,hq⟩=>⟨v,hv,HJQ.o pre W6 W (HJR.o W6 HP.o.fr) ⟨_,HP.o.pq⟩ hq.fr,⟨hs,hq⟩⟩;have HJ6:Ud (J pre W6):=Ph (HJR.o W6 HP.o.fr);go_upto_region 13 with fail
        refine(wpIn_wide (n:=n)).1 ?_;gi_wp2_with (refine⟨trivial,fun h=>absurd h Yd,?_⟩;gi_at_call 153;refine(callsIn_wide.2 HCC.o).mono ?_;rintro e7 W7 hsp;obtain⟨v,rfl,hJ7,hG7⟩:=HQ.o _ _ hsp;obtain⟨fn7,tmps7,assign7,body7,hy7,hRn⟩:=HY.o pre ((.mk 8 (jA E (zE qc.s)) l' 0 [] []),v,q1) W6 W7 HJ6.o hJ7 hG7 HLT.o;have HRn:=Ph hRn;clear hsp hJ7 hG7 hRn)
        gi_wp2
        refine⟨fun h=>absurd h Yd,HRn.o.mono ?_⟩;clear hy7;rintro e8 W8 ⟨rfl,hJ8,hP8⟩;have HJ8:=Ph hJ8;have HP8:=Ph hP8;clear hJ8 hP8 HRn;gi_wp2
        go_wp2
        go_roundg (g2+1)
        case measure=>omega
        case rel=>exact⟨pre++[((.mk 8 (jA E (zE qc.s)) l' 0 [] []),v,q1)],q1,Ph (by have:=HGF.o;have:=HGR.o;simp only [Ya,List.length_singleton];omega),Ph (by rw [cB];exact hn),HJ8,HP8⟩
      ·rw [hmk]at hk;cases hk
      ·exfalso;rcases hend with h | ⟨_,h,_⟩
       ·exact h HE0.o
       ·rw [hmk]at h;cases h
  ·have e1:((qc.s.e:Int) == 0)=false:=by simp;omega
   rcases hst with⟨_,_,_,h,_⟩ | ⟨_,_,h,_⟩ | ⟨_,hr⟩
   ·exact absurd h he
   ·exact absurd h he
   ·injection hr with hr1 hr2;subst hr2;go_wp2_with fail
    simp only [Exit.noGoto];go_end0
    exact⟨⟨_,rfl⟩,pre,hr1.symm,HJ.o,HPc.o⟩
end
end
section
open Go.RowKit Go.Shelf
section
variable {n l:Nat} {P:Program} {ops:Array Oper} {Q:Exit→Act→World→Prop} {md:Region.Mode}
theorem qW6 (hq:¬LetsOut Q) {o:Oper} (hd:∀ c,o.op≠.defer c) {K:Act→World→Prop} {a:Act} {w:World} (h:o.wp P a w K Q):o.wpIn (Fence.wide.inRound l) n P a w K Q:=by
 unfold Oper.wpIn Oper.wp at *;refine⟨fun f _=>trivial,?_⟩;rw [show(Fence.wide.inRound l).round=some l from rfl,Oper.semAt_some l _ _ hd];generalize (execOp a.eval o).run P w=r at *;cases r with
 | ok x w' =>
   have hd0:(Fence.wide.inRound l).depth.isSome=true→1≤n:=fun h=>absurd (show(none:Option Nat).isSome=true from h) Yd;cases x with
   | value v=>exact h
   | skip=>exact h
   | defer d=>exact h
   | enter f args=>exact⟨hd0,CallsIn.inRound l (callsIn_wide.2 h)⟩
   | row r args=>exact⟨hd0,fun c cs _=>let⟨v,w2,r,s⟩:=h c cs;⟨v,w2,r,stepsIn_wide.2 s⟩⟩
   | _=>exact False.elim h
 | halt x w'=>cases x <;> simp only [Oper.upon,Oper.uponIn]at h ⊢ <;> exact h
theorem qL9 (hq:¬LetsOut Q) (hd:∀ o∈ops,∀ c,o.op≠.defer c):∀ (k:Nat) (listed:Array Bool) (a:Act) (w:World),wpAny P md ops Q k listed a w→wpAnyIn (Fence.wide.inRound l) n P md ops Q k listed a w:=by
 intro k;induction k with
 | zero=>intro listed a w h;exact h
 | succ k ih =>
   intro listed a w h;refine⟨h.1,fun i hi=>?_⟩;have h1:=h.2 i hi;unfold wpOp at h1;unfold wpOpIn;cases ho:ops[i]? with
   | none=>rw [ho]at h1;exact ih _ _ _ h1
   | some o =>
     rw [ho]at h1;have hm:o∈ops:=Array.mem_of_getElem? ho;simp only at h1 ⊢;split
     ·rename_i hw;rw [lM hw]at h1;rcases h1 with h1 | ⟨_,h1⟩
      ·exact Oper.wpIn_mono (fun a w h=>ih _ a w h) (qW6 hq (hd o hm) h1)
      ·exact absurd h1 hq
     ·rename_i hw;rw [lN hw]at h1;exact⟨fun f _=>trivial,ih _ _ _ h1⟩
theorem qF5 {id:Nat} {a:Act} {w:World} (hm:P.follows .mixedOrders=true) (hq:¬LetsOut Q) (hd:∀ o∈ops,∀ c,o.op≠.defer c)
 (h:wpAny P .any ops Q ops.size (Array.replicate ops.size false) a w.drew):(Code.region id ops true).wpIn (Fence.wide.inRound l) n P Q a w :=
 wpIn_region_any hm (qL9 hq hd _ _ _ _ h)
end
end
section
open Go.RowKit
theorem zF2 {W:World} {base n c g size j:Nat} {e:TypeId} {xs:List Value} (h:W.ownsRow base e size (.slice (some ⟨g,0,none⟩) n c) n xs) (hj:j<n*size) (u:Value):(W.setCell ⟨g,j,none⟩ u).ownsRow base e size (.slice (some ⟨g,0,none⟩) n c) n (xs.set j u):=by
 refine⟨by rw [List.length_set];exact h.1,?_⟩;rcases h.2 with⟨h0,_⟩ | ⟨g',cap,cur,h0,hb,hh,h3,h4,h5,h6⟩
 ·cases h0
 ·injection h0 with h0 _ h1;injection h0 with h0;injection h0 with h0;subst h0;refine .inr ⟨g,cap,cur.setIfInBounds j u,by rw [h1],hb,?_,h3,h4,by simp [h5],?_⟩
  ·simp [World.setCell,Array.getElem?_modify,hh]
  ·rw [←h6,Array.toList_setIfInBounds,List.take_set]
abbrev jL8 (W:World) (g o:Nat) (u0 u1 u2 u3 u4 u5:Value):World:=(((((W.setCell ⟨g,o,none⟩ u0).setCell ⟨g,o+1,none⟩ u1).setCell ⟨g,o+2,none⟩ u2).setCell ⟨g,o+3,none⟩ u3).setCell ⟨g,o+4,none⟩ u4).setCell ⟨g,o+5,none⟩ u5
theorem xX {W:World} {g o:Nat} {u0 u1 u2 u3 u4 u5:Value}:Fr (fun k=>k=g) W (jL8 W g o u0 u1 u2 u3 u4 u5) :=
 ((((((Fr.refl (fun q=>q=g) W).setCell (p:=⟨g,o,none⟩) (.inl rfl) u0).setCell (p:=⟨g,o+1,none⟩) (.inl rfl) u1).setCell (p:=⟨g,o+2,none⟩) (.inl rfl) u2).setCell (p:=⟨g,o+3,none⟩) (.inl rfl) u3).setCell (p:=⟨g,o+4,none⟩) (.inl rfl) u4).setCell (p:=⟨g,o+5,none⟩) (.inl rfl) u5
theorem kR6 (X:List Value) (a0 a1 a2 a3 a4 a5 u0 u1 u2 u3 u4 u5:Value) :
 (((((((X++[a0,a1,a2,a3,a4,a5]).set X.length u0).set (X.length+1) u1).set (X.length+2) u2).set (X.length+3) u3).set (X.length+4) u4).set (X.length+5) u5)=X++[u0,u1,u2,u3,u4,u5]:=by
 induction X with
 | nil=>rfl
 | cons x X ih =>
   have e:∀ k,(x :: X).length+k=(X.length+k)+1:=fun k=>Yp;have e0:(x :: X).length=X.length+1:=rfl;rw [e 1,e 2,e 3,e 4,e 5,e0];simp only [lR,List.set_cons_succ];rw [ih]
theorem jP3 {W:World} {base n c g:Nat} {e:TypeId} {X:List Value} {a0 a1 a2 a3 a4 a5:Value} (h:W.ownsRow base e 6 (.slice (some ⟨g,0,none⟩) (n+1) c) (n+1) (X++[a0,a1,a2,a3,a4,a5])) (hX:X.length=n*6) (u0 u1 u2 u3 u4 u5:Value) :
 (jL8 W g (n*6) u0 u1 u2 u3 u4 u5).ownsRow base e 6 (.slice (some ⟨g,0,none⟩) (n+1) c) (n+1) (X++[u0,u1,u2,u3,u4,u5]):=by
 rw [←kR6 X a0 a1 a2 a3 a4 a5,hX];exact zF2 (zF2 (zF2 (zF2 (zF2 (zF2 h Yo _) Yo _) Yo _) Yo _) Yo _) Yo _
section
variable {α β:Type} {c:α→β→List Value} {t:TypeId} {A:(Nat→Prop)→World→α→β→Prop} {B:Nat} {w:World} {l:List α} {x0 x:α} {v:β} {g n cc:Nat}
theorem zS8 {γ:Type}:∀ (l:List γ) (n:Nat),l.length=n+1→∃ l0 y,l=l0++[y]∧l0.length=n
 | [],n,h=>by simp at h
 | [y],0,_=>⟨[],y,rfl,rfl⟩
 | [y],n+1,h=>by simp at h
 | y :: z :: r,0,h=>by simp at h
 | y :: z :: r,n+1,h=>by obtain⟨l0,u,e,e2⟩:=zS8 (z :: r) n (by simpa using h);exact⟨y :: l0,u,by rw [e];rfl,by simp [e2]⟩
theorem kG9 (hc:∀ x v,(c x v).length=6):∀ (l:List α) (vs:List β),vs.length=l.length→((l.zip vs).flatMap fun p=>c p.1 p.2).length=l.length*6
 | [],_,_=>Ym
 | y :: l,[],h=>by simp at h
 | y :: l,u :: vs,h=>by have:=kG9 hc l vs (by simpa using h);simp only [List.zip_cons_cons,lQ,Ya,hc,this,Yc];omega
theorem OwnG.setLast (I:qD6 A) (hc:∀ x v,(c x v).length=6) (h:OwnG c t 6 A B w (l++[x0]) ⟨some ⟨g,0,none⟩,n+1,cc⟩) (hx:A (fun k=>B≤k∧k≠g) w x v) (u0 u1 u2 u3 u4 u5:Value) (hu:c x v=[u0,u1,u2,u3,u4,u5]) :
 OwnG c t 6 A B (jL8 w g (n*6) u0 u1 u2 u3 u4 u5) (l++[x]) ⟨some ⟨g,0,none⟩,n+1,cc⟩:=by
 obtain⟨vs,h1,h2,h3,h4⟩:=h;have hn:n=l.length:=by simpa using h2
 obtain⟨vs0,v0,rfl,hl0⟩:=zS8 vs n (by rw [h1];simp [hn]);have hlv:vs0.length=l.length:=Yo;have e:∀ (y:α) (u:β),(((l++[y]).zip (vs0++[u])).flatMap fun p=>c p.1 p.2)=((l.zip vs0).flatMap fun p=>c p.1 p.2)++c y u:=by intro y u;rw [List.zip_append hlv.symm,List.flatMap_append];simp
 have own:∀ k,(Value.slice (some ⟨g,0,none⟩) (n+1) cc).ownBlock≠some k↔k≠g:=by intro k;show some g≠some k↔_;simp [eq_comm]
 have st:∀ y u,A (fun k=>B≤k∧(Value.slice (some ⟨g,0,none⟩) (n+1) cc).ownBlock≠some k) w y u→A (fun k=>B≤k∧(Value.slice (some ⟨g,0,none⟩) (n+1) cc).ownBlock≠some k) (jL8 w g (n*6) u0 u1 u2 u3 u4 u5) y u:=fun y u hy =>
  I.stay _ w _ y u (Stays.fr xX (fun b _ hp e=>(own b).1 hp.2 e)) hy
 refine⟨vs0++[v],by simp [hlv],by simp [hn],?_,?_⟩
 ·rw [e,hu];rw [e]at h3;have h6:=hc x0 v0;match hm:c x0 v0,h6 with
  | [a0,a1,a2,a3,a4,a5],_ =>
    rw [hm]at h3;exact jP3 h3 (by rw [kG9 hc _ _ hlv,hn]) _ _ _ _ _ _
 ·intro i y u hy hu;rcases Nat.lt_or_ge i l.length with hi | hi
  ·rw [cI hi]at hy;rw [cI Yo]at hu;exact st y u (h4 i y u (by rw [cI hi];exact hy) (by rw [cI Yo];exact hu))
  ·rw [cH hi]at hy;rw [cH Yo]at hu;have hi0:i-l.length=0:=by
    rcases Nat.eq_zero_or_pos (i-l.length)with h | h
    ·exact h
    ·rw [cW Yp]at hy;cases hy
   rw [hi0]at hy;rw [hlv,hi0]at hu;simp at hy hu;subst hy hu;exact st _ _ (I.mono _ _ w _ _ (fun b _ hb=>⟨hb.1,(own b).2 hb.2⟩) hx)
theorem OwnG.blk (hc:∀ x v,(c x v).length=6) {S:SV} (h:OwnG c t 6 A B w l S) (hn:0<S.n):∃ g,S.A=some ⟨g,0,none⟩∧B≤g∧g<w.heap.size∧∀ j,j<S.n*6→(∃ u,w.cell? ⟨g,j,none⟩=some u)∧w.frozen? ⟨g,j,none⟩=false:=by
 obtain⟨vs,h1,h2,h3,h4⟩:=h;rcases h3.2 with⟨h0,_⟩ | ⟨g',cap,cur,h0,hb,hh,h5,h6,h7,h8⟩
 ·injection h0 with _ h0;omega
 ·injection h0 with h0 _ h1;refine⟨g',h0,hb,zO hh,fun j hj=>?_⟩;have hsz:j<cur.size:=by
   have:=h3.1;have h9:(cur.toList.take (S.n*6)).length=S.n*6:=by rw [h8];exact this
   rw [cL,Array.length_toList]at h9;omega
  constructor
  ·exact⟨cur[j],by simp [World.cell?,hh,hsz]⟩
  ·simp [World.frozen?,hh]
end
end
section
open Go.RowKit Go.PlainAid Go.Shelf
theorem kH1 (p:Nat) (w:World):Calls prog 103 #[uQ p 0] w fun e w'=>∃ pb,e=.returned (.func (.func 130) #[] #[uQ pb 0])∧w.heap.size≤pb∧Bk w' pb 103 #[uQ p 0]∧Below w.heap.size w w':=by
 go_enter func103,ntmps103
 go_wp2_with fail
 go_ret;exact⟨w.heap.size,rfl,lF _,Bk.new w 103 _,zB⟩
def FrN (w w':World):Prop:=Fr (fun k=>∃ o,w.heap[k]?=some o∧o.isCells=false) w w'
theorem FrN.put {W:World} {l:Nat} {o o':Obj} (h:W.heap[l]?=some o) (hc:o.isCells=false):FrN W (W.putObj l o'):=(wP W l o').mono fun k _ e=>by subst e;exact⟨o,h,hc⟩
theorem FrN.not {w w':World} {k:Nat} {cs:Array Value} {t:TypeId} {fr:Nat×Nat} (h:w.heap[k]?=some (.cells cs t fr)):¬∃ o,w.heap[k]?=some o∧o.isCells=false:=by rintro⟨o,h1,h2⟩;rw [h]at h1;injection h1 with h1;subst h1;cases h2
theorem FrN.bk {w w':World} {r:Nat} {t:TypeId} {cs:Array Value} (hf:FrN w w') (h:Bk w r t cs):Bk w' r t cs:=h.fr hf (FrN.not (w':=w') h)
theorem FrN.stays {P:Nat→Prop} {w w':World} (hf:FrN w w'):Stays P w w':=fun b cs t fr hb _ _=>hf.block b (zO hb) (FrN.not (w':=w') hb)
section
variable {B:Nat} {w w':World} {p:Nat} {E:Env} {T:TV} {q:QSt}
theorem Pq.putN {l:Nat} {o o':Obj} (h:Pq B w p E T q) (hl:w.heap[l]?=some o) (hc:o.isCells=false) (hB:B≤l):Pq B (w.putObj l o') p E T q:=by obtain⟨Q,h1,h2,h3⟩:=h.ex;have hf:FrN w (w.putObj l o'):=FrN.put hl hc;have:=h.g0;have:=h.g1;refine⟨⟨Q,⟨hf.bk h1.bk,h1.rd.keeps (Keeps.fr hf fun b cs fr hb=>FrN.not (w':=w) hb),h1.ok,h1.n,h1.vr.fr (wP w l o') Yo Yo,h1.g0,h1.g1,lE h1.base hf.size⟩,?_,h3⟩,h.g0,h.g1,lE h.b hf.size⟩;refine jP h2 hf fun k hk=>?_;obtain⟨_,cs,hb⟩:=qF h2 k hk;exact FrN.not (w':=w) hb
structure LI (B:Nat) (w0:World) (p lb pb:Nat) (pre:List Yi) (W:World):Prop where
 o:∃ S:SV,Bk W lb 34 #[.slice S.A S.n S.c]∧jC7 (lb+1) W (pre.map (·.1)) S
 ptr:Bk W pb 103 #[uQ p 0]
 fr:FrQ B p w0 W
variable {w0:World} {lb pb:Nat} {pre:List Yi}
theorem LI.putN {l:Nat} {o o':Obj} (h:LI B w0 p lb pb pre w) (hl:w.heap[l]?=some o) (hc:o.isCells=false) (hB:w0.heap.size≤l):LI B w0 p lb pb pre (w.putObj l o'):=by have hf:FrN w (w.putObj l o'):=FrN.put hl hc;obtain⟨⟨S,h1,h2⟩,h3,h4⟩:=h;exact⟨⟨S,hf.bk h1,h2.stay itS yW hf.stays⟩,hf.bk h3,Fr.then h4 (wP w l o') fun i hi e=>Yo⟩
theorem LI.below (h:LI B w0 p lb pb pre w) (hb:Below w.heap.size w w'):LI B w0 p lb pb pre w':=by obtain⟨⟨S,h1,h2⟩,h3,h4⟩:=h;exact⟨⟨S,zD h1 hb,h2.stay itS yW (Stays.below hb)⟩,zD h3 hb,h4.then hb⟩
theorem LI.frq (h:LI B w0 p lb pb pre w) (hf:FrQ B p w w') (h1:p<lb) (h2:pb≠p):LI B w0 p lb pb pre w':=by
 obtain⟨⟨S,h3,h4⟩,h5,h6⟩:=h;refine⟨⟨S,hf.bk h3 Yd Yo,h4.stay itS yW fun b cs t fr hb ht hp=>hf.block b (zO hb) ?_⟩,hf.bk h5 Yd h2,h6.trans hf⟩;rintro(e | ⟨_,cs3,fr3,e⟩)
 ·omega
 ·rw [e]at hb;injection hb with hb;injection hb with _ hb;exact zS5 (hb▸ht)
theorem FrQ.keeps (hf:FrQ B p w w') (hq:Pq B w p E T q):KeepsOthers w w':=by
 refine⟨hf.size,fun k o hk hc=>(hf.block k (zO hk) ?_).trans hk⟩;rintro(rfl | ⟨_,cs,fr,e⟩)
 ·obtain⟨cs,hb⟩:=hq.bk;exact FrN.not (w':=w') hb ⟨o,hk,hc⟩
 ·exact FrN.not (w':=w') e ⟨o,hk,hc⟩
end
end
section
open Go.RowKit Go.PlainAid Go.Shelf
theorem jZ3:El prog 34 108 6:=El.mk' (z:=.agg uS) (bytes:=104) underlying34 Yk rfl Yo Yo
theorem zS9 (x:Sx) (v:SV×SV×SV):∀ u∈zC6 x v,u.oneCell'=true:=by intro u hu;simp only [zC6,lU,lT,or_false]at hu;rcases hu with rfl | rfl | rfl | rfl | rfl | rfl <;> rfl
theorem jZ4 (X:Sx) (S1 S2 S3:SV):stV X (S1,S2,S3)=.agg #[uB X.kind,uR X.name,.slice S1.A S1.n S1.c,uI X.bound,.slice S2.A S2.n S2.c,.slice S3.A S3.n S3.c]:=rfl
theorem FrQ.staysP {B p lb:Nat} {w w':World} (hf:FrQ B p w w') (h1:p<lb):Stays (fun k=>lb+1≤k) w w':=by
 intro b cs t fr hb ht hp;refine hf.block b (zO hb) ?_;rintro(e | ⟨_,cs3,fr3,e⟩)
 ·omega
 ·rw [e]at hb;injection hb with hb;injection hb with _ hb;exact zS5 (hb▸ht)
def kH2 (X:Sx) (V:SV×SV×SV) (P:Nat→Prop) (w:World) (y:Sx) (u:SV×SV×SV):Prop:=SxP P w y u∧SxP P w X V
theorem kR7 (X:Sx) (V:SV×SV×SV):qD6 (kH2 X V):=⟨fun P w w' y v hs h=>⟨itS.stay _ _ _ _ _ hs h.1,itS.stay _ _ _ _ _ hs h.2⟩,fun P P' w y v hp h=>⟨itS.mono _ _ _ _ _ hp h.1,itS.mono _ _ _ _ _ hp h.2⟩⟩
theorem qA8 {F:Nat→Prop} {w w':World} (hf:Fr F w w') (hF:∀ k,k<w.heap.size→F k→∃ t cs,Bk w k t cs):KeepsOthers w w' :=
 ⟨hf.size,fun k o hk hc=>(hf.block k (zO hk) (fun e=>by obtain⟨t,cs,hb⟩:=hF k (zO hk) e;exact FrN.not (w':=w') hb ⟨o,hk,hc⟩)).trans hk⟩
section
variable {B:Nat} {p:Nat} {E:Env} {T:TV}
theorem jZ5 {w U:World} {lb pb sb:Nat} {pre:List Yi} {X:Sx} {S S1 S2 S3:SV} {q1:QSt} (hpw:p<lb) (hs:Bk U sb 108 #[uB X.kind,uR X.name,.slice S1.A S1.n S1.c,uI X.bound,.slice S2.A S2.n S2.c,.slice S3.A S3.n S3.c]) (hl:Bk U lb 34 #[.slice S.A S.n S.c]) (ho:jC7 (lb+1) U (pre.map (·.1)) S) (hx:SxP (fun k=>lb+1≤k∧(Value.slice S.A S.n S.c).ownBlock≠some k) U X (S1,S2,S3))
 (hq:Pq B U p E T q1) (hr:Bk U pb 103 #[uQ p 0]) (hf:FrQ B p w U) (hbig:S.n<1000000000) (hlb:lb<sb) (hw:w.heap.size=lb) (hB:B≤lb) :
 ∃ (g c':Nat) (w6:World),(∀ ty,(Builtin.append_ #[34,34] ty #[.slice S.A S.n S.c,.slice (some ⟨U.drew.heap.size,0,none⟩) 1 1]).run prog (U.drew.alloc (.cells uS 108))=.ok (.slice (some ⟨g,0,none⟩) (S.n+1) c') w6)∧lb+1≤g∧g<w6.heap.size ∧
  ((∃ u,w6.cell? ⟨lb,0,none⟩=some u)∧(∃ u,w6.cell? ⟨g,S.n*6,none⟩=some u)∧(∃ u,w6.cell? ⟨g,S.n*6+1,none⟩=some u)∧(∃ u,w6.cell? ⟨g,S.n*6+2,none⟩=some u)∧(∃ u,w6.cell? ⟨g,S.n*6+3,none⟩=some u)∧(∃ u,w6.cell? ⟨g,S.n*6+4,none⟩=some u)∧(∃ u,w6.cell? ⟨g,S.n*6+5,none⟩=some u)) ∧
  (w6.frozen? ⟨lb,0,none⟩=false∧w6.frozen? ⟨g,S.n*6,none⟩=false∧w6.frozen? ⟨g,S.n*6+1,none⟩=false∧w6.frozen? ⟨g,S.n*6+2,none⟩=false∧w6.frozen? ⟨g,S.n*6+3,none⟩=false∧w6.frozen? ⟨g,S.n*6+4,none⟩=false∧w6.frozen? ⟨g,S.n*6+5,none⟩=false) ∧
  (Exit.normal=Exit.normal∧KeepsOthers U ((jL8 w6 g (S.n*6) (uB X.kind) (uR X.name) (.slice S1.A S1.n S1.c) (uI X.bound) (.slice S2.A S2.n S2.c) (.slice S3.A S3.n S3.c)).setCell ⟨lb,0,none⟩ (.slice (some ⟨g,0,none⟩) (S.n+1) c'))∧LI B w p lb pb (pre++[(X,(S1,S2,S3),q1)]) ((jL8 w6 g (S.n*6) (uB X.kind) (uR X.name) (.slice S1.A S1.n S1.c) (uI X.bound) (.slice S2.A S2.n S2.c) (.slice S3.A S3.n S3.c)).setCell ⟨lb,0,none⟩ (.slice (some ⟨g,0,none⟩) (S.n+1) c'))∧Pq B ((jL8 w6 g (S.n*6) (uB X.kind) (uR X.name) (.slice S1.A S1.n S1.c) (uI X.bound) (.slice S2.A S2.n S2.c) (.slice S3.A S3.n S3.c)).setCell ⟨lb,0,none⟩ (.slice (some ⟨g,0,none⟩) (S.n+1) c')) p E T q1)∧(Exit.normal=Exit.normal∧KeepsOthers U (jL8 (w6.setCell ⟨lb,0,none⟩ (.slice (some ⟨g,0,none⟩) (S.n+1) c')) g (S.n*6) (uB X.kind) (uR X.name) (.slice S1.A S1.n S1.c) (uI X.bound) (.slice S2.A S2.n S2.c) (.slice S3.A S3.n S3.c))∧LI B w p lb pb (pre++[(X,(S1,S2,S3),q1)]) (jL8 (w6.setCell ⟨lb,0,none⟩ (.slice (some ⟨g,0,none⟩) (S.n+1) c')) g (S.n*6) (uB X.kind) (uR X.name) (.slice S1.A S1.n S1.c) (uI X.bound) (.slice S2.A S2.n S2.c) (.slice S3.A S3.n S3.c))∧Pq B (jL8 (w6.setCell ⟨lb,0,none⟩ (.slice (some ⟨g,0,none⟩) (S.n+1) c')) g (S.n*6) (uB X.kind) (uR X.name) (.slice S1.A S1.n S1.c) (uI X.bound) (.slice S2.A S2.n S2.c) (.slice S3.A S3.n S3.c)) p E T q1)∧True:=by
 have hb:Ue U (U.drew.alloc (.cells uS 108)):=zG (lB U.heap.size U).drew _;have ho2:jC7 (lb+1) (U.drew.alloc (.cells uS 108)) (pre.map (·.1)) S:=ho.stay itS yW (Stays.below hb);have hx2:=itS.stay _ _ _ _ _ (Stays.below hb) hx;have hq2:=hq.below hb;have hl2:=zD hl hb;have hr2:=zD hr hb;have hf2:=hf.then hb;have hk2:KeepsOthers U (U.drew.alloc (.cells uS 108)):=qA8 (F:=fun _=>False) (Fr.of_below hb) fun _ _ h=>h.elim;have hx0:SxP (fun k=>lb+1≤k∧(uL S).ownBlock≠some k) (U.drew.alloc (.cells uS 108)) (.mk 0 [] [] 0 [] []) (⟨none,0,0⟩,⟨none,0,0⟩,⟨none,0,0⟩):=⟨⟨Yd,Yd,Yd,Yd⟩,RowG.nil,.nil,.nil⟩;have ho3:OwnG zC6 108 6 (kH2 X (S1,S2,S3)) (lb+1) (U.drew.alloc (.cells uS 108)) (pre.map (·.1)) S:=by obtain⟨vs,h1,h2,h3,h4⟩:=ho2;exact⟨vs,h1,h2,h3,fun i y v hy hv=>⟨h4 i y v hy hv,hx2⟩⟩
 have key:=fun ty=>OwnG.run (kR7 X (S1,S2,S3)) jZ3 yW zS9 (fun x v=>rfl) ho3 (.mk 0 [] [] 0 [] []) _ ⟨hx0,hx2⟩ (some ⟨U.drew.heap.size,0,none⟩) 1 (Rd.new U.drew uS 108) hbig (by have:=hl2.lt;omega) ty;obtain⟨A',c',w6,h1,h2,h3⟩:=key 0;obtain⟨g,rfl,hgl,hgu,hgc⟩:=OwnG.blk (fun x v=>rfl) h2 (by show 0<S.n+1;omega);have hty:∀ k,(uL S).ownBlock=some k→lb+1≤k∧∃ cs,Bk (U.drew.alloc (.cells uS 108)) k 108 cs:=fun k e=>ho2.typed e;have hx6:SxP (fun k=>lb+1≤k∧k≠g) w6 X (S1,S2,S3):=by obtain⟨vs,k1,k2,k3,k4⟩:=h2;obtain⟨vs0,v0,rfl,hl0⟩:=zS8 vs (pre.map (·.1)).length (by rw [k1];simp);have h9:=(k4 (pre.map (·.1)).length (.mk 0 [] [] 0 [] []) v0 (by rw [cH (lF _)];simp) (by rw [cH Yo,hl0];simp)).2;refine itS.mono _ _ _ _ _ (fun b _ hb=>⟨hb.1,fun e=>hb.2 ?_⟩) h9;rw [e];rfl
 have hg6:∃ cs,Bk w6 g 108 cs:=by obtain⟨_,cs,h⟩:=OwnG.typed h2 (k:=g) rfl;exact⟨cs,h⟩
 obtain⟨csg,hg6⟩:=hg6;have h2':jC7 (lb+1) w6 (pre.map (·.1)++[.mk 0 [] [] 0 [] []]) ⟨some ⟨g,0,none⟩,S.n+1,c'⟩:=by obtain⟨vs,k1,k2,k3,k4⟩:=h2;exact⟨vs,k1,k2,k3,fun i y v hy hv=>(k4 i y v hy hv).1⟩
 have hl6:Bk w6 lb 34 #[uL S]:=hl2.fr h3 (fun e=>by have:=(hty _ e).1;omega);have hr6:Bk w6 pb 103 #[uQ p 0]:=hr2.fr h3 (fun e=>by obtain⟨_,cs,h⟩:=hty _ e;exact h.ne hr2 Yd rfl);have hq6:Pq B w6 p E T q1:=hq2.data h3 fun k _ e=>by obtain⟨h,cs,h'⟩:=hty _ e;exact⟨Yo,_,cs,h',yW⟩
 have hf6:FrQ B p w w6:=Fr.then hf2 h3 fun i hi e=>by have:=(hty _ e).1;omega
 have hk6:KeepsOthers U w6:=hk2.trans (qA8 h3 fun k _ e=>by obtain⟨_,cs,h⟩:=hty _ e;exact⟨_,cs,h⟩);have hgp:g≠pb:=fun e=>by subst e;exact hg6.ne hr6 Yd rfl
 refine⟨g,c',w6,fun ty=>h1,hgl,hgu,⟨⟨_,hl6.cell 0⟩,(hgc _ (by show S.n*6<(S.n+1)*6;omega)).1,(hgc _ (by show S.n*6+1<(S.n+1)*6;omega)).1,(hgc _ (by show S.n*6+2<(S.n+1)*6;omega)).1,(hgc _ (by show S.n*6+3<(S.n+1)*6;omega)).1,(hgc _ (by show S.n*6+4<(S.n+1)*6;omega)).1,(hgc _ (by show S.n*6+5<(S.n+1)*6;omega)).1⟩,⟨hl6.frozen 0,(hgc _ (by show S.n*6<(S.n+1)*6;omega)).2,(hgc _ (by show S.n*6+1<(S.n+1)*6;omega)).2,(hgc _ (by show S.n*6+2<(S.n+1)*6;omega)).2,(hgc _ (by show S.n*6+3<(S.n+1)*6;omega)).2,(hgc _ (by show S.n*6+4<(S.n+1)*6;omega)).2,(hgc _ (by show S.n*6+5<(S.n+1)*6;omega)).2⟩,⟨rfl,?_,?_,?_⟩,⟨rfl,?_,?_,?_⟩,trivial⟩
 ·exact(hk6.trans (qA8 xX fun k _ e=>by subst e;exact⟨_,_,hg6⟩)).trans (KeepsOthers.setCell _ _ _)
 ·have hlS:=hl6.fr (xX (W:=w6) (g:=g) (o:=S.n*6) (u0:=uB X.kind) (u1:=uR X.name) (u2:=uL S1) (u3:=uI X.bound) (u4:=uL S2) (u5:=uL S3)) (fun e=>Yo);have hrS:=hr6.fr (xX (W:=w6) (g:=g) (o:=S.n*6) (u0:=uB X.kind) (u1:=uR X.name) (u2:=uL S1) (u3:=uI X.bound) (u4:=uL S2) (u5:=uL S3)) (fun e=>hgp e.symm);have hfS:=Fr.then hf6 (xX (W:=w6) (g:=g) (o:=S.n*6) (u0:=uB X.kind) (u1:=uR X.name) (u2:=uL S1) (u3:=uI X.bound) (u4:=uL S2) (u5:=uL S3)) (fun i hi e=>Yo);have hoS:=OwnG.setLast itS (fun x v=>rfl) h2' hx6 _ _ _ _ _ _ rfl;have hfl:=fun W:World=>(Fr.refl (fun k=>k=lb) W).setCell (p:=⟨lb,0,none⟩) (.inl rfl) (.slice (some ⟨g,0,none⟩) (S.n+1) c');refine⟨⟨⟨some ⟨g,0,none⟩,S.n+1,c'⟩,hlS.put 0 _,?_⟩,hrS.fr (hfl _) (fun e=>?_),Fr.then hfS (hfl _) fun i hi e=>Yo⟩
  ·rw [cB];exact hoS.stay itS yW (Stays.fr (hfl _) fun b _ hp e=>Yo)
  ·subst e;exact hlS.ne hrS Yd rfl
 ·have hqS:=hq6.data (xX (W:=w6) (g:=g) (o:=S.n*6) (u0:=uB X.kind) (u1:=uR X.name) (u2:=uL S1) (u3:=uI X.bound) (u4:=uL S2) (u5:=uL S3)) fun k _ e=>by subst e;exact⟨Yo,_,_,hg6,yW⟩
  have hlS:=hl6.fr (xX (W:=w6) (g:=g) (o:=S.n*6) (u0:=uB X.kind) (u1:=uR X.name) (u2:=uL S1) (u3:=uI X.bound) (u4:=uL S2) (u5:=uL S3)) (fun e=>Yo);exact Pq.box hqS hlS Yd Yd Yo hB ((Fr.refl (fun k=>k=lb) _).setCell (p:=⟨lb,0,none⟩) (.inl rfl) (.slice (some ⟨g,0,none⟩) (S.n+1) c'))
 ·exact(hk6.trans (KeepsOthers.setCell _ _ _)).trans (qA8 xX fun k _ e=>by rw [e];exact⟨_,_,hg6.fr ((Fr.refl (fun k=>k=lb) w6).setCell (p:=⟨lb,0,none⟩) (.inl rfl) (.slice (some ⟨g,0,none⟩) (S.n+1) c')) (fun e=>Yo)⟩)
 ·have hfl:=(Fr.refl (fun k=>k=lb) w6).setCell (p:=⟨lb,0,none⟩) (.inl rfl) (.slice (some ⟨g,0,none⟩) (S.n+1) c');have hlT:=hl6.put 0 (.slice (some ⟨g,0,none⟩) (S.n+1) c');have hrT:=hr6.fr hfl (fun e=>by subst e;exact hl6.ne hr6 Yd rfl);have h2T:=h2'.stay itS yW (Stays.fr hfl fun b _ hp e=>Yo);have hxT:=itS.stay _ _ _ _ _ (Stays.fr hfl fun b _ hp e=>Yo) hx6;have hoT:=OwnG.setLast itS (fun x v=>rfl) h2T hxT _ _ _ _ _ _ rfl;refine⟨⟨⟨some ⟨g,0,none⟩,S.n+1,c'⟩,hlT.fr xX (fun e=>Yo),?_⟩,hrT.fr xX (fun e=>hgp e.symm),Fr.then (Fr.then hf6 hfl fun i hi e=>Yo) xX fun i hi e=>Yo⟩;rw [cB];exact hoT
 ·have hfl:=(Fr.refl (fun k=>k=lb) w6).setCell (p:=⟨lb,0,none⟩) (.inl rfl) (.slice (some ⟨g,0,none⟩) (S.n+1) c');have hqT:=Pq.box hq6 hl6 Yd Yd Yo hB hfl;exact hqT.data xX fun k _ e=>by rw [e];exact⟨Yo,_,_,hg6.fr hfl (fun e=>Yo),yW⟩
end
end
end Go.Proofs.YtfdaebgllibphaaGreatDoor
