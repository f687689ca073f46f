import Derived.Deep.CutRange
import Derived.Test.YtfdaebgllibphaaGreatDoorWar
set_option linter.unusedVariables false
set_option linter.unusedSimpArgs false
set_option maxRecDepth 100000
set_option maxHeartbeats 16000000
namespace Go.Proofs.YtfdaebgllibphaaGreatDoor
open Go.Proofs.Tryz
section
open Go.RowKit Go.PlainAid
theorem xY {P:Nat→Prop} {W:World} {A:Option Addr} {c:Nat} (L:List (Ex×SV)) (hrd:RdT W A 31 (L.flatMap fun q=>qX q.1 q.2)) (hA:∀ b off,A=some ⟨b,off,none⟩→P b) (hL:∀ q∈L,TX P W q.1 q.2):RowX P W (L.map fun q=>q.1) ⟨A,L.length,c⟩:=by
 have hz:∀ L:List (Ex×SV),((L.map fun q=>q.1).zip (L.map fun q=>q.2)).flatMap (fun p=>qX p.1 p.2)=L.flatMap fun q=>qX q.1 q.2:=fun L=>by
  induction L with
  | nil=>rfl
  | cons x P ih=>rw [lY,lY,List.zip_cons_cons,lQ,lQ,ih]
 refine .mk _ _ (L.map fun q=>q.2) (by rw [lW,lW]) (by rw [lW]) hA (by rw [hz];exact hrd) ?_;intro i y v hy hv;rw [cS]at hy;rw [cS]at hv;cases hq:L[i]? with
 | none=>rw [hq]at hy;cases hy
 | some q =>
   rw [hq]at hy hv;injection hy with hy;injection hv with hv;subst hy hv;exact hL q (cD hq)
theorem jH5 {a b c:World} (h:Below a.heap.size a b) (k:Below b.heap.size b c):Below a.heap.size a c:=h.trans (k.mono h.size)
theorem kO6:NameOk [118]:=⟨⟨118,[],rfl,Yd,Ym⟩,Yd⟩
theorem jH6:NameOk [99]:=⟨⟨99,[],rfl,Yd,Ym⟩,Yd⟩
theorem kJ3:NameOk [103]:=⟨⟨103,[],rfl,Yd,Ym⟩,Yd⟩
theorem kJ4:NameOk [104]:=⟨⟨104,[],rfl,Yd,Ym⟩,Yd⟩
theorem kJ5:NameOk [112]:=⟨⟨112,[],rfl,Yd,Ym⟩,Yd⟩
theorem kJ6 (d:Nat) (hd9:d≤9) (IH:∀ d',d'<d→kO5 d'):kO5 d:=by
 intro dp hdp m D most hmo W1 w h;have W3:D.W≤3:=h.o.w3;have HDP:=Ph hdp;have hd9':dp≤9:=Yo;clear hdp;have c3:w.cell? ⟨m,3,none⟩=some (uI D.W):=(MQ.refl h.o).cells.1;have wm:IntKind.i64.wrap ((most:Int)+1)=((most+1:Nat):Int):=by rw [lL];omega
 obtain⟨mo,hmo1⟩:∃ mo,mo=most+1:=⟨_,rfl⟩;rw [←hmo1]at wm;have hmo2:1≤mo:=Yo;have hmo3:mo≤6:=Yo;have HMO:=Ph hmo1;clear hmo1;go_enter func39,ntmps39
 go_wp2_with fail
 refine(vR m D mo hmo2 Yo _ h).mono ?_;rintro e w1 ⟨n,hn,rfl,hq1⟩;have HQ1:=Ph hq1;have hn5:n≤most:=by have:=HMO.o;omega
 have hn6:n≤5:=Yo;clear hq1 c3 hn wm;go_wp2_with fail
 go_loopw [7,22] (fun v7 v22 wr=>∃ (j:Nat) (l:List Sx) (S:SV),j≤n∧v22=uI j∧v7=.slice S.A S.n S.c∧Ud (MdL dp j l)∧Ud (jC7 w.heap.size wr l S)∧Ud (MQ w m D wr)) (fun _ v22 _=>n-(intOf v22).toNat)
 case atStart=>exact⟨0,[],zK,lV _,rfl,rfl,Ph ⟨lF _,fun y hy=>by cases hy⟩,Ph OwnG.nil,HQ1⟩
 case round =>
  obtain⟨j,l,S,hj,rfl,rfl,HL,HO,HQ⟩:=hrel;clear HQ1;by_cases hlt:j<n
  ·have e1:decide ((j:Int)<(n:Int))=true:=by simp;omega
   have wj:IntKind.i64.wrap ((j:Int)+1)=((j+1:Nat):Int):=by rw [lL];omega
   have HSn:Ud (S.n<1000000000):=Ph (by have h1:=HO.o.len;have h2:=HL.o.n;omega);have HWR:=Ph HQ.o.k;have X0:=Ph (⟨(MQ.refl HQ.o.k).then HQ.o.k zB,Bk.new wr 108 uS,rfl⟩:Rm wr m D wr.heap.size (wr.alloc (.cells uS 108)));go_upto_region 6 with fail
   generalize (wr.alloc _)=W0 at X0 ⊢;obtain⟨sb,hsb⟩:∃ s,wr.heap.size=s:=⟨_,rfl⟩;rw [hsb]at X0 ⊢;have HSB:=Ph hsb;clear hsb;go_wp2_with fail
   refine(vR m D 16 Yo Yo _ (Ph X0.o.q.k)).mono ?_;rintro e w2 ⟨v,hv,rfl,hq⟩;have X2:=Ph (X0.o.to HWR.o hq);clear hq X0;go_upto_block 2 with fail
   go_cut [22] from 22 to 160 (fun v22 wx=>∃ (x:Sx) (u:SV×SV×SV),v22=uI j∧Ud (MdS dp x)∧Ud (Re wr m D sb x u wx))
   case first =>
    rename_i J1 K1 hR1 hM1;clear HL HO HQ e1 wj HSn;by_cases h5:v<5
    ·have e1:decide ((v:Int)<5)=true:=by simp;omega
     go_wp2_with fail
     refine(zX1 1 Yo 1 rfl m D 2 0 Yo Yo Yo W1 _ (Ph X2.o.q.k)).mono ?_;rintro e wa ⟨y0,S0,rfl,hmd0,ht0,hq⟩;have HMD0:=Ph hmd0;have Xa:=Ph (X2.o.to HWR.o hq);have HT0:=Ph (ht0.mono (P':=fun b=>sb+1≤b) fun b _ hb=>by have:=X2.o.b.lt;omega);clear hmd0 ht0 hq X2;go_wp2_with fail
     refine(zX1 2 Yo 2 rfl m D D.W 0 W1 W3 Yo W1 _ (Ph Xa.o.q.k)).mono ?_;rintro e wb ⟨y1,S1,rfl,hmd1,ht1,hq⟩;have HMD1:=Ph hmd1;have Xb:=Ph (Xa.o.to HWR.o hq);have HT1:=Ph (ht1.mono (P':=fun b=>sb+1≤b) fun b _ hb=>by have:=Xa.o.b.lt;omega);have HN:=Ph (HT0.o.stay (hq.staysP Xa.o.q.k));clear HT0;have HT0:=HN;clear HN;clear hmd1 ht1 hq Xa;have Xc:=Ph (Xb.o.below HWR.o (zB (o:=.cells #[uB y0.kind,uB y0.op,uW y0.value,uI y0.width,uR y0.name,.slice S0.A S0.n S0.c,uB y1.kind,uB y1.op,uW y1.value,uI y1.width,uR y1.name,.slice S1.A S1.n S1.c] 31)));have hrd:=RdT.new wb #[uB y0.kind,uB y0.op,uW y0.value,uI y0.width,uR y0.name,.slice S0.A S0.n S0.c,uB y1.kind,uB y1.op,uW y1.value,uI y1.width,uR y1.name,.slice S1.A S1.n S1.c] 31;have HR:=Ph (xY (P:=fun b=>sb+1≤b) (c:=2) [(y0,S0),(y1,S1)] hrd (fun b off e=>by injection e with e;injection e with e;have:=Xb.o.b.lt;omega) (fun q hq=>by
      simp only [lU,lT,or_false]at hq;rcases hq with rfl | rfl
      ·exact HT0.o.bel zB
      ·exact HT1.o.bel zB))
     clear hrd;obtain⟨f0,f1,f2,f3,f4,f5,_⟩:=zZ Xc.o.b;obtain⟨g0,g1,g2,g3,g4,g5⟩:=zH Xc.o.b;have HF:=Ph (fr6 (wb.alloc (.cells #[uB y0.kind,uB y0.op,uW y0.value,uI y0.width,uR y0.name,.slice S0.A S0.n S0.c,uB y1.kind,uB y1.op,uW y1.value,uI y1.width,uR y1.name,.slice S1.A S1.n S1.c] 31)) sb (uB 3) (uT) (.slice (some ⟨wb.heap.size,0,none⟩) 2 2) (uI 0) (uN) (uN));have HK:=Ph (put6 (v0:=uB 3) (v1:=uT) (v2:=.slice (some ⟨wb.heap.size,0,none⟩) 2 2) (v3:=uI 0) (v4:=uN) (v5:=uN) Xc.o.b);have HMS:Ud (MdS dp (.mk 3 [] [y0,y1] 0 [] [])):=Ph (.write (HMD0.o.up Yd Yo) HMD1.o (by have:=HMD0.o.sz;simp [szd]at this;omega));go_wp2_with fail
     generalize (World.setCell _ _ _)=WF at HF HK ⊢;go_meet
     exact⟨.mk 3 [] [y0,y1] 0 [] [],(⟨some ⟨wb.heap.size,0,none⟩,2,2⟩,zK,zK),rfl,HMS,Ph (Xc.o.fill HWR.o HF.o HK.o ⟨HMS.o.sh.sxOk,HR.o,StsP.nil,StsP.nil⟩)⟩
    have e5:decide ((v:Int)<5)=false:=Yp;by_cases h7:v<7
    ·have e1:decide ((v:Int)<7)=true:=by simp;omega
     obtain⟨g0,g1,g2,g3,g4,g5⟩:=zH X2.o.b;obtain⟨f0,f1,f2,f3,f4,f5,_⟩:=zZ X2.o.b;have HF:Ud (Fr (fun k=>k=sb) w2 (w2.setCell ⟨sb,0,none⟩ (uB 4))):=Ph ((Fr.refl (fun k=>k=sb) w2).setCell (p:=⟨sb,0,none⟩) (.inl rfl) _);have HK:Ud (Bk (w2.setCell ⟨sb,0,none⟩ (uB 4)) sb 108 #[uB 4,uT,uN,uI 0,uN,uN]):=Ph (X2.o.b.put 0 _);have HMS:Ud (MdS dp (.mk 4 [] [] 0 [] [])):=Ph MdS.flush;go_wp2_with fail
     generalize w2.setCell ⟨sb,0,none⟩ (uB 4)=WF at HF HK ⊢;go_meet
     exact⟨.mk 4 [] [] 0 [] [],(zK,zK,zK),rfl,HMS,Ph (X2.o.fill HWR.o HF.o HK.o ⟨HMS.o.sh.sxOk,RowG.nil,StsP.nil,StsP.nil⟩)⟩
    have e7:decide ((v:Int)<7)=false:=Yp;by_cases h77:v=7
    ·have e1:((v:Int) == 7)=true:=by simp;omega
     clear h77;obtain⟨g0,g1,g2,g3,g4,g5⟩:=zH X2.o.b;obtain⟨f0,f1,f2,f3,f4,f5,_⟩:=zZ X2.o.b;have HF:Ud (Fr (fun k=>k=sb) w2 (w2.setCell ⟨sb,0,none⟩ (uB 5))):=Ph ((Fr.refl (fun k=>k=sb) w2).setCell (p:=⟨sb,0,none⟩) (.inl rfl) _);have HK:Ud (Bk (w2.setCell ⟨sb,0,none⟩ (uB 5)) sb 108 #[uB 5,uT,uN,uI 0,uN,uN]):=Ph (X2.o.b.put 0 _);have HMS:Ud (MdS dp (.mk 5 [] [] 0 [] [])):=Ph MdS.barrier;go_wp2_with fail
     generalize w2.setCell ⟨sb,0,none⟩ (uB 5)=WF at HF HK ⊢;go_meet
     exact⟨.mk 5 [] [] 0 [] [],(zK,zK,zK),rfl,HMS,Ph (X2.o.fill HWR.o HF.o HK.o ⟨HMS.o.sh.sxOk,RowG.nil,StsP.nil,StsP.nil⟩)⟩
    have e77:((v:Int) == 7)=false:=Yp;by_cases h10:v<10
    ·have e1:decide ((v:Int)<10)=true:=by simp;omega
     have X3:=Ph (X2.o.below HWR.o (zB (o:=.cells #[.string ⟨#[118]⟩,uI D.W,uI 0,.string ⟨#[99]⟩,uI 2,uI 0,.string ⟨#[103]⟩,uI D.W,uI 0,.string ⟨#[104]⟩,uI 1,uI 0] 87)));have hrow:=Bk.new w2 87 #[.string ⟨#[118]⟩,uI D.W,uI 0,.string ⟨#[99]⟩,uI 2,uI 0,.string ⟨#[103]⟩,uI D.W,uI 0,.string ⟨#[104]⟩,uI 1,uI 0];have hm2:m<w2.heap.size:=X2.o.q.k.lt;obtain⟨aw,haw⟩:∃ a,w2.heap.size=a:=⟨_,rfl⟩;rw [haw]at hrow;have HROW:=Ph hrow;have ham:aw≠m:=Yo;have HAM:=Ph ham;clear hrow ham hm2 X2;go_wp2_with fail
     clear haw;generalize (w2.alloc _)=w3 at X3 HROW ⊢;refine(vR m D 4 Yo Yo _ (Ph X3.o.q.k)).mono ?_;rintro e w4 ⟨u,hu,rfl,hq⟩;have X4:=Ph (X3.o.to HWR.o hq);have HROW4:=Ph (hq.bk X3.o.q.k HROW.o HAM.o);clear hq X3 HROW;obtain⟨nm,dw,hnm,hl,hd1,hd3,k0,k1,k2⟩:∃ (nm:List UInt8) (dw:Nat),NameOk nm∧nm.length=1∧1≤dw∧dw≤3∧w4.cell? ⟨aw,u*3,none⟩=some (uR nm)∧w4.cell? ⟨aw,u*3+1,none⟩=some (uI dw)∧w4.cell? ⟨aw,u*3+2,none⟩=some (uI 0):=by
      have c:=HROW4.o.cell;match u,hu with
      | 0,_=>exact⟨[118],D.W,kO6,rfl,W1,W3,c 0,c 1,c 2⟩
      | 1,_=>exact⟨[99],2,jH6,rfl,Yo,Yo,c 3,c 4,c 5⟩
      | 2,_=>exact⟨[103],D.W,kJ3,rfl,W1,W3,c 6,c 7,c 8⟩
      | 3,_=>exact⟨[104],1,kJ4,rfl,Yo,Yo,c 9,c 10,c 11⟩
     have HNM:=Ph hnm;have HNL:=Ph hl;have X5:=Ph (X4.o.below HWR.o (zB (o:=.cells #[uR nm,uI dw,uI 0] 87)));have hdb:=Bk.new w4 87 #[uR nm,uI dw,uI 0];have hm4:m<w4.heap.size:=X4.o.q.k.lt;obtain⟨bd,hbd⟩:∃ a,w4.heap.size=a:=⟨_,rfl⟩;rw [hbd]at hdb;have HDB:=Ph hdb;have HBM:=Ph (show bd≠m by omega);have hu4:u<4:=hu;clear hdb hm4 hnm hl HROW4 X4;have hui:(u:Int)<4:=Yo;go_upto_region 16 with fail
     clear hbd k0 k1 k2;generalize (w4.alloc _)=w5 at X5 HDB ⊢;have X6:=Ph (X5.o.below HWR.o (lB _ _).drew);have hdd:Bk w5.drew bd 87 #[uR nm,uI dw,uI 0]:=zD HDB.o (lB _ _).drew;have HDD:=Ph hdd;have d0:w5.drew.cell? ⟨bd,0,none⟩=some (uR nm):=hdd.cell 0;have d1:w5.drew.cell? ⟨bd,1,none⟩=some (uI dw):=hdd.cell 1;have HC:Ud (Calls prog 38 #[uQ m 0,uI dw,uI 0,uI 2] w5.drew _):=Ph (zX1 2 Yo 2 rfl m D dw 0 hd1 hd3 Yo W1 _ (Ph X6.o.q.k));clear hdd X5 HDB
     go_region_law (first
      | (go_simp;go_at_call 38
         with_reducible refine HC.o.mono ?_
         rintro e w6 ⟨y0,S0,rfl,hmd0,ht0,hq⟩;have HMD0:=Ph hmd0;have X7:=Ph (X6.o.to HWR.o hq);have HT0:=Ph (ht0.mono (P':=fun b=>sb+1≤b) fun b _ hb=>by have:=X6.o.b.lt;omega);have HD7:=Ph (hq.bk X6.o.q.k HDD.o HBM.o);clear hmd0 ht0 hq d0 d1;have d0:w6.cell? ⟨bd,0,none⟩=some (uR nm):=HD7.o.cell 0;have xa:∀ o,(w6.alloc o).cell? ⟨bd,0,none⟩=some (uR nm):=fun o=>(HD7.o.alloc o).cell 0;have fa:∀ o,(w6.alloc o).frozen? ⟨sb,0,none⟩=false∧(w6.alloc o).frozen? ⟨sb,1,none⟩=false∧(w6.alloc o).frozen? ⟨sb,2,none⟩=false∧(w6.alloc o).frozen? ⟨sb,3,none⟩=false∧(w6.alloc o).frozen? ⟨sb,4,none⟩=false∧(w6.alloc o).frozen? ⟨sb,5,none⟩=false:=fun o=>by obtain⟨f0,f1,f2,f3,f4,f5,_⟩:=zZ (X7.o.b.alloc o);exact⟨f0,f1,f2,f3,f4,f5⟩
         have ga:∀ o,(w6.alloc o).cell? ⟨sb,0,none⟩=some (uB 0)∧(w6.alloc o).cell? ⟨sb,1,none⟩=some (uT)∧(w6.alloc o).cell? ⟨sb,2,none⟩=some (uN)∧(w6.alloc o).cell? ⟨sb,3,none⟩=some (uI 0)∧(w6.alloc o).cell? ⟨sb,4,none⟩=some (uN)∧(w6.alloc o).cell? ⟨sb,5,none⟩=some (uN):=fun o=>zH (X7.o.b.alloc o)))
     all_goals
      clear d0 xa fa ga;have Xc:=Ph (X7.o.below HWR.o (zB (o:=.cells (uE y0 S0) 31)));have hrd:=RdT.new w6 (uE y0 S0) 31;have hR:=xY (P:=fun b=>sb+1≤b) (c:=1) [(y0,S0)] hrd (fun b off e=>by injection e with e;injection e with e;have:=X7.o.b.lt;omega) (fun q hq=>by simp only [lU,lT,or_false]at hq;rcases hq with rfl;exact HT0.o.bel zB);have HR:=Ph hR;clear hrd hR;have HF:=Ph (fr6 (w6.alloc (.cells (uE y0 S0) 31)) sb (uB 1) (uR nm) (.slice (some ⟨w6.heap.size,0,none⟩) 1 1) (uI 0) (uN) (uN));have HK:=Ph (put6 (v0:=uB 1) (v1:=uR nm) (v2:=.slice (some ⟨w6.heap.size,0,none⟩) 1 1) (v3:=uI 0) (v4:=uN) (v5:=uN) Xc.o.b);have HMS:Ud (MdS dp (.mk 1 nm [y0] 0 [] [])):=Ph (.set HNM.o HNL.o HMD0.o);generalize (World.setCell _ _ _)=WF at HF HK ⊢;go_wp2_with fail
      go_meet
      exact⟨.mk 1 nm [y0] 0 [] [],(⟨some ⟨w6.heap.size,0,none⟩,1,1⟩,zK,zK),rfl,HMS,Ph (Xc.o.fill HWR.o HF.o HK.o ⟨HMS.o.sh.sxOk,HR.o,StsP.nil,StsP.nil⟩)⟩
    have e10:decide ((v:Int)<10)=false:=Yp;by_cases h110:v=10
    ·have e1:((v:Int) == 10)=true:=by simp;omega
     clear h110;go_wp2_with fail
     refine(zX1 1 Yo 1 rfl m D 2 0 Yo Yo Yo W1 _ (Ph X2.o.q.k)).mono ?_;rintro e wa ⟨y0,S0,rfl,hmd0,ht0,hq⟩;have HMD0:=Ph hmd0;have Xa:=Ph (X2.o.to HWR.o hq);have HT0:=Ph (ht0.mono (P':=fun b=>sb+1≤b) fun b _ hb=>by have:=X2.o.b.lt;omega);clear hmd0 ht0 hq X2;go_wp2_with fail
     refine(zX1 1 Yo 1 rfl m D D.W 0 W1 W3 Yo W1 _ (Ph Xa.o.q.k)).mono ?_;rintro e wb ⟨y1,S1,rfl,hmd1,ht1,hq⟩;have HMD1:=Ph hmd1;have Xb:=Ph (Xa.o.to HWR.o hq);have HT1:=Ph (ht1.mono (P':=fun b=>sb+1≤b) fun b _ hb=>by have:=Xa.o.b.lt;omega);have HN:=Ph (HT0.o.stay (hq.staysP Xa.o.q.k));clear HT0;have HT0:=HN;clear HN;clear hmd1 ht1 hq Xa;have Xc:=Ph (Xb.o.below HWR.o (zB (o:=.cells #[uB y0.kind,uB y0.op,uW y0.value,uI y0.width,uR y0.name,.slice S0.A S0.n S0.c,uB y1.kind,uB y1.op,uW y1.value,uI y1.width,uR y1.name,.slice S1.A S1.n S1.c] 31)));have hrd:=RdT.new wb #[uB y0.kind,uB y0.op,uW y0.value,uI y0.width,uR y0.name,.slice S0.A S0.n S0.c,uB y1.kind,uB y1.op,uW y1.value,uI y1.width,uR y1.name,.slice S1.A S1.n S1.c] 31;have HR:=Ph (xY (P:=fun b=>sb+1≤b) (c:=2) [(y0,S0),(y1,S1)] hrd (fun b off e=>by injection e with e;injection e with e;have:=Xb.o.b.lt;omega) (fun q hq=>by
      simp only [lU,lT,or_false]at hq;rcases hq with rfl | rfl
      ·exact HT0.o.bel zB
      ·exact HT1.o.bel zB))
     clear hrd;obtain⟨f0,f1,f2,f3,f4,f5,_⟩:=zZ Xc.o.b;obtain⟨g0,g1,g2,g3,g4,g5⟩:=zH Xc.o.b;have HF:=Ph (fr6 (wb.alloc (.cells #[uB y0.kind,uB y0.op,uW y0.value,uI y0.width,uR y0.name,.slice S0.A S0.n S0.c,uB y1.kind,uB y1.op,uW y1.value,uI y1.width,uR y1.name,.slice S1.A S1.n S1.c] 31)) sb (uB 2) (.string ⟨#[97]⟩) (.slice (some ⟨wb.heap.size,0,none⟩) 2 2) (uI 0) (uN) (uN));have HK:=Ph (put6 (v0:=uB 2) (v1:=.string ⟨#[97]⟩) (v2:=.slice (some ⟨wb.heap.size,0,none⟩) 2 2) (v3:=uI 0) (v4:=uN) (v5:=uN) Xc.o.b);have HMS:Ud (MdS dp (.mk 2 [97] [y0,y1] 0 [] [])):=Ph (.put kJ2 rfl HMD0.o HMD1.o);go_wp2_with fail
     generalize (World.setCell _ _ _)=WF at HF HK ⊢;go_meet
     exact⟨.mk 2 [97] [y0,y1] 0 [] [],(⟨some ⟨wb.heap.size,0,none⟩,2,2⟩,zK,zK),rfl,HMS,Ph (Xc.o.fill HWR.o HF.o HK.o ⟨HMS.o.sh.sxOk,HR.o,StsP.nil,StsP.nil⟩)⟩
    have e110:((v:Int) == 10)=false:=Yp;by_cases h13:v<13
    ·have e1:decide ((v:Int)<13)=true:=by simp;omega
     have e113:((v:Int) == 13)=false:=Yp;have e114:((v:Int) == 14)=false:=Yp;by_cases hdp:0<dp
     ·have ed:decide ((dp:Int)>0)=true:=by simp;omega
      go_wp2_with fail
      refine(zX1 2 Yo 2 rfl m D 1 0 Yo Yo Yo W1 _ (Ph X2.o.q.k)).mono ?_;rintro e wa ⟨y0,S0,rfl,hmd0,ht0,hq⟩;have HMD0:=Ph hmd0;have Xa:=Ph (X2.o.to HWR.o hq);have HT0:=Ph (ht0.mono (P':=fun b=>sb+1≤b) fun b _ hb=>by have:=X2.o.b.lt;omega);clear hmd0 ht0 hq X2;have Xc:=Ph (Xa.o.below HWR.o (zB (o:=.cells (uE y0 S0) 31)));have hrd:=RdT.new wa (uE y0 S0) 31;have hR:=xY (P:=fun b=>sb+1≤b) (c:=1) [(y0,S0)] hrd (fun b off e=>by injection e with e;injection e with e;have:=Xa.o.b.lt;omega) (fun q hq=>by simp only [lU,lT,or_false]at hq;rcases hq with rfl;exact HT0.o.bel zB);have HR:=Ph hR;clear hrd hR;obtain⟨d1,hd1⟩:∃ d1,dp=d1+1:=⟨dp-1,Yo⟩;have wd:IntKind.i64.wrap ((dp:Int)-1)=(d1:Int):=by rw [lL];omega
      have IHd:=Ph (IH d1 (by have:=HDP.o;omega) d1 rfl);have HD1:=Ph hd1;clear hd1;obtain⟨aw,haw⟩:∃ a,wa.heap.size=a:=⟨_,rfl⟩;go_wp2_with fail
      generalize (wa.alloc _)=wx at Xc HR ⊢;rw [haw]at HR;clear haw;refine(IHd.o m D 2 Yo W1 _ (Ph Xc.o.q.k)).mono ?_;rintro e wb ⟨l1,T1,rfl,hm1,ho1,hq⟩;have HM1:=Ph hm1;have Xd:=Ph (Xc.o.to HWR.o hq);have HR1:=Ph (HR.o.stay itX qW (hq.staysP Xc.o.q.k));have HT1:=Ph (ho1.sts.mono (P':=fun b=>sb+1≤b) fun b _ hb=>by have:=Xc.o.b.lt;omega);clear hm1 ho1 hq Xc HR;go_wp2_with fail
      refine(IHd.o m D 1 Yo W1 _ (Ph Xd.o.q.k)).mono ?_;rintro e wc ⟨l2,T2,rfl,hm2,ho2,hq⟩;have HM2:=Ph hm2;have Xe:=Ph (Xd.o.to HWR.o hq);have HR2:=Ph (HR1.o.stay itX qW (hq.staysP Xd.o.q.k));have HT1b:=Ph (HT1.o.stay (hq.staysP Xd.o.q.k));have HT2:=Ph (ho2.sts.mono (P':=fun b=>sb+1≤b) fun b _ hb=>by have:=Xd.o.b.lt;omega);clear hm2 ho2 hq Xd HR1 HT1;obtain⟨f0,f1,f2,f3,f4,f5,_⟩:=zZ Xe.o.b;obtain⟨g0,g1,g2,g3,g4,g5⟩:=zH Xe.o.b;have HF:=Ph (fr6 wc sb (uB 6) (uT) (.slice (some ⟨aw,0,none⟩) 1 1) (uI 0) (.slice T1.A T1.n T1.c) (.slice T2.A T2.n T2.c));have HK:=Ph (put6 (v0:=uB 6) (v1:=uT) (v2:=.slice (some ⟨aw,0,none⟩) 1 1) (v3:=uI 0) (v4:=.slice T1.A T1.n T1.c) (v5:=.slice T2.A T2.n T2.c) Xe.o.b);have HMS:Ud (MdS dp (.mk 6 [] [y0] 0 l1 l2)):=Ph (by rw [HD1.o];exact .ifs HMD0.o HM1.o HM2.o);go_wp2_with fail
      generalize (World.setCell _ _ _)=WF at HF HK ⊢;go_meet
      exact⟨.mk 6 [] [y0] 0 l1 l2,(⟨some ⟨aw,0,none⟩,1,1⟩,T1,T2),rfl,HMS,Ph (Xe.o.fill HWR.o HF.o HK.o ⟨HMS.o.sh.sxOk,HR2.o,HT1b.o,HT2.o⟩)⟩
     ·have ed:decide ((dp:Int)>0)=false:=by simp;omega
      go_wp2_with fail
      refine(wA m D 1 0 Yo Yo Yo W1 _ (Ph X2.o.q.k)).mono ?_;rintro e wa ⟨y0,S0,rfl,hmd0,ht0,hq⟩;have HMD0:=Ph hmd0;have Xa:=Ph (X2.o.to HWR.o hq);have HT0:=Ph (ht0.mono (P':=fun b=>sb+1≤b) fun b _ hb=>by have:=X2.o.b.lt;omega);clear hmd0 ht0 hq X2;go_wp2_with fail
      refine(wA m D D.W 0 W1 W3 Yo W1 _ (Ph Xa.o.q.k)).mono ?_;rintro e wb ⟨y1,S1,rfl,hmd1,ht1,hq⟩;have HMD1:=Ph hmd1;have Xb:=Ph (Xa.o.to HWR.o hq);have HT1:=Ph (ht1.mono (P':=fun b=>sb+1≤b) fun b _ hb=>by have:=Xa.o.b.lt;omega);have HN:=Ph (HT0.o.stay (hq.staysP Xa.o.q.k));clear HT0;have HT0:=HN;clear HN;clear hmd1 ht1 hq Xa;have Xc:=Ph (Xb.o.below HWR.o (zB (o:=.cells #[uB y0.kind,uB y0.op,uW y0.value,uI y0.width,uR y0.name,.slice S0.A S0.n S0.c,uB y1.kind,uB y1.op,uW y1.value,uI y1.width,uR y1.name,.slice S1.A S1.n S1.c] 31)));have hrd:=RdT.new wb #[uB y0.kind,uB y0.op,uW y0.value,uI y0.width,uR y0.name,.slice S0.A S0.n S0.c,uB y1.kind,uB y1.op,uW y1.value,uI y1.width,uR y1.name,.slice S1.A S1.n S1.c] 31;have HR:=Ph (xY (P:=fun b=>sb+1≤b) (c:=2) [(y0,S0),(y1,S1)] hrd (fun b off e=>by injection e with e;injection e with e;have:=Xb.o.b.lt;omega) (fun q hq=>by
       simp only [lU,lT,or_false]at hq;rcases hq with rfl | rfl
       ·exact HT0.o.bel zB
       ·exact HT1.o.bel zB))
      clear hrd;obtain⟨f0,f1,f2,f3,f4,f5,_⟩:=zZ Xc.o.b;obtain⟨g0,g1,g2,g3,g4,g5⟩:=zH Xc.o.b;have HF:=Ph (fr6 (wb.alloc (.cells #[uB y0.kind,uB y0.op,uW y0.value,uI y0.width,uR y0.name,.slice S0.A S0.n S0.c,uB y1.kind,uB y1.op,uW y1.value,uI y1.width,uR y1.name,.slice S1.A S1.n S1.c] 31)) sb (uB 3) (uT) (.slice (some ⟨wb.heap.size,0,none⟩) 2 2) (uI 0) (uN) (uN));have HK:=Ph (put6 (v0:=uB 3) (v1:=uT) (v2:=.slice (some ⟨wb.heap.size,0,none⟩) 2 2) (v3:=uI 0) (v4:=uN) (v5:=uN) Xc.o.b);have HMS:Ud (MdS dp (.mk 3 [] [y0,y1] 0 [] [])):=Ph (.write (HMD0.o.up Yd Yo) (HMD1.o.up Yd Yo) (by have:=HMD0.o.sz;omega));go_wp2_with fail
      generalize (World.setCell _ _ _)=WF at HF HK ⊢;go_meet
      exact⟨.mk 3 [] [y0,y1] 0 [] [],(⟨some ⟨wb.heap.size,0,none⟩,2,2⟩,zK,zK),rfl,HMS,Ph (Xc.o.fill HWR.o HF.o HK.o ⟨HMS.o.sh.sxOk,HR.o,StsP.nil,StsP.nil⟩)⟩
    have e13:decide ((v:Int)<13)=false:=Yp;by_cases h113:v=13
    ·have e113:((v:Int) == 13)=true:=by simp;omega
     have e114:((v:Int) == 14)=false:=Yp;clear h113;by_cases hdp:0<dp
     ·have ed:decide ((dp:Int)>0)=true:=by simp;omega
      obtain⟨d1,hd1⟩:∃ d1,dp=d1+1:=⟨dp-1,Yo⟩;have HD1:=Ph hd1;clear hd1;have IH0:=Ph (IH 0 (by have:=HDP.o;omega) 0 rfl);have hc0:ShX (.mk 2 0 0 0 [99] []):=.var [99] jH6 rfl;have hn1:ShX (.mk 1 0 1 2 [] []):=.num 1 2 Yo Yo;have HC0:Ud (MdX 1 1 (.mk 2 0 0 0 [99] [])):=Ph ⟨hc0,by simp [szX,kC],by simp [htX,vJ]⟩;have HN1:Ud (MdX 1 1 (.mk 1 0 1 2 [] [])):=Ph ⟨hn1,by simp [szX,kC],by simp [htX,vJ]⟩;have HB1:Ud (ShX (.mk 6 3 0 0 [] [.mk 2 0 0 0 [99] [],.mk 1 0 1 2 [] []])):=Ph (.bin 3 _ _ Yo Yo hc0 hn1);have HM2:Ud (MdS 0 (.mk 1 [99] [.mk 6 3 0 0 [] [.mk 2 0 0 0 [99] [],.mk 1 0 1 2 [] []]] 0 [] [])):=Ph (.set jH6 rfl ((HC0.o.two HN1.o Yo Yo).up Yd Yo));clear hc0 hn1;go_wp2_with fail
      refine(IH0.o m D 2 Yo W1 _ (Ph X2.o.q.k)).mono ?_;rintro e wa ⟨l1,T1,rfl,hm1,ho1,hq⟩;have HM1:=Ph hm1;have HO1:=Ph ho1;have HQ1:=Ph hq;have Xa:=Ph (X2.o.to HWR.o hq);clear hm1 ho1 hq;go_wp2_with fail
      refine(nmM _ _).mono ?_;rintro e wb ⟨rfl,hb1⟩;have HBb:=Ph hb1;have Xb:=Ph (Xa.o.below HWR.o hb1);clear hb1 Xa;go_wp2_with fail
      refine(nuM _ _ _).mono ?_;rintro e wc ⟨rfl,hb1⟩;have HBc:=Ph (jH5 HBb.o hb1);have Xc:=Ph (Xb.o.below HWR.o hb1);clear hb1 Xb HBb;go_wp2_with fail
      refine(biM wa.heap.size 3 (.mk 2 0 0 0 [99] []) (.mk 1 0 1 2 [] []) zK zK HB1.o wc HBc.o.size (Ph (TX.leaf HC0.o.sh.exOk rfl)) (Ph (TX.leaf HN1.o.sh.exOk rfl))).mono ?_;rintro e wd ⟨U1,rfl,ht,hb1⟩;have HBd:=Ph (jH5 HBc.o hb1);have Xd:=Ph (Xc.o.below HWR.o hb1);have HU1:=Ph ht;clear hb1 ht Xc HBc;have hrd:=RdT.new wd #[uB 6,uB 3,uW 0,uI 0,uT,.slice U1.A U1.n U1.c] 31;have Xe:=Ph (Xd.o.below HWR.o (zB (o:=.cells #[uB 6,uB 3,uW 0,uI 0,uT,.slice U1.A U1.n U1.c] 31)));have HBe:=Ph (jH5 HBd.o (zB (o:=.cells #[uB 6,uB 3,uW 0,uI 0,uT,.slice U1.A U1.n U1.c] 31)));have hR:=xY (P:=fun b=>wa.heap.size≤b) (c:=1) [((.mk 6 3 0 0 [] [.mk 2 0 0 0 [99] [],.mk 1 0 1 2 [] []]:Ex),U1)] hrd (fun b off e=>by injection e with e;injection e with e;have:=HBd.o.size;omega) (fun q hq=>by simp only [lU,lT,or_false]at hq;rcases hq with rfl;exact HU1.o.bel zB);have HR:=Ph hR;clear hrd hR Xd HBd;obtain⟨we,hwe⟩:∃ W,wd.alloc (.cells #[uB 6,uB 3,uW 0,uI 0,uT,.slice U1.A U1.n U1.c] 31)=W:=⟨_,rfl⟩;obtain⟨aw,haw⟩:∃ a,wd.heap.size=a:=⟨_,rfl⟩;have hsz:we.heap.size=aw+1:=by rw [←hwe,←haw];exact lO _ _
      rw [hwe]at Xe HBe HR;rw [haw]at HR;obtain⟨A9,c9,w9,hrun,hown,hq9⟩:=jQ3 (x:=.mk 1 [99] [.mk 6 3 0 0 [] [.mk 2 0 0 0 [99] [],.mk 1 0 1 2 [] []]] 0 [] []) (v:=(⟨some ⟨aw,0,none⟩,1,1⟩,zK,zK)) (W:=we) X2.o.q.k HQ1.o HO1.o ((MQ.refl HQ1.o.k).then HQ1.o.k HBe.o) ⟨HM2.o.sh.sxOk,HR.o,StsP.nil,StsP.nil⟩ (by have:=HO1.o.len;have:=HM1.o.n;omega);have HRUN:Ud (∀ ty,(Builtin.append_ #[34,34] ty #[.slice T1.A T1.n T1.c,.slice (some ⟨wd.heap.size+1,0,none⟩) 1 1]).run prog ((wd.alloc (.cells #[uB 6,uB 3,uW 0,uI 0,uT,.slice U1.A U1.n U1.c] 31)).alloc (.cells #[uB 1,.string ⟨#[99]⟩,.slice (some ⟨wd.heap.size,0,none⟩) 1 1,uI 0,uN,uN] 108))=.ok (.slice A9 (T1.n+1) c9) w9):=Ph (by rw [hwe,haw];exact hsz▸hrun);have HO9:=Ph hown;have X9:=Ph (X2.o.to HWR.o hq9);have HX2:=X2;have HM9:=Ph (HM1.o.snoc HM2.o);have HT9:=Ph (hown.sts.mono (P':=fun b=>sb+1≤b) fun b _ hb=>by have:=X2.o.b.lt;omega);clear hrun hown hq9 hwe haw hsz Xe;go_wp2_with (at_builtin;refine jL rfl (.tmp 111) (.tmp 117) rfl _ _ _ rfl rfl (HRUN.o _) ?_)
      clear HRUN HBe HR HO9 HM1 HQ1 HO1 HU1 X2 HX2 IH0 HB1;refine(vR m D 3 Yo Yo _ (Ph X9.o.q.k)).mono ?_;rintro e wf ⟨u1,hu1,rfl,hq⟩;have Xf:=Ph (X9.o.to HWR.o hq);have HTf:=Ph (HT9.o.stay (hq.staysP X9.o.q.k));clear hq X9 HT9;obtain⟨b1,hb1e⟩:∃ b1:Nat,b1=1+u1:=⟨_,rfl⟩;have hb19:b1≤9:=Yo;have hkk:IntKind.i64.wrap (1+(u1:Int))=(b1:Int):=by rw [lL];omega
      have hkk2:1+(u1:Int)=(b1:Int):=Yo;clear hb1e;go_wp2_with fail
      refine(nmM _ _).mono ?_;rintro e wg ⟨rfl,hb1⟩;have Xg:=Ph (Xf.o.below HWR.o hb1);have HTg:=Ph (HTf.o.stay (Stays.below hb1));clear hb1 Xf HTf;go_wp2_with fail
      refine(vR m D 3 Yo Yo _ (Ph Xg.o.q.k)).mono ?_;rintro e wh ⟨u2,hu2,rfl,hq⟩;have Xh:=Ph (Xg.o.to HWR.o hq);have HTh:=Ph (HTg.o.stay (hq.staysP Xg.o.q.k));clear hq Xg HTg;obtain⟨b2,hb2e⟩:∃ b2:Nat,b2=1+u2:=⟨_,rfl⟩;have hb29:b2≤9:=Yo;have hkk3:1+(u2:Int)=(b2:Int):=Yo;clear hb2e;go_wp2_with fail
      refine(nuM _ _ _).mono ?_;rintro e wi ⟨rfl,hb1⟩;have Xi:=Ph (Xh.o.below HWR.o hb1);have HTi:=Ph (HTh.o.stay (Stays.below hb1));clear hb1 Xh HTh;have hn2:ShX (.mk 1 0 b2 2 [] []):=.num b2 2 hb29 Yo;have HN2:Ud (MdX 1 1 (.mk 1 0 b2 2 [] [])):=Ph ⟨hn2,by simp [szX,kC],by simp [htX,vJ]⟩;have HB2:Ud (ShX (.mk 6 15 0 0 [] [.mk 2 0 0 0 [99] [],.mk 1 0 b2 2 [] []])):=Ph (.bin 15 _ _ Yo Yo HC0.o.sh hn2);clear hn2;obtain⟨y0,hy0⟩:∃ y:Ex,.mk 6 15 0 0 [] [.mk 2 0 0 0 [99] [],.mk 1 0 b2 2 [] []]=y:=⟨_,rfl⟩;have HY:Ud (y0.kind=6∧y0.op=15∧y0.value=0∧y0.width=0∧y0.name=[]):=Ph (by subst hy0;exact⟨rfl,rfl,rfl,rfl,rfl⟩);have HYM:Ud (ShX y0∧szX y0≤3∧htX y0≤3):=Ph (by subst hy0;exact⟨HB2.o,by simp [szX,kC],by simp [htX,vJ]⟩);go_wp2_with fail
      refine(biM (sb+1) 15 (.mk 2 0 0 0 [99] []) (.mk 1 0 b2 2 [] []) zK zK HB2.o wi Xi.o.b.lt (Ph (TX.leaf HC0.o.sh.exOk rfl)) (Ph (TX.leaf HN2.o.sh.exOk rfl))).mono ?_;rintro e wj ⟨U2,rfl,ht,hb1⟩;have Xj:=Ph (Xi.o.below HWR.o hb1);have HTj:=Ph (HTi.o.stay (Stays.below hb1));rw [hy0]at ht;have HU2:=Ph ht;clear hb1 ht Xi HTi HB2 hy0;have Xc:=Ph (Xj.o.below HWR.o (zB (o:=.cells #[uB 6,uB 15,uW 0,uI 0,uT,.slice U2.A U2.n U2.c] 31)));have hrd:=RdT.new wj #[uB 6,uB 15,uW 0,uI 0,uT,.slice U2.A U2.n U2.c] 31;have hR:=xY (P:=fun b=>sb+1≤b) (c:=1) [(y0,U2)] (by obtain⟨h1,h2,h3,h4,h5⟩:=HY.o;show RdT _ _ _ ([uB y0.kind,uB y0.op,uW y0.value,uI y0.width,uR y0.name,.slice U2.A U2.n U2.c]++[]);rw [h1,h2,h3,h4,h5];exact hrd) (fun b off e=>by injection e with e;injection e with e;have:=Xj.o.b.lt;omega) (fun q hq=>by simp only [lU,lT,or_false]at hq;rcases hq with rfl;exact HU2.o.bel zB);have HR:=Ph hR;have HTk:=Ph (HTj.o.stay (Stays.below (zB (o:=.cells #[uB 6,uB 15,uW 0,uI 0,uT,.slice U2.A U2.n U2.c] 31))));clear hrd hR;obtain⟨f0,f1,f2,f3,f4,f5,_⟩:=zZ Xc.o.b;obtain⟨g0,g1,g2,g3,g4,g5⟩:=zH Xc.o.b;have HF:=Ph (fr6 (wj.alloc (.cells #[uB 6,uB 15,uW 0,uI 0,uT,.slice U2.A U2.n U2.c] 31)) sb (uB 7) (uT) (.slice (some ⟨wj.heap.size,0,none⟩) 1 1) (uI b1) (.slice A9 (T1.n+1) c9) (uN));have HK:=Ph (put6 (v0:=uB 7) (v1:=uT) (v2:=.slice (some ⟨wj.heap.size,0,none⟩) 1 1) (v3:=uI b1) (v4:=.slice A9 (T1.n+1) c9) (v5:=uN) Xc.o.b);have HMS:Ud (MdS dp (.mk 7 [] [y0] b1 (l1++[Sx.mk 1 [99] [Ex.mk 6 3 0 0 [] [Ex.mk 2 0 0 0 [99] [],Ex.mk 1 0 1 2 [] []]] 0 [] []]) [])):=Ph (by rw [HD1.o];exact .loop HYM.o.1 HYM.o.2.1 HYM.o.2.2 hb19 HM9.o);go_wp2_with fail
      generalize (World.setCell _ _ _)=WF at HF HK ⊢;go_meet
      exact⟨.mk 7 [] [y0] b1 (l1++[Sx.mk 1 [99] [Ex.mk 6 3 0 0 [] [Ex.mk 2 0 0 0 [99] [],Ex.mk 1 0 1 2 [] []]] 0 [] []]) [],(⟨some ⟨wj.heap.size,0,none⟩,1,1⟩,⟨A9,T1.n+1,c9⟩,zK),rfl,HMS,Ph (Xc.o.fill HWR.o HF.o HK.o ⟨HMS.o.sh.sxOk,HR.o,HTk.o,StsP.nil⟩)⟩
     ·have ed:decide ((dp:Int)>0)=false:=by simp;omega
      go_wp2_with fail
      refine(wA m D 1 0 Yo Yo Yo W1 _ (Ph X2.o.q.k)).mono ?_;rintro e wa ⟨y0,S0,rfl,hmd0,ht0,hq⟩;have HMD0:=Ph hmd0;have Xa:=Ph (X2.o.to HWR.o hq);have HT0:=Ph (ht0.mono (P':=fun b=>sb+1≤b) fun b _ hb=>by have:=X2.o.b.lt;omega);clear hmd0 ht0 hq X2;go_wp2_with fail
      refine(wA m D D.W 0 W1 W3 Yo W1 _ (Ph Xa.o.q.k)).mono ?_;rintro e wb ⟨y1,S1,rfl,hmd1,ht1,hq⟩;have HMD1:=Ph hmd1;have Xb:=Ph (Xa.o.to HWR.o hq);have HT1:=Ph (ht1.mono (P':=fun b=>sb+1≤b) fun b _ hb=>by have:=Xa.o.b.lt;omega);have HN:=Ph (HT0.o.stay (hq.staysP Xa.o.q.k));clear HT0;have HT0:=HN;clear HN;clear hmd1 ht1 hq Xa;have Xc:=Ph (Xb.o.below HWR.o (zB (o:=.cells #[uB y0.kind,uB y0.op,uW y0.value,uI y0.width,uR y0.name,.slice S0.A S0.n S0.c,uB y1.kind,uB y1.op,uW y1.value,uI y1.width,uR y1.name,.slice S1.A S1.n S1.c] 31)));have hrd:=RdT.new wb #[uB y0.kind,uB y0.op,uW y0.value,uI y0.width,uR y0.name,.slice S0.A S0.n S0.c,uB y1.kind,uB y1.op,uW y1.value,uI y1.width,uR y1.name,.slice S1.A S1.n S1.c] 31;have HR:=Ph (xY (P:=fun b=>sb+1≤b) (c:=2) [(y0,S0),(y1,S1)] hrd (fun b off e=>by injection e with e;injection e with e;have:=Xb.o.b.lt;omega) (fun q hq=>by
       simp only [lU,lT,or_false]at hq;rcases hq with rfl | rfl
       ·exact HT0.o.bel zB
       ·exact HT1.o.bel zB))
      clear hrd;obtain⟨f0,f1,f2,f3,f4,f5,_⟩:=zZ Xc.o.b;obtain⟨g0,g1,g2,g3,g4,g5⟩:=zH Xc.o.b;have HF:=Ph (fr6 (wb.alloc (.cells #[uB y0.kind,uB y0.op,uW y0.value,uI y0.width,uR y0.name,.slice S0.A S0.n S0.c,uB y1.kind,uB y1.op,uW y1.value,uI y1.width,uR y1.name,.slice S1.A S1.n S1.c] 31)) sb (uB 3) (uT) (.slice (some ⟨wb.heap.size,0,none⟩) 2 2) (uI 0) (uN) (uN));have HK:=Ph (put6 (v0:=uB 3) (v1:=uT) (v2:=.slice (some ⟨wb.heap.size,0,none⟩) 2 2) (v3:=uI 0) (v4:=uN) (v5:=uN) Xc.o.b);have HMS:Ud (MdS dp (.mk 3 [] [y0,y1] 0 [] [])):=Ph (.write (HMD0.o.up Yd Yo) (HMD1.o.up Yd Yo) (by have:=HMD0.o.sz;omega));go_wp2_with fail
      generalize (World.setCell _ _ _)=WF at HF HK ⊢;go_meet
      exact⟨.mk 3 [] [y0,y1] 0 [] [],(⟨some ⟨wb.heap.size,0,none⟩,2,2⟩,zK,zK),rfl,HMS,Ph (Xc.o.fill HWR.o HF.o HK.o ⟨HMS.o.sh.sxOk,HR.o,StsP.nil,StsP.nil⟩)⟩
    have e113:((v:Int) == 13)=false:=Yp;by_cases h114:v=14
    ·have e114:((v:Int) == 14)=true:=by simp;omega
     clear h114;obtain⟨_,_,_,_,c24,Ap,cp,c15⟩:=X2.o.q.cells;rcases Bool.eq_false_or_eq_true D.par with hpp | hpp
     ·rw [hpp]at c24;clear c15 hpp;go_wp2_with fail
      refine(wA m D 1 0 Yo Yo Yo W1 _ (Ph X2.o.q.k)).mono ?_;rintro e wa ⟨y0,S0,rfl,hmd0,ht0,hq⟩;have HMD0:=Ph hmd0;have Xa:=Ph (X2.o.to HWR.o hq);have HT0:=Ph (ht0.mono (P':=fun b=>sb+1≤b) fun b _ hb=>by have:=X2.o.b.lt;omega);clear hmd0 ht0 hq X2;go_wp2_with fail
      refine(wA m D D.W 0 W1 W3 Yo W1 _ (Ph Xa.o.q.k)).mono ?_;rintro e wb ⟨y1,S1,rfl,hmd1,ht1,hq⟩;have HMD1:=Ph hmd1;have Xb:=Ph (Xa.o.to HWR.o hq);have HT1:=Ph (ht1.mono (P':=fun b=>sb+1≤b) fun b _ hb=>by have:=Xa.o.b.lt;omega);have HN:=Ph (HT0.o.stay (hq.staysP Xa.o.q.k));clear HT0;have HT0:=HN;clear HN;clear hmd1 ht1 hq Xa;have Xc:=Ph (Xb.o.below HWR.o (zB (o:=.cells #[uB y0.kind,uB y0.op,uW y0.value,uI y0.width,uR y0.name,.slice S0.A S0.n S0.c,uB y1.kind,uB y1.op,uW y1.value,uI y1.width,uR y1.name,.slice S1.A S1.n S1.c] 31)));have hrd:=RdT.new wb #[uB y0.kind,uB y0.op,uW y0.value,uI y0.width,uR y0.name,.slice S0.A S0.n S0.c,uB y1.kind,uB y1.op,uW y1.value,uI y1.width,uR y1.name,.slice S1.A S1.n S1.c] 31;have HR:=Ph (xY (P:=fun b=>sb+1≤b) (c:=2) [(y0,S0),(y1,S1)] hrd (fun b off e=>by injection e with e;injection e with e;have:=Xb.o.b.lt;omega) (fun q hq=>by
       simp only [lU,lT,or_false]at hq;rcases hq with rfl | rfl
       ·exact HT0.o.bel zB
       ·exact HT1.o.bel zB))
      clear hrd;obtain⟨f0,f1,f2,f3,f4,f5,_⟩:=zZ Xc.o.b;obtain⟨g0,g1,g2,g3,g4,g5⟩:=zH Xc.o.b;have HF:=Ph (fr6 (wb.alloc (.cells #[uB y0.kind,uB y0.op,uW y0.value,uI y0.width,uR y0.name,.slice S0.A S0.n S0.c,uB y1.kind,uB y1.op,uW y1.value,uI y1.width,uR y1.name,.slice S1.A S1.n S1.c] 31)) sb (uB 3) (uT) (.slice (some ⟨wb.heap.size,0,none⟩) 2 2) (uI 0) (uN) (uN));have HK:=Ph (put6 (v0:=uB 3) (v1:=uT) (v2:=.slice (some ⟨wb.heap.size,0,none⟩) 2 2) (v3:=uI 0) (v4:=uN) (v5:=uN) Xc.o.b);have HMS:Ud (MdS dp (.mk 3 [] [y0,y1] 0 [] [])):=Ph (.write (HMD0.o.up Yd Yo) (HMD1.o.up Yd Yo) (by have:=HMD0.o.sz;omega));go_wp2_with fail
      generalize (World.setCell _ _ _)=WF at HF HK ⊢;go_meet
      exact⟨.mk 3 [] [y0,y1] 0 [] [],(⟨some ⟨wb.heap.size,0,none⟩,2,2⟩,zK,zK),rfl,HMS,Ph (Xc.o.fill HWR.o HF.o HK.o ⟨HMS.o.sh.sxOk,HR.o,StsP.nil,StsP.nil⟩)⟩
     ·rw [hpp]at c24;by_cases hnp:0<D.np
      ·have ed:decide ((D.np:Int)>0)=true:=by simp;omega
       clear hpp;go_wp2_with fail
       refine(zX1 1 Yo 1 rfl m D D.W 0 W1 W3 Yo W1 _ (Ph X2.o.q.k)).mono ?_;rintro e wa ⟨y0,S0,rfl,hmd0,ht0,hq⟩;have HMD0:=Ph hmd0;have Xa:=Ph (X2.o.to HWR.o hq);have HT0:=Ph (ht0.mono (P':=fun b=>sb+1≤b) fun b _ hb=>by have:=X2.o.b.lt;omega);clear hmd0 ht0 hq X2;have Xc:=Ph (Xa.o.below HWR.o (zB (o:=.cells (uE y0 S0) 31)));have hrd:=RdT.new wa (uE y0 S0) 31;have HR:=Ph (xY (P:=fun b=>sb+1≤b) (c:=1) [(y0,S0)] hrd (fun b off e=>by injection e with e;injection e with e;have:=Xa.o.b.lt;omega) (fun q hq=>by
        simp only [lU,lT,or_false]at hq;rcases hq with rfl
        ·exact HT0.o.bel zB))
       clear hrd;obtain⟨f0,f1,f2,f3,f4,f5,_⟩:=zZ Xc.o.b;obtain⟨g0,g1,g2,g3,g4,g5⟩:=zH Xc.o.b;have HF:=Ph (fr6 (wa.alloc (.cells (uE y0 S0) 31)) sb (uB 8) (.string ⟨#[112]⟩) (.slice (some ⟨wa.heap.size,0,none⟩) 1 1) (uI 0) (uN) (uN));have HK:=Ph (put6 (v0:=uB 8) (v1:=.string ⟨#[112]⟩) (v2:=.slice (some ⟨wa.heap.size,0,none⟩) 1 1) (v3:=uI 0) (v4:=uN) (v5:=uN) Xc.o.b);have HMS:Ud (MdS dp (.mk 8 [112] [y0] 0 [] [])):=Ph (.call kJ5 rfl HMD0.o);go_wp2_with fail
       generalize (World.setCell _ _ _)=WF at HF HK ⊢;go_meet
       exact⟨.mk 8 [112] [y0] 0 [] [],(⟨some ⟨wa.heap.size,0,none⟩,1,1⟩,zK,zK),rfl,HMS,Ph (Xc.o.fill HWR.o HF.o HK.o ⟨HMS.o.sh.sxOk,HR.o,StsP.nil,StsP.nil⟩)⟩
      ·have ed:decide ((D.np:Int)>0)=false:=by simp;omega
       clear hpp;go_wp2_with fail
       refine(wA m D 1 0 Yo Yo Yo W1 _ (Ph X2.o.q.k)).mono ?_;rintro e wa ⟨y0,S0,rfl,hmd0,ht0,hq⟩;have HMD0:=Ph hmd0;have Xa:=Ph (X2.o.to HWR.o hq);have HT0:=Ph (ht0.mono (P':=fun b=>sb+1≤b) fun b _ hb=>by have:=X2.o.b.lt;omega);clear hmd0 ht0 hq X2;go_wp2_with fail
       refine(wA m D D.W 0 W1 W3 Yo W1 _ (Ph Xa.o.q.k)).mono ?_;rintro e wb ⟨y1,S1,rfl,hmd1,ht1,hq⟩;have HMD1:=Ph hmd1;have Xb:=Ph (Xa.o.to HWR.o hq);have HT1:=Ph (ht1.mono (P':=fun b=>sb+1≤b) fun b _ hb=>by have:=Xa.o.b.lt;omega);have HN:=Ph (HT0.o.stay (hq.staysP Xa.o.q.k));clear HT0;have HT0:=HN;clear HN;clear hmd1 ht1 hq Xa;have Xc:=Ph (Xb.o.below HWR.o (zB (o:=.cells #[uB y0.kind,uB y0.op,uW y0.value,uI y0.width,uR y0.name,.slice S0.A S0.n S0.c,uB y1.kind,uB y1.op,uW y1.value,uI y1.width,uR y1.name,.slice S1.A S1.n S1.c] 31)));have hrd:=RdT.new wb #[uB y0.kind,uB y0.op,uW y0.value,uI y0.width,uR y0.name,.slice S0.A S0.n S0.c,uB y1.kind,uB y1.op,uW y1.value,uI y1.width,uR y1.name,.slice S1.A S1.n S1.c] 31;have HR:=Ph (xY (P:=fun b=>sb+1≤b) (c:=2) [(y0,S0),(y1,S1)] hrd (fun b off e=>by injection e with e;injection e with e;have:=Xb.o.b.lt;omega) (fun q hq=>by
        simp only [lU,lT,or_false]at hq;rcases hq with rfl | rfl
        ·exact HT0.o.bel zB
        ·exact HT1.o.bel zB))
       clear hrd;obtain⟨f0,f1,f2,f3,f4,f5,_⟩:=zZ Xc.o.b;obtain⟨g0,g1,g2,g3,g4,g5⟩:=zH Xc.o.b;have HF:=Ph (fr6 (wb.alloc (.cells #[uB y0.kind,uB y0.op,uW y0.value,uI y0.width,uR y0.name,.slice S0.A S0.n S0.c,uB y1.kind,uB y1.op,uW y1.value,uI y1.width,uR y1.name,.slice S1.A S1.n S1.c] 31)) sb (uB 3) (uT) (.slice (some ⟨wb.heap.size,0,none⟩) 2 2) (uI 0) (uN) (uN));have HK:=Ph (put6 (v0:=uB 3) (v1:=uT) (v2:=.slice (some ⟨wb.heap.size,0,none⟩) 2 2) (v3:=uI 0) (v4:=uN) (v5:=uN) Xc.o.b);have HMS:Ud (MdS dp (.mk 3 [] [y0,y1] 0 [] [])):=Ph (.write (HMD0.o.up Yd Yo) (HMD1.o.up Yd Yo) (by have:=HMD0.o.sz;omega));go_wp2_with fail
       generalize (World.setCell _ _ _)=WF at HF HK ⊢;go_meet
       exact⟨.mk 3 [] [y0,y1] 0 [] [],(⟨some ⟨wb.heap.size,0,none⟩,2,2⟩,zK,zK),rfl,HMS,Ph (Xc.o.fill HWR.o HF.o HK.o ⟨HMS.o.sh.sxOk,HR.o,StsP.nil,StsP.nil⟩)⟩
    have e114:((v:Int) == 14)=false:=Yp;go_wp2_with fail
    refine(wA m D 1 0 Yo Yo Yo W1 _ (Ph X2.o.q.k)).mono ?_;rintro e wa ⟨y0,S0,rfl,hmd0,ht0,hq⟩;have HMD0:=Ph hmd0;have Xa:=Ph (X2.o.to HWR.o hq);have HT0:=Ph (ht0.mono (P':=fun b=>sb+1≤b) fun b _ hb=>by have:=X2.o.b.lt;omega);clear hmd0 ht0 hq X2;go_wp2_with fail
    refine(wA m D D.W 0 W1 W3 Yo W1 _ (Ph Xa.o.q.k)).mono ?_;rintro e wb ⟨y1,S1,rfl,hmd1,ht1,hq⟩;have HMD1:=Ph hmd1;have Xb:=Ph (Xa.o.to HWR.o hq);have HT1:=Ph (ht1.mono (P':=fun b=>sb+1≤b) fun b _ hb=>by have:=Xa.o.b.lt;omega);have HN:=Ph (HT0.o.stay (hq.staysP Xa.o.q.k));clear HT0;have HT0:=HN;clear HN;clear hmd1 ht1 hq Xa;have Xc:=Ph (Xb.o.below HWR.o (zB (o:=.cells #[uB y0.kind,uB y0.op,uW y0.value,uI y0.width,uR y0.name,.slice S0.A S0.n S0.c,uB y1.kind,uB y1.op,uW y1.value,uI y1.width,uR y1.name,.slice S1.A S1.n S1.c] 31)));have hrd:=RdT.new wb #[uB y0.kind,uB y0.op,uW y0.value,uI y0.width,uR y0.name,.slice S0.A S0.n S0.c,uB y1.kind,uB y1.op,uW y1.value,uI y1.width,uR y1.name,.slice S1.A S1.n S1.c] 31;have HR:=Ph (xY (P:=fun b=>sb+1≤b) (c:=2) [(y0,S0),(y1,S1)] hrd (fun b off e=>by injection e with e;injection e with e;have:=Xb.o.b.lt;omega) (fun q hq=>by
     simp only [lU,lT,or_false]at hq;rcases hq with rfl | rfl
     ·exact HT0.o.bel zB
     ·exact HT1.o.bel zB))
    clear hrd;obtain⟨f0,f1,f2,f3,f4,f5,_⟩:=zZ Xc.o.b;obtain⟨g0,g1,g2,g3,g4,g5⟩:=zH Xc.o.b;have HF:=Ph (fr6 (wb.alloc (.cells #[uB y0.kind,uB y0.op,uW y0.value,uI y0.width,uR y0.name,.slice S0.A S0.n S0.c,uB y1.kind,uB y1.op,uW y1.value,uI y1.width,uR y1.name,.slice S1.A S1.n S1.c] 31)) sb (uB 3) (uT) (.slice (some ⟨wb.heap.size,0,none⟩) 2 2) (uI 0) (uN) (uN));have HK:=Ph (put6 (v0:=uB 3) (v1:=uT) (v2:=.slice (some ⟨wb.heap.size,0,none⟩) 2 2) (v3:=uI 0) (v4:=uN) (v5:=uN) Xc.o.b);have HMS:Ud (MdS dp (.mk 3 [] [y0,y1] 0 [] [])):=Ph (.write (HMD0.o.up Yd Yo) (HMD1.o.up Yd Yo) (by have:=HMD0.o.sz;omega));go_wp2_with fail
    generalize (World.setCell _ _ _)=WF at HF HK ⊢;go_meet
    exact⟨.mk 3 [] [y0,y1] 0 [] [],(⟨some ⟨wb.heap.size,0,none⟩,2,2⟩,zK,zK),rfl,HMS,Ph (Xc.o.fill HWR.o HF.o HK.o ⟨HMS.o.sh.sxOk,HR.o,StsP.nil,StsP.nil⟩)⟩
   case rest =>
   obtain⟨x,u,rfl,HMS,HE⟩:=hcut;clear X2;obtain⟨A',c',w9,hrun,hown,hq9⟩:=Re.push h.o HQ.o HO.o HE.o HSn.o;have HRUN:=Ph hrun;have HO9:=Ph hown;have HQ9:=Ph hq9;clear hrun hown hq9;obtain⟨g0,g1,g2,g3,g4,g5⟩:=zH HE.o.b;go_wp2_with (at_builtin;refine jL rfl (.tmp 156) (.tmp 158) rfl _ _ _ rfl rfl (HRUN.o _) ?_)
   go_roundw
   case rel=>exact⟨j+1,_,_,Yo,by go_num,rfl,Ph (HL.o.snoc HMS.o),HO9,HQ9⟩
   case measure=>simp [intOf];omega
  ·obtain rfl:j=n:=by omega
   have e1:decide ((j:Int)<(j:Int))=false:=Ym;go_wp2_with fail
   go_ret;exact⟨l,S,rfl,⟨lE HL.o.n hn5,HL.o.all⟩,HO.o,HQ.o⟩
theorem jH7 (d:Nat) (hd:d≤9):kO5 d:=by
 induction d using Nat.strongRecOn with
 | ind d ih=>exact kJ6 d hd fun d' h=>ih d' h Yo
end
structure MadeG (x:Gx):Prop where
 b:∃ k:Nat,x.blocks=(k:Int)∧1≤k∧k≤3
 w:∃ k:Nat,x.width=(k:Int)∧1≤k∧k≤3
 is:(∀ d∈x.inputs,DOk d∧d.size=0)∧x.inputs.length≤2
 gs:(∀ d∈x.ghosts,DOk d∧d.size=0)∧x.ghosts.length≤2
 vs:(∀ d∈x.vars,DOk d∧d.size=0)∧x.vars.length≤2
 ar:(∀ d∈x.arrays,DOk d∧∃ k:Nat,d.size=(k:Int)∧k≤9)∧x.arrays.length≤1
 rq:MdX 13 3 x.require
 ins:(∀ i∈x.inits,(∃ k:Nat,i.block=(k:Int)∧k≤9)∧MdX 4 2 i.value)∧x.inits.length≤3
 ps:(∀ r∈x.procs,r.name=[112]∧((∀ d∈r.params,DOk d∧d.size=0)∧r.params.length≤1)∧MdL 1 3 r.body)∧x.procs.length≤1
 wk:MdL 2 5 x.work
 rc:MdL 1 3 x.recover
 iv:MdX 40 4 x.invariant
theorem DOk.good {d:Dx} (h:DOk d) (hs:d.size=0):zJ4 false d :=
 ⟨h.n,⟨d.width.toNat,by have:=h.w1;omega,by have:=h.w3;omega⟩,⟨0,hs,Yo,fun _=>rfl⟩⟩
theorem kO7:NameOk [112]:=⟨⟨112,[],rfl,Yd,Ym⟩,Yd⟩
theorem MadeG.good {x:Gx} (h:MadeG x):zW8 x:=by
 obtain⟨kb,hb,hb1,hb2⟩:=h.b;obtain⟨kw,hw,hw1,hw2⟩:=h.w;refine⟨⟨kb,hb,Yo⟩,⟨kw,hw,Yo⟩,fun d hd=>(h.is.1 d hd).1.good (h.is.1 d hd).2,fun d hd=>(h.gs.1 d hd).1.good (h.gs.1 d hd).2,fun d hd=>(h.vs.1 d hd).1.good (h.vs.1 d hd).2,fun d hd=>?_,h.rq.sh.good,fun i hi=>?_,fun r hr=>?_,fun y hy=>(h.wk.all y hy).sh.good,fun y hy=>(h.rc.all y hy).sh.good,h.iv.sh.good⟩
 ·obtain⟨h1,k,h2,h3⟩:=h.ar.1 d hd;exact⟨h1.n,⟨d.width.toNat,by have:=h1.w1;omega,by have:=h1.w3;omega⟩,⟨k,h2,Yo,fun e=>by cases e⟩⟩
 ·obtain⟨⟨k,h1,h2⟩,h3⟩:=h.ins.1 i hi;exact⟨⟨k,h1,Yo⟩,h3.sh.good⟩
 ·obtain⟨h1,h2,h3⟩:=h.ps.1 r hr;exact⟨by rw [h1];exact kO7,fun d hd=>(h2.1 d hd).1.good (h2.1 d hd).2,fun y hy=>(h3.all y hy).sh.good⟩
theorem jH8:∀ (l:List Ix),(∀ i∈l,MdX 4 2 i.value)→jF9 l≤5*l.length
 | [],_=>by simp [jF9]
 | x :: l,h=>by have h1:=jH8 l fun i hi=>h i (List.mem_cons_of_mem _ hi);have h2:=(h x (List.mem_cons_self ..)).sz;simp only [jF9,Yc];omega
theorem jH9:∀ (l:List Rx),(∀ r∈l,r.params.length≤1∧MdL 1 3 r.body)→jF7 l≤206*l.length
 | [],_=>by simp [jF7]
 | x :: l,h=>by have h1:=jH9 l fun i hi=>h i (List.mem_cons_of_mem _ hi);obtain⟨h2,h3⟩:=h x (List.mem_cons_self ..);have h4:=h3.sz;simp only [pd]at h4;simp only [jF7,szR,Yc];omega
theorem MadeG.sz {x:Gx} (h:MadeG x):szG x≤2000:=by have h1:=h.is.2;have h2:=h.gs.2;have h3:=h.vs.2;have h4:=h.ar.2;have h5:=h.rq.sz;have h6:=jH8 _ fun i hi=>(h.ins.1 i hi).2;have h7:=h.ins.2;have h8:=jH9 _ fun r hr=>⟨(h.ps.1 r hr).2.1.2,(h.ps.1 r hr).2.2⟩;have h9:=h.ps.2;have h10:=h.wk.sz;have h11:=h.rc.sz;have h12:=h.iv.sz;simp only [pd]at h10 h11;unfold szG;omega
theorem MadeG.fit {x:Gx} (h:MadeG x):kE1 x:=by refine⟨by have:=h.rq.ht;omega,fun i hi=>by have:=(h.ins.1 i hi).2.ht;omega,fun r hr=>by have:=(h.ps.1 r hr).2.2.ht;omega,by have:=h.wk.ht;omega,by have:=h.rc.ht;omega,by have:=h.iv.ht;omega,by have:=h.sz;omega⟩
section
open Go.RowKit Go.PlainAid
def qR8 (L:SV) (a:Nat) (x:Gx) (v:GV) (par:Bool):Array Value:=#[.slice L.A L.n L.c,uI a,uI x.blocks,uI x.width,.slice v.is.A v.is.n v.is.c,.slice v.gs.A v.gs.n v.gs.c,.slice v.vs.A v.vs.n v.vs.c,.slice v.ar.A v.ar.n v.ar.c,uB x.require.kind,uB x.require.op,uW x.require.value,uI x.require.width,uR x.require.name,.slice v.rq.A v.rq.n v.rq.c,.slice v.ins.A v.ins.n v.ins.c,.slice v.ps.A v.ps.n v.ps.c,.slice v.wk.A v.wk.n v.wk.c,.slice v.rc.A v.rc.n v.rc.c,uB x.invariant.kind,uB x.invariant.op,uW x.invariant.value,uI x.invariant.width,uR x.invariant.name,.slice v.iv.A v.iv.n v.iv.c,.bool par]
def kQ7 (L:SV) (Lb:List UInt8) (x:Gx) (v:GV) (par:Bool):MD:=⟨L,Lb,x.width.toNat,v.is,x.inputs,v.gs,x.ghosts,v.vs,x.vars,v.ps.n,par,fun i=>(qR8 L 0 x v par)[i]?⟩
structure UG (x:Gx):Prop where
 w:∃ k:Nat,x.width=(k:Int)∧k≤3
 is:(∀ d∈x.inputs,DOk d)∧x.inputs.length≤2
 gs:(∀ d∈x.ghosts,DOk d)∧x.ghosts.length≤2
 vs:(∀ d∈x.vars,DOk d)∧x.vars.length≤2
 ps:x.procs.length≤1
def z22:Array Value:=uP
abbrev GxN (P:Nat→Prop) (W:World) (x:Gx) (v:GV):Prop:=GxP P W { x with inits:=[] } { v with ins:=zK }
structure MB (w0:World) (P:Nat→Prop) (r m:Nat) (L:SV) (Lb:List UInt8) (x:Gx) (v:GV) (par:Bool) (W:World):Prop where
 bx:∃ a:Nat,a≤L.n∧Bk W m 84 (qR8 L a x v par)
 rd:Rd W L.A (Lb.map fun b=>uB b.toNat)
 lA:Lb≠[]→∀ b off,L.A=some ⟨b,off,none⟩→b<w0.heap.size
 ln:L.n=Lb.length
 few:L.n≤200
 g:GxN P W x v
 ok:UG x
 fr:Below w0.heap.size w0 W
 wm:w0.heap.size≤m
 rb:Bk W r 36 z22
 rm:r≠m
 wr:w0.heap.size≤r
theorem jI1 {P:Nat→Prop} {w:World} {l:List Dx} {S:SV} (h:zE2 P w l S) (ok:(∀ d∈l,DOk d)∧l.length≤2):DRow w S l:=by
 have key:∀ (l:List Dx) (vs:List Unit),vs.length=l.length→((l.zip vs).flatMap fun p=>yX p.1 p.2)=l.flatMap fun d=>yX d ():=by
  intro l;induction l with
  | nil=>intro vs h;rfl
  | cons d l ih =>
    intro vs h;cases vs with
    | nil=>cases h
    | cons u vs=>rw [List.zip_cons_cons,lQ,lQ,ih vs (by simpa using h)]
 cases h with
 | mk vs hl hn hP rd all=>exact⟨by rw [←key _ _ hl];exact rd,hn,ok.2,ok.1⟩
section
variable {w0 W W':World} {P P':Nat→Prop} {r m:Nat} {L:SV} {Lb:List UInt8} {x x':Gx} {v v':GV} {par par':Bool}
theorem qN2 (a:Nat) (i:Nat) (hi:i≠1):(qR8 L a x v par)[i]?=(qR8 L 0 x v par)[i]?:=by
 match i,hi with
 | 0,_=>rfl
 | n+2,_=>simp [qR8]
theorem MB.mk' (h:MB w0 P r m L Lb x v par W):Mk W m (kQ7 L Lb x v par):=by
 obtain⟨a,ha,hb⟩:=h.bx;obtain⟨k,hk,hk3⟩:=h.ok.w;refine⟨⟨qR8 L a x v par,a,⟨hb,rfl,rfl,rfl,ha,?_,rfl,rfl,rfl,⟨v.ps.A,v.ps.c,rfl⟩,rfl,fun i hi=>qN2 a i hi⟩⟩,h.rd,fun hne b off e=>lX (h.lA hne b off e) h.wm,h.ln,h.few,?_,jI1 h.g.is h.ok.is,jI1 h.g.gs h.ok.gs,jI1 h.g.vs h.ok.vs,?_⟩
 ·show some (uI x.width)=some (uI ((x.width.toNat:Nat):Int));rw [hk];rfl
 ·show x.width.toNat≤3;omega
 ·have e:v.ps.n=x.procs.length:=h.g.ps.len;show v.ps.n≤1;rw [e];exact h.ok.ps
theorem MB.cell (h:MB w0 P r m L Lb x v par W) (i:Nat) (hi:i≠1):W.cell? ⟨m,i,none⟩=(qR8 L 0 x v par)[i]?:=by obtain⟨a,_,hb⟩:=h.bx;rw [hb.cell i,qN2 a i hi]
theorem MB.mono (h:MB w0 P r m L Lb x v par W) (hp:∀ b,b<W.heap.size→P b→P' b):MB w0 P' r m L Lb x v par W:={ h with g:=itG.mono _ _ _ _ _ hp h.g }
theorem MB.cells (h:MB w0 P r m L Lb x v par W):W.cell? ⟨m,2,none⟩=some (uI x.blocks)∧W.cell? ⟨m,3,none⟩=some (uI x.width)∧W.cell? ⟨m,14,none⟩=some (.slice v.ins.A v.ins.n v.ins.c):=by obtain⟨a,_,hb⟩:=h.bx;exact⟨(hb.cell 2).trans rfl,(hb.cell 3).trans rfl,(hb.cell 14).trans rfl⟩
theorem MB.frozen (h:MB w0 P r m L Lb x v par W) (i:Nat):W.frozen? ⟨m,i,none⟩=false:=by obtain⟨a,_,hb⟩:=h.bx;exact hb.frozen i
theorem MB.lt (h:MB w0 P r m L Lb x v par W):m<W.heap.size:=by obtain⟨a,_,hb⟩:=h.bx;exact hb.lt
theorem MB.of (h:MB w0 P r m L Lb x v par W) (k:MQ W m (kQ7 L Lb x v par) W'):MB w0 P r m L Lb x v par W':=by
 obtain⟨cs,a,hb⟩:=k.k.ex;have e:cs=qR8 L a x v par:=by
  apply Array.ext_getElem?;intro i;by_cases hi:i=1
  ·subst hi;rw [hb.at'];rfl
  ·rw [hb.oth i hi,qN2 a i hi];rfl
 refine⟨⟨a,hb.le,e▸hb.bk⟩,k.k.rd,h.lA,h.ln,h.few,itG.stay _ _ _ _ _ (k.staysP h.mk') h.g,h.ok,?_,h.wm,k.bk h.mk' h.rb h.rm,h.rm,h.wr⟩;exact((Fr.of_below (F:=fun k=>k=m) h.fr).then (G:=fun k=>k=m) k.fr (fun i _ e=>e)).below _ (lF _) (fun k hk e=>by have:=h.wm;omega)
theorem MB.below (h:MB w0 P r m L Lb x v par W) (k:Below W.heap.size W W'):MB w0 P r m L Lb x v par W':=h.of ((MQ.refl h.mk').then h.mk' k)
theorem MB.drew (h:MB w0 P r m L Lb x v par W):MB w0 P r m L Lb x v par W.drew:=h.below ((lB _ W).drew)
theorem zK5:¬TTy 84:=by unfold TTy;decide
theorem MB.put (h:MB w0 P r m L Lb x v par W) (hf:Fr (fun k=>k=m) W W') (hb:∀ a,Bk W m 84 (qR8 L a x v par)→Bk W' m 84 (qR8 L a x' v' par')) (hg:GxN P W x' v') (ok:UG x'):MB w0 P r m L Lb x' v' par' W':=by obtain⟨a,ha,hbk⟩:=h.bx;refine⟨⟨a,ha,hb a hbk⟩,fun hx=>h.rd.fr hf (fun b _ ⟨off,e⟩ e2=>by have:=h.lA (by simpa using hx) b off e;have:=h.wm;omega) hx,h.lA,h.ln,h.few,itG.stay _ _ _ _ _ (Stays.box hf hbk zK5) hg,ok,?_,h.wm,h.rb.fr hf h.rm,h.rm,h.wr⟩;exact((Fr.of_below (F:=fun k=>k=m) h.fr).then (G:=fun k=>k=m) hf (fun i _ e=>e)).below _ (lF _) (fun k hk e=>by have:=h.wm;omega)
theorem MB.put1 (h:MB w0 P r m L Lb x v par W) (i:Nat) (u:Value) (hc:∀ a,(qR8 L a x v par).setIfInBounds i u=qR8 L a x' v' par') (hg:GxN P W x' v') (ok:UG x'):MB w0 P r m L Lb x' v' par' (W.setCell ⟨m,i,none⟩ u) :=
 h.put ((Fr.refl (fun k=>k=m) W).setCell (p:=⟨m,i,none⟩) (.inl rfl) u) (fun a hb=>hc a▸hb.put i u) hg ok
theorem MB.put6 (h:MB w0 P r m L Lb x v par W) (i:Nat) (u0 u1 u2 u3 u4 u5:Value) (hc:∀ a,((((((qR8 L a x v par).setIfInBounds i u0).setIfInBounds (i+1) u1).setIfInBounds (i+2) u2).setIfInBounds (i+3) u3).setIfInBounds (i+4) u4).setIfInBounds (i+5) u5=qR8 L a x' v' par') (hg:GxN P W x' v') (ok:UG x') :
 MB w0 P r m L Lb x' v' par' ((((((W.setCell ⟨m,i,none⟩ u0).setCell ⟨m,i+1,none⟩ u1).setCell ⟨m,i+2,none⟩ u2).setCell ⟨m,i+3,none⟩ u3).setCell ⟨m,i+4,none⟩ u4).setCell ⟨m,i+5,none⟩ u5) :=
 h.put (kL5 W m i u0 u1 u2 u3 u4 u5) (fun a hb=>hc a▸(((((hb.put i u0).put (i+1) u1).put (i+2) u2).put (i+3) u3).put (i+4) u4).put (i+5) u5) hg ok
theorem MB.data {F:Nat→Prop} (h:MB w0 P r m L Lb x v par W) (hf:Fr F W W') (hF:∀ k,k<W.heap.size→F k→w0.heap.size≤k∧∃ t cs,Bk W k t cs∧TTy t) (hP:∀ k,k<W.heap.size→P k→¬F k):MB w0 P r m L Lb x v par W':=by
 have key:∀ g ty c,Bk W g ty c→¬TTy ty→¬F g:=by intro g ty c hb hn e;obtain⟨_,t2,c2,hb2,ht2⟩:=hF g hb.lt e;unfold Bk at hb hb2;rw [hb]at hb2;injection hb2 with hb2;injection hb2 with _ e2;exact hn (e2▸ht2)
 obtain⟨a,ha,hbk⟩:=h.bx;refine⟨⟨a,ha,hbk.fr hf (key _ _ _ hbk zK5)⟩,fun hx=>h.rd.fr hf (fun b hb ⟨off,e⟩ e2=>by have:=h.lA (by simpa using hx) b off e;have:=(hF b hb e2).1;omega) hx,h.lA,h.ln,h.few,itG.stay _ _ _ _ _ (Stays.fr hf hP) h.g,h.ok,?_,h.wm,h.rb.fr hf (key _ _ _ h.rb xT),h.rm,h.wr⟩;exact((Fr.of_below (F:=fun k=>w0.heap.size≤k) h.fr).then (G:=F) hf (fun i hi e=>(hF i (lX hi h.fr.size) e).1)).below _ (lF _) (fun k hk e=>by have:w0.heap.size≤k:=e;omega)
end
def g0:Gx:=⟨0,0,[],[],[],[],.mk 0 0 0 0 [] [],[],[],[],[],.mk 0 0 0 0 [] []⟩
def v0:GV:=⟨zK,zK,zK,zK,zK,zK,zK,zK,zK,zK⟩
theorem jI2 {P:Nat→Prop} {w:World}:TX P w (.mk 0 0 0 0 [] []) zK:=.mk _ _ [] ⟨by show(0:Nat)≤255;omega,by show(0:Nat)≤255;omega,by show(0:Nat)≤4294967295;omega,by show(-9223372036854775808:Int)≤0;omega,by show(0:Int)≤9223372036854775807;omega,by show 0≤1000000;omega,by show(0:Nat)≤1000;omega⟩ rfl rfl (fun _ _ h=>by cases h) RdT.nil (fun i y v h _=>by simp [Ex.subs]at h)
theorem kR9 {P:Nat→Prop} {w:World}:GxN P w g0 v0:=⟨.nil,.nil,.nil,.nil,jI2,.nil,.nil,StsP.nil,StsP.nil,jI2⟩
theorem ug0:UG g0:=⟨⟨0,rfl,Yo⟩,⟨fun d h=>(by cases h),by simp [g0]⟩,⟨fun d h=>(by cases h),by simp [g0]⟩,⟨fun d h=>(by cases h),by simp [g0]⟩,by simp [g0]⟩
theorem kB8 {P:Nat→Prop} {w:World}:TX P w (.mk 1 0 1 1 [] []) zK:=.mk _ _ [] ⟨by show(1:Nat)≤255;omega,by show(0:Nat)≤255;omega,by show(1:Nat)≤4294967295;omega,by show(-9223372036854775808:Int)≤1;omega,by show(1:Int)≤9223372036854775807;omega,by show 0≤1000000;omega,by show(0:Nat)≤1000;omega⟩ rfl rfl (fun _ _ h=>by cases h) RdT.nil (fun i y v h _=>by simp [Ex.subs]at h)
theorem MB.range {w0 W:World} {P:Nat→Prop} {r m:Nat} {L:SV} {Lb:List UInt8} {x:Gx} {v:GV} {par:Bool} (h:MB w0 P r m L Lb x v par W):W.rangeAt m 2 (zN5 x v):=fun j u hj=>by
 obtain⟨a,_,hb⟩:=h.bx;rw [hb.cell];show((.slice L.A L.n L.c :: uI a :: (zN5 x v++[.bool par])).toArray:Array Value)[2+j]?=some u;rw [Nat.add_comm];have hlt:j<(zN5 x v).length:=by
  rcases Nat.lt_or_ge j (zN5 x v).length with h | h
  ·exact h
  ·rw [cW h]at hj;cases hj
 simp only [List.getElem?_toArray,List.getElem?_cons_succ];rw [cI hlt];exact hj
theorem jQ5 {P:Nat→Prop} {W:World} {x:Rx} {S1 S2:SV} {c:Nat} (hd:zE2 P W x.params S1) (hb:StsP P W x.body S2) (hn:x.name.length≤1000000) (hP:P W.heap.size):jT6 P (W.alloc (.cells (zP2 x (S1,S2)).toArray 93)) [x] ⟨some ⟨W.heap.size,0,none⟩,1,c⟩:=by
 have h:=RdT.new W (zP2 x (S1,S2)).toArray 93;refine .mk _ _ [(S1,S2)] rfl rfl (fun b off e=>by injection e with e;injection e with e;exact e▸hP) h (fun i y v hy hv=>?_);match i,hy,hv with
 | 0,hy,hv =>
   injection hy with hy;injection hv with hv;subst hy hv;exact⟨hn,hd.stay itD qC (Stays.below zB),hb.stay (Stays.below zB)⟩
theorem qH7 {α β:Type} {f:α→List β} {m:Nat} (hf:∀ x,(f x).length=m):∀ (l:List α) (k:Nat),(l.take k).flatMap f=(l.flatMap f).take (k*m)
 | [],k=>Ym
 | x :: l,0=>Ym
 | x :: l,k+1=>by have e:(f x).take (m+k*m)=f x:=cJ (by rw [hf x];omega);rw [cR,lQ,lQ,qH7 hf l k,Nat.succ_mul,Nat.add_comm,List.take_append,hf x,e,Nat.add_sub_cancel_left]
theorem zK6 {W:World} (l:List Dx) (k c:Nat) (hk:k≤l.length) (ok:∀ d∈l,jO4 d):zE2 (fun b=>W.heap.size≤b) (W.alloc (.cells (l.flatMap fun d=>yX d ()).toArray 87)) (l.take k) ⟨some ⟨W.heap.size,0,none⟩,k,c⟩:=by
 have h:=RdT.new W (l.flatMap fun d=>yX d ()).toArray 87;have hz:∀ (l:List Dx) (vs:List Unit),vs.length=l.length→((l.zip vs).flatMap fun p=>yX p.1 p.2)=l.flatMap fun d=>yX d ():=by
  intro l;induction l with
  | nil=>intro vs h;rfl
  | cons d l ih =>
    intro vs h;cases vs with
    | nil=>cases h
    | cons u vs=>rw [List.zip_cons_cons,lQ,lQ,ih vs (by simpa using h)]
 refine .mk _ _ (List.replicate k ()) Yp Yp (fun b off e=>by injection e with e;injection e with e;exact Nat.le_of_eq e) ?_ (fun i d u hd _=>ok d (List.mem_of_mem_take (cD hd)));rw [hz _ _ Yp,qH7 (m:=3) (fun _=>rfl)];exact⟨h.rd.take _,h.ty⟩
theorem zU8 {d:Dx} (h:DOk d) (hs:d.size=0∨d.size=2∨d.size=3):jO4 d:=⟨by have:=h.l;omega,by have:=h.w1;omega,by have:=h.w3;omega,Yo,Yo⟩
end
end Go.Proofs.YtfdaebgllibphaaGreatDoor
