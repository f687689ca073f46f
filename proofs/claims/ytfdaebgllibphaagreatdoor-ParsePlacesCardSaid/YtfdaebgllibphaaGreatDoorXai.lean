import Derived.Test.YtfdaebgllibphaaGreatDoorXah
set_option linter.unusedVariables false
set_option linter.unusedSimpArgs false
set_option maxRecDepth 100000
set_option maxHeartbeats 16000000
namespace Go.Proofs.YtfdaebgllibphaaGreatDoor
section
open Go.RowKit Go.PlainAid
section
variable {α β:Type} {c:α→β→List Value} {t:TypeId} {A:(Nat→Prop)→World→α→β→Prop} {w w':World} {l:List α} {S:SV} {m B:Nat}
theorem OwnG.typed (h:OwnG c t m A B w l S) {k:Nat} (hk:(Value.slice S.A S.n S.c).ownBlock=some k):B≤k∧∃ cs,Bk w k t cs:=by obtain⟨vs,h1,h2,h3,h4⟩:=h;exact qF h3 k hk
theorem OwnG.fresh (h:OwnG c t m A B w l S) {k:Nat} (hk:w.heap.size≤k):(Value.slice S.A S.n S.c).ownBlock≠some k:=fun e=>by obtain⟨_,cs,hb⟩:=h.typed e;have:=hb.lt;omega
end
theorem jL {P:Program} {ops:Array Oper} {rest:List Oper} {t:TypeId} {w w':World} {o:Oper} {a:Act} {Q:Exit→Act→World→Prop} (hgd:o.guard=none) (s x:Operand) (ho:o.op=.call { callee:=.builtin .append,args:=#[s,x],argTypes:=#[t,t] }) (v u r:Value) (hs:a.eval s=v) (hx:a.eval x=u)
 (hrun:(Builtin.append_ #[t,t] o.type #[v,u]).run P w=.ok r w') (h:wpList P ops Q rest (a.put o.dst r) w'):wpList P ops Q (o :: rest) a w :=
 wpList_plain hgd fun _ hK=>jC6 (ty0:=t) s x ho v u r hs hx hrun (hK _ _ h)
theorem qA7 (t u:List UInt8):((str t).toList == u)=decide (t=u):=by
 rw [qB,qE];by_cases h:t=u
 ·simp [h]
 ·simp [h]
theorem xL (X:Ex) (S:SV):(qX X S).toArray=(uE X S):=rfl
section
variable {B:Nat} {w w1 w':World} {p:Nat} {E:Env} {T:TV} {q:QSt} {F:Nat→Prop}
theorem Pq.data (h:Pq B w p E T q) (hf:Fr F w w') (hF:∀ k,k<w.heap.size→F k→B≤k∧∃ t cs,Bk w k t cs∧TTy t):Pq B w' p E T q:=by
 obtain⟨Q,h1,h2,h3⟩:=h.ex;have key:∀ k,k<w.heap.size→∀ t cs fr,w.heap[k]?=some (.cells cs t fr)→¬TTy t→¬F k:=by intro k hk t cs fr hb ht e;obtain⟨_,t',cs',hb',ht'⟩:=hF k hk e;unfold Bk at hb';rw [hb']at hb;injection hb with hb;injection hb with _ hb;exact ht (hb▸ht')
 have hl:∀ k,k<B→k<w.heap.size→¬F k:=fun k hk hw e=>by have:=(hF k hw e).1;omega
 have htok:¬TTy 44:=by unfold TTy;decide
 obtain⟨v0,v1⟩:=h1.vr.lt;refine⟨⟨Q,⟨h1.bk.fr hf (key _ h1.lt _ _ _ h1.bk zX8),h1.rd.keeps (Keeps.fr hf fun b cs fr hb=>key b (zO hb) _ _ _ hb htok),h1.ok,h1.n,h1.vr.fr hf (hl _ h.g0 v0) (hl _ h.g1 v1),h1.g0,h1.g1,lE h1.base hf.size⟩,?_,h3⟩,h.g0,h.g1,lE h.b hf.size⟩;refine jP h2 hf fun k hk=>?_;obtain⟨_,cs,hb⟩:=qF h2 k hk;exact key k hb.lt _ _ _ hb zS5
theorem PQ.data (h:PQ B w p E T q w1) (hB:B≤w.heap.size) (hf:Fr F w1 w') (hF:∀ k,k<w1.heap.size→F k→w.heap.size≤k∧∃ t cs,Bk w1 k t cs∧TTy t):PQ B w p E T q w' :=
 ⟨h.pq.data hf fun k hk e=>⟨lE hB (hF k hk e).1,(hF k hk e).2⟩,Fr.then h.fr hf fun i hi e=>by have:=(hF i (lX hi h.fr.size) e).1;omega⟩
end
theorem OwnX.push {B:Nat} {w w2:World} {out:List Ex} {S S1:SV} {X:Ex} (h:OwnX B w out S) (hB:B≤w.heap.size) (hs:Stays (fun k=>B≤k) w w2) (hsz:w.heap.size≤w2.heap.size) (hx:TX (fun k=>w.heap.size≤k) w2 X S1) (hn:S.n<1000000000) :
 ∃ A' c' w',(∀ ty,(Builtin.append_ #[29,29] ty #[.slice S.A S.n S.c,.slice (some ⟨w2.heap.size,0,none⟩) 1 1]).run Tryz.prog (w2.alloc (.cells (qX X S1).toArray 31))=.ok (.slice A' (S.n+1) c') w')∧OwnX B w' (out++[X]) ⟨A',S.n+1,c'⟩∧Fr (fun k=>(Value.slice S.A S.n S.c).ownBlock=some k) (w2.alloc (.cells (qX X S1).toArray 31)) w'∧OwnX B (w2.alloc (.cells (qX X S1).toArray 31)) out S:=by
 have hb:Below w2.heap.size w2 (w2.alloc (.cells (qX X S1).toArray 31)):=zB;have ho:=h.stay itX qW (hs.trans (Stays.below hb));have hx2:=itX.mono _ (fun k=>B≤k∧(uL S).ownBlock≠some k) _ _ _ (fun k _ hk=>⟨lE hB hk,h.fresh hk⟩) (hx.stay (Stays.below hb));have key:=fun ty=>OwnG.run itX kF4 qW qE2 (fun x v=>wO x v) ho X S1 hx2 (some ⟨w2.heap.size,0,none⟩) 1 (Rd.new w2 (qX X S1).toArray 31) hn Yp ty;obtain⟨A',c',w',h1,h2,h3⟩:=key 0;exact⟨A',c',w',fun ty=>h1,h2,h3,ho⟩
section
variable {B:Nat} {p:Nat} {E:Env} {T:TV}
theorem kG4 (f:Nat) (q:QSt) (l:List Ex) (q':QSt) (hx:yC E f q=some (l,q')) (w:World) (h:Hid (Pq B w p E T q)) :
 Calls Tryz.prog 161 #[uQ p 0] w fun e w'=>∃ S,e=.returned (.slice S.A S.n S.c)∧RowX (fun k=>w.heap.size≤k) w' l S∧PQ B w p E T q' w':=by
 obtain⟨q1,h1,h2⟩:=zE3 hx;have HO:=Ph h1;clear hx h1;go_enter Tryz.func161,Tryz.ntmps161
 go_wp2_with fail
 refine(qF3 q [40] q1 HO.out w h).mono ?_;rintro e w1 ⟨⟨v,rfl⟩,hp⟩;have HP1:=Ph hp;clear hp;have hbt:((str (zC E q1.s).text).toList == [41])=decide ((zC E q1.s).text=[41]):=qA7 _ _;have HNX:=Ph (zI6 q1 w1 (Ph HP1.out.pq));obtain⟨⟨tk,tt,ta,tf⟩,ht⟩:∃ t,zC E q1.s=t:=⟨_,rfl⟩;rw [ht]at HNX h2 hbt;dsimp only [nxV,kW]at HNX;(try dsimp only at h2 hbt);clear ht;go_wp2_with fail
 refine HNX.out.mono ?_;rintro e w2 ⟨rfl,hb⟩;have HP2:=Ph ((HP1.out.then hb).then (zB (o:=.cells #[uB tk,uI ta,uI tf] 44)));clear hb HNX HP1;go_upto_region 4 with fail
 generalize (w2.alloc _)=W2 at HP2 ⊢;obtain⟨Q2,hps,_⟩:=HP2.out.pq.ex;obtain⟨g0,g1,g2,g3,g4,g5,g6⟩:=hps.cells;clear hps g0 g1 g2 g3 g4 g5;rcases h2 with⟨hc,rfl,hsh⟩ | ⟨⟨hc1,hc2⟩,x,q2,q3,hx,hm,hsh⟩
 ·have HSH:=Ph hsh;clear hsh;by_cases ht:tt=[41]
  ·rw [lH ht]at hbt;clear hc ht;go_wp2_with fail
   refine(zI7 q1 [41] q' HSH.out W2 (Ph HP2.out.pq)).mono ?_;rintro e w3 ⟨⟨v3,rfl⟩,hp⟩;have HP3:=Ph (HP2.out.trans hp);clear hp;go_wp2_with fail
   go_ret;exact⟨⟨none,0,0⟩,rfl,RowG.nil,HP3.out⟩
  ·rw [lG ht]at hbt;have e1:((q1.s.e:Int) == 0)=false:=by have:q1.s.e≠0:=fun h0=>hc ⟨ht,h0⟩;simp;omega
   clear hc ht;go_wp2_with fail
   refine(zI7 q1 [41] q' HSH.out W2 (Ph HP2.out.pq)).mono ?_;rintro e w3 ⟨⟨v3,rfl⟩,hp⟩;have HP3:=Ph (HP2.out.trans hp);clear hp;go_wp2_with fail
   go_ret;exact⟨⟨none,0,0⟩,rfl,RowG.nil,HP3.out⟩
 ·rw [lG hc1]at hbt;have e1:((q1.s.e:Int) == 0)=true:=Yp;have HX:=Ph hx;have HM:=Ph hm;have HSH:=Ph hsh;have hBw:Hid (B≤w.heap.size):=Ph h.out.b;have hW2:w.heap.size≤W2.heap.size:=HP2.out.fr.size;clear hx hm hsh hc1 hc2;go_wp2_with fail
  refine(zC3 f q1 x q2 HX.out W2 (Ph HP2.out.pq)).mono ?_;rintro e w3 ⟨S1,rfl,htx,hp⟩;rw [xL];obtain⟨A1,c1,w4,hrun,hown,hfr,hown0⟩:=OwnX.push (B:=w.heap.size) (w:=W2) (out:=[]) (S:=⟨none,0,0⟩) OwnG.nil hW2 (HP2.out.pq.stays hp.fr) hp.fr.size htx Yd;rw [xL]at hrun hown0 hfr;have hl2:1≤q2.s.n+1:=Yo;have HP4:=Ph (((HP2.out.trans hp).then (zB (o:=.cells (uE x S1) 31))).data hBw.out hfr (fun k _ e=>by obtain⟨h1,cs,h2⟩:=hown0.typed e;exact⟨h1,_,cs,h2,qW⟩));have HRUN:=Ph hrun;have HOW:Hid (OwnX w.heap.size w4 [x] ⟨A1,1,c1⟩):=Ph hown;clear hrun hown hfr hown0 hp htx HP2 hW2 g6 hbt e1;go_wp2_with (at_builtin;refine jL rfl (.tmp 22) (.tmp 25) rfl _ _ _ rfl rfl (HRUN.out _) ?_)
  go_loopg [3] f (fun g v3 wr=>∃ (out:List Ex) (S:SV) (qc:QSt),v3=uL S∧Hid (yA E g qc out=some (l,q3))∧Hid (OwnX w.heap.size wr out S)∧Hid (PQ B w p E T qc wr)∧Hid (out.length≤qc.s.n+1))
  case atStart=>exact⟨[x],⟨A1,1,c1⟩,q2,rfl,HM,HOW,HP4,Ph hl2⟩
  case round =>
   obtain⟨out,S,qc,rfl,HMc,HOc,HPc,HLc⟩:=hrel;clear HM HOW HP4 HRUN HX hl2;cases gk with
   | zero=>exact absurd HMc.out (by unfold yA;intro h;cases h)
   | succ gk =>
   have hms:=zS6 HMc.out;clear HMc;go_wp2_with fail
   refine(isQ qc [44] wr (Ph HPc.out.pq)).mono ?_;rintro e w5 ⟨rfl,hp⟩;rcases hms with⟨hi,hr⟩ | ⟨hi,y,q5,hy,hm⟩
   ·have hq:qc.on (isS E qc.s [44])=qc:=by unfold isS;rw [hi];rfl
    rw [hi];rw [hq]at hp;injection hr with hr1 hr2;subst hr1 hr2;have HP5:=Ph (HPc.out.trans hp);have HO5:=Ph (HOc.out.stay itX qW (HPc.out.pq.stays hp.fr));clear hp hi HPc HOc hq;go_wp2_with fail
    refine(zI7 q3 [41] q' HSH.out w5 (Ph HP5.out.pq)).mono ?_;rintro e w6 ⟨⟨v6,rfl⟩,hp⟩;have HP6:=Ph (HP5.out.trans hp);have HO6:=Ph (HO5.out.stay itX qW (HP5.out.pq.stays hp.fr));clear hp HP5 HO5;go_wp2_with fail
    go_ret;exact⟨S,rfl,HO6.out.row itX,HP6.out⟩
   ·have hq:qc.on (isS E qc.s [44])=qc.on (zE qc.s):=by unfold isS;rw [hi];rfl
    rw [hi];rw [hq]at hp;have HP5:=Ph (HPc.out.trans hp);have HO5:=Ph (HOc.out.stay itX qW (HPc.out.pq.stays hp.fr));have hsz5:w.heap.size≤w5.heap.size:=HP5.out.fr.size;have hSn:S.n<1000000000:=by have h1:=HLc.out;have h2:=HOc.out.len;obtain⟨Qc,hps,_⟩:=HPc.out.pq.ex;have h3:=hps.n;have h4:=hps.ok.few;omega
    have hl5:out.length+1≤q5.s.n+1:=by have h1:=HLc.out;have h2:qc.s.n+1≤q5.s.n:=yY hy;omega
    have HY:=Ph hy;have HM:=Ph hm;clear hp hi HPc HOc hq hy hm HLc;go_wp2_with fail
    refine(zC3 gk (qc.on (zE qc.s)) y q5 HY.out w5 (Ph HP5.out.pq)).mono ?_;rintro e w6 ⟨S1,rfl,htx,hp⟩;rw [xL];obtain⟨A2,c2,w7,hrun,hown,hfr,hown0⟩:=OwnX.push (B:=w.heap.size) (w:=w5) HO5.out hsz5 (HP5.out.pq.stays hp.fr) hp.fr.size htx hSn;rw [xL]at hrun hown0 hfr;have HP7:=Ph (((HP5.out.trans hp).then (zB (o:=.cells (uE y S1) 31))).data hBw.out hfr (fun k _ e=>by obtain⟨h1,cs,h2⟩:=hown0.typed e;exact⟨h1,_,cs,h2,qW⟩));have HRUN:=Ph hrun;have HOW:=Ph hown;have HL7:Hid ((out++[y]).length≤q5.s.n+1):=Ph (by rw [Ya];exact hl5);clear hrun hown hfr hown0 hp htx HP5 HO5 hl5 hSn hsz5 HY;go_wp2_with (at_builtin;refine jL rfl (.tmp 29) (.tmp 32) rfl _ _ _ rfl rfl (HRUN.out _) ?_)
    go_roundg gk
    case measure=>omega
    case rel=>exact⟨out++[y],⟨A2,S.n+1,c2⟩,q5,rfl,HM,HOW,HP7,HL7⟩
end
end
section
open Go.RowKit Go.PlainAid
def stV (x:Sx) (v:SV×SV×SV):Value:=.agg (zC6 x v).toArray
abbrev zK:SV:=⟨none,0,0⟩
section
variable {B:Nat} {p:Nat} {E:Env} {T:TV}
def vH (B:Nat) (w:World) (p:Nat) (E:Env) (T:TV) (x:Sx) (q:QSt) (e:Ending) (w':World):Prop:=∃ v,e=.returned (stV x v)∧SxP (fun k=>w.heap.size≤k) w' x v∧PQ B w p E T q w'
theorem kQ4 {P:Nat→Prop} {w:World} {x:Ex} {S:SV} (h:TX P w x S) (hP:P w.heap.size) (c:Nat):RowX P (w.alloc (.cells (qX x S).toArray 31)) [x] ⟨some ⟨w.heap.size,0,none⟩,1,c⟩:=by
 have hb:Below w.heap.size w (w.alloc (.cells (qX x S).toArray 31)):=zB;refine .mk [x] _ [S] rfl rfl (fun b off e=>?_) ?_ fun i y v hy hv=>?_
 ·injection e with e;injection e with e;exact e▸hP
 ·have:=RdT.new w (qX x S).toArray 31;simpa using this
 ·rcases i with _ | i
  ·simp at hy hv;subst hy hv;exact h.stay (Stays.below hb)
  ·simp at hy
theorem kR5 {P:Nat→Prop} {w:World} {x y:Ex} {S S2:SV} (h:TX P w x S) (h2:TX P w y S2) (hP:P w.heap.size) (c:Nat):RowX P (w.alloc (.cells (qX x S++qX y S2).toArray 31)) [x,y] ⟨some ⟨w.heap.size,0,none⟩,2,c⟩:=by
 have hb:Below w.heap.size w (w.alloc (.cells (qX x S++qX y S2).toArray 31)):=zB;refine .mk [x,y] _ [S,S2] rfl rfl (fun b off e=>?_) ?_ fun i z v hy hv=>?_
 ·injection e with e;injection e with e;exact e▸hP
 ·have:=RdT.new w (qX x S++qX y S2).toArray 31;simpa using this
 ·rcases i with _ | _ | i
  ·simp at hy hv;subst hy hv;exact h.stay (Stays.below hb)
  ·simp at hy hv;subst hy hv;exact h2.stay (Stays.below hb)
  ·simp at hy
theorem kG5 (q:QSt) (w:World) (h:Hid (Pq B w p E T q)):Calls Tryz.prog 149 #[uQ p 0] w (vH B w p E T (.mk 4 [] [] 0 [] []) q):=by
 have HR:=Ph (Bk.new w 108 uS);have HP:=Ph (PQ.below h.out (zB (o:=.cells uS 108)));have hpl:p<w.heap.size:=h.out.lt;go_enter Tryz.func149,Tryz.ntmps149
 go_upto_region 1 with fail
 generalize (w.alloc _)=W at HR HP ⊢;obtain⟨r,hr⟩:∃ r,w.heap.size=r:=⟨_,rfl⟩;rw [hr]at HR ⊢;have hrp:p≠r:=Yo;have hwr:w.heap.size≤r:=Yo;clear hr hpl;obtain⟨y0,y1,y2,y3,y4,y5⟩:=zH HR.out;obtain⟨f0,f1,f2,f3,f4,f5,_⟩:=zZ HR.out;have HF:=Ph (fr6 W r (uB 4) (uT) (uN) (uI 0) (uN) (uN));have HK:=Ph (put6 (v0:=uB 4) (v1:=uT) (v2:=uN) (v3:=uI 0) (v4:=uN) (v5:=uN) HR.out);go_wp2_with fail
 generalize (World.setCell _ _ _)=WF at HF HK ⊢;obtain⟨r0,r1,r2,r3,r4,r5⟩:=zH HK.out;refine lK (v:=stV (.mk 4 [] [] 0 [] []) (zK,zK,zK)) (by simp [results,Tryz.results149,go_sem,r0,r1,r2,r3,r4,r5,stV,zC6,Sx.kind,Sx.name,Sx.bound,str]) rfl ?_;refine⟨(zK,zK,zK),rfl,⟨⟨by show(4:Nat)≤255;decide,by show(-9223372036854775808:Int)≤0;decide,by show(0:Int)≤9223372036854775807;decide,lV _⟩,RowG.nil,StsP.nil,StsP.nil⟩,?_⟩;exact HP.out.box HR.out Yd Yd hrp (lE h.out.b hwr) hwr HF.out
theorem jP1 (q:QSt) (w:World) (h:Hid (Pq B w p E T q)):Calls Tryz.prog 150 #[uQ p 0] w (vH B w p E T (.mk 5 [] [] 0 [] []) q):=by
 have HR:=Ph (Bk.new w 108 uS);have HP:=Ph (PQ.below h.out (zB (o:=.cells uS 108)));have hpl:p<w.heap.size:=h.out.lt;go_enter Tryz.func150,Tryz.ntmps150
 go_upto_region 1 with fail
 generalize (w.alloc _)=W at HR HP ⊢;obtain⟨r,hr⟩:∃ r,w.heap.size=r:=⟨_,rfl⟩;rw [hr]at HR ⊢;have hrp:p≠r:=Yo;have hwr:w.heap.size≤r:=Yo;clear hr hpl;obtain⟨y0,y1,y2,y3,y4,y5⟩:=zH HR.out;obtain⟨f0,f1,f2,f3,f4,f5,_⟩:=zZ HR.out;have HF:=Ph (fr6 W r (uB 5) (uT) (uN) (uI 0) (uN) (uN));have HK:=Ph (put6 (v0:=uB 5) (v1:=uT) (v2:=uN) (v3:=uI 0) (v4:=uN) (v5:=uN) HR.out);go_wp2_with fail
 generalize (World.setCell _ _ _)=WF at HF HK ⊢;obtain⟨r0,r1,r2,r3,r4,r5⟩:=zH HK.out;refine lK (v:=stV (.mk 5 [] [] 0 [] []) (zK,zK,zK)) (by simp [results,Tryz.results150,go_sem,r0,r1,r2,r3,r4,r5,stV,zC6,Sx.kind,Sx.name,Sx.bound,str]) rfl ?_;refine⟨(zK,zK,zK),rfl,⟨⟨by show(5:Nat)≤255;decide,by show(-9223372036854775808:Int)≤0;decide,by show(0:Int)≤9223372036854775807;decide,lV _⟩,RowG.nil,StsP.nil,StsP.nil⟩,?_⟩;exact HP.out.box HR.out Yd Yd hrp (lE h.out.b hwr) hwr HF.out
def SBx (b:Ex) (S1:SV) (b3:Nat) (w':World):Prop:=w'.cell? ⟨b3,0,none⟩=some (uB b.kind)∧w'.cell? ⟨b3,1,none⟩=some (uB b.op)∧w'.cell? ⟨b3,2,none⟩=some (uW b.value)∧w'.cell? ⟨b3,3,none⟩=some (uI b.width)∧w'.cell? ⟨b3,4,none⟩=some (uR b.name)∧w'.cell? ⟨b3,5,none⟩=some (.slice S1.A S1.n S1.c)
theorem kG6 (f:Nat) (q:QSt) (b x:Ex) (q1 q2:QSt) (hb:qS E f q=some (b,q1)) (hx:qS E f (q1.on (zI E q1.s [44]))=some (x,q2)) (w:World) (h:Hid (Pq B w p E T q)):Calls Tryz.prog 148 #[uQ p 0] w (vH B w p E T (.mk 3 [] [b,x] 0 [] []) q2):=by
 have HR0:=Ph (Bk.new w 108 uS);have HP0:=Ph (PQ.below h.out (zB (o:=.cells uS 108)));have hpl:p<w.heap.size:=h.out.lt;have HB:=Ph hb;have HX:=Ph hx;clear hb hx;go_enter Tryz.func148,Tryz.ntmps148
 go_upto_region 1 with fail
 have hW:(w.alloc (.cells uS 108)).heap.size=w.heap.size+1:=Ym;generalize (w.alloc _)=W at HR0 HP0 hW ⊢;obtain⟨r,hr⟩:∃ r,w.heap.size=r:=⟨_,rfl⟩;rw [hr]at HR0 hW ⊢;have hrp:p≠r:=Yo;have hwr:w.heap.size≤r:=Yo;clear hr hpl;go_wp2_with fail
 refine(zC3 f q b q1 HB.out W (Ph HP0.out.pq)).mono ?_;rintro e w1 ⟨S1,rfl,ht,hp⟩;rw [xL];have HP1:=Ph ((HP0.out.trans hp).then (zB (o:=.cells (uE b S1) 31)));have HR1:=Ph (zD (hp.bk HR0.out Yd (cX hrp)) (zB (o:=.cells (uE b S1) 31)));have HT1:Hid (TX (fun k=>r+1≤k) (w1.alloc (.cells (uE b S1) 31)) b S1):=Ph ((ht.mono (P':=fun k=>r+1≤k) (fun k _ hk=>hW▸hk)).stay (Stays.below zB));have HX1:=Ph (Bk.new w1 31 (uE b S1));have hr1:r<w1.heap.size:=(hp.bk HR0.out Yd (cX hrp)).lt;have hp1:p<w1.heap.size:=hp.pq.lt;clear ht hp HR0 HP0 hW;go_upto_region 2 with fail
 generalize (w1.alloc _)=W1 at HP1 HR1 HT1 HX1 ⊢;obtain⟨b3,hb3⟩:∃ b,w1.heap.size=b:=⟨_,rfl⟩;rw [hb3]at HX1 ⊢;have hb3p:b3≠p:=Yo;have hb3r:b3≠r:=Yo;clear hb3 hr1 hp1;go_wp2_with fail
 refine(zM9 q1 [44] W1 (Ph HP1.out.pq)).mono ?_;rintro e w2 ⟨⟨v2,rfl⟩,hp⟩;have HP2:=Ph (HP1.out.trans hp);have HR2:=Ph (hp.bk HR1.out Yd (cX hrp));have HX2:=Ph (hp.bk HX1.out Yd hb3p);have HT2:=Ph (HT1.out.stay (HP1.out.pq.stays hp.fr));clear hp HP1 HR1 HX1 HT1;go_upto_region 3 with fail
 have HSS:Hid (∀ w',Bk w' b3 31 (uE b S1)→SBx b S1 b3 w'):=fun w' hb=>zH hb;have HST:Hid (∀ (w':World) (u0 u1 u2 u3 u4 u5:Value),Bk w' b3 31 (uE b S1)→SBx b S1 b3 ((((((w'.setCell ⟨r,0,none⟩ (u0)).setCell ⟨r,1,none⟩ (u1)).setCell ⟨r,2,none⟩ (u2)).setCell ⟨r,3,none⟩ (u3)).setCell ⟨r,4,none⟩ (u4)).setCell ⟨r,5,none⟩ (u5))):=fun w' u0 u1 u2 u3 u4 u5 hb=>zH (Bk.fr hb (fr6 w' r u0 u1 u2 u3 u4 u5) hb3r);have HTC:=Ph HX2.out.drew;have HPD:=Ph (HP2.out.then (lB _ _).drew);have HRD:=Ph HR2.out.drew;have HTD:=Ph (HT2.out.stay (P:=fun k=>r+1≤k) (w':=w2.drew) (Stays.below (lB _ _).drew));have hrw:r+1≤w2.drew.heap.size:=HRD.out.lt;have HCL:Hid (Calls Tryz.prog 54 #[uQ p 0] w2.drew fun e w'=>∃ S,e=.returned (.agg (uE x S))∧TX (fun k=>w2.drew.heap.size≤k) w' x S∧PQ B w2.drew p E T q2 w'):=Ph (zC3 f _ x q2 HX.out w2.drew (Ph HPD.out.pq));clear HP2 HX2 HR2 HT2
 go_region_held3 (fun w'=>w'.cell? ⟨b3,0,none⟩=some (uB b.kind)∧w'.cell? ⟨b3,1,none⟩=some (uB b.op)∧w'.cell? ⟨b3,2,none⟩=some (uW b.value)∧w'.cell? ⟨b3,3,none⟩=some (uI b.width)∧w'.cell? ⟨b3,4,none⟩=some (uR b.name)∧w'.cell? ⟨b3,5,none⟩=some (uL S1))
  ((refine(show SBx b S1 b3 _ from ?_);first | with_reducible exact HSS.out _ HTC.out | with_reducible exact HSS.out _ (HTC.out.alloc _) | with_reducible exact HST.out _ _ _ _ _ _ _ (HTC.out.alloc _)))
  (first
    | (go_at_call 54
       with_reducible refine HCL.out.mono ?_
       rintro e w5 ⟨S2,rfl,ht,hp⟩;have HTC':=Ph (hp.bk HTC.out Yd hb3p);have HP5:=Ph (HPD.out.trans hp);have HR5:=Ph (zD (hp.bk HRD.out Yd (cX hrp)) (zB (o:=.cells #[uB b.kind,uB b.op,uW b.value,uI b.width,uR b.name,uL S1,uB x.kind,uB x.op,uW x.value,uI x.width,uR x.name,uL S2] 31)));have HT5:=Ph (HTD.out.stay (HPD.out.pq.stays hp.fr));have HU5:=Ph (ht.mono (P':=fun k=>r+1≤k) (fun k _ hk=>lE hrw hk));have hl5:r+1≤w5.heap.size:=lE hrw hp.fr.size;clear HTC ht hp HCL;have HTC:=HTC';clear HTC';obtain⟨y0,y1,y2,y3,y4,y5⟩:=zH HR5.out;obtain⟨f0,f1,f2,f3,f4,f5,_⟩:=zZ HR5.out))
 all_goals
  have HPF:=Ph (HP5.out.then (zB (o:=.cells #[uB b.kind,uB b.op,uW b.value,uI b.width,uR b.name,uL S1,uB x.kind,uB x.op,uW x.value,uI x.width,uR x.name,uL S2] 31)));have HRW:Hid (RowX (fun k=>r+1≤k) (w5.alloc (.cells #[uB b.kind,uB b.op,uW b.value,uI b.width,uR b.name,uL S1,uB x.kind,uB x.op,uW x.value,uI x.width,uR x.name,uL S2] 31)) [b,x] ⟨some ⟨w5.heap.size,0,none⟩,2,2⟩):=Ph (kR5 HT5.out HU5.out hl5 2);generalize (w5.alloc _)=W6 at HR5 HPF HRW y0 y1 y2 y3 y4 y5 f0 f1 f2 f3 f4 f5 ⊢;generalize w5.heap.size=g at HRW ⊢;have HF:=Ph (fr6 W6 r (uB 3) (uT) (.slice (some ⟨g,0,none⟩) 2 2) (uI 0) (uN) (uN));have HK:=Ph (put6 (v0:=uB 3) (v1:=uT) (v2:=.slice (some ⟨g,0,none⟩) 2 2) (v3:=uI 0) (v4:=uN) (v5:=uN) HR5.out);go_wp2
  generalize (World.setCell _ _ _)=WF at HF HK ⊢;obtain⟨r0,r1,r2,r3,r4,r5⟩:=zH HK.out;refine lK (v:=stV (.mk 3 [] [b,x] 0 [] []) (⟨some ⟨g,0,none⟩,2,2⟩,zK,zK)) (by simp [results,Tryz.results148,go_sem,r0,r1,r2,r3,r4,r5,stV,zC6,Sx.kind,Sx.name,Sx.bound,str]) rfl ?_;refine⟨(⟨some ⟨g,0,none⟩,2,2⟩,zK,zK),rfl,⟨⟨by show(3:Nat)≤255;decide,by show(-9223372036854775808:Int)≤0;decide,by show(0:Int)≤9223372036854775807;decide,lV _⟩,?_,StsP.nil,StsP.nil⟩,?_⟩
  ·exact(HRW.out.stay itX qW (Stays.fr HF.out (fun k _ hk e=>Yo))).mono itX fun k _ hk=>Yo
  ·exact HPF.out.box HR5.out Yd Yd hrp (lE h.out.b hwr) hwr HF.out
end
end
section
section
variable {E:Env} {f:Nat} {q q':QSt} {s:Sx}
theorem zE4 (h:qY E (f+1) 3 q=some (s,q')):∃ b x q1,qS E f q=some (b,q1)∧qS E f (q1.on (zI E q1.s [44]))=some (x,q')∧s=.mk 3 [] [b,x] 0 [] []:=by
 simp only [qY]at h;cases h1:qS E f q with
 | none=>rw [h1]at h;cases h
 | some r =>
   obtain⟨b,q1⟩:=r;rw [h1]at h;(try dsimp only at h);cases h2:qS E f (q1.on (zI E q1.s [44]))with
   | none=>rw [h2]at h;cases h
   | some r =>
     obtain⟨x,q2⟩:=r;rw [h2]at h;injection h with h;injection h with e1 e2;subst e1 e2;exact⟨b,x,q1,rfl,h2,rfl⟩
theorem zE5 (h:qY E (f+1) 4 q=some (s,q')):s=.mk 4 [] [] 0 [] []∧q'=q:=by simp only [qY]at h;injection h with h;injection h with e1 e2;exact⟨e1.symm,e2.symm⟩
theorem zE6 (h:qY E (f+1) 5 q=some (s,q')):s=.mk 5 [] [] 0 [] []∧q'=q:=by simp only [qY]at h;injection h with h;injection h with e1 e2;exact⟨e1.symm,e2.symm⟩
theorem zE7 (h:qY E (f+1) 6 q=some (s,q')):∃ x q1 t q2,qS E f q=some (x,q1)∧kE E f q1=some (t,q2)∧((isP E q2.s (bs "else")=true∧∃ e,kE E f (q2.on (zE q2.s))=some (e,q')∧s=.mk 6 [] [x] 0 t e)∨(isP E q2.s (bs "else")=false∧s=.mk 6 [] [x] 0 t []∧q'=q2)):=by
 simp only [qY]at h;cases h1:qS E f q with
 | none=>rw [h1]at h;cases h
 | some r =>
   obtain⟨x,q1⟩:=r;rw [h1]at h;(try dsimp only at h);cases h2:kE E f q1 with
   | none=>rw [h2]at h;cases h
   | some r =>
     obtain⟨t,q2⟩:=r;rw [h2]at h;(try dsimp only at h);cases hi:isP E q2.s (bs "else")with
     | false =>
       rw [hi]at h;injection h with h;injection h with e1 e2;exact⟨x,q1,t,q2,rfl,h2,.inr ⟨hi,e1.symm,e2.symm⟩⟩
     | true =>
       rw [hi,lM rfl]at h;cases h3:kE E f (q2.on (zE q2.s))with
       | none=>rw [h3]at h;cases h
       | some r =>
         obtain⟨e,q3⟩:=r;rw [h3]at h;injection h with h;injection h with e1 e2;subst e1 e2;exact⟨x,q1,t,q2,rfl,h2,.inl ⟨hi,e,h3,rfl⟩⟩
theorem zE8 (h:qY E (f+1) 7 q=some (s,q')):∃ x q1 t,qS E f q=some (x,q1)∧kE E f (q1.on (jB E (zI E q1.s (bs "bound"))).2)=some (t,q')∧s=.mk 7 [] [x] (jB E (zI E q1.s (bs "bound"))).1 t []:=by
 simp only [qY]at h;cases h1:qS E f q with
 | none=>rw [h1]at h;cases h
 | some r =>
   obtain⟨x,q1⟩:=r;rw [h1]at h;(try dsimp only at h);cases h2:kE E f (q1.on (jB E (zI E q1.s (bs "bound"))).2)with
   | none=>rw [h2]at h;cases h
   | some r =>
     obtain⟨t,q2⟩:=r;rw [h2]at h;injection h with h;injection h with e1 e2;subst e1 e2;exact⟨x,q1,t,rfl,h2,rfl⟩
theorem zE9 (h:qY E (f+1) 8 q=some (s,q')):∃ l,yC E f (q.on (zL E q.s))=some (l,q')∧s=.mk 8 (jA E q.s) l 0 [] []:=by
 simp only [qY]at h;cases h1:yC E f (q.on (zL E q.s))with
 | none=>rw [h1]at h;cases h
 | some r =>
   obtain⟨l,q1⟩:=r;rw [h1]at h;injection h with h;injection h with e1 e2;subst e1 e2;exact⟨l,rfl,rfl⟩
theorem vW (h:qY E (f+1) 0 q=some (s,q')):((zC E (zL E q.s)).text=[91]∧∃ r i q1 r2 x,kN E (q.on (zL E q.s)) [91]=some r∧qS E f r=some (i,q1)∧jX E q1 [93]=some r2∧qS E f (r2.on (zI E r2.s [61]))=some (x,q')∧s=.mk 2 (jA E q.s) [i,x] 0 [] []) ∨
 ((zC E (zL E q.s)).text≠[91]∧∃ x,qS E f (q.on (zI E (zL E q.s) [61]))=some (x,q')∧s=.mk 1 (jA E q.s) [x] 0 [] []):=by
 simp only [qY]at h;by_cases ht:(zC E (zL E q.s)).text=[91]
 ·rw [lM ht]at h;cases h1:kN E (q.on (zL E q.s)) [91]with
  | none=>rw [h1]at h;cases h
  | some r =>
    rw [h1]at h;(try dsimp only at h);cases h2:qS E f r with
    | none=>rw [h2]at h;cases h
    | some r' =>
      obtain⟨i,q1⟩:=r';rw [h2]at h;(try dsimp only at h);cases h3:jX E q1 [93]with
      | none=>rw [h3]at h;cases h
      | some r2 =>
        rw [h3]at h;(try dsimp only at h);cases h4:qS E f (r2.on (zI E r2.s [61]))with
        | none=>rw [h4]at h;cases h
        | some r' =>
          obtain⟨x,q3⟩:=r';rw [h4]at h;injection h with h;injection h with e1 e2;subst e1 e2;exact .inl ⟨ht,r,i,q1,r2,x,rfl,h2,h3,h4,rfl⟩
 ·rw [lN ht]at h;cases h4:qS E f (q.on (zI E (zL E q.s) [61]))with
  | none=>rw [h4]at h;cases h
  | some r' =>
    obtain⟨x,q3⟩:=r';rw [h4]at h;injection h with h;injection h with e1 e2;subst e1 e2;exact .inr ⟨ht,x,rfl,rfl⟩
theorem zI8 {l:List Sx} (h:kE E (f+1) q=some (l,q')):∃ q1 q2,kN E q [123]=some q1∧jM E f q1 []=some (l,q2)∧jX E q2 [125]=some q':=by
 rw [kE]at h;cases h1:kN E q [123]with
 | none=>rw [h1]at h;cases h
 | some q1 =>
   rw [h1]at h;(try dsimp only at h);cases h2:jM E f q1 []with
   | none=>rw [h2]at h;cases h
   | some r =>
     obtain⟨l2,q2⟩:=r;rw [h2]at h;(try dsimp only at h);cases h3:jX E q2 [125]with
     | none=>rw [h3]at h;cases h
     | some q3 =>
       rw [h3]at h;injection h with h;injection h with e1 e2;subst e1 e2;exact⟨q1,q2,rfl,h2,h3⟩
theorem zF1 {out:List Sx} {r:List Sx×QSt} (h:jM E (f+1) q out=some r):(∃ k x q1,q.s.e=0∧q.l.length≤800000000∧kM (zC E q.s).text=some k∧qY E f k ⟨zE q.s,q.l++[(zC E q.s).at']⟩=some (x,q1)∧jM E f q1 (out++[x])=some r) ∨
 (∃ x q1,q.s.e=0∧q.l.length≤800000000∧kM (zC E q.s).text=none∧(zC E q.s).kind=1∧vO (zC E q.s).text=false∧qY E f 0 (q.at E)=some (x,q1)∧jM E f q1 (out++[x])=some r) ∨
 ((q.s.e≠0∨(q.s.e=0∧kM (zC E q.s).text=none∧¬((zC E q.s).kind=1∧vO (zC E q.s).text=false)))∧r=(out,q)):=by
 rw [jM]at h;by_cases he:q.s.e=0
 ·rw [lM he]at h;cases hl:okL q with
  | false=>rw [hl]at h;cases h
  | true =>
  rw [hl,lM rfl]at h;have hl:q.l.length≤800000000:=cM hl;cases hk:kM (zC E q.s).text with
  | some k =>
    rw [hk]at h;(try dsimp only at h);cases h1:qY E f k ⟨zE q.s,q.l++[(zC E q.s).at']⟩with
    | none=>rw [h1]at h;cases h
    | some r'=>obtain⟨x,q1⟩:=r';rw [h1]at h;exact .inl ⟨k,x,q1,he,hl,rfl,h1,h⟩
  | none =>
    rw [hk]at h;(try dsimp only at h);by_cases hw:(zC E q.s).kind=1∧vO (zC E q.s).text=false
    ·rw [lM hw]at h;cases h1:qY E f 0 (q.at E)with
     | none=>rw [h1]at h;cases h
     | some r'=>obtain⟨x,q1⟩:=r';rw [h1]at h;exact .inr (.inl ⟨x,q1,he,hl,rfl,hw.1,hw.2,rfl,h⟩)
    ·rw [lN hw]at h;injection h with h;exact .inr (.inr ⟨.inr ⟨he,rfl,hw⟩,h.symm⟩)
 ·rw [lN he]at h;injection h with h;exact .inr (.inr ⟨.inl he,h.symm⟩)
end
theorem zD2 {t:List UInt8} {k:Nat} (h:kM t=some k):k=3∨k=4∨k=5∨k=6∨k=7∨k=8:=by
 unfold kM at h;repeat (split at h;·injection h with h;omega)
 cases h
structure GrT (E:Env) (f:Nat):Prop where
 read:∀ k,(k=0∨k=3∨k=4∨k=5∨k=6∨k=7∨k=8)→∀ q x q',qY E f k q=some (x,q')→q.s.n≤q'.s.n
 body:∀ q x q',kE E f q=some (x,q')→q.s.n≤q'.s.n
 stmts:∀ q out x q',jM E f q out=some (x,q')→q.s.n≤q'.s.n
theorem grT (E:Env):∀ f,GrT E f
 | 0=>⟨fun k _ q x q' h=>by simp [qY]at h,fun q x q' h=>by simp [kE]at h,fun q out x q' h=>by simp [jM]at h⟩
 | f+1=>by
   have ih:=grT E f;have ihs:∀ q x q',kE E f q=some (x,q')→q.s.n≤q'.s.n:=ih.body;refine⟨fun k hk q x q' h=>?_,fun q x q' h=>?_,fun q out x q' h=>?_⟩
   ·have gn:=zN1 (E:=E) q.s;rcases hk with rfl | rfl | rfl | rfl | rfl | rfl | rfl
    ·rcases vW h with⟨_,r,i,q1,r2,y,h1,h2,h3,h4,_⟩ | ⟨_,y,h4,_⟩
     ·have g1:(zL E q.s).n≤r.s.n:=zN2 h1;have g2:=yY h2;have g3:=zH3 h3;have g4:(zI E r2.s [61]).n≤q'.s.n:=yY h4;have g5:=xK (E:=E) r2.s [61];omega
     ·have g4:(zI E (zL E q.s) [61]).n≤q'.s.n:=yY h4;have g5:=xK (E:=E) (zL E q.s) [61];omega
    ·obtain⟨b,y,q1,h1,h2,_⟩:=zE4 h;have g1:=yY h1;have g2:(zI E q1.s [44]).n≤q'.s.n:=yY h2;have g3:=xK (E:=E) q1.s [44];omega
    ·obtain⟨_,rfl⟩:=zE5 h;exact lF _
    ·obtain⟨_,rfl⟩:=zE6 h;exact lF _
    ·obtain⟨y,q1,t,q2,h1,h2,h3⟩:=zE7 h;have g1:=yY h1;have g2:=ihs _ _ _ h2;rcases h3 with⟨_,e,h3,_⟩ | ⟨_,_,rfl⟩
     ·have g3:q2.s.n+1≤q'.s.n:=ihs _ _ _ h3;omega
     ·omega
    ·obtain⟨y,q1,t,h1,h2,_⟩:=zE8 h;have g1:=yY h1;have g2:(jB E (zI E q1.s (bs "bound"))).2.n≤q'.s.n:=ihs _ _ _ h2;have g3:=zP3 (E:=E) (zI E q1.s (bs "bound"));have g4:=xK (E:=E) q1.s (bs "bound");omega
    ·obtain⟨l,h1,_⟩:=zE9 h;have g1:(zL E q.s).n≤q'.s.n:=jO9 h1;omega
   ·obtain⟨q1,q2,h1,h2,h3⟩:=zI8 h;have g1:=zN2 h1;have g2:=ih.stmts _ _ _ _ h2;have g3:=zH3 h3;omega
   ·rcases zF1 h with⟨k,y,q1,_,_,hk,h1,h2⟩ | ⟨y,q1,_,_,_,_,_,h1,h2⟩ | ⟨_,h1⟩
    ·have g1:q.s.n+1≤q1.s.n:=ih.read k (.inr (zD2 hk)) _ _ _ h1;have g2:=ih.stmts _ _ _ _ h2;omega
    ·have g1:(q.at E).s.n≤q1.s.n:=ih.read 0 (.inl rfl) _ _ _ h1;have g3:(q.at E).s.n=q.s.n:=rfl;have g2:=ih.stmts _ _ _ _ h2;omega
    ·injection h1 with _ h1;subst h1;exact lF _
end
section
open Go.RowKit Go.PlainAid
section
variable {B:Nat} {p:Nat} {E:Env} {T:TV}
theorem kM6 (f:Nat) (q:QSt) (l:List Ex) (q':QSt) (hx:yC E f (q.on (zL E q.s))=some (l,q')) (w:World) (h:Hid (Pq B w p E T q)):Calls Tryz.prog 153 #[uQ p 0] w (vH B w p E T (.mk 8 (jA E q.s) l 0 [] []) q'):=by
 have HX:=Ph hx;have HL:=Ph h.out.name_len;obtain⟨nm,hnm⟩:∃ nm,jA E q.s=nm:=⟨_,rfl⟩;rw [hnm]at HL ⊢;have HNM:=Ph hnm;clear hx hnm;have HR:=Ph (Bk.new w 108 uS);have HP:=Ph (PQ.below h.out (zB (o:=.cells uS 108)));have hpl:p<w.heap.size:=h.out.lt;go_enter Tryz.func153,Tryz.ntmps153
 go_upto_region 1 with fail
 have hW:(w.alloc (.cells uS 108)).heap.size=w.heap.size+1:=Ym;generalize (w.alloc _)=W at HR HP hW ⊢;obtain⟨r,hr⟩:∃ r,w.heap.size=r:=⟨_,rfl⟩;rw [hr]at HR hW ⊢;have hrp:p≠r:=Yo;have hwr:w.heap.size≤r:=Yo;clear hr hpl;go_wp2_with fail
 refine(jD1 q W (Ph HP.out.pq)).mono ?_;rintro e w1 ⟨rfl,hp⟩;rw [HNM.out];have HP1:=Ph (HP.out.trans hp);have HR1:=Ph (hp.bk HR.out Yd (cX hrp));have hr1:r+1≤w1.heap.size:=HR1.out.lt;clear hp HP HR hW;go_wp2_with fail
 refine(kG4 f _ l q' HX.out w1 (Ph HP1.out.pq)).mono ?_;rintro e w2 ⟨S,rfl,hl,hp⟩;have HP2:=Ph (HP1.out.trans hp);have HR2:=Ph (hp.bk HR1.out Yd (cX hrp));have HL2:Hid (RowX (fun k=>r+1≤k) w2 l S):=Ph (hl.mono itX fun k _ hk=>lE hr1 hk);clear hl hp HP1 HR1 hr1;obtain⟨y0,y1,y2,y3,y4,y5⟩:=zH HR2.out;obtain⟨f0,f1,f2,f3,f4,f5,_⟩:=zZ HR2.out;have HF:=Ph (fr6 w2 r (uB 8) (uR nm) (uL S) (uI 0) (uN) (uN));have HK:=Ph (put6 (v0:=uB 8) (v1:=uR nm) (v2:=uL S) (v3:=uI 0) (v4:=uN) (v5:=uN) HR2.out);go_wp2_with fail
 generalize (World.setCell _ _ _)=WF at HF HK ⊢;obtain⟨r0,r1,r2,r3,r4,r5⟩:=zH HK.out;refine lK (v:=stV (.mk 8 nm l 0 [] []) (S,zK,zK)) (by simp [results,Tryz.results153,go_sem,r0,r1,r2,r3,r4,r5,stV,zC6,Sx.kind,Sx.name,Sx.bound,str]) rfl ?_;refine⟨(S,zK,zK),rfl,⟨⟨by show(8:Nat)≤255;decide,by show(-9223372036854775808:Int)≤0;decide,by show(0:Int)≤9223372036854775807;decide,HL.out⟩,(HL2.out.stay itX qW (Stays.fr HF.out (fun k _ hk e=>Yo))).mono itX fun k _ hk=>Yo,StsP.nil,StsP.nil⟩,?_⟩;exact HP2.out.box HR2.out Yd Yd hrp (lE h.out.b hwr) hwr HF.out
end
end
section
open Go.RowKit Go.PlainAid
def qF4 (B:Nat) (p:Nat) (E:Env) (T:TV) (f:Nat):Prop:=∀ (q:QSt) (l:List Sx) (q':QSt) (w:World),kE E f q=some (l,q')→Hid (Pq B w p E T q)→Calls Tryz.prog 89 #[uQ p 0] w fun e w'=>∃ S:SV,e=.returned (.slice S.A S.n S.c)∧StsP (fun k=>w.heap.size≤k) w' l S∧PQ B w p E T q' w'
abbrev PRB (r b:Nat) (k:Nat):Prop:=r+1≤k∧k≠b
section
variable {B:Nat} {p:Nat} {E:Env} {T:TV}
structure Bx (B:Nat) (p:Nat) (E:Env) (T:TV) (w:World) (r b:Nat) (cs:Array Value) (q:QSt) (W:World):Prop where
 pq:PQ B w p E T q W
 rs:Bk W r 108 uS
 bx:Bk W b 108 cs
 rp:p≠r
 bp:p≠b
 br:b≠r
 wr:w.heap.size≤r
 wb:w.heap.size≤b
theorem Bx.then {w W W':World} {r b:Nat} {cs:Array Value} {q q':QSt} (h:Bx B p E T w r b cs q W) (k:PQ B W p E T q' W'):Bx B p E T w r b cs q' W':=⟨h.pq.trans k,k.bk h.rs Yd (cX h.rp),k.bk h.bx Yd (cX h.bp),h.rp,h.bp,h.br,h.wr,h.wb⟩
theorem Bx.lt {w W:World} {r b:Nat} {cs:Array Value} {q:QSt} (h:Bx B p E T w r b cs q W):r<W.heap.size∧b<W.heap.size:=⟨h.rs.lt,h.bx.lt⟩
theorem Bx.put {w W:World} {r b:Nat} {cs:Array Value} {q:QSt} (h:Bx B p E T w r b cs q W) (hB:B≤w.heap.size) (i:Nat) (u:Value):Bx B p E T w r b (cs.setIfInBounds i u) q (W.setCell ⟨b,i,none⟩ u)∧Fr (fun k=>k=b) W (W.setCell ⟨b,i,none⟩ u):=by have hf:Fr (fun k=>k=b) W (W.setCell ⟨b,i,none⟩ u):=(Fr.refl (fun k=>k=b) W).setCell (p:=⟨b,i,none⟩) (.inl rfl) u;exact⟨⟨h.pq.box h.bx Yd Yd h.bp (lE hB h.wb) h.wb hf,h.rs.fr hf (cX h.br),h.bx.put i u,h.rp,h.bp,h.br,h.wr,h.wb⟩,hf⟩
theorem jZ1 (f:Nat) (IH:qF4 B p E T f) (q:QSt) (s:Sx) (q':QSt) (hs:qY E (f+1) 6 q=some (s,q')) (w:World) (h:Hid (Pq B w p E T q)):Calls Tryz.prog 151 #[uQ p 0] w (vH B w p E T s q'):=by
 obtain⟨x,q1,t,q2,hx,ht,hc⟩:=zE7 hs;have HX:=Ph hx;have HT:=Ph ht;have HI:=Ph IH;clear hs hx ht IH;have HR:=Ph (Bk.new w 108 uS);have HP:=Ph (PQ.below h.out (zB (o:=.cells uS 108)));have hpl:p<w.heap.size:=h.out.lt;go_enter Tryz.func151,Tryz.ntmps151
 go_upto_region 1 with fail
 have hW:(w.alloc (.cells uS 108)).heap.size=w.heap.size+1:=Ym;generalize (w.alloc _)=W at HR HP hW ⊢;obtain⟨r,hr⟩:∃ r,w.heap.size=r:=⟨_,rfl⟩;rw [hr]at HR hW ⊢;have hrp:p≠r:=Yo;have hwr:w.heap.size≤r:=Yo;clear hr hpl;go_wp2_with fail
 refine(zC3 f q x q1 HX.out W (Ph HP.out.pq)).mono ?_;rintro e w1 ⟨S1,rfl,ht,hp⟩;rw [xL];have hr1:r+1≤w1.heap.size:=lE (Nat.le_of_eq hW.symm) hp.fr.size;have hp1:p<w1.heap.size:=hp.pq.lt;have HRX:Hid (RowX (PRB r (w1.heap.size+1)) ((w1.alloc (.cells (uE x S1) 31)).alloc (.cells #[uB 6,uT,.slice (some ⟨w1.heap.size,0,none⟩) 1 1,uI 0,uN,uN] 108)) [x] ⟨some ⟨w1.heap.size,0,none⟩,1,1⟩):=Ph (((kQ4 (c:=1) (ht.mono (P':=PRB r (w1.heap.size+1)) fun k hk hq=>⟨Yo,Yo⟩) ⟨hr1,Yo⟩).stay itX qW (Stays.below zB)));have HBX:Hid (Bx B p E T w r (w1.heap.size+1) #[uB 6,uT,.slice (some ⟨w1.heap.size,0,none⟩) 1 1,uI 0,uN,uN] q1 ((w1.alloc (.cells (uE x S1) 31)).alloc (.cells #[uB 6,uT,.slice (some ⟨w1.heap.size,0,none⟩) 1 1,uI 0,uN,uN] 108))):=Ph ⟨((HP.out.trans hp).then zB).then zB,zD (zD (hp.bk HR.out Yd (cX hrp)) zB) zB,by have:=Bk.new (w1.alloc (.cells (uE x S1) 31)) 108 #[uB 6,uT,.slice (some ⟨w1.heap.size,0,none⟩) 1 1,uI 0,uN,uN];rwa [lO]at this,hrp,Yo,Yo,hwr,Yo⟩;clear ht hp HP HR hW hp1;go_upto_region 2 with fail
 generalize ((World.alloc _ _))=W2 at HRX HBX ⊢;have hsz:(w1.alloc (.cells (uE x S1) 31)).heap.size=w1.heap.size+1:=Ym;obtain⟨b,hb⟩:∃ b,w1.heap.size+1=b:=⟨_,rfl⟩;obtain⟨g,hg⟩:∃ g,w1.heap.size=g:=⟨_,rfl⟩;rw [hb]at HRX HBX hsz;try rw [hsz]
 try rw [hb]
 rw [hg]at HRX HBX;try rw [hg]
 clear hb hg hsz hr1 hrp hwr;go_wp2_with fail
 refine(HI.out q1 t q2 W2 HT.out (Ph HBX.out.pq.pq)).mono ?_;rintro e wz ⟨ST,rfl,hst,hp⟩;have HB:=Ph (HBX.out.then hp);have HQx:=Ph (HRX.out.stay itX qW (HBX.out.pq.pq.stays hp.fr));clear HRX;have HRX:=HQx;clear HQx;have HST:Hid (StsP (PRB r b) wz t ST):=Ph (hst.mono fun k _ hk=>by have:=HBX.out.lt;constructor <;> omega);clear hst hp HBX;obtain⟨y0,y1,y2,y3,y4,y5⟩:=zH HB.out.bx;obtain⟨f0,f1,f2,f3,f4,f5,_⟩:=zZ HB.out.bx;obtain⟨hb1,hb2⟩:=HB.out.put h.out.b 4 (uL ST);have HBn:Hid (Bx B p E T w r b #[uB 6,uT,.slice (some ⟨g,0,none⟩) 1 1,uI 0,uL ST,uN] _ (wz.setCell ⟨b,4,none⟩ (uL ST))):=Ph hb1;have HFb:=Ph hb2;clear hb1 hb2;go_upto_region 3 with fail
 have HQx:=Ph (HRX.out.stay itX qW (Stays.fr HFb.out (fun k _ hk e=>hk.2 e)));clear HRX;have HRX:=HQx;clear HQx;have HQx:=Ph (HST.out.stay (Stays.fr HFb.out (fun k _ hk e=>hk.2 e)));clear HST;have HST:=HQx;clear HQx;generalize (World.setCell _ _ _)=wy at *;clear HB HFb y0 y1 y2 y3 y4 y5 f0 f1 f2 f3 f4 f5;have HB:=HBn;clear HBn;go_wp2_with fail
 refine(isQ q2 (bs "else") wy (Ph HB.out.pq.pq)).mono ?_;rintro e wz ⟨rfl,hp⟩;have HQx:=Ph (HRX.out.stay itX qW (HB.out.pq.pq.stays hp.fr));clear HRX;have HRX:=HQx;clear HQx;have HQx:=Ph (HST.out.stay (HB.out.pq.pq.stays hp.fr));clear HST;have HST:=HQx;clear HQx;have HQx:=Ph (HB.out.then hp);clear HB hp;have HB:=HQx;clear HQx;rcases hc with⟨hi,e,he,rfl⟩ | ⟨hi,rfl,rfl⟩
 ·have hq:q2.on (isS E q2.s (bs "else"))=q2.on (zE q2.s):=by unfold isS;rw [hi];rfl
  rw [hq]at HB;rw [hi];have HE:=Ph he;clear hi he hq;go_wp2_with fail
  refine(HI.out _ e q' wz HE.out (Ph HB.out.pq.pq)).mono ?_;rintro e1 wx ⟨SL,rfl,hst,hp⟩;have HQx:=Ph (HRX.out.stay itX qW (HB.out.pq.pq.stays hp.fr));clear HRX;have HRX:=HQx;clear HQx;have HQx:=Ph (HST.out.stay (HB.out.pq.pq.stays hp.fr));clear HST;have HST:=HQx;clear HQx;have HSL:Hid (StsP (PRB r b) wx e SL):=Ph (hst.mono fun k _ hk=>by have:=HB.out.lt;constructor <;> omega);have HQx:=Ph (HB.out.then hp);clear HB hp hst;have HB:=HQx;clear HQx;obtain⟨y0,y1,y2,y3,y4,y5⟩:=zH HB.out.bx;obtain⟨f0,f1,f2,f3,f4,f5,_⟩:=zZ HB.out.bx;obtain⟨hb1,hb2⟩:=HB.out.put h.out.b 5 (uL SL);have HBn:Hid (Bx B p E T w r b #[uB 6,uT,.slice (some ⟨g,0,none⟩) 1 1,uI 0,uL ST,uL SL] _ (wx.setCell ⟨b,5,none⟩ (uL SL))):=Ph hb1;have HFb:=Ph hb2;clear hb1 hb2;go_upto_region 5 with fail
  have HQx:=Ph (HRX.out.stay itX qW (Stays.fr HFb.out (fun k _ hk e=>hk.2 e)));clear HRX;have HRX:=HQx;clear HQx;have HQx:=Ph (HST.out.stay (Stays.fr HFb.out (fun k _ hk e=>hk.2 e)));clear HST;have HST:=HQx;clear HQx;have HQx:=Ph (HSL.out.stay (Stays.fr HFb.out (fun k _ hk e=>hk.2 e)));clear HSL;have HSL:=HQx;clear HQx;generalize (World.setCell _ _ _)=wy at *;clear HB HFb y0 y1 y2 y3 y4 y5 f0 f1 f2 f3 f4 f5;have HB:=HBn;clear HBn;obtain⟨x0,x1,x2,x3,x4,x5⟩:=zH HB.out.bx;have HRz:=Ph HB.out.rs;have hrp:=HB.out.rp;have hwr:=HB.out.wr;have HPz:=Ph HB.out.pq;obtain⟨y0,y1,y2,y3,y4,y5⟩:=zH HRz.out;obtain⟨f0,f1,f2,f3,f4,f5,_⟩:=zZ HRz.out;have HF:=Ph (fr6 wy r (uB 6) (uT) (.slice (some ⟨g,0,none⟩) 1 1) (uI 0) (uL ST) (uL SL));have HK:=Ph (put6 (v0:=uB 6) (v1:=uT) (v2:=.slice (some ⟨g,0,none⟩) 1 1) (v3:=uI 0) (v4:=uL ST) (v5:=uL SL) HRz.out);go_wp2_with fail
  generalize (World.setCell _ _ _)=WF at HF HK ⊢;obtain⟨r0,r1,r2,r3,r4,r5⟩:=zH HK.out;refine lK (v:=stV (.mk 6 [] [x] 0 t e) (⟨some ⟨g,0,none⟩,1,1⟩,ST,SL)) (by simp [results,Tryz.results151,go_sem,r0,r1,r2,r3,r4,r5,stV,zC6,Sx.kind,Sx.name,Sx.bound,str]) rfl ?_;refine⟨(⟨some ⟨g,0,none⟩,1,1⟩,ST,SL),rfl,⟨⟨by show(6:Nat)≤255;decide,by show(-9223372036854775808:Int)≤0;decide,by show(0:Int)≤9223372036854775807;decide,lV _⟩,(HRX.out.stay itX qW (Stays.fr HF.out (fun k _ hk e=>by have:=hk.1;omega))).mono itX fun k _ hk=>by have:=hk.1;omega,(HST.out.stay (Stays.fr HF.out (fun k _ hk e=>by have:=hk.1;omega))).mono fun k _ hk=>by have:=hk.1;omega,(HSL.out.stay (Stays.fr HF.out (fun k _ hk e=>by have:=hk.1;omega))).mono fun k _ hk=>by have:=hk.1;omega⟩,?_⟩;exact HPz.out.box HRz.out Yd Yd hrp (lE h.out.b hwr) hwr HF.out
 ·have hq:q'.on (isS E q'.s (bs "else"))=q':=by unfold isS;rw [hi];rfl
  rw [hq]at HB;rw [hi];clear hi hq;obtain⟨x0,x1,x2,x3,x4,x5⟩:=zH HB.out.bx;have HRz:=Ph HB.out.rs;have hrp:=HB.out.rp;have hwr:=HB.out.wr;have HPz:=Ph HB.out.pq;obtain⟨y0,y1,y2,y3,y4,y5⟩:=zH HRz.out;obtain⟨f0,f1,f2,f3,f4,f5,_⟩:=zZ HRz.out;have HF:=Ph (fr6 wz r (uB 6) (uT) (.slice (some ⟨g,0,none⟩) 1 1) (uI 0) (uL ST) (uN));have HK:=Ph (put6 (v0:=uB 6) (v1:=uT) (v2:=.slice (some ⟨g,0,none⟩) 1 1) (v3:=uI 0) (v4:=uL ST) (v5:=uN) HRz.out);go_wp2_with fail
  generalize (World.setCell _ _ _)=WF at HF HK ⊢;obtain⟨r0,r1,r2,r3,r4,r5⟩:=zH HK.out;refine lK (v:=stV (.mk 6 [] [x] 0 t []) (⟨some ⟨g,0,none⟩,1,1⟩,ST,zK)) (by simp [results,Tryz.results151,go_sem,r0,r1,r2,r3,r4,r5,stV,zC6,Sx.kind,Sx.name,Sx.bound,str]) rfl ?_;refine⟨(⟨some ⟨g,0,none⟩,1,1⟩,ST,zK),rfl,⟨⟨by show(6:Nat)≤255;decide,by show(-9223372036854775808:Int)≤0;decide,by show(0:Int)≤9223372036854775807;decide,lV _⟩,(HRX.out.stay itX qW (Stays.fr HF.out (fun k _ hk e=>by have:=hk.1;omega))).mono itX fun k _ hk=>by have:=hk.1;omega,(HST.out.stay (Stays.fr HF.out (fun k _ hk e=>by have:=hk.1;omega))).mono fun k _ hk=>by have:=hk.1;omega,StsP.nil⟩,?_⟩;exact HPz.out.box HRz.out Yd Yd hrp (lE h.out.b hwr) hwr HF.out
theorem kM7 (f:Nat) (IH:qF4 B p E T f) (q:QSt) (s:Sx) (q':QSt) (hs:qY E (f+1) 7 q=some (s,q')) (w:World) (h:Hid (Pq B w p E T q)):Calls Tryz.prog 152 #[uQ p 0] w (vH B w p E T s q'):=by
 obtain⟨x,q1,t,hx,ht,rfl⟩:=zE8 hs;have hle:=zG7 E (zI E q1.s (bs "bound"));obtain⟨⟨nb,sn⟩,hn⟩:∃ n,jB E (zI E q1.s (bs "bound"))=n:=⟨_,rfl⟩;rw [hn]at hle ht ⊢;(try dsimp only at hle ht ⊢);have HN:=Ph hn;have HX:=Ph hx;have HT:=Ph ht;have HI:=Ph IH;have HLE:=Ph hle;clear hs hx ht IH hn hle;have HR:=Ph (Bk.new w 108 uS);have HP:=Ph (PQ.below h.out (zB (o:=.cells uS 108)));have hpl:p<w.heap.size:=h.out.lt;go_enter Tryz.func152,Tryz.ntmps152
 go_upto_region 1 with fail
 have hW:(w.alloc (.cells uS 108)).heap.size=w.heap.size+1:=Ym;generalize (w.alloc _)=W at HR HP hW ⊢;obtain⟨r,hr⟩:∃ r,w.heap.size=r:=⟨_,rfl⟩;rw [hr]at HR hW ⊢;have hrp:p≠r:=Yo;have hwr:w.heap.size≤r:=Yo;clear hr hpl;go_wp2_with fail
 refine(zC3 f q x q1 HX.out W (Ph HP.out.pq)).mono ?_;rintro e w1 ⟨S1,rfl,ht,hp⟩;rw [xL];have hr1:r+1≤w1.heap.size:=lE (Nat.le_of_eq hW.symm) hp.fr.size;have hp1:p<w1.heap.size:=hp.pq.lt;have HRX:Hid (RowX (PRB r (w1.heap.size+1)) ((w1.alloc (.cells (uE x S1) 31)).alloc (.cells #[uB 7,uT,.slice (some ⟨w1.heap.size,0,none⟩) 1 1,uI 0,uN,uN] 108)) [x] ⟨some ⟨w1.heap.size,0,none⟩,1,1⟩):=Ph (((kQ4 (c:=1) (ht.mono (P':=PRB r (w1.heap.size+1)) fun k hk hq=>⟨Yo,Yo⟩) ⟨hr1,Yo⟩).stay itX qW (Stays.below zB)));have HBX:Hid (Bx B p E T w r (w1.heap.size+1) #[uB 7,uT,.slice (some ⟨w1.heap.size,0,none⟩) 1 1,uI 0,uN,uN] q1 ((w1.alloc (.cells (uE x S1) 31)).alloc (.cells #[uB 7,uT,.slice (some ⟨w1.heap.size,0,none⟩) 1 1,uI 0,uN,uN] 108))):=Ph ⟨((HP.out.trans hp).then zB).then zB,zD (zD (hp.bk HR.out Yd (cX hrp)) zB) zB,by have:=Bk.new (w1.alloc (.cells (uE x S1) 31)) 108 #[uB 7,uT,.slice (some ⟨w1.heap.size,0,none⟩) 1 1,uI 0,uN,uN];rwa [lO]at this,hrp,Yo,Yo,hwr,Yo⟩;clear ht hp HP HR hW hp1;go_upto_region 2 with fail
 generalize ((World.alloc _ _))=W2 at HRX HBX ⊢;have hsz:(w1.alloc (.cells (uE x S1) 31)).heap.size=w1.heap.size+1:=Ym;obtain⟨b,hb⟩:∃ b,w1.heap.size+1=b:=⟨_,rfl⟩;obtain⟨g,hg⟩:∃ g,w1.heap.size=g:=⟨_,rfl⟩;rw [hb]at HRX HBX hsz;try rw [hsz]
 try rw [hb]
 rw [hg]at HRX HBX;try rw [hg]
 clear hb hg hsz hr1 hrp hwr;go_wp2_with fail
 refine(zM9 q1 (bs "bound") W2 (Ph HBX.out.pq.pq)).mono ?_;rintro e wv ⟨⟨v1,rfl⟩,hp⟩;have HB:=Ph (HBX.out.then hp);have HQx:=Ph (HRX.out.stay itX qW (HBX.out.pq.pq.stays hp.fr));clear HRX;have HRX:=HQx;clear HQx;clear HBX hp;go_wp2_with fail
 refine(jT8 _ wv (Ph HB.out.pq.pq)).mono ?_;rintro e wz ⟨rfl,hp⟩;have HQx:=Ph (HRX.out.stay itX qW (HB.out.pq.pq.stays hp.fr));clear HRX;have HRX:=HQx;clear HQx;have HQx:=Ph (HB.out.then hp);clear HB hp;have HB:=HQx;clear HQx;rw [show(q1.on (zI E q1.s (bs "bound"))).s=zI E q1.s (bs "bound") from rfl,HN.out]at HB ⊢;(try dsimp only at HB ⊢);obtain⟨y0,y1,y2,y3,y4,y5⟩:=zH HB.out.bx;obtain⟨f0,f1,f2,f3,f4,f5,_⟩:=zZ HB.out.bx;obtain⟨hb1,hb2⟩:=HB.out.put h.out.b 3 (uI nb);have HBn:Hid (Bx B p E T w r b #[uB 7,uT,.slice (some ⟨g,0,none⟩) 1 1,uI nb,uN,uN] _ (wz.setCell ⟨b,3,none⟩ (uI nb))):=Ph hb1;have HFb:=Ph hb2;clear hb1 hb2;go_upto_region 4 with fail
 have HQx:=Ph (HRX.out.stay itX qW (Stays.fr HFb.out (fun k _ hk e=>hk.2 e)));clear HRX;have HRX:=HQx;clear HQx;generalize (World.setCell _ _ _)=wy at *;clear HB HFb y0 y1 y2 y3 y4 y5 f0 f1 f2 f3 f4 f5;have HB:=HBn;clear HBn;go_wp2_with fail
 refine(HI.out _ t q' wy HT.out (Ph HB.out.pq.pq)).mono ?_;rintro e1 wz ⟨ST,rfl,hst,hp⟩;have HQx:=Ph (HRX.out.stay itX qW (HB.out.pq.pq.stays hp.fr));clear HRX;have HRX:=HQx;clear HQx;have HST:Hid (StsP (PRB r b) wz t ST):=Ph (hst.mono fun k _ hk=>by have:=HB.out.lt;constructor <;> omega);have HQx:=Ph (HB.out.then hp);clear HB hp hst;have HB:=HQx;clear HQx;obtain⟨y0,y1,y2,y3,y4,y5⟩:=zH HB.out.bx;obtain⟨f0,f1,f2,f3,f4,f5,_⟩:=zZ HB.out.bx;obtain⟨hb1,hb2⟩:=HB.out.put h.out.b 4 (uL ST);have HBn:Hid (Bx B p E T w r b #[uB 7,uT,.slice (some ⟨g,0,none⟩) 1 1,uI nb,uL ST,uN] _ (wz.setCell ⟨b,4,none⟩ (uL ST))):=Ph hb1;have HFb:=Ph hb2;clear hb1 hb2;go_upto_region 5 with fail
 have HQx:=Ph (HRX.out.stay itX qW (Stays.fr HFb.out (fun k _ hk e=>hk.2 e)));clear HRX;have HRX:=HQx;clear HQx;have HQx:=Ph (HST.out.stay (Stays.fr HFb.out (fun k _ hk e=>hk.2 e)));clear HST;have HST:=HQx;clear HQx;generalize (World.setCell _ _ _)=wu at *;clear HB HFb y0 y1 y2 y3 y4 y5 f0 f1 f2 f3 f4 f5;have HB:=HBn;clear HBn;obtain⟨x0,x1,x2,x3,x4,x5⟩:=zH HB.out.bx;have HRz:=Ph HB.out.rs;have hrp:=HB.out.rp;have hwr:=HB.out.wr;have HPz:=Ph HB.out.pq;obtain⟨y0,y1,y2,y3,y4,y5⟩:=zH HRz.out;obtain⟨f0,f1,f2,f3,f4,f5,_⟩:=zZ HRz.out;have HF:=Ph (fr6 wu r (uB 7) (uT) (.slice (some ⟨g,0,none⟩) 1 1) (uI nb) (uL ST) (uN));have HK:=Ph (put6 (v0:=uB 7) (v1:=uT) (v2:=.slice (some ⟨g,0,none⟩) 1 1) (v3:=uI nb) (v4:=uL ST) (v5:=uN) HRz.out);go_wp2_with fail
 generalize (World.setCell _ _ _)=WF at HF HK ⊢;obtain⟨r0,r1,r2,r3,r4,r5⟩:=zH HK.out;refine lK (v:=stV (.mk 7 [] [x] nb t []) (⟨some ⟨g,0,none⟩,1,1⟩,ST,zK)) (by simp [results,Tryz.results152,go_sem,r0,r1,r2,r3,r4,r5,stV,zC6,Sx.kind,Sx.name,Sx.bound,str]) rfl ?_;refine⟨(⟨some ⟨g,0,none⟩,1,1⟩,ST,zK),rfl,⟨⟨by show(7:Nat)≤255;decide,by show(-9223372036854775808:Int)≤(nb:Int);omega,by show(nb:Int)≤9223372036854775807;have:=HLE.out;omega,lV _⟩,(HRX.out.stay itX qW (Stays.fr HF.out (fun k _ hk e=>by have:=hk.1;omega))).mono itX fun k _ hk=>by have:=hk.1;omega,(HST.out.stay (Stays.fr HF.out (fun k _ hk e=>by have:=hk.1;omega))).mono fun k _ hk=>by have:=hk.1;omega,StsP.nil⟩,?_⟩;exact HPz.out.box HRz.out Yd Yd hrp (lE h.out.b hwr) hwr HF.out
end
end
section
open Go.RowKit Go.PlainAid
theorem qG {P:Program} {ops:Array Oper} {t:TypeId} {w w':World} {o:Oper} {a:Act} {K:Act→World→Prop} {Q:Exit→Act→World→Prop} {E':Prop} (hgd:o.guard=none) (s x:Operand) (ho:o.op=.call { callee:=.builtin .append,args:=#[s,x],argTypes:=#[t,t] }) (v u r:Value) (hs:a.eval s=v) (hx:a.eval x=u)
 (hrun:(Builtin.append_ #[t,t] o.type #[v,u]).run P w=.ok r w') (h:K (a.put o.dst r) w'):if Region.wanted o (yielded ops a.tmps)=true then Oper.wp P o a w K Q else E':=by
 have hw:Region.wanted o (yielded ops a.tmps)=true:=by simp [Region.wanted,hgd]
 rw [lM hw];exact jC6 (ty0:=t) s x ho v u r hs hx hrun h
section
variable {B:Nat} {p:Nat} {E:Env} {T:TV}
theorem Bx.data {w W W':World} {r b:Nat} {cs:Array Value} {q:QSt} {out:List Ex} {S:SV} (h:Bx B p E T w r b cs q W) (hB:B≤w.heap.size) (hf:Fr (fun k=>(Value.slice S.A S.n S.c).ownBlock=some k) W W') (ho:OwnX (b+1) W out S):Bx B p E T w r b cs q W':=by have hw:=h.wb;exact⟨h.pq.data hB hf (fun k _ e=>by obtain⟨h1,cs,h2⟩:=ho.typed e;exact⟨Yo,_,cs,h2,qW⟩),h.rs.fr hf (fun e=>by obtain⟨_,cs,h2⟩:=ho.typed e;exact h2.ne h.rs Yd rfl),h.bx.fr hf (fun e=>by obtain⟨h1,_⟩:=ho.typed e;omega),h.rp,h.bp,h.br,h.wr,h.wb⟩
theorem jZ2 (f:Nat) (q:QSt) (s:Sx) (q':QSt) (hs:qY E (f+1) 0 q=some (s,q')) (w:World) (h:Hid (Pq B w p E T q)):Calls Tryz.prog 131 #[uQ p 0] w (vH B w p E T s q'):=by
 have hc:=vW hs;have HL:=Ph h.out.name_len;obtain⟨nm,hnm⟩:∃ nm,jA E q.s=nm:=⟨_,rfl⟩;rw [hnm]at HL hc;have HNM:=Ph hnm;obtain⟨qn,hqn⟩:∃ qn,q.on (zL E q.s)=qn:=⟨_,rfl⟩;have HQN:=Ph hqn;have hqs:zL E q.s=qn.s:=by rw [←hqn];rfl
 have hqm:q.on (zI E (zL E q.s) [61])=qn.on (zI E qn.s [61]):=by rw [←hqn];rfl
 rw [hqn,hqs]at hc;rw [hqs]at hqm;rw [hqm]at hc;clear hs hnm hqn hqs hqm;have HR:=Ph (Bk.new w 108 uS);have HP:=Ph (PQ.below h.out (zB (o:=.cells uS 108)));have hpl:p<w.heap.size:=h.out.lt;go_enter Tryz.func131,Tryz.ntmps131
 go_upto_region 1 with fail
 have hW:(w.alloc (.cells uS 108)).heap.size=w.heap.size+1:=Ym;generalize (w.alloc _)=W at HR HP hW ⊢;obtain⟨r,hr⟩:∃ r,w.heap.size=r:=⟨_,rfl⟩;rw [hr]at HR hW ⊢;have hrp:p≠r:=Yo;have hwr:w.heap.size≤r:=Yo;clear hr hpl;go_wp2_with fail
 refine(jD1 q W (Ph HP.out.pq)).mono ?_;rintro e w1 ⟨rfl,hp⟩;rw [HNM.out];rw [HQN.out]at hp;have hr1:r+1≤w1.heap.size:=lE (Nat.le_of_eq hW.symm) hp.fr.size;have hp1:p<w1.heap.size:=hp.pq.lt;have HBX:Hid (Bx B p E T w r w1.heap.size #[uB 1,uR nm,uN,uI 0,uN,uN] qn (w1.alloc (.cells #[uB 1,uR nm,uN,uI 0,uN,uN] 108))):=Ph ⟨(HP.out.trans hp).then zB,zD (hp.bk HR.out Yd (cX hrp)) zB,Bk.new _ _ _,hrp,Yo,Yo,hwr,Yo⟩;clear hp HP HR hW hp1;go_upto_region 2 with fail
 have hsz:(w1.alloc (.cells #[uB 1,uR nm,uN,uI 0,uN,uN] 108)).heap.size=w1.heap.size+1:=Ym;generalize (w1.alloc _)=W2 at HBX hsz ⊢;obtain⟨b,hb⟩:∃ b,w1.heap.size=b:=⟨_,rfl⟩;rw [hb]at HBX hsz ⊢;have HRB:Hid (r<b):=Ph (by show r<b;omega);clear hb hr1 hrp hwr hsz;have HNX:=Ph (zI6 qn W2 (Ph HBX.out.pq.pq));have hbt:((str (zC E qn.s).text).toList == [91])=decide ((zC E qn.s).text=[91]):=qA7 _ _;obtain⟨⟨tk,tt,ta,tf⟩,ht⟩:∃ t,zC E qn.s=t:=⟨_,rfl⟩;rw [ht]at HNX hc hbt;dsimp only [nxV,kW]at HNX;(try dsimp only at hc hbt);clear ht;go_wp2_with fail
 refine HNX.out.mono ?_;rintro e w2 ⟨rfl,hb⟩;have HB:=Ph ((HBX.out.then (PQ.below HBX.out.pq.pq hb)).then (PQ.below (HBX.out.pq.pq.below hb) (zB (o:=.cells #[uB tk,uI ta,uI tf] 44))));clear hb HNX HBX;go_upto_region 3 with fail
 generalize (w2.alloc _)=W3 at HB ⊢;have HO:Hid (OwnX (b+1) W3 [] ⟨none,0,0⟩):=Ph OwnG.nil;rcases hc with⟨ht,q1,i,q2,q3,x,h1,h2,h3,h4,rfl⟩ | ⟨ht,x,h4,rfl⟩
 ·rw [lH ht]at hbt;have H1:=Ph h1;have H2:=Ph h2;have H3:=Ph h3;have H4:=Ph h4;clear h1 h2 h3 h4 ht;obtain⟨y0,y1,y2,y3,y4,y5⟩:=zH HB.out.bx;obtain⟨f0,f1,f2,f3,f4,f5,_⟩:=zZ HB.out.bx;obtain⟨hb1,hb2⟩:=HB.out.put h.out.b 0 (uB 2);have HBn:Hid (Bx B p E T w r b #[uB 2,uR nm,uN,uI 0,uN,uN] qn (W3.setCell ⟨b,0,none⟩ (uB 2))):=Ph hb1;clear hb1 hb2;go_upto_region 5 with fail
  generalize (World.setCell _ _ _)=W4 at HBn ⊢;clear HB HO y0 y1 y2 y3 y4 y5 f0 f1 f2 f3 f4 f5 hbt;have HB:=HBn;have HO:Hid (OwnX (b+1) W4 [] ⟨none,0,0⟩):=Ph OwnG.nil;clear HBn;go_wp2_with fail
  refine(qF3 qn [91] q1 H1.out W4 (Ph HB.out.pq.pq)).mono ?_;rintro e w4 ⟨⟨v,rfl⟩,hp⟩;have HQx:=Ph (HO.out.stay itX qW (HB.out.pq.pq.stays hp.fr));clear HO;have HO:=HQx;clear HQx;have HQx:=Ph (HB.out.then hp);clear HB hp;have HB:=HQx;clear HQx;go_upto_region 6 with fail
  go_cut [] (fun wx=>∃ (A2:Option Addr) (k2:Nat),Hid (Bx B p E T w r b #[uB 2,uR nm,.slice A2 (0+1) k2,uI 0,uN,uN] q2 wx)∧Hid (OwnX (b+1) wx (([]:List Ex)++[i]) ⟨A2,0+1,k2⟩))
  case first =>
   have HBD:=Ph (HB.out.then (PQ.below HB.out.pq.pq (lB _ _).drew));have HOD:=Ph (HO.out.stay itX qW (Stays.below (lB _ _).drew));have hbl:b+1≤w4.drew.heap.size:=HBD.out.bx.lt;have hSn:0<1000000000:=Yd;obtain⟨c0,c1,c2,c3,c4,c5⟩:=zH HBD.out.bx;have HCL:Hid (Calls Tryz.prog 54 #[uQ p 0] w4.drew fun e w'=>∃ S,e=.returned (.agg (uE i S))∧TX (fun k=>w4.drew.heap.size≤k) w' i S∧PQ B w4.drew p E T q2 w'):=Ph (zC3 f q1 i q2 H2.out w4.drew (Ph HBD.out.pq.pq))
   go_region_law (first
    | (refine qG rfl (.tmp 20) (.tmp 23) rfl _ _ _ rfl rfl (HRUN.out _) ?_
       clear c0 c1 c2 c3 c4 c5 d0 d1 d2 d3 d4 d5;obtain⟨c0,c1,c2,c3,c4,c5⟩:=zH HB7.out.bx;obtain⟨f0,f1,f2,f3,f4,f5,_⟩:=zZ HB7.out.bx)
    | (go_simp
       go_at_call 54
       with_reducible refine HCL.out.mono ?_
       rintro e w5 ⟨S1,rfl,ht,hp⟩;obtain⟨A2,k2,w6,hrun,hown,hfr,hown0⟩:=OwnX.push (B:=b+1) (S:=⟨none,0,0⟩) HOD.out hbl (HBD.out.pq.pq.stays hp.fr) hp.fr.size ht hSn;rw [xL]at hrun hown0 hfr;have HB5:=Ph (HBD.out.then hp);have HB6:=Ph (HB5.out.then (PQ.below HB5.out.pq.pq (zB (o:=.cells (uE i S1) 31))));have HB7:=Ph (HB6.out.data h.out.b hfr hown0);have HRUN:=Ph hrun;have HOW:=Ph hown;clear hrun hown hfr hown0 ht hp HCL c0 c1 c2 c3 c4 c5;obtain⟨c0,c1,c2,c3,c4,c5⟩:=zH HB5.out.bx;obtain⟨d0,d1,d2,d3,d4,d5⟩:=zH HB6.out.bx))
   all_goals
    obtain⟨hb1,hb2⟩:=HB7.out.put h.out.b 2 (.slice A2 (0+1) k2);have HBn:Hid (Bx B p E T w r b #[uB 2,uR nm,.slice A2 (0+1) k2,uI 0,uN,uN] q2 (w6.setCell ⟨b,2,none⟩ (.slice A2 (0+1) k2))):=Ph hb1;have HOn:=Ph (HOW.out.stay itX qW (Stays.fr hb2 (fun k _ hk e=>Yo)));clear hb1 hb2;go_wp2
    go_meet
    exact⟨A2,k2,HBn,HOn⟩
  case rest =>
  obtain⟨A2,k2,HBn,HOn⟩:=hcut;clear HB HO;have HB:=HBn;have HO:=HOn;clear HBn HOn;go_wp2_with fail
  refine(zI7 q2 [93] q3 H3.out _ (Ph HB.out.pq.pq)).mono ?_;rintro e w6 ⟨⟨v6,rfl⟩,hp⟩;have HQx:=Ph (HO.out.stay itX qW (HB.out.pq.pq.stays hp.fr));clear HO;have HO:=HQx;clear HQx;have HQx:=Ph (HB.out.then hp);clear HB hp;have HB:=HQx;clear HQx;go_wp2_with fail
  refine(zM9 q3 [61] w6 (Ph HB.out.pq.pq)).mono ?_;rintro e w7 ⟨⟨v7,rfl⟩,hp⟩;have HQx:=Ph (HO.out.stay itX qW (HB.out.pq.pq.stays hp.fr));clear HO;have HO:=HQx;clear HQx;have HQx:=Ph (HB.out.then hp);clear HB hp;have HB:=HQx;clear HQx;obtain⟨A1,hA1⟩:∃ A,A2=A:=⟨_,rfl⟩;obtain⟨k1,hk1⟩:∃ k,k2=k:=⟨_,rfl⟩;rw [hA1,hk1]at HB HO;clear hA1 hk1;go_upto_region 9 with fail
  go_cut [] (fun wx=>∃ (A2:Option Addr) (k2:Nat),Hid (Bx B p E T w r b #[uB 2,uR nm,.slice A2 (0+1+1) k2,uI 0,uN,uN] q' wx)∧Hid (OwnX (b+1) wx ([i]++[x]) ⟨A2,(0+1)+1,k2⟩))
  case first =>
   have HBD:=Ph (HB.out.then (PQ.below HB.out.pq.pq (lB _ _).drew));have HOD:=Ph (HO.out.stay itX qW (Stays.below (lB _ _).drew));have hbl:b+1≤w7.drew.heap.size:=HBD.out.bx.lt;have hSn:(0+1)<1000000000:=Yd;obtain⟨c0,c1,c2,c3,c4,c5⟩:=zH HBD.out.bx;have HCL:Hid (Calls Tryz.prog 54 #[uQ p 0] w7.drew fun e w'=>∃ S,e=.returned (.agg (uE x S))∧TX (fun k=>w7.drew.heap.size≤k) w' x S∧PQ B w7.drew p E T q' w'):=Ph (zC3 f (q3.on (zI E q3.s [61])) x q' H4.out w7.drew (Ph HBD.out.pq.pq))
   go_region_law (first
    | (refine qG rfl (.tmp 31) (.tmp 34) rfl _ _ _ rfl rfl (HRUN.out _) ?_
       clear c0 c1 c2 c3 c4 c5 d0 d1 d2 d3 d4 d5;obtain⟨c0,c1,c2,c3,c4,c5⟩:=zH HB7.out.bx;obtain⟨f0,f1,f2,f3,f4,f5,_⟩:=zZ HB7.out.bx)
    | (go_simp
       go_at_call 54
       with_reducible refine HCL.out.mono ?_
       rintro e w5 ⟨S1,rfl,ht,hp⟩;obtain⟨A2,k2,w6,hrun,hown,hfr,hown0⟩:=OwnX.push (B:=b+1) (S:=⟨A1,0+1,k1⟩) HOD.out hbl (HBD.out.pq.pq.stays hp.fr) hp.fr.size ht hSn;rw [xL]at hrun hown0 hfr;have HB5:=Ph (HBD.out.then hp);have HB6:=Ph (HB5.out.then (PQ.below HB5.out.pq.pq (zB (o:=.cells (uE x S1) 31))));have HB7:=Ph (HB6.out.data h.out.b hfr hown0);have HRUN:=Ph hrun;have HOW:=Ph hown;clear hrun hown hfr hown0 ht hp HCL c0 c1 c2 c3 c4 c5;obtain⟨c0,c1,c2,c3,c4,c5⟩:=zH HB5.out.bx;obtain⟨d0,d1,d2,d3,d4,d5⟩:=zH HB6.out.bx))
   all_goals
    obtain⟨hb1,hb2⟩:=HB7.out.put h.out.b 2 (.slice A2 ((0+1)+1) k2);have HBn:Hid (Bx B p E T w r b #[uB 2,uR nm,.slice A2 (0+1+1) k2,uI 0,uN,uN] q' (w6.setCell ⟨b,2,none⟩ (.slice A2 ((0+1)+1) k2))):=Ph hb1;have HOn:=Ph (HOW.out.stay itX qW (Stays.fr hb2 (fun k _ hk e=>Yo)));clear hb1 hb2;go_wp2
    go_meet
    exact⟨A2,k2,HBn,HOn⟩
  case rest =>
  obtain⟨A2,k2,HBn,HOn⟩:=hcut;clear HB HO;have HB:=HBn;have HO:=HOn;clear HBn HOn;obtain⟨x0,x1,x2,x3,x4,x5⟩:=zH HB.out.bx;have HRz:=Ph HB.out.rs;have hrp:=HB.out.rp;have hwr:=HB.out.wr;have hbr:=HB.out.br;have hrb:r<b:=by have h1:=HB.out.wr;have h2:=HB.out.wb;exact HRB.out
  have HPz:=Ph HB.out.pq;have HRW:=Ph (HO.out.row itX);obtain⟨y0,y1,y2,y3,y4,y5⟩:=zH HRz.out;obtain⟨f0,f1,f2,f3,f4,f5,_⟩:=zZ HRz.out;have HF:=Ph (fr6 wc r (uB 2) (uR nm) (.slice A2 ((0+1)+1) k2) (uI 0) (uN) (uN));have HK:=Ph (put6 (v0:=uB 2) (v1:=uR nm) (v2:=.slice A2 ((0+1)+1) k2) (v3:=uI 0) (v4:=uN) (v5:=uN) HRz.out);go_wp2_with fail
  generalize (World.setCell _ _ _)=WF at HF HK ⊢;obtain⟨r0,r1,r2,r3,r4,r5⟩:=zH HK.out;refine lK (v:=stV (.mk 2 nm [i,x] 0 [] []) (⟨A2,(0+1)+1,k2⟩,zK,zK)) (by simp [results,Tryz.results131,go_sem,r0,r1,r2,r3,r4,r5,stV,zC6,Sx.kind,Sx.name,Sx.bound,str]) rfl ?_;refine⟨(⟨A2,(0+1)+1,k2⟩,zK,zK),rfl,⟨⟨by show(2:Nat)≤255;decide,by show(-9223372036854775808:Int)≤0;decide,by show(0:Int)≤9223372036854775807;decide,HL.out⟩,(HRW.out.stay itX qW (Stays.fr HF.out (fun k _ hk e=>Yo))).mono itX fun k _ hk=>Yo,StsP.nil,StsP.nil⟩,?_⟩;exact HPz.out.box HRz.out Yd Yd hrp (lE h.out.b hwr) hwr HF.out
 ·rw [lG ht]at hbt;have H4:=Ph h4;clear h4 ht;go_wp2_with fail
  refine(zM9 qn [61] W3 (Ph HB.out.pq.pq)).mono ?_;rintro e w7 ⟨⟨v7,rfl⟩,hp⟩;have HQx:=Ph (HO.out.stay itX qW (HB.out.pq.pq.stays hp.fr));clear HO;have HO:=HQx;clear HQx;have HQx:=Ph (HB.out.then hp);clear HB hp;have HB:=HQx;clear HQx;go_upto_region 9 with fail
  go_cut [] (fun wx=>∃ (A2:Option Addr) (k2:Nat),Hid (Bx B p E T w r b #[uB 1,uR nm,.slice A2 (0+1) k2,uI 0,uN,uN] q' wx)∧Hid (OwnX (b+1) wx (([]:List Ex)++[x]) ⟨A2,0+1,k2⟩))
  case first =>
   have HBD:=Ph (HB.out.then (PQ.below HB.out.pq.pq (lB _ _).drew));have HOD:=Ph (HO.out.stay itX qW (Stays.below (lB _ _).drew));have hbl:b+1≤w7.drew.heap.size:=HBD.out.bx.lt;have hSn:0<1000000000:=Yd;obtain⟨c0,c1,c2,c3,c4,c5⟩:=zH HBD.out.bx;have HCL:Hid (Calls Tryz.prog 54 #[uQ p 0] w7.drew fun e w'=>∃ S,e=.returned (.agg (uE x S))∧TX (fun k=>w7.drew.heap.size≤k) w' x S∧PQ B w7.drew p E T q' w'):=Ph (zC3 f (qn.on (zI E qn.s [61])) x q' H4.out w7.drew (Ph HBD.out.pq.pq))
   go_region_law (first
    | (refine qG rfl (.tmp 31) (.tmp 34) rfl _ _ _ rfl rfl (HRUN.out _) ?_
       clear c0 c1 c2 c3 c4 c5 d0 d1 d2 d3 d4 d5;obtain⟨c0,c1,c2,c3,c4,c5⟩:=zH HB7.out.bx;obtain⟨f0,f1,f2,f3,f4,f5,_⟩:=zZ HB7.out.bx)
    | (go_simp
       go_at_call 54
       with_reducible refine HCL.out.mono ?_
       rintro e w5 ⟨S1,rfl,ht,hp⟩;obtain⟨A2,k2,w6,hrun,hown,hfr,hown0⟩:=OwnX.push (B:=b+1) (S:=⟨none,0,0⟩) HOD.out hbl (HBD.out.pq.pq.stays hp.fr) hp.fr.size ht hSn;rw [xL]at hrun hown0 hfr;have HB5:=Ph (HBD.out.then hp);have HB6:=Ph (HB5.out.then (PQ.below HB5.out.pq.pq (zB (o:=.cells (uE x S1) 31))));have HB7:=Ph (HB6.out.data h.out.b hfr hown0);have HRUN:=Ph hrun;have HOW:=Ph hown;clear hrun hown hfr hown0 ht hp HCL c0 c1 c2 c3 c4 c5;obtain⟨c0,c1,c2,c3,c4,c5⟩:=zH HB5.out.bx;obtain⟨d0,d1,d2,d3,d4,d5⟩:=zH HB6.out.bx))
   all_goals
    obtain⟨hb1,hb2⟩:=HB7.out.put h.out.b 2 (.slice A2 (0+1) k2);have HBn:Hid (Bx B p E T w r b #[uB 1,uR nm,.slice A2 (0+1) k2,uI 0,uN,uN] q' (w6.setCell ⟨b,2,none⟩ (.slice A2 (0+1) k2))):=Ph hb1;have HOn:=Ph (HOW.out.stay itX qW (Stays.fr hb2 (fun k _ hk e=>Yo)));clear hb1 hb2;go_wp2
    go_meet
    exact⟨A2,k2,HBn,HOn⟩
  case rest =>
  obtain⟨A2,k2,HBn,HOn⟩:=hcut;clear HB HO;have HB:=HBn;have HO:=HOn;clear HBn HOn;obtain⟨x0,x1,x2,x3,x4,x5⟩:=zH HB.out.bx;have HRz:=Ph HB.out.rs;have hrp:=HB.out.rp;have hwr:=HB.out.wr;have hbr:=HB.out.br;have hrb:r<b:=by have h1:=HB.out.wr;have h2:=HB.out.wb;exact HRB.out
  have HPz:=Ph HB.out.pq;have HRW:=Ph (HO.out.row itX);obtain⟨y0,y1,y2,y3,y4,y5⟩:=zH HRz.out;obtain⟨f0,f1,f2,f3,f4,f5,_⟩:=zZ HRz.out;have HF:=Ph (fr6 wc r (uB 1) (uR nm) (.slice A2 (0+1) k2) (uI 0) (uN) (uN));have HK:=Ph (put6 (v0:=uB 1) (v1:=uR nm) (v2:=.slice A2 (0+1) k2) (v3:=uI 0) (v4:=uN) (v5:=uN) HRz.out);go_wp2_with fail
  generalize (World.setCell _ _ _)=WF at HF HK ⊢;obtain⟨r0,r1,r2,r3,r4,r5⟩:=zH HK.out;refine lK (v:=stV (.mk 1 nm [x] 0 [] []) (⟨A2,0+1,k2⟩,zK,zK)) (by simp [results,Tryz.results131,go_sem,r0,r1,r2,r3,r4,r5,stV,zC6,Sx.kind,Sx.name,Sx.bound,str]) rfl ?_;refine⟨(⟨A2,0+1,k2⟩,zK,zK),rfl,⟨⟨by show(1:Nat)≤255;decide,by show(-9223372036854775808:Int)≤0;decide,by show(0:Int)≤9223372036854775807;decide,HL.out⟩,(HRW.out.stay itX qW (Stays.fr HF.out (fun k _ hk e=>Yo))).mono itX fun k _ hk=>Yo,StsP.nil,StsP.nil⟩,?_⟩;exact HPz.out.box HRz.out Yd Yd hrp (lE h.out.b hwr) hwr HF.out
end
end
section
open Go.RowKit Go.PlainAid
theorem jD4 (w:World) (g:Nat) (v0 v1 v2:Value):Fr (fun k=>k=g) w (((w.setCell ⟨g,0,none⟩ v0).setCell ⟨g,1,none⟩ v1).setCell ⟨g,2,none⟩ v2):=((((Fr.refl (fun k=>k=g) w).setCell (p:=⟨g,0,none⟩) (.inl rfl) v0).setCell (p:=⟨g,1,none⟩) (.inl rfl) v1).setCell (p:=⟨g,2,none⟩) (.inl rfl) v2)
theorem qL7 {w:World} {g:Nat} {t:TypeId} {u0 u1 u2 v0 v1 v2:Value} (h:Bk w g t #[u0,u1,u2]):Bk (((w.setCell ⟨g,0,none⟩ v0).setCell ⟨g,1,none⟩ v1).setCell ⟨g,2,none⟩ v2) g t #[v0,v1,v2]:=by have h1:=((h.put 0 v0).put 1 v1).put 2 v2;simpa using h1
section
variable {B:Nat} {p:Nat} {E:Env} {T:TV}
theorem Pq.atrun {w:World} {q:QSt} (h:Pq B w p E T q) (a:Nat) (hl:q.l.length≤800000000):∃ (Q:SV) (A:Option Addr) (c:Nat) (w':World),Ps w p E T Q q.s ∧
 (∀ ty,(Builtin.append_ #[45,45] ty #[.slice Q.A Q.n Q.c,.slice (some ⟨w.heap.size,0,none⟩) 1 1]).run Tryz.prog (w.alloc (.cells #[uI a] 3))=.ok (.slice A (Q.n+1) c) w') ∧
 Ps w' p E T Q q.s∧Pq B (w'.setCell ⟨p,4,none⟩ (.slice A (Q.n+1) c)) p E T ⟨q.s,q.l++[a]⟩∧FrQ B p w (w'.setCell ⟨p,4,none⟩ (.slice A (Q.n+1) c)) ∧
 (∀ r t cs,Bk w r t cs→t≠3→r≠p→Bk (w'.setCell ⟨p,4,none⟩ (.slice A (Q.n+1) c)) r t cs)∧(∀ r t cs,Bk w r t cs→t≠3→Bk w' r t cs):=by
 obtain⟨Q,h1,h2,h3⟩:=h.ex;have hb:Below w.heap.size w (w.alloc (.cells #[uI a] 3)):=zB;have h1a:=h1.below hb;have h2a:AtO B (w.alloc (.cells #[uI a] 3)) Q q.l:=jP h2 (Fr.of_below (F:=fun _=>False) hb) (fun _ _ h=>h);obtain⟨A',c',w',hrun,ho,hg,hat⟩:=zG6 jN5 0 B _ Q.n _ h2a (some ⟨w.heap.size,0,none⟩) 1 1 [uI a] (Rd.new w #[uI a] 3) rfl (fun u hu=>by simp at hu;subst hu;rfl) Yo (lE h.b hb.size);have hf4:Fr (fun k=>(uL Q).ownBlock=some k) (w.alloc (.cells #[uI a] 3)) w':=(Fr.refl _ _).grown hg (fun k hk=>.inl hk);have hps:=h1a.grown h2a h.g0 h.g1 hg;obtain⟨hs1,hs2⟩:=hps.setAt ⟨A',Q.n+1,c'⟩;have ho2:AtO B w' ⟨A',Q.n+1,c'⟩ (q.l++[a]):=by show World.ownsRow _ _ _ _ _ _ _;rw [zR9];exact ho
 have hfq:FrQ B p w (w'.setCell ⟨p,4,none⟩ (.slice A' (Q.n+1) c')):=by
  have e1:FrQ B p w w':=by refine⟨hf4.os.trans hb.os,hf4.tape.trans hb.tape,hf4.output.trans hb.output,lE hb.size hf4.size,fun i hi hf=>?_⟩;refine(hf4.block i (lX hi hb.size) fun e=>hf (.inr ?_)).trans (hb.block i hi);obtain⟨h9,cs,hc⟩:=qF h2 i e;exact⟨h9,cs,_,hc⟩
  exact e1.trans (FrQ.of_p hs2)
 refine⟨Q,A',c',w',h1,fun ty=>hrun,hps,⟨⟨⟨A',Q.n+1,c'⟩,hs1,AtO.fr (Q:=⟨A',Q.n+1,c'⟩) ho2 hps hs2,by simp [h3]⟩,h.g0,h.g1,lE h.b hfq.size⟩,hfq,fun r t cs hb ht hr=>hfq.bk hb ht hr,fun r t cs hbk ht=>(zD hbk hb).fr hf4 (fun e=>yR h2a (zD hbk hb) (cX ht) e.symm)⟩
def deV (x:Dx):Value:=.agg (yX x ()).toArray
theorem jU1 (q:QSt) (w:World) (h:Hid (Pq B w p E T q)) (hl:q.l.length≤800000000):Calls Tryz.prog 114 #[uQ p 0] w fun e w'=>e=.returned (deV (qV E q).1)∧jO4 (qV E q).1∧PQ B w p E T (qV E q).2 w':=by
 have HL:=Ph hl;have hNL:=h.out.name_len;have hle:=zG7 E (zI E (zL E q.s) [58]);obtain⟨⟨nb,sn⟩,hn⟩:∃ n,jB E (zI E (zL E q.s) [58])=n:=⟨_,rfl⟩;obtain⟨nm,hnm⟩:∃ nm,jA E q.s=nm:=⟨_,rfl⟩;have hnx:∀ w1,Hid (Pq B w1 p E T q)→_:=fun w1 h1=>zI6 (p:=p) q w1 h1;obtain⟨⟨tk,tt,ta,tf⟩,ht⟩:∃ t,zC E q.s=t:=⟨_,rfl⟩;have hR:qV E q=(⟨nm,(nb:Int),0⟩,⟨sn,q.l++[ta]⟩):=by unfold qV;simp only [hn,hnm,ht]
 rw [hR];rw [ht]at hnx;dsimp only [nxV,kW]at hnx;rw [hnm]at hNL;rw [hn]at hle;have HNX:=Ph hnx;have HN:=Ph hn;have HNM:=Ph hnm;have HLE:=Ph hle;have HNL:=Ph hNL;have HB0:=Ph h.out.b;have HP:=Ph (PQ.below h.out (lB _ _));clear hl hNL hle hn hnm hnx ht hR;go_enter Tryz.func114,Tryz.ntmps114
 have hl_p:p<w.heap.size:=HP.out.pq.lt;have HQx:=Ph (HP.out.then (zB (o:=(.cells #[uT,uI 0,uI 0] 87))));clear HP;have HP:=HQx;clear HQx;have HR:=Ph (Bk.new w 87 #[uT,uI 0,uI 0]);go_upto_region 1 with fail
 generalize (w.alloc _)=W1 at *;obtain⟨r,hblk⟩:∃ b,w.heap.size=b:=⟨_,rfl⟩;rw [hblk]at HR ⊢;have rp:r≠p:=Yo;have HWR:Hid (w.heap.size≤r):=Ph (by show w.heap.size≤r;omega);clear hblk hl_p;have hwr:w.heap.size≤r:=by have:=HR.out.lt;exact HWR.out
 go_wp2_with fail
 refine(HNX.out W1 (Ph HP.out.pq)).mono ?_;rintro e w2 ⟨rfl,hb⟩;have HQx:=Ph (zD HR.out hb);clear HR;have HR:=HQx;clear HQx;have HQx:=Ph (HP.out.then hb);clear HP;have HP:=HQx;clear HQx;clear hb;have hl_p:p<w2.heap.size:=HP.out.pq.lt;have hl_r:r<w2.heap.size:=HR.out.lt;have HQx:=Ph (zD HR.out (zB (o:=(.cells #[uB tk,uI ta,uI tf] 44))));clear HR;have HR:=HQx;clear HQx;have HQx:=Ph (HP.out.then (zB (o:=(.cells #[uB tk,uI ta,uI tf] 44))));clear HP;have HP:=HQx;clear HQx;have HT:=Ph (Bk.new w2 44 #[uB tk,uI ta,uI tf]);go_upto_region 2 with fail
 generalize (w2.alloc _)=W2 at *;obtain⟨bt,hblk⟩:∃ b,w2.heap.size=b:=⟨_,rfl⟩;rw [hblk]at HT ⊢;have btp:bt≠p:=Yo;have btr:bt≠r:=Yo;clear hblk hl_p hl_r;go_upto_region 2 with fail
 go_cut [] (fun wx=>Hid (PQ B w p E T ⟨(q).s,(q).l++[ta]⟩ wx)∧Hid (Bk wx r 87 #[uT,uI 0,uI 0])∧Hid (Bk wx bt 44 #[uB tk,uI ta,uI tf]))
 case first =>
  obtain⟨Q,A2,k2,w6,hps,hrun,hps2,hpq,hfr,hbk,hbk6⟩:=(HP.out.pq.below (lB _ _).drew).atrun ta HL.out;have hpa:=hps.below (zB (o:=(.cells #[uI ta] 3)));have hb0:Bk W2 p 152 (zZ6 E T Q (q).s):=hps.bk;have e4:(W2.alloc (.cells #[uI ta] 3)).cell? ⟨p,4,none⟩=some (uL Q):=(zD hb0 (zB (o:=(.cells #[uI ta] 3)))).cell 4;obtain⟨g0,g1,g2,g3,g4,g5,g6⟩:=hps.cells;obtain⟨a0,a1,a2,a3,a4,a5,a6⟩:=hpa.cells;obtain⟨t0,t1,t2⟩:=zJ (zD HT.out (lB _ _).drew);obtain⟨u0,u1,u2⟩:=zJ (zD (zD HT.out (lB _ _).drew) (zB (o:=(.cells #[uI ta] 3))));obtain⟨v0,v1,v2⟩:=zJ (zD HT.out (zB (o:=(.cells #[uI ta] 3))));have HRUN:=Ph hrun;have HPS2:=Ph hps2;have HPQ:=Ph hpq;have HFR:=Ph hfr;have HBK:=Ph hbk;clear hps hpa hb0 hrun hps2 hpq hfr hbk hbk6
  go_region_law (first
   | (refine qG rfl (.tmp 15) (.tmp 18) rfl _ _ _ rfl rfl (HRUN.out _) ?_
      clear g0 g1 g2 g3 g4 g5 g6 a0 a1 a2 a3 a4 a5 a6 t0 t1 t2 u0 u1 u2 e4 v0 v1 v2;obtain⟨g0,g1,g2,g3,g4,g5,g6⟩:=HPS2.out.cells;have gz:=HPS2.out.frozens 4))
  all_goals
   go_wp2
   go_meet
   exact⟨Ph ⟨HPQ.out,(HP.out.fr.then (lB _ _).drew).trans HFR.out⟩,Ph (HBK.out _ _ _ (zD HR.out (lB _ _).drew) Yd rp),Ph (HBK.out _ _ _ (zD HT.out (lB _ _).drew) Yd btp)⟩
 case rest =>
 obtain⟨HPn,HRn,HTn⟩:=hcut;clear HP HR HT;have HP:=HPn;have HR:=HRn;have HT:=HTn;clear HPn HRn HTn;generalize wc=W3 at *;clear HT;go_wp2_with fail
 refine(jD1 _ W3 (Ph HP.out.pq)).mono ?_;rintro e w4 ⟨rfl,hp⟩;have HQx:=Ph (hp.bk HR.out Yd rp);clear HR;have HR:=HQx;clear HQx;have HQx:=Ph (HP.out.trans hp);clear HP;have HP:=HQx;clear HQx;clear hp;rw [show(⟨q.s,q.l++[ta]⟩:QSt).s=q.s from rfl,HNM.out];have hl_p:p<w4.heap.size:=HP.out.pq.lt;have hl_r:r<w4.heap.size:=HR.out.lt;have HQx:=Ph (zD HR.out (zB (o:=(.cells #[uR nm,uI 0,uI 0] 87))));clear HR;have HR:=HQx;clear HQx;have HQx:=Ph (HP.out.then (zB (o:=(.cells #[uR nm,uI 0,uI 0] 87))));clear HP;have HP:=HQx;clear HQx;have HD:=Ph (Bk.new w4 87 #[uR nm,uI 0,uI 0]);go_upto_region 4 with fail
 generalize (w4.alloc _)=W4 at *;obtain⟨b,hblk⟩:∃ b,w4.heap.size=b:=⟨_,rfl⟩;rw [hblk]at HD ⊢;have bp:b≠p:=Yo;have br:b≠r:=Yo;have HWB:Hid (w.heap.size≤b):=Ph (by show w.heap.size≤b;have:=HWR.out;omega);clear hblk hl_p hl_r;go_wp2_with fail
 refine(zM9 _ [58] W4 (Ph HP.out.pq)).mono ?_;rintro e w5 ⟨⟨v5,rfl⟩,hp⟩;have HQx:=Ph (hp.bk HR.out Yd rp);clear HR;have HR:=HQx;clear HQx;have HQx:=Ph (hp.bk HD.out Yd bp);clear HD;have HD:=HQx;clear HQx;have HQx:=Ph (HP.out.trans hp);clear HP;have HP:=HQx;clear HQx;clear hp;go_wp2_with fail
 refine(jT8 _ w5 (Ph HP.out.pq)).mono ?_;rintro e w6 ⟨rfl,hp⟩;have HQx:=Ph (hp.bk HR.out Yd rp);clear HR;have HR:=HQx;clear HQx;have HQx:=Ph (hp.bk HD.out Yd bp);clear HD;have HD:=HQx;clear HQx;have HQx:=Ph (HP.out.trans hp);clear HP;have HP:=HQx;clear HQx;clear hp;rw [show(((⟨q.s,q.l++[ta]⟩:QSt).on (zL E (⟨q.s,q.l++[ta]⟩:QSt).s)).on (zI E ((⟨q.s,q.l++[ta]⟩:QSt).on (zL E (⟨q.s,q.l++[ta]⟩:QSt).s)).s [58])).s=zI E (zL E q.s) [58] from rfl,HN.out]at HP ⊢;have HPn:Hid (PQ B w p E T ⟨sn,q.l++[ta]⟩ w6):=HP;clear HP;have HP:=HPn;clear HPn;(try dsimp only at HP ⊢);obtain⟨y0,y1,y2⟩:=zJ HD.out;obtain⟨f0,f1,f2,_,_,_,_⟩:=zZ HD.out;have hf:Fr (fun k=>k=b) w6 (w6.setCell ⟨b,1,none⟩ (uI nb)):=(Fr.refl (fun k=>k=b) w6).setCell (p:=⟨b,1,none⟩) (.inl rfl) _;have hwb:w.heap.size≤b:=HWB.out;have HDn:Hid (Bk (w6.setCell ⟨b,1,none⟩ (uI nb)) b 87 #[uR nm,uI nb,uI 0]):=Ph (by have:=HD.out.put 1 (uI nb);simpa using this);have HPn:=Ph (HP.out.box HD.out Yd Yd (cX bp) (lE HB0.out hwb) hwb hf);have HRn:=Ph (HR.out.fr hf (cX br));clear hf;go_upto_region 6 with fail
 generalize (World.setCell _ _ _)=W7 at *;clear HP HR HD y0 y1 y2 f0 f1 f2;have HP:=HPn;have HR:=HRn;have HD:=HDn;clear HPn HRn HDn;obtain⟨x0,x1,x2⟩:=zJ HD.out;obtain⟨y0,y1,y2⟩:=zJ HR.out;obtain⟨f0,f1,f2,_,_,_,_⟩:=zZ HR.out;have HF:=Ph (jD4 W7 r (uR nm) (uI nb) (uI 0));have HK:=Ph (qL7 (v0:=uR nm) (v1:=uI nb) (v2:=uI 0) HR.out);go_wp2_with fail
 generalize (World.setCell _ _ _)=WF at HF HK ⊢;obtain⟨r0,r1,r2⟩:=zJ HK.out;refine lK (v:=deV ⟨nm,(nb:Int),0⟩) (by simp [results,Tryz.results114,go_sem,r0,r1,r2,deV,yX]) rfl ?_;exact⟨rfl,⟨HNL.out,by show(-9223372036854775808:Int)≤(nb:Int);omega,by show(nb:Int)≤9223372036854775807;have:=HLE.out;omega,by show(-9223372036854775808:Int)≤0;decide,by show(0:Int)≤9223372036854775807;decide⟩,HP.out.box HR.out Yd Yd (cX rp) (lE HB0.out HWR.out) HWR.out HF.out⟩
end
end
end Go.Proofs.YtfdaebgllibphaaGreatDoor
