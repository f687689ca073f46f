import Derived.Sort.LoopGhostIn
import Derived.Test.YtfdaebgllibphaaGreatDoorYaw
set_option linter.unusedVariables false
set_option linter.unusedSimpArgs false
set_option maxRecDepth 100000
set_option maxHeartbeats 16000000
namespace Go.Proofs.YtfdaebgllibphaaGreatDoor
section
section
variable {E E':Env} {k a:Nat} {d:Int} {q q':QSt} {P P':Prop} {w:List UInt8}
theorem xF (arr:Bool):∀ (f:Nat) (q:QSt) (out:List Dx) (r:List Dx×QSt),jK E w arr f q out=some r→jJ1 q r
 | 0,_,_,_,h=>by simp [jK]at h
 | f+1,q,out,r,h=>by
   intro he;rcases qT2 h with⟨_,rfl⟩ | ⟨_,hl,⟨_,r1,u1,h1,h2,h3⟩ | ⟨_,h3⟩⟩
   ·exact⟨he,rfl,lF _⟩
   ·obtain⟨e3,d3,l3⟩:=xF arr f _ _ _ h3 he;obtain⟨e4,m4⟩:=wC (E:=E) (s:=zI E u1.s [58]) e3;obtain⟨e5,_,m5⟩:=jU (E:=E) (s:=u1.s) (w:=[58]) e4;obtain⟨e2,m2⟩:=kJ h2 e5;obtain⟨e6,m6⟩:=wC (E:=E) (s:=r1.s) e2;obtain⟨e1,_,m1⟩:=kU h1 e6;obtain⟨e0,_,m0⟩:=kQ (E:=E) (s:=zE q.s) e1;have d3':r.2.s.deep=(jB E (zI E u1.s [58])).2.deep:=d3;rw [m4,m5,m2]at d3';have d3'':r.2.s.deep=(jB E r1.s).2.deep+-1:=d3';rw [m6,m1]at d3'';have d3a:r.2.s.deep=(zL E (zE q.s)).deep+1+-1:=d3'';rw [m0]at d3a;have d3b:r.2.s.deep=q.s.deep+1+-1:=d3a;have l3':u1.l.length≤r.2.l.length:=l3;rw [m2]at l3';have l3'':r1.l.length≤r.2.l.length:=l3';rw [m1]at l3'';have l3a:(q.l++[(zC E q.s).at']).length≤r.2.l.length:=l3'';rw [Ya]at l3a;exact⟨e0,Yo,Yo⟩
   ·obtain⟨e3,d3,l3⟩:=xF arr f _ _ _ h3 he;obtain⟨e4,m4⟩:=wC (E:=E) (s:=zI E (zL E (zE q.s)) [58]) e3;obtain⟨e5,_,m5⟩:=jU (E:=E) (s:=zL E (zE q.s)) (w:=[58]) e4;obtain⟨e0,_,m0⟩:=kQ (E:=E) (s:=zE q.s) e5;have d3':r.2.s.deep=(jB E (zI E (zL E (zE q.s)) [58])).2.deep:=d3;rw [m4,m5,m0]at d3';have l3a:(q.l++[(zC E q.s).at']).length≤r.2.l.length:=l3;rw [Ya]at l3a;exact⟨e0,d3',Yo⟩
theorem jJ6 (L:kT E E' k a) (hw:w≠wH) (h:Blk k a d q.s) (arr:Bool) (f:Nat) (out:List Dx):jK E' w arr (f+1) q out=some (out,q):=by rw [jK,h.is L hw];rfl
theorem zA4 (L:kT E E' k a) (hw:w≠wH) (arr:Bool):∀ (f:Nat) (q q':QSt) (out out':List Dx) (P:Prop) (d:Int) (x:List Dx) (q1:QSt),(P→out'=out)→jK E w arr f q out=some (x,q1)→q1.s.e=0→q1.l.length≤900000→q.s.deep=d→0≤d→d≤200→RQ k a d P q q'→qY7 k a d P x q1 (jK E' w arr (f+8) q' out')
 | 0,_,_,_,_,_,_,_,_,_,h,_,_,_,_,_,_=>by simp [jK]at h
 | f+1,q,q',out,out',P,d,x,q1,ho,h,he,hl,hd,h0,h9,hr=>by
   rw [show f+1+8=(f+8)+1 from by omega];obtain⟨e0,d1,l1⟩:=xF arr _ _ _ _ h he;(try dsimp only at d1 l1);rcases hr with⟨hp,rfl,hn⟩ | ⟨hb,hle⟩
   ·obtain rfl:=ho hp;have hnx:=qO L e0 hn;have hsame:=vC (w:=w) L e0 hn;rcases qT2 h with⟨hi,hr⟩ | ⟨hi,hll,hcase⟩
    ·injection hr with v1 v2;subst v1 v2;rw [jK,hsame,hi];exact⟨_,_,rfl,.inl ⟨⟨hp,rfl⟩,rfl,hn⟩⟩
    ·have hok:okL q'=true:=lH hll;have hqa:RQ k a d True ⟨zE q'.s,q'.l++[(zC E q'.s).at']⟩ ⟨zE q'.s,q'.l++[(zC E q'.s).at']⟩:=RQ.one e0 hd hn trivial;rw [jK,hsame,hi,lM rfl,hok,lM rfl,hnx];dsimp only;rcases hcase with⟨harr,r1,u1,h1,h2,h3⟩ | ⟨harr,h3⟩
     ·subst harr;obtain⟨e3,d3,l3⟩:=xF true f _ _ _ h3 he;obtain⟨e4,m4⟩:=wC (E:=E) (s:=zI E u1.s [58]) e3;obtain⟨e5,_,m5⟩:=jU (E:=E) (s:=u1.s) (w:=[58]) e4;obtain⟨e2,m2⟩:=kJ h2 e5;obtain⟨e6,m6⟩:=wC (E:=E) (s:=r1.s) e2;obtain⟨e1,hd1,m1⟩:=kU h1 e6;obtain⟨_,_,m0⟩:=kQ (E:=E) (s:=zE q'.s) e1;have g1:=RQ.name L hqa hd e1;have hdn:(zL E (zE q'.s)).deep=d:=by rw [m0];exact hd
      obtain⟨r1',j1,j2⟩:=RQ.open L Yd g1 hdn h0 h1 e6;have hdr:r1.s.deep=d+1:=by rw [m1];show(zL E (zE q'.s)).deep+1=d+1;omega
      have j3:=RQ.num L j2 hdr e2;have hdz:(jB E r1.s).2.deep=d+1:=by rw [m6];exact hdr
      obtain⟨u1',k1,k2⟩:=RQ.shut L Yd j3 hdz h0 Yo h2 e5;have hdu:u1.s.deep=d:=by rw [m2];show(jB E r1.s).2.deep+-1=d;omega
      have k3:=RQ.must L (w:=[58]) Yd k2 hdu e4;have hdm:(zI E u1.s [58]).deep=d:=by rw [m5];exact hdu
      have k4:=RQ.num L k3 hdm e3;have hdl:(jB E (zI E u1.s [58])).2.deep=d:=by rw [m4];exact hdm
      rw [lM rfl];have j1':kN E' ⟨zL E' (zE q'.s),q'.l++[(zC E q'.s).at']⟩ [91]=some r1':=j1;rw [j1'];dsimp only;rw [k1];dsimp only;obtain⟨x',q1',i1,i2⟩:=zA4 L hw true f _ _ _ (out'++[⟨jA E' (zE q'.s),(jB E' (zI E' u1'.s [58])).1,(jB E' r1'.s).1⟩]) _ d x q1 (fun hh=>by obtain⟨⟨⟨_,b1⟩,b2⟩,b3⟩:=hh;have b1':jA E' (zE q'.s)=jA E (zE q'.s):=b1;have b3':(jB E' (zI E' u1'.s [58])).1=(jB E (zI E u1.s [58])).1:=b3;rw [b1',b2,b3']) h3 he hl hdl h0 h9 k4;exact⟨x',q1',i1,i2.mono fun hh=>⟨hp,hh.2⟩⟩
     ·subst harr;obtain⟨e3,d3,l3⟩:=xF false f _ _ _ h3 he;obtain⟨e4,m4⟩:=wC (E:=E) (s:=zI E (zL E (zE q'.s)) [58]) e3;obtain⟨e5,_,m5⟩:=jU (E:=E) (s:=zL E (zE q'.s)) (w:=[58]) e4;obtain⟨_,_,m0⟩:=kQ (E:=E) (s:=zE q'.s) e5;have g1:=RQ.name L hqa hd e5;have hdn:(zL E (zE q'.s)).deep=d:=by rw [m0];exact hd
      have k3:=RQ.must L (w:=[58]) Yd g1 hdn e4;have hdm:(zI E (zL E (zE q'.s)) [58]).deep=d:=by rw [m5];exact hdn
      have k4:=RQ.num L k3 hdm e3;have hdl:(jB E (zI E (zL E (zE q'.s)) [58])).2.deep=d:=by rw [m4];exact hdm
      rw [lN Yd];obtain⟨x',q1',i1,i2⟩:=zA4 L hw false f _ _ _ (out'++[⟨jA E' (zE q'.s),(jB E' (zI E' (zL E' (zE q'.s)) [58])).1,0⟩]) _ d x q1 (fun hh=>by obtain⟨⟨_,b1⟩,b3⟩:=hh;have b1':jA E' (zE q'.s)=jA E (zE q'.s):=b1;have b3':(jB E' (zI E' (zL E' (zE q'.s)) [58])).1=(jB E (zI E (zL E (zE q'.s)) [58])).1:=b3;rw [b1',b3']) h3 he hl hdl h0 h9 k4;exact⟨x',q1',i1,i2.mono fun hh=>⟨hp,hh.2⟩⟩
   ·exact⟨out',q',jJ6 L hw hb arr _ _,.inr ⟨hb,Yo⟩⟩
theorem zA5 (he:(qV E q).2.s.e=0):q.s.e=0∧(qV E q).2.s.deep=q.s.deep∧(qV E q).2.l.length=q.l.length+1∧(zI E (zL E q.s) [58]).e=0∧(zL E q.s).e=0∧(zI E (zL E q.s) [58]).deep=q.s.deep∧(zL E q.s).deep=q.s.deep:=by
 obtain⟨e4,m4⟩:=wC (E:=E) (s:=zI E (zL E q.s) [58]) he;obtain⟨e5,_,m5⟩:=jU (E:=E) (s:=zL E q.s) (w:=[58]) e4;obtain⟨e0,_,m0⟩:=kQ (E:=E) (s:=q.s) e5;refine⟨e0,?_,by unfold qV;simp,e4,e5,?_,?_⟩
 ·show(jB E (zI E (zL E q.s) [58])).2.deep=q.s.deep;rw [m4,m5,m0];rfl
 ·rw [m5,m0];rfl
 ·rw [m0];rfl
theorem qJ3 (L:kT E E' k a) (hr:RQ k a d P q q') (hd:q.s.deep=d) (he:(qV E q).2.s.e=0):RQ k a d (P∧(qV E' q').1=(qV E q).1) (qV E q).2 (qV E' q').2:=by
 obtain⟨e0,_,_,e4,e5,d4,d5⟩:=zA5 he;rcases hr with⟨hp,rfl,hn⟩ | ⟨hb,hle⟩
 ·have hnx:=qO L e0 hn;have g0:RQ k a d P (q'.at E) (q'.at E):=.inl ⟨hp,rfl,hn⟩;have g1:=RQ.name L g0 hd e5;have g2:=RQ.must L (w:=[58]) Yd g1 (d5.trans hd) e4;have g3:=RQ.num L g2 (d4.trans hd) he;have hl:(qV E' q').2=⟨(jB E' (zI E' (zL E' q'.s) [58])).2,q'.l++[(zC E q'.s).at']⟩:=by unfold qV;rw [hnx]
  rw [hl];refine g3.mono fun⟨⟨b1,b2⟩,b3⟩=>⟨b1,?_⟩;have b2':jA E' q'.s=jA E q'.s:=b2;have b3':(jB E' (zI E' (zL E' q'.s) [58])).1=(jB E (zI E (zL E q'.s) [58])).1:=b3;unfold qV;dsimp only;rw [b2',b3']
 ·have g1:=hb.name L;have g2:=g1.1.must L (w:=[58]) Yd;have g3:=g2.1.num L;refine .inr ⟨g3.1,?_⟩;show(q'.l++[(zC E' q'.s).at']).length+ze (jB E' (zI E' (zL E' q'.s) [58])).2≤(q.l++[(zC E q.s).at']).length+1;rw [Ya,Ya,g3.2];simp only [Yc,Yn];omega
theorem wM:∀ (f:Nat) (q:QSt) (out:List Dx) (r:List Dx×QSt),jN E f q out=some r→jJ1 q r
 | 0,_,_,_,h=>by simp [jN]at h
 | f+1,q,out,r,h=>by
   intro he;rcases zA8 h with⟨_,rfl⟩ | ⟨_,hl,h3⟩
   ·exact⟨he,rfl,lF _⟩
   ·obtain⟨e3,d3,l3⟩:=wM f _ _ _ h3 he;obtain⟨e0,d0,l0,_⟩:=zA5 e3;have l0':(qV E (q.on (zE q.s))).2.l.length=q.l.length+1:=l0;exact⟨e0,d3.trans d0,Yo⟩
theorem zY9 (L:kT E E' k a) (h:Blk k a d q.s) (f:Nat) (out:List Dx):jN E' (f+1) q out=some (out,q):=by rw [jN,h.is L Yd];rfl
theorem zZ1 (L:kT E E' k a):∀ (f:Nat) (q q':QSt) (out out':List Dx) (P:Prop) (d:Int) (x:List Dx) (q1:QSt),(P→out'=out)→jN E f q out=some (x,q1)→q1.s.e=0→q1.l.length≤900000→q.s.deep=d→0≤d→d≤200→RQ k a d P q q'→qY7 k a d P x q1 (jN E' (f+8) q' out')
 | 0,_,_,_,_,_,_,_,_,_,h,_,_,_,_,_,_=>by simp [jN]at h
 | f+1,q,q',out,out',P,d,x,q1,ho,h,he,hl,hd,h0,h9,hr=>by
   rw [show f+1+8=(f+8)+1 from by omega];obtain⟨e0,d1,l1⟩:=wM _ _ _ _ h he;(try dsimp only at d1 l1);rcases hr with⟨hp,rfl,hn⟩ | ⟨hb,hle⟩
   ·obtain rfl:=ho hp;have hsame:=vC (w:=[44]) L e0 hn;rcases zA8 h with⟨hi,hr⟩ | ⟨hi,hll,h3⟩
    ·injection hr with v1 v2;subst v1 v2;rw [jN,hsame,hi];exact⟨_,_,rfl,.inl ⟨⟨hp,rfl⟩,rfl,hn⟩⟩
    ·have hok:okL q'=true:=lH hll;rw [jN,hsame,hi,lM rfl,hok,lM rfl];obtain⟨e3,d3,l3⟩:=wM f _ _ _ h3 he;obtain⟨_,d4,_⟩:=zA5 e3;have hqa:RQ k a d True (q'.on (zE q'.s)) (q'.on (zE q'.s)):=RQ.one e0 hd hn trivial;have g1:=qJ3 L hqa hd e3;obtain⟨x',q1',i1,i2⟩:=zZ1 L f _ _ _ (out'++[(qV E' (q'.on (zE q'.s))).1]) _ d x q1 (fun hh=>by rw [hh.2]) h3 he hl (d4.trans hd) h0 h9 g1;exact⟨x',q1',i1,i2.mono fun hh=>⟨hp,hh.2⟩⟩
   ·exact⟨out',q',zY9 L hb _ _,.inr ⟨hb,Yo⟩⟩
theorem kC8 {f:Nat} {q1 q2 q3 q4:QSt} {ps:List Dx} {b:List Sx} (h1:kN E (q.on (zL E q.s)) [40]=some q1)
 (h2:(if (zC E q1.s).text≠[41]∧q1.s.e=0 then(if okL q1 then jN E f (qV E q1).2 [(qV E q1).1] else none) else some ([],q1))=some (ps,q2)) (h3:jX E q2 [41]=some q3) (h4:kE E f q3=some (b,q4)):zH1 E f q=some (⟨jA E q.s,ps,b⟩,q4):=by
 unfold zH1;simp only [cG];rw [h1];simp only [lP];rw [h2];simp only [lP];rw [h3];simp only [lP];rw [h4];rfl
theorem qT7 {f:Nat} {r:Rx×QSt} (h:zH1 E f q=some r):jJ1 q r:=by
 intro he;obtain⟨x,q'⟩:=r;obtain⟨q1,ps,q2,q3,b,h1,h2,h3,h4,_⟩:=zJ1 h;obtain⟨e4,d4,l4⟩:=(qO1 E f).body _ _ h4 he;obtain⟨e3,m3⟩:=kJ h3 e4;have h12:q1.s.e=0∧q2.s.deep=q1.s.deep∧q1.l.length≤q2.l.length:=by
  rcases h2 with⟨_,_,_,h2⟩ | ⟨_,_,rfl⟩
  ·obtain⟨e2,d2,l2⟩:=wM _ _ _ _ h2 e3;obtain⟨e1,d1,l1,_⟩:=zA5 e2;(try dsimp only at d2 l2);exact⟨e1,d2.trans d1,Yo⟩
  ·exact⟨e3,rfl,lF _⟩
 obtain⟨e1,d1,l1⟩:=h12;obtain⟨e0,_,m1⟩:=kU h1 e1;obtain⟨e,_,m0⟩:=kQ (E:=E) (s:=q.s) e0;(try dsimp only at d4 l4 ⊢);rw [m3]at d4 l4;have d4':q'.s.deep=q2.s.deep+-1:=d4;have l4':q2.l.length≤q'.l.length:=l4;have d1':q1.s.deep=(zL E q.s).deep+1:=by rw [m1];rfl
 have l1':q1.l.length=q.l.length:=by rw [m1];rfl
 rw [m0]at d1';have d1'':q1.s.deep=q.s.deep+1:=d1';exact⟨e,Yo,Yo⟩
theorem jR1 (L:kT E E' k a) {f:Nat} {x:Rx} {q1:QSt} (h:zH1 E f q=some (x,q1)) (he:q1.s.e=0) (hl:q1.l.length≤900000) (hd:q.s.deep=d) (h0:0≤d) (h9:d≤200) (hr:RQ k a d P q q'):qY7 k a d P x q1 (zH1 E' (f+8) q'):=by
 obtain⟨qa,ps,qb,qc,b,h1,h2,h3,h4,rfl⟩:=zJ1 h;obtain⟨e4,d4,l4⟩:=(qO1 E f).body _ _ h4 he;obtain⟨e3,m3⟩:=kJ h3 e4;have h12:qa.s.e=0∧qb.s.deep=qa.s.deep∧qa.l.length≤qb.l.length:=by
  rcases h2 with⟨_,_,_,h2⟩ | ⟨_,_,rfl⟩
  ·obtain⟨e2,d2,l2⟩:=wM _ _ _ _ h2 e3;obtain⟨e1,d1,l1,_⟩:=zA5 e2;(try dsimp only at d2 l2);exact⟨e1,d2.trans d1,Yo⟩
  ·exact⟨e3,rfl,lF _⟩
 obtain⟨e1,d1,l1⟩:=h12;obtain⟨e0,hd1,m1⟩:=kU h1 e1;obtain⟨e,_,m0⟩:=kQ (E:=E) (s:=q.s) e0;(try dsimp only at d4 l4 e4);have hlb:qc.l.length=qb.l.length:=by rw [m3]
 have hdn:(q.on (zL E q.s)).s.deep=d:=by show(zL E q.s).deep=d;rw [m0];exact hd
 have hda:qa.s.deep=d+1:=by rw [m1];show(q.on (zL E q.s)).s.deep+1=d+1;omega
 have hdb:qb.s.deep=d+1:=d1.trans hda;have hdc:qc.s.deep=d:=by rw [m3];show qb.s.deep+-1=d;omega
 have hn:=RQ.name L hr hd e0;obtain⟨qa',g1,g2⟩:=RQ.open L Yd hn hdn h0 h1 e1;have hm:∃ ps' qb',(if (zC E' qa'.s).text≠[41]∧qa'.s.e=0 then(if okL qa' then jN E' (f+8) (qV E' qa').2 [(qV E' qa').1] else none) else some ([],qa'))=some (ps',qb')∧RQ k a (d+1) ((P∧jA E' q'.s=jA E q.s)∧ps'=ps) qb qb':=by
  rcases g2 with⟨hp,rfl,hnk⟩ | ⟨hb,hle⟩
  ·have hnx:=qO L e1 hnk;rw [hnx];rcases h2 with⟨c1,c2,hll,h2⟩ | ⟨hc,rfl,rfl⟩
   ·have hok:okL qa'=true:=lH hll;rw [lM ⟨c1,c2⟩,hok,lM rfl];obtain⟨e2,d2,l2⟩:=wM _ _ _ _ h2 e3;obtain⟨_,d5,_⟩:=zA5 e2;have g3:=qJ3 L (P:=True) (.inl ⟨trivial,rfl,hnk⟩) hda e2;obtain⟨ps',qb',j1,j2⟩:=zZ1 L f _ _ _ [(qV E' qa').1] _ (d+1) ps qb (fun hh=>by rw [hh.2]) h2 e3 Yo (d5.trans hda) Yo Yo g3;exact⟨ps',qb',j1,j2.mono fun hh=>⟨hp,hh.2⟩⟩
   ·rw [lN hc];exact⟨_,_,rfl,.inl ⟨⟨hp,rfl⟩,rfl,hnk⟩⟩
  ·by_cases hc:(zC E' qa'.s).text≠[41]∧qa'.s.e=0
   ·have hok:okL qa'=true:=lH Yo;rw [lM hc,hok,lM rfl];have b1:=hb.name L;have b2:=b1.1.must L (w:=[58]) Yd;have b3:=b2.1.num L;have b4:Blk k a (d+1) (qV E' qa').2.s:=b3.1;rw [show f+8=(f+7)+1 from rfl,zY9 L b4];refine⟨_,_,rfl,.inr ⟨b4,?_⟩⟩;show(qa'.l++[(zC E' qa'.s).at']).length+ze (jB E' (zI E' (zL E' qa'.s) [58])).2≤qb.l.length+1;rw [Ya,b3.2];have:ze qa'.s=1:=by unfold ze;rw [lM hc.2]
    simp only [Yc,Yn];omega
   ·rw [lN hc];exact⟨_,_,rfl,.inr ⟨hb,Yo⟩⟩
 obtain⟨ps',qb',j1,j2⟩:=hm;obtain⟨qc',i1,i2⟩:=RQ.shut L Yd j2 hdb h0 Yo h3 e4;obtain⟨b',q1',u1,u2⟩:=(kE2 L f).body _ _ _ d _ _ h4 he hl hdc h0 h9 i2;refine⟨_,_,kC8 g1 j1 i1 u1,u2.mono fun⟨⟨⟨b1,b2⟩,b3⟩,b4⟩=>⟨b1,by rw [b2,b3,b4]⟩⟩
theorem zL4:∀ (f:Nat) (q:QSt) (out:List Rx) (r:List Rx×QSt),kX E f q out=some r→jJ1 q r
 | 0,_,_,_,h=>by simp [kX]at h
 | f+1,q,out,r,h=>by
   intro he;rcases zN3 h with⟨_,rfl⟩ | ⟨_,hl,x,q1,h1,h3⟩
   ·exact⟨he,rfl,lF _⟩
   ·obtain⟨e3,d3,l3⟩:=zL4 f _ _ _ h3 he;obtain⟨e1,d1,l1⟩:=qT7 h1 e3;(try dsimp only at l1);rw [Ya]at l1;exact⟨e1,d3.trans d1,Yo⟩
theorem jR2 {f:Nat} {out:List Rx} {x:Rx} {q2:QSt} (hi:isP E q.s (bs "proc")=true) (hok:okL q=true) (h1:zH1 E f ⟨zE q.s,q.l++[(zC E q.s).at']⟩=some (x,q2)):kX E (f+1) q out=kX E f q2 (out++[x]):=by rw [kX,lM hi,lM hok,h1];rfl
theorem qJ4 (L:kT E E' k a):∀ (f:Nat) (q q':QSt) (out out':List Rx) (P:Prop) (d:Int) (x:List Rx) (q1:QSt),(P→out'=out)→kX E f q out=some (x,q1)→q1.s.e=0→q1.l.length≤900000→q.s.deep=d→0≤d→d≤200→RQ k a d P q q'→qY7 k a d P x q1 (kX E' (f+8) q' out')
 | 0,_,_,_,_,_,_,_,_,_,h,_,_,_,_,_,_=>by simp [kX]at h
 | f+1,q,q',out,out',P,d,x,q1,ho,h,he,hl,hd,h0,h9,hr=>by
   rw [show f+1+8=(f+8)+1 from by omega];obtain⟨e0,d1,l1⟩:=zL4 _ _ _ _ h he;(try dsimp only at d1 l1);rcases hr with⟨hp,rfl,hn⟩ | ⟨hb,hle⟩
   ·obtain rfl:=ho hp;have hsame:=vC (w:=bs "proc") L e0 hn;rcases zN3 h with⟨hi,hr⟩ | ⟨hi,hll,y,q2,h1,h3⟩
    ·injection hr with v1 v2;subst v1 v2;rw [kX,hsame,hi];exact⟨_,_,rfl,.inl ⟨⟨hp,rfl⟩,rfl,hn⟩⟩
    ·have hok:okL q'=true:=lH hll;obtain⟨e3,d3,l3⟩:=zL4 f _ _ _ h3 he;obtain⟨_,d4,l4⟩:=qT7 h1 e3;(try dsimp only at d3 l3 d4 e3);have hqa:RQ k a d True ⟨zE q'.s,q'.l++[(zC E q'.s).at']⟩ ⟨zE q'.s,q'.l++[(zC E q'.s).at']⟩:=RQ.one e0 hd hn trivial;obtain⟨y',q2',g1,g2⟩:=jR1 L h1 e3 Yo hd h0 h9 hqa;rw [jR2 (by rw [hsame,hi]) hok (by rw [qO L e0 hn];exact g1)];obtain⟨x',q1',i1,i2⟩:=qJ4 L f _ _ _ (out'++[y']) _ d x q1 (fun hh=>by rw [hh.2]) h3 he hl (d4.trans hd) h0 h9 g2;exact⟨x',q1',i1,i2.mono fun hh=>⟨hp,hh.2⟩⟩
   ·exact⟨out',q',by rw [kX,hb.is L Yd];rfl,.inr ⟨hb,Yo⟩⟩
theorem zL5:∀ (f:Nat) (q:QSt) (out:List Ix) (r:List Ix×QSt),kY E f q out=some r→jJ1 q r
 | 0,_,_,_,h=>by simp [kY]at h
 | f+1,q,out,r,h=>by
   intro he;rcases zN4 h with⟨_,rfl⟩ | ⟨_,hl,x,q1,h1,h3⟩
   ·exact⟨he,rfl,lF _⟩
   ·obtain⟨e3,d3,l3⟩:=zL5 f _ _ _ h3 he;obtain⟨e1,d1,l1⟩:=jD h1 e3;obtain⟨e2,_,m2⟩:=jU (E:=E) (s:=(jB E (zE q.s)).2) (w:=[61]) e1;obtain⟨e4,m4⟩:=wC (E:=E) (s:=zE q.s) e2;(try dsimp only at l1 d1);rw [Ya]at l1;rw [m2,m4]at d1;exact⟨e4,d3.trans d1,Yo⟩
theorem jR3 {f:Nat} {out:List Ix} {x:Ex} {q2:QSt} (hi:isP E q.s (bs "init")=true) (hok:okL q=true) (h1:qS E f ⟨zI E (jB E (zE q.s)).2 [61],q.l++[(zC E q.s).at']⟩=some (x,q2)):kY E (f+1) q out=kY E f q2 (out++[⟨(jB E (zE q.s)).1,x⟩]):=by rw [kY,lM hi,lM hok];dsimp only;rw [h1];rfl
theorem qJ5 (L:kT E E' k a):∀ (f:Nat) (q q':QSt) (out out':List Ix) (P:Prop) (d:Int) (x:List Ix) (q1:QSt),(P→out'=out)→kY E f q out=some (x,q1)→q1.s.e=0→q1.l.length≤900000→q.s.deep=d→0≤d→d≤200→RQ k a d P q q'→qY7 k a d P x q1 (kY E' (f+8) q' out')
 | 0,_,_,_,_,_,_,_,_,_,h,_,_,_,_,_,_=>by simp [kY]at h
 | f+1,q,q',out,out',P,d,x,q1,ho,h,he,hl,hd,h0,h9,hr=>by
   rw [show f+1+8=(f+8)+1 from by omega];obtain⟨e0,d1,l1⟩:=zL5 _ _ _ _ h he;(try dsimp only at d1 l1);rcases hr with⟨hp,rfl,hn⟩ | ⟨hb,hle⟩
   ·obtain rfl:=ho hp;have hsame:=vC (w:=bs "init") L e0 hn;rcases zN4 h with⟨hi,hr⟩ | ⟨hi,hll,y,q2,h1,h3⟩
    ·injection hr with v1 v2;subst v1 v2;rw [kY,hsame,hi];exact⟨_,_,rfl,.inl ⟨⟨hp,rfl⟩,rfl,hn⟩⟩
    ·have hok:okL q'=true:=lH hll;obtain⟨e3,d3,l3⟩:=zL5 f _ _ _ h3 he;obtain⟨e1,d4,l4⟩:=jD h1 e3;obtain⟨e2,_,m2⟩:=jU (E:=E) (s:=(jB E (zE q'.s)).2) (w:=[61]) e1;obtain⟨e4,m4⟩:=wC (E:=E) (s:=zE q'.s) e2;(try dsimp only at d3 l3 d4 e3);have hqa:RQ k a d True ⟨zE q'.s,q'.l++[(zC E q'.s).at']⟩ ⟨zE q'.s,q'.l++[(zC E q'.s).at']⟩:=RQ.one e0 hd hn trivial;have hdn:(jB E (zE q'.s)).2.deep=d:=by rw [m4];exact hd
     have hdm:(zI E (jB E (zE q'.s)).2 [61]).deep=d:=by rw [m2];exact hdn
     have g1:=RQ.num L hqa hd e2;have g2:=RQ.must L (w:=[61]) Yd g1 hdn e1;obtain⟨y',q2',g3,g4⟩:=RQ.expr L g2 hdm h0 h9 h1 e3 Yo;rw [jR3 (by rw [hsame,hi]) hok (by rw [qO L e0 hn];exact g3)];obtain⟨x',q1',i1,i2⟩:=qJ5 L f _ _ _ (out'++[⟨(jB E' (zE q'.s)).1,y'⟩]) _ d x q1 (fun hh=>by have b1:(jB E' (zE q'.s)).1=(jB E (zE q'.s)).1:=hh.1.2;rw [hh.2,b1]) h3 he hl (d4.trans hdm) h0 h9 g4;exact⟨x',q1',i1,i2.mono fun hh=>⟨hp,hh.2⟩⟩
   ·exact⟨out',q',by rw [kY,hb.is L Yd];rfl,.inr ⟨hb,Yo⟩⟩
theorem qY9 {f:Nat} {nb nw:Nat×PSt} {is gs vs az:List Dx} {ins:List Ix} {ps:List Rx} {wk rc:List Sx} {rq iv:Ex} {q1 q2 q3 q4 q5 q6 q7 q8 q9 q10:QSt} (hb:jB E (zI E (q.at E).s (bs "device"))=nb) (hw:jB E (zI E nb.2 (bs "width"))=nw)
 (h1:jK E (bs "input") false f ((q.at E).on nw.2) []=some (is,q1)) (h2:jK E (bs "ghost") false f q1 []=some (gs,q2)) (h3:jK E (bs "var") false f q2 []=some (vs,q3)) (h4:jK E (bs "array") true f q3 []=some (az,q4))
 (h5:(if isP E q4.s (bs "require") then qS E f (q4.on (zE q4.s)) else if okL q4 then some (.mk 1 0 1 1 [] [],q4.at E) else none)=some (rq,q5))
 (h6:kY E f q5 []=some (ins,q6)) (h7:kX E f q6 []=some (ps,q7)) (h8:kE E f (q7.on (zI E q7.s (bs "work")))=some (wk,q8)) (h9:kE E f (q8.on (zI E q8.s (bs "recover")))=some (rc,q9)) (h10:qS E f (q9.on (zI E q9.s (bs "invariant")))=some (iv,q10)) :
 kH E f q=some (⟨nb.1,nw.1,is,gs,vs,az,rq,ins,ps,wk,rc,iv⟩,q10):=by
 subst hb hw;unfold kH;dsimp only;simp only [cG];rw [h1];simp only [lP];rw [h2];simp only [lP];rw [h3];simp only [lP];rw [h4];simp only [lP];rw [h5];simp only [lP];rw [h6];simp only [lP];rw [h7];simp only [lP];rw [h8];simp only [lP];rw [h9];simp only [lP];rw [h10];rfl
theorem qO2 (L:kT E E' k a) (hk:0<k) {f:Nat} {x:Gx} {q1:QSt} (h:kH E f ⟨⟨0,0,0,0⟩,[]⟩=some (x,q1)) (he:q1.s.e=0) (hl:q1.l.length≤900000) :
 ∃ x' q1',kH E' (f+8) ⟨⟨0,0,0,0⟩,[]⟩=some (x',q1')∧((x'=x∧q1'=q1∧q1.s.n<k)∨(Blk k a 0 q1'.s∧(q1'.s.e=0→x'.work=x.work∧∃ (i:Nat) (t:Tk),i<k∧E'.toks[i]?=some t∧t.text=bs "invariant"))):=by
 obtain⟨nb,nw,is,qa,gs,qb,vs,qc,az,qd,rq,qe,ins,qf,ps,qg,wk,qh,rc,qi,iv,hnb,hnw,h1,h2,h3,h4,h5,h6,h7,h8,h9,h10,rfl⟩:=zP4 h;obtain⟨e10,d10,l10⟩:=jD h10 he;obtain⟨e10',i10,m10⟩:=jU (E:=E) (s:=qi.s) (w:=bs "invariant") e10;obtain⟨e9,d9,l9⟩:=(qO1 E f).body _ _ h9 e10';obtain⟨e9',_,m9⟩:=jU (E:=E) (s:=qh.s) (w:=bs "recover") e9;obtain⟨e8,d8,l8⟩:=(qO1 E f).body _ _ h8 e9';obtain⟨e8',_,m8⟩:=jU (E:=E) (s:=qg.s) (w:=bs "work") e8;obtain⟨e7,d7,l7⟩:=zL4 _ _ _ _ h7 e8';obtain⟨e6,d6,l6⟩:=zL5 _ _ _ _ h6 e7;(try dsimp only at d10 l10 d9 l9 d8 l8 d7 l7 d6 l6);have h55:qd.s.e=0∧qe.s.deep=qd.s.deep∧qd.l.length+1≤qe.l.length:=by
  rcases h5 with⟨_,h5⟩ | ⟨_,_,_,rfl⟩
  ·obtain⟨X,s,c1,_,c3⟩:=qC6 h5;injection c3 with c3 c4;subst c4;obtain⟨e5,d5,l5⟩:=(zW6 E f).choice _ _ c1 e6;refine⟨e5,d5,?_⟩;show qd.l.length+1≤(qd.l++X.2).length;rw [Ya];(try dsimp only at l5);omega
  ·exact⟨e6,rfl,by show qd.l.length+1≤(qd.l++[(zC E qd.s).at']).length;simp⟩
 obtain⟨e5,d5,l5⟩:=h55;obtain⟨e4,d4,l4⟩:=xF _ _ _ _ _ h4 e5;obtain⟨e3,d3,l3⟩:=xF _ _ _ _ _ h3 e4;obtain⟨e2,d2,l2⟩:=xF _ _ _ _ _ h2 e3;obtain⟨e1,d1,l1⟩:=xF _ _ _ _ _ h1 e2;(try dsimp only at d4 l4 d3 l3 d2 l2 d1 l1);have e1':nw.2.e=0:=e1;rw [←hnw]at e1';obtain⟨ew,mw⟩:=wC e1';obtain⟨eb,_,mb⟩:=jU ew;have eb':(jB E (zI E (QSt.at E ⟨⟨0,0,0,0⟩,[]⟩).s (bs "device"))).2.e=0:=by rw [hnb];exact eb
 obtain⟨ed,md⟩:=wC eb';obtain⟨e0,i0,m0⟩:=jU ed;have z0:(zI E (QSt.at E ⟨⟨0,0,0,0⟩,[]⟩).s (bs "device")).deep=0:=by rw [m0];rfl
 have z1:nb.2.deep=0:=by rw [←hnb,md];exact z0
 have z2:(zI E nb.2 (bs "width")).deep=0:=by rw [mb];exact z1
 have z3:nw.2.deep=0:=by rw [←hnw,mw];exact z2
 have za:qa.s.deep=0:=d1.trans z3;have zb:qb.s.deep=0:=d2.trans za;have zc:qc.s.deep=0:=d3.trans zb;have zd:qd.s.deep=0:=d4.trans zc;have z5:qe.s.deep=0:=d5.trans zd;have zf:qf.s.deep=0:=d6.trans z5;have zg:qg.s.deep=0:=d7.trans zf;have z8:(zI E qg.s (bs "work")).deep=0:=by rw [m8];exact zg
 have zh:qh.s.deep=0:=d8.trans z8;have z9:(zI E qh.s (bs "recover")).deep=0:=by rw [m9];exact zh
 have zi:qi.s.deep=0:=d9.trans z9;have z10:(zI E qi.s (bs "invariant")).deep=0:=by rw [m10];exact zi
 have l10':qi.l.length≤q1.l.length:=l10;have l9':qh.l.length≤qi.l.length:=l9;have l8':qg.l.length≤qh.l.length:=l8;have hnx:zC E' (⟨0,0,0,0⟩:PSt)=zC E ⟨0,0,0,0⟩:=qO L rfl hk;have hat:QSt.at E' ⟨⟨0,0,0,0⟩,[]⟩=QSt.at E ⟨⟨0,0,0,0⟩,[]⟩:=by unfold QSt.at;rw [hnx]
 have hm0:zI E' (QSt.at E ⟨⟨0,0,0,0⟩,[]⟩).s (bs "device")=zI E (QSt.at E ⟨⟨0,0,0,0⟩,[]⟩).s (bs "device"):=zL1 L rfl hk;obtain⟨nb',hnb'⟩:∃ y,jB E' (zI E' (QSt.at E' ⟨⟨0,0,0,0⟩,[]⟩).s (bs "device"))=y:=⟨_,rfl⟩;obtain⟨nw',hnw'⟩:∃ y,jB E' (zI E' nb'.2 (bs "width"))=y:=⟨_,rfl⟩;have hnb2:=hnb';rw [hat]at hnb2;have i00:(QSt.at E ⟨⟨0,0,0,0⟩,[]⟩).s.e=0:=rfl;have i01:(QSt.at E ⟨⟨0,0,0,0⟩,[]⟩).s.deep=0:=rfl;have i02:(QSt.at E ⟨⟨0,0,0,0⟩,[]⟩).s.n≤0:=lF _;rw [hat]at hnb';generalize QSt.at E ⟨⟨0,0,0,0⟩,[]⟩=S0 at *;have r0:RQ k a 0 True (S0.on (zI E S0.s (bs "device"))) (S0.on (zI E' S0.s (bs "device"))):=by rw [hm0,m0];exact RQ.one i00 i01 (by show S0.s.n+1≤k;omega) trivial
 have r1:RQ k a 0 (nb'.1=nb.1) (S0.on nb.2) (S0.on nb'.2):=by have:=RQ.num L r0 z0 eb';rw [←hnb,←hnb'];exact this.mono fun hh=>hh.2
 have r2:=RQ.must L (w:=bs "width") Yd r1 z1 ew;have r3:RQ k a 0 (nb'.1=nb.1∧nw'.1=nw.1) (S0.on nw.2) (S0.on nw'.2):=by have:=RQ.num L r2 z2 e1';rw [←hnw,←hnw'];exact this
 have r3':=r3;obtain⟨is',qa',g1,u1⟩:=zA4 L (w:=bs "input") Yd false f _ _ [] [] _ 0 _ _ (fun _=>rfl) h1 e2 Yo z3 Yo Yo r3';obtain⟨gs',qb',g2,u2⟩:=zA4 L (w:=bs "ghost") Yd false f _ _ [] [] _ 0 _ _ (fun _=>rfl) h2 e3 Yo za Yo Yo u1;obtain⟨vs',qc',g3,u3⟩:=zA4 L (w:=bs "var") Yd false f _ _ [] [] _ 0 _ _ (fun _=>rfl) h3 e4 Yo zb Yo Yo u2;obtain⟨as',qd',g4,u4⟩:=zA4 L (w:=bs "array") Yd true f _ _ [] [] _ 0 _ _ (fun _=>rfl) h4 e5 Yo zc Yo Yo u3;have h5':∃ rq' qe',(if isP E' qd'.s (bs "require") then qS E' (f+8) (qd'.on (zE qd'.s)) else if okL qd' then some (.mk 1 0 1 1 [] [],qd'.at E') else none)=some (rq',qe')∧RQ k a 0 ((((((nb'.1=nb.1∧nw'.1=nw.1)∧is'=is)∧gs'=gs)∧vs'=vs)∧as'=az)∧rq'=rq) qe qe':=by
  rcases u4 with⟨hp,rfl,hnk⟩ | ⟨hb,hble⟩
  ·rw [vC L e5 hnk];rcases h5 with⟨hi,h5⟩ | ⟨hi,hll,rfl,rfl⟩
   ·rw [lM hi];obtain⟨rq',qe',j1,j2⟩:=RQ.expr L (P:=True) (RQ.one (q:=qd'.on (zE qd'.s)) e5 zd hnk trivial) zd Yo Yo h5 e6 Yo;exact⟨rq',qe',j1,j2.mono fun hh=>⟨hp,hh.2⟩⟩
   ·rw [lN (by rw [hi];decide),lM (show okL qd'=true from lH hll)];have:qd'.at E'=qd'.at E:=by unfold QSt.at;rw [qO L e5 hnk]
    rw [this];exact⟨_,_,rfl,.inl ⟨⟨hp,rfl⟩,rfl,hnk⟩⟩
  ·rw [hb.is L Yd,lN Yd,lM (show okL qd'=true from lH Yo)];refine⟨_,_,rfl,.inr ⟨hb,?_⟩⟩;show(qd'.l++[(zC E' qd'.s).at']).length+ze qd'.s≤qe.l.length+1;rw [Ya];simp only [Yc,Yn];omega
 obtain⟨rq',qe',g5,u5⟩:=h5';obtain⟨ins',qf',g6,u6⟩:=qJ5 L f _ _ [] [] _ 0 _ _ (fun _=>rfl) h6 e7 Yo z5 Yo Yo u5;obtain⟨ps',qg',g7,u7⟩:=qJ4 L f _ _ [] [] _ 0 _ _ (fun _=>rfl) h7 e8' Yo zf Yo Yo u6;have u7':=RQ.must L (w:=bs "work") Yd u7 zg e8;obtain⟨wk',qh',g8,u8⟩:=(kE2 L f).body _ _ _ 0 _ _ h8 e9' Yo z8 Yo Yo u7';have u8':=RQ.must L (w:=bs "recover") Yd u8 zh e9;obtain⟨rc',qi',g9,u9⟩:=(kE2 L f).body _ _ _ 0 _ _ h9 e10' Yo z9 Yo Yo u8';have u9':=RQ.must L (w:=bs "invariant") Yd u9 zi e10;obtain⟨iv',qj',g10,u10⟩:=RQ.expr L u9' z10 Yo Yo h10 he hl;refine⟨_,qj',qY9 (by rw [hat];exact hnb') hnw' (by rw [hat];exact g1) g2 g3 g4 g5 g6 g7 g8 g9 g10,?_⟩;rcases u10 with⟨hp,rfl,hnk⟩ | ⟨hb,hble⟩
 ·obtain⟨⟨⟨⟨⟨⟨⟨⟨⟨⟨⟨b1,b2⟩,b3⟩,b4⟩,b5⟩,b6⟩,b7⟩,b8⟩,b9⟩,b10⟩,b11⟩,b12⟩:=hp;exact .inl ⟨by rw [b1,b2,b3,b4,b5,b6,b7,b8,b9,b10,b11,b12],rfl,hnk⟩
 ·refine .inr ⟨hb,fun hz=>?_⟩;rcases u9 with⟨hp,rfl,hnk⟩ | ⟨hb9,_⟩
  ·obtain⟨⟨⟨⟨⟨⟨⟨⟨⟨⟨b1,b2⟩,b3⟩,b4⟩,b5⟩,b6⟩,b7⟩,b8⟩,b9⟩,b10⟩,b11⟩:=hp;refine⟨b10,qi'.s.n,?_⟩;obtain⟨t,t1,t2⟩:=L.same _ hnk;refine⟨t,hnk,t2,?_⟩;unfold isP at i10;simp only [lZ,cC]at i10;have:zC E qi'.s=t:=by unfold zC;rw [lN Yo,t1]
   rw [this]at i10;exact i10.2
  ·exfalso;have hz9:=(hb9.must L (w:=bs "invariant") Yd);obtain⟨⟨iv2,q2⟩,c1,c2,c3⟩:=zF7 (q:=qi'.on (zI E' qi'.s (bs "invariant"))) L hz9.1 (f+4) Yo Yo (by
    rcases u9' with⟨_,hq,hnk⟩ | ⟨_,hble2⟩
    ·rw [hq];show qi.l.length≤2000000;omega
    ·have:(qi.on (zI E qi.s (bs "invariant"))).l=qi.l:=rfl;rw [this]at hble2;omega)
   rw [show f+4+4=f+8 from rfl,g10]at c1;injection c1 with c1;injection c1 with c1 c4;subst c4;(try dsimp only at c3);have zz:ze (qi'.on (zI E' qi'.s (bs "invariant"))).s=0:=hz9.2;have hX:=qC6 g10;obtain⟨X,s,v1,_,v3⟩:=hX;injection v3 with v3 v4;have hl2:(qi'.on (zI E' qi'.s (bs "invariant"))).l.length≤qj'.l.length:=by rw [v4];simp
   have:ze qj'.s=1:=by unfold ze;rw [lM hz]
   omega
end
end
structure kC9 (x:UInt8):Prop where
 p:yU x=false
 d:zV x=false
 c:x.toNat≠58
 s:∀ c,wV c x=false
theorem kK4:kC9 32:=⟨Yd,Yd,Yd,fun c=>by simp [wV]⟩
def SimU (u u':List UInt8):Prop:=∃ c z x r,u=c++z∧u'=c++x :: r∧kC9 x
theorem SimU.pre {u u':List UInt8} (h:SimU u u') (a:List UInt8):SimU (a++u) (a++u'):=by obtain⟨c,z,x,r,rfl,rfl,hx⟩:=h;exact⟨a++c,z,x,r,Ym,Ym,hx⟩
theorem qT8:∀ (r rest:List UInt8),vF (r++rest)=r.length→(∀ y∈r,yU y=true)∧∀ d,rest.head?=some d→yU d=false
 | [],rest,h=>by
   refine⟨fun y hy=>(by cases hy),fun d hd=>?_⟩;cases rest with
   | nil=>cases hd
   | cons e rest =>
     injection hd with hd;subst hd;simp only [cF,vF,Yn]at h;cases hp:yU e with
     | false=>rfl
     | true=>rw [hp]at h;simp at h
 | y :: r,rest,h=>by
   simp only [lR,vF,Yc]at h;cases hp:yU y with
   | false=>rw [hp]at h;simp at h
   | true =>
     rw [hp]at h;obtain⟨h1,h2⟩:=qT8 r rest (by simpa using h);exact⟨fun z hz=>by rcases lU.1 hz with rfl | hz;exact hp;exact h1 z hz,h2⟩
theorem jJ7:∀ (r rest:List UInt8),jT (r++rest)=r.length→(∀ y∈r,zV y=true)∧∀ d,rest.head?=some d→zV d=false
 | [],rest,h=>by
   refine⟨fun y hy=>(by cases hy),fun d hd=>?_⟩;cases rest with
   | nil=>cases hd
   | cons e rest =>
     injection hd with hd;subst hd;simp only [cF,jT,Yn]at h;cases hp:zV e with
     | false=>rfl
     | true=>rw [hp]at h;simp at h
 | y :: r,rest,h=>by
   simp only [lR,jT,Yc]at h;cases hp:zV y with
   | false=>rw [hp]at h;simp at h
   | true =>
     rw [hp]at h;obtain⟨h1,h2⟩:=jJ7 r rest (by simpa using h);exact⟨fun z hz=>by rcases lU.1 hz with rfl | hz;exact hp;exact h1 z hz,h2⟩
theorem zO7:∀ (t:List UInt8),∃ a b,t=a++b∧jT t=a.length∧(∀ y∈a,zV y=true)∧∀ d,b.head?=some d→zV d=false
 | []=>⟨[],[],rfl,rfl,fun y hy=>(by cases hy),fun d hd=>by cases hd⟩
 | y :: t=>by
   cases hp:zV y with
   | false=>exact⟨[],y :: t,rfl,by simp [jT,hp],fun y hy=>(by cases hy),fun d hd=>by injection hd with hd;exact hd▸hp⟩
   | true =>
     obtain⟨a,b,h1,h2,h3,h4⟩:=zO7 t;exact⟨y :: a,b,by rw [h1];rfl,by simp [jT,hp,h2],fun z hz=>by rcases lU.1 hz with rfl | hz;exact hp;exact h3 z hz,h4⟩
theorem qD2 {c z r:List UInt8} {x d:UInt8} (h:(c++x :: r).head?=some d):d=x∨(c++z).head?=some d:=by
 cases c with
 | nil=>injection h with h;exact .inl h.symm
 | cons e c=>exact .inr h
theorem kD1 {tok u u':List UInt8} {k:Nat} (h:zC1 (tok++u)=(k,tok.length)) (hk:k≠0) (hn:tok≠[]) (hs:SimU u u'):zC1 (tok++u')=(k,tok.length):=by
 obtain⟨c,z,x,r',rfl,rfl,hx⟩:=hs;cases tok with
 | nil=>exact absurd rfl hn
 | cons a r =>
   rw [lR]at h ⊢;rw [zC1]at h ⊢;by_cases hl:qM a=true
   ·rw [lM hl]at h ⊢;injection h with h1 h2;obtain⟨p1,p2⟩:=qT8 r (c++z) (by simp only [Yc]at h2;omega);rw [zT3 r (c++x :: r') p1 fun d hd=>by
     rcases qD2 (z:=z) hd with rfl | hd
     ·exact hx.p
     ·exact p2 d hd]
    exact Prod.ext h1 (by simp only [Yc];omega)
   ·rw [lN hl]at h ⊢;by_cases hd:zV a=true
    ·rw [lM hd]at h ⊢;rw [←lR]at h ⊢;obtain⟨da,db,e1,e2,e3,e4⟩:=zO7 (a :: r++(c++z));have hda:(a :: r++(c++z)).drop (jT (a :: r++(c++z)))=db:=by rw [e2,e1];exact List.drop_left
     rw [hda]at h;have key2:∀ u:List UInt8,(∀ y∈a :: r,zV y=true)→(∀ d,u.head?=some d→zV d=false)→jT (a :: r++u)=(a :: r).length∧(a :: r++u).drop (jT (a :: r++u))=u:=fun u h1 h2=>by have:=vK (a :: r) u h1 h2;exact⟨this,by rw [this];exact List.drop_left⟩
     by_cases hlit:∃ e b',db=58 :: e :: b'∧zV e=true
     ·obtain⟨e,b',rfl,he⟩:=hlit;simp only [he]at h;rw [lM Yd]at h;injection h with h1 h2;obtain⟨ea,eb,f1,f2,f3,f4⟩:=zO7 (e :: b');rw [e2,f2]at h2;have hea:ea≠[]:=by intro e0;rw [e0]at f2;simp [jT,he]at f2
      have ht:a :: r=da++58 :: ea∧c++z=eb:=by
       have hw:a :: r++(c++z)=(da++58 :: ea)++eb:=by rw [e1,f1];simp
       have hlen:(a :: r).length=(da++58 :: ea).length:=by rw [←h2];simp;omega
       exact List.append_inj hw hlen
      obtain⟨t1,t2⟩:=ht;rw [t1];have hh:∀ d,((58 :: ea)++(c++x :: r')).head?=some d→zV d=false:=fun d hd=>by injection hd with hd;subst hd;decide
      have g1:jT (da++((58 :: ea)++(c++x :: r')))=da.length:=vK da _ e3 hh;have g2:(da++58 :: ea)++(c++x :: r')=da++((58 :: ea)++(c++x :: r')):=Ym;rw [g2,g1,List.drop_left];cases ea with
      | nil=>exact absurd rfl hea
      | cons e' ea =>
        have he':zV e'=true:=f3 e' Ym;have g3:jT (e' :: ea++(c++x :: r'))=(e' :: ea).length:=vK (e' :: ea) _ f3 fun d hd=>by
         rcases qD2 (z:=z) hd with rfl | hd
         ·exact hx.d
         ·exact f4 d (t2▸hd)
        simp only [lR];rw [lM ⟨Yd,he'⟩];simp only [lR]at g3;rw [g3,←h1];simp only [Ya,Yc];congr 1;omega
     ·have h':(2,jT (a :: r++(c++z)))=(k,(a :: r).length):=by
       rw [←h];cases db with
       | nil=>rfl
       | cons d db =>
         cases db with
         | nil=>rfl
         | cons e db =>
           show _=if d.toNat=58∧zV e=true then _ else _
           rw [lN];rintro⟨h1,h2⟩;exact hlit ⟨e,db,by rw [show d=58 from UInt8.toNat_inj.1 h1],h2⟩
      injection h' with h1 h2;obtain⟨q1,q2⟩:=jJ7 (a :: r) (c++z) h2;have hdb:db=c++z:=by have hw:a :: r++(c++z)=da++db:=e1;exact(List.append_inj hw (by rw [←e2,h2])).2.symm
      obtain⟨g1,g2⟩:=key2 (c++x :: r') q1 fun d hd=>by
       rcases qD2 (z:=z) hd with rfl | hd
       ·exact hx.d
       ·exact q2 d hd
      rw [g2,g1,←h1];cases c with
      | nil =>
        cases r' with
        | nil=>rfl
        | cons e r' =>
          show(if x.toNat=58∧zV e=true then _ else _)=_;rw [lN fun h=>hx.c h.1]
      | cons d c =>
        cases c with
        | nil =>
          show(if d.toNat=58∧zV x=true then _ else _)=_;rw [lN fun h=>by have:=hx.d;rw [h.2]at this;cases this]
        | cons e c =>
          show(if d.toNat=58∧zV e=true then _ else _)=_;rw [lN];rintro⟨y1,y2⟩;exact hlit ⟨e,c++z,by rw [hdb,show d=58 from UInt8.toNat_inj.1 y1];rfl,y2⟩
    ·rw [lN hd]at h ⊢;by_cases hsg:0<xG (a :: (r++(c++z)))
     ·rw [lM hsg]at h;injection h with h1 h2;have hgoal:xG (a :: (r++(c++x :: r')))=(a :: r).length:=by
       cases r with
       | nil =>
         simp only [cF,Yc,Yn]at h2 ⊢;have hsingle:yF.contains a=true∧∀ d,(c++z).head?=some d→wV a d=false:=by
          cases hcz:c++z with
          | nil =>
            rw [hcz,zT4]at h2;refine⟨?_,fun d hd=>by cases hd⟩;cases hs:yF.contains a with
            | true=>rfl
            | false=>rw [hs]at h2;simp at h2
          | cons d w =>
            rw [hcz,wW]at h2;cases hp:wV a d with
            | true=>rw [hp]at h2;simp at h2
            | false =>
              rw [hp]at h2;refine⟨?_,fun d' hd'=>by injection hd' with hd';exact hd'▸hp⟩;cases hs:yF.contains a with
              | true=>rfl
              | false=>rw [hs]at h2;simp at h2
         cases c with
         | nil =>
           rw [cF,wW,hx.s a,hsingle.1];rfl
         | cons d c =>
           rw [lR,wW,hsingle.2 d rfl,hsingle.1];rfl
       | cons b r =>
         rw [lR,wW]at h2 ⊢;cases hp:wV a b with
         | true =>
           rw [hp]at h2;simpa using h2
         | false =>
           rw [hp]at h2;exfalso;simp only [Yc]at h2;rw [lN Yd]at h2;split at h2 <;> omega
      rw [hgoal,lM Ym,h1]
     ·rw [lN hsg]at h;injection h with h1 h2;exact absurd h1.symm hk
theorem qT9:∀ (g z:List UInt8) (b:Bool),jG b (g++z)=g.length→z≠[]→∀ x,jG b (g++x)=g.length+jG false x
 | [],z,b,h,hz,x=>by
   cases z with
   | nil=>exact absurd rfl hz
   | cons c z =>
     cases b with
     | true=>simp [jG]at h
     | false=>simp
 | c :: g,z,true,h,hz,x=>by simp only [lR,jG,Yc]at h ⊢;rw [qT9 g z _ Yo hz x];omega
 | c :: g,z,false,h,hz,x=>by
   simp only [lR,jG,Yc]at h ⊢;by_cases h1:c.toNat=35
   ·rw [lM h1]at h ⊢;rw [qT9 g z _ Yo hz x];omega
   ·rw [lN h1]at h ⊢;by_cases h2:yJ c=true
    ·rw [lM h2]at h ⊢;rw [qT9 g z _ Yo hz x];omega
    ·rw [lN h2]at h;omega
theorem zV8 {g tok u:List UInt8} (h:jG false (g++(tok++u))=g.length) (hn:tok≠[]):GapOk g∧∀ u',jG false (tok++u')=0:=by
 have hg:=qT9 g (tok++u) false h (by simp [hn]);refine⟨hg,fun u'=>?_⟩;have h0:=hg (tok++u);rw [h]at h0;have h1:jG false (tok++u)=0:=Yo;cases tok with
 | nil=>exact absurd rfl hn
 | cons c tok =>
   rw [lR]at h1 ⊢;simp only [jG]at h1 ⊢;split at h1
   ·omega
   ·rename_i q1;rw [lN q1];split at h1
    ·omega
    ·rename_i q2;rw [lN q2]
theorem LexOk.sim:∀ {A:List Pc} {u u':List UInt8},LexOk A u→SimU u u'→LexOk A u'
 | [],_,_,_,_=>trivial
 | p :: r,u,u',h,hs=>by obtain⟨h1,h2,h3,h4,h5⟩:=h;obtain⟨g1,g2⟩:=zV8 h1 h4;exact⟨by rw [g1,g2];rfl,kD1 h2 h3 h4 (hs.pre _),h3,h4,h5.sim hs⟩
theorem zL6:∀ (a b:List Pc) (o:Nat),yI o (a++b)=yI o a++yI (o+(jF a).length) b
 | [],b,o=>by simp [yI,jF]
 | p :: r,b,o=>by rw [lR,yI,yI,zL6 r b,zF,lR];simp only [Ya];rw [show o+p.gap.length+p.tok.length+(jF r).length=o+(p.gap.length+p.tok.length+(jF r).length) from by omega]
theorem kS5 {p:Gx} {wide:Bool} (hg:zW8 p) (hf:kE1 p) (l:List Pc) (hl:l.map wdP=wG wide p) (t:List UInt8) (o:Nat) :
 Ev fun f=>kH ⟨t,yI o l⟩ f (Qt 0 0 0 [])=some (p,Qt l.length 0 0 (plG ⟨t,yI o l⟩ wide p)):=by
 have hlen:(wG wide p).length=l.length:=by rw [←hl,lW]
 rw [←hlen];refine kQ5 _ wide p 0 hg hf ?_ ?_
 ·rw [←hl];exact qM8 _ o _ _ 0 fun i q hq=>by rw [Nat.zero_add];exact hq
 ·rw [zU3,hlen,cW (lF _)];exact⟨Yd,Yd,Yd,Yd⟩
theorem qU2:∀ (l:List Pc) (o i:Nat) (p:Pc),l[i]?=some p→∃ t,(yI o l)[i]?=some t∧t.kind=p.kind∧t.text=p.tok
 | p :: r,o,0,q,h=>by injection h with h;subst h;exact⟨_,rfl,rfl,rfl⟩
 | p :: r,o,i+1,q,h=>by obtain⟨t,h1,h2⟩:=qU2 r (o+p.gap.length+p.tok.length) i q h;exact⟨t,by rw [yI];exact h1,h2⟩
theorem jR5 {p:Gx} {wide:Bool} (hg:zW8 p) (k:Nat) (hk:k<(pcG wide p).length):∃ A pc B,pcG wide p=A++pc :: B∧A.length=k∧zH2 wide p=jF A++pc.gap++(pc.tok++jF B)∧(yI 0 (pcG wide p))[k]?=some ⟨pc.kind,pc.tok,(jF A).length+pc.gap.length,(jF A).length+pc.gap.length+pc.tok.length⟩:=by
 have hpc:=qG6 (wide:=wide) hg;have e:pcG wide p=(pcG wide p).take k++(pcG wide p)[k] :: (pcG wide p).drop (k+1):=by rw [List.getElem_cons_drop,List.take_append_drop]
 refine⟨_,_,_,e,by rw [cL];omega,?_,?_⟩
 ·rw [←hpc.cat];conv=>lhs;rw [e]
  rw [qD,zF];simp
 ·conv=>lhs;rw [e]
  rw [zL6,cH (by rw [xV,cL];omega),xV,cL,Nat.min_eq_left Yo,Nat.sub_self,Nat.zero_add];rfl
theorem qU1:∀ l:List UInt8,vF (l++[32])=vF l
 | []=>Yd
 | c :: r=>by rw [lR];simp only [vF,qU1 r]
theorem qJ9:∀ l:List UInt8,jT (l++[32])=jT l
 | []=>Yd
 | c :: r=>by rw [lR];simp only [jT,qJ9 r]
theorem qU6:∀ l:List UInt8,jT l≤l.length
 | []=>by simp [jT]
 | c :: r=>by simp only [jT,Yc];have:=qU6 r;split <;> omega
theorem jK6 (c:UInt8) (r:List UInt8):xG (c :: (r++[32]))=xG (c :: r):=by
 cases r with
 | nil =>
   rw [cF,wW,zT4,kK4.s c];rfl
 | cons d r=>rw [lR,wW,wW]
theorem jL5 (l:List UInt8) (h:l≠[]):zC1 (l++[32])=zC1 l:=by
 cases l with
 | nil=>exact absurd rfl h
 | cons c r =>
   rw [lR,zC1,zC1,qU1,jK6];rw [←lR,qJ9,List.drop_append_of_le_length (qU6 _)];generalize (c :: r).drop (jT (c :: r))=u;cases u with
   | nil=>rfl
   | cons d u =>
     cases u with
     | nil =>
       show(if qM c=true then _ else if zV c=true then(if d.toNat=58∧zV 32=true then _ else _) else _)=_;rw [lN (c:=d.toNat=58∧zV 32=true) (fun h=>by have:=h.2;revert this;decide)]
     | cons e u =>
       show(if qM c=true then _ else if zV c=true then(if d.toNat=58∧zV e=true then(3,jT (c :: r)+1+jT ((e :: u)++[32])) else _) else _)=_;rw [qJ9]
theorem LexOk.un:∀ {A:List Pc} {u:List UInt8},LexOk A (u++[32])→LexOk A u
 | [],_,_=>trivial
 | p :: r,u,h=>by obtain⟨h1,h2,h3,h4,h5⟩:=h;obtain⟨g1,g2⟩:=zV8 h1 h4;refine⟨by rw [g1,g2];rfl,?_,h3,h4,h5.un⟩;rw [←lS,←lS,jL5 _ (by simp [h4])]at h2;rw [←h2,lS]
theorem LexOk.cut {A:List Pc} {c z:List UInt8} (h:LexOk A (c++z)):LexOk A c :=
 (h.sim ⟨c,z,32,[],rfl,rfl,kK4⟩).un
theorem jJ8 {A B:List Pc} {p:Pc} (h:LexOk (A++p :: B) []):zY (jF A++p.gap) (kG (jF A++p.gap))=yI 0 A∧zI3 (kG (jF A++p.gap))=none:=by
 have hr:=LexOk.right A (p :: B) [] h;have hl:=LexOk.left A (p :: B) [] h;obtain⟨h1,h2,h3,h4,h5⟩:=hr;obtain⟨g1,g2⟩:=zV8 h1 h4;have hl':LexOk A p.gap:=by rw [zF,lS,lS]at hl;exact hl.cut
 refine zJ2 A p.gap hl' ?_;have:=g1 [];rw [cT]at this;rw [this];simp [jG]
inductive jR4 (p:Gx) (C:List UInt8):Prop where
 | ok (f:Nat) (x:Gx) (l:List Nat) (h:PgR f C x l C.length 0) (hw:x.work=p.work) (hi:∃ a b,C=a++bs "invariant"++b)
 | no (f:Nat) (h:PgR f C gx0 [] C.length 300)
theorem jK7 {A:List Pc} {p:Pc} (h:p∈A):∃ a b,jF A=a++p.tok++b:=by obtain⟨l,r,rfl⟩:=List.append_of_mem h;refine⟨jF l++p.gap,jF r,?_⟩;rw [qD,zF];simp
theorem jL7 {p:Gx} {wide:Bool} (hg:zW8 p) (hf:kE1 p) (hz:szG p≤900000) (A:List Pc) (pc:Pc) (B:List Pc) (e:pcG wide p=A++pc :: B):jR4 p (jF A++pc.gap):=by
 have hpc:=qG6 (wide:=wide) hg;have hw:(A++pc :: B).map wdP=wG wide p:=by rw [←e];exact hpc.wd
 have hlex:LexOk (A++pc :: B) []:=by rw [←e];exact hpc.lex [] Safe.nil
 have hfirst:(A++pc :: B)[0]?=some ⟨[],1,bs "device"⟩:=by rw [←e];rfl
 obtain⟨ht1,ht2⟩:=jJ8 hlex;by_cases hA:A=[]
 ·subst hA;have hpc0:pc=⟨[],1,bs "device"⟩:=by injection hfirst
  subst hpc0;obtain⟨x,q,hq,he,hfa⟩:∃ x q,kH ⟨[],[]⟩ 40 ⟨⟨0,0,0,0⟩,[]⟩=some (x,q)∧q.s.e=300∧q.s.fail=0:=⟨_,_,rfl,rfl,rfl⟩;have h:=PgR.no (f:=40) (t:=[]) x q ht2 (by rw [show zY [] (kG [])=[] from ht1];exact hq) (by rw [he];decide);rw [he,hfa]at h;exact .no 40 h
 ·have hpos:0<A.length:=List.length_pos_iff.2 hA;have L:kT ⟨jF (A++pc :: B),yI 0 (A++pc :: B)⟩ ⟨jF A++pc.gap,yI 0 A⟩ A.length (jF A++pc.gap).length:=by
   refine⟨fun i hi=>?_,.inl ⟨cW (by rw [xV];exact lF _),rfl⟩⟩;obtain⟨t,h1,_⟩:=qU2 A 0 i A[i] (cK hi);have hl:i<(yI 0 A).length:=by rw [xV];exact hi
   refine⟨t,?_,h1⟩;show(yI 0 (A++pc :: B))[i]?=some t;rw [zL6,cI hl];exact h1
  obtain⟨f,hp⟩:=Ev.ex (kS5 hg hf (A++pc :: B) hw (jF (A++pc :: B)) 0);obtain⟨x',q1',h1,h2⟩:=qO2 L hpos hp rfl (by show(plG _ wide p).length≤900000;rw [kA3 _ _ hg];exact hz);rw [←ht1]at h1;rcases h2 with⟨_,_,h⟩ | ⟨hb,hi⟩
  ·have h':(A++pc :: B).length<A.length:=h;rw [Ya]at h';omega
  ·have hlen:(zY (jF A++pc.gap) (kG (jF A++pc.gap))).length=A.length:=by rw [ht1,xV]
   rcases hb.e with he | ⟨he,hfa⟩
   ·obtain⟨hwk,i,t,hik,hti,htx⟩:=hi he;refine .ok (f+8) x' q1'.l (.ok x' q1' ht2 h1 he (by rw [hb.n,hlen];exact lF _)) hwk ?_;obtain⟨t',h3,_,h5⟩:=qU2 A 0 i A[i] (cK hik);have h4:some t=some t':=hti.symm.trans h3;injection h4 with h4;subst h4;obtain⟨a,b,hab⟩:=jK7 (List.getElem_mem hik);refine⟨a,b++pc.gap,?_⟩;rw [hab,←h5,htx];simp
   ·have h:=PgR.no (f:=f+8) (t:=jF A++pc.gap) x' q1' ht2 h1 (by rw [he];decide);rw [he,hfa]at h;exact .no _ h
section
open Go.RowKit Go.Shelf
theorem qU7 {F:Fence} (hd:F.depth=none) (k:Nat):F.room k:=fun d h=>by rw [hd]at h;cases h
theorem qZ1 {F:Fence} (hd:F.depth=none) {m:Nat} (m':Nat) {P:Program} {l:Nat} {args:Array Value} {W:World} {R:Ending→World→Prop} (h:YieldAt F m P l args W R):YieldAt F m' P l args W R:=by obtain⟨fn,tmps,assign,body,hy,hR⟩:=h;exact⟨fn,tmps,assign,body,hy,hR.1,fun c cs _=>hR.2 c cs (qU7 hd _)⟩
theorem yL {B:Nat} {W:World} {l:Nat} {o':Obj} (h:B≤l):Below B W (W.putObj l o') :=
 ⟨rfl,rfl,rfl,by simp [World.putObj],fun k hk=>World.putObj_heap_other Yo⟩
theorem zF9 {α:Type} {F:Fence} {n:Nat} {P:Program} {g:Operand} {ps:Array Tmp} {assign body:Code} {Q:Exit→Act→World→Prop} {a:Act} {w:World}
 (hro:F.round=none) (hd:F.depth=none) (h1:1≤n) {gf:Nat} {lb:Array Value} (hg:a.eval g=.func (.func gf) #[] lb) (hFg:F.fn gf) (eg:∀ args w,(callFunc gf args).run P w=.ok (.enter gf args) w)
 {encs:α→Array Value} (hps:∀ x,(encs x).size=ps.size) (C:Nat→Prop) (hC:∀ k,C k→k<w.heap.size) (wt:α→Nat) (G:α→World→Prop) (M m0 T:Nat) (I:Nat→World→Prop)
 (hI:∀ m W W',I m W→Below w.heap.size W W'→I m W')
 (h0:I m0 w)
 (hseq:∀ (l:Nat) (J:Nat→World→Prop) (W1:World),w.heap.size≤W1.heap.size→Below w.heap.size w W1→(∀ m W,J m W→I m W)→(∀ m W W',J m W→Below W1.heap.size W W'→J m W') →
   (∀ m x W k,J m W→W1.heap.size≤W.heap.size→G x W→m+wt x≤M→YieldAt F k P l (encs x) W fun e W'=>e=.returned (.bool true)∧J (m+wt x) W'∧Fr C W W') →
   J m0 W1 →
   CallsIn F (n-1) P gf (#[.func (.yield l) #[] #[]]++lb) W1 fun e W'=>(∃ v,e=.returned v)∧J (m0+T) W'∧Fr C W1 W')
 (hround:∀ (l m:Nat) (x:α) (W:World),I m W→w.heap.size≤l→(∃ r,W.heap[l]?=some (.loop r))→G x W→m+wt x≤M→assign.wpIn (F.inRound l) (n-1-1) P (Exit.then (fun a' W'=>Fr C W W' ∧
   ∀ o',(∃ r,o'=Obj.loop r)→body.wpIn (F.inRound l) (n-1-1) P (fun e _ W3=>e=.normal∧I (m+wt x) W3∧Fr C (W'.putObj l o') W3) a' (W'.putObj l o')) (fun _ _ _=>False))
   { tmps:=(ps.zip (encs x)).foldl (fun t (p,v)=>t.setIfInBounds p v) a.tmps,defers:=[] } W)
 (hdone:∀ (D:Nat) (W:World),w.heap.size≤D→I (m0+T) W→Fr C w W→W.heap[D]?=some (.deferred (some []))→Q .normal { a with defers:={ target:=.collected D,args:=#[] } :: a.defers } W) :
 (Code.rangeFunc g ps assign body).wpIn F n P Q a w:=by
 refine wpIn_rangeFunc fun fn hfn=>?_;rw [hro];let rc:Loop:={ state:=.ready,pending:=none,fn,tmps:=a.tmps,params:=ps,assign,body,defers:=w.heap.size }
 have hl0:((w.alloc (.deferred (some []))).alloc (.loop rc)).heap[w.heap.size+1]?=some (.loop rc):=by have:=World.alloc_heap_new (w.alloc (.deferred (some []))) (.loop rc);rwa [lO]at this
 have hd0:((w.alloc (.deferred (some []))).alloc (.loop rc)).heap[w.heap.size]?=some (.deferred (some [])):=(Below.heap_alloc _ _ _ Ym).trans (World.alloc_heap_new w _);have hB0:Below w.heap.size w ((w.alloc (.deferred (some []))).alloc (.loop rc)):=zG (zG (lB _ _) _) _;have hz:((w.alloc (.deferred (some []))).alloc (.loop rc)).heap.size=w.heap.size+2:=by rw [lO,lO]
 refine⟨w.heap.size+1,[{ target:=.collected w.heap.size,args:=#[] }],((w.alloc (.deferred (some []))).alloc (.loop rc)),{ target:=.fn (.func gf) lb,args:=#[.func (.yield (w.heap.size+1)) #[] #[]] },((w.alloc (.deferred (some []))).alloc (.loop rc)),gf,#[.func (.yield (w.heap.size+1)) #[] #[]]++lb,((w.alloc (.deferred (some []))).alloc (.loop rc)),
  run_enterLoop_outer fn a.tmps ps assign body,?_,?_,?_,fun _=>h1,?_⟩
 ·simp only [resolve,hg];simp [go_sem]
 ·intro f' hf';simp [Target.leads]at hf';subst hf';exact hFg
 ·simp [invoke,go_sem,eg]
 ·refine(hseq (w.heap.size+1) (fun m W=>I m W∧W.heap[w.heap.size+1]?=some (.loop rc)∧W.heap[w.heap.size]?=some (.deferred (some []))) _ (by rw [hz];omega) hB0 (fun m W h=>h.1)
   (fun m W W' h hb=>⟨hI _ _ _ h.1 (hb.mono (by rw [hz];omega)),(hb.block _ (by rw [hz];omega)).trans h.2.1,(hb.block _ (by rw [hz];omega)).trans h.2.2⟩) ?_ ⟨hI _ _ _ h0 hB0,hl0,hd0⟩).mono ?_
  ·rintro m x W k ⟨hi,hl,hdd⟩ hW1 hgx hm;have hlW:w.heap.size+1<W.heap.size:=zO hl;refine qZ1 hd k ⟨fn,_,assign,body,run_yield (P:=P) (args:=encs x) hl (hps x),roundIn_of_wpIn hfn (wpIn_mono (hround (w.heap.size+1) m x W hi Yo ⟨_,hl⟩ hgx hm) ?_)⟩;rintro e a' W' he;cases e with
   | normal =>
     obtain⟨hk,hb⟩:=he;have nC:∀ i,w.heap.size≤i→¬C i:=fun i hi hc=>by have:=hC i hc;omega
     have hl':W'.heap[w.heap.size+1]?=some (.loop rc):=(hk.block _ hlW (nC _ Yo)).trans hl;have hd':W'.heap[w.heap.size]?=some (.deferred (some [])):=(hk.block _ Yo (nC _ (lF _))).trans hdd;have hlt:w.heap.size+1<W'.heap.size:=zO hl';refine⟨_,run_beginRound hl' rfl,wpIn_mono (hb _ ⟨_,rfl⟩) ?_⟩;rintro e a3 W3 ⟨rfl,hi3,hk3⟩;have hsz:(W'.putObj (w.heap.size+1) (.loop { rc with state:=.busy })).heap.size=W'.heap.size:=by simp [World.putObj]
     have hl2:(W'.putObj (w.heap.size+1) (.loop { rc with state:=.busy })).heap[w.heap.size+1]?=some (.loop { rc with state:=.busy }):=World.putObj_heap_same hlt;have hl3:=(hk3.block _ (by rw [hsz];exact hlt) (nC _ Yo)).trans hl2;have hd3:W3.heap[w.heap.size]?=some (.deferred (some [])):=(hk3.block _ (by rw [hsz];omega) (nC _ (lF _))).trans ((World.putObj_heap_other Yo).trans hd');have hlt3:w.heap.size+1<W3.heap.size:=zO hl3;refine⟨_,_,run_endRound (P:=P) none hl3,rfl,⟨hI _ _ _ hi3 (yL Yo),World.putObj_heap_same hlt3,(World.putObj_heap_other Yo).trans hd3⟩,?_⟩;have hs3:=hk3.size;rw [hsz]at hs3;refine⟨?_,?_,?_,?_,fun i hi hf=>?_⟩
     ·exact hk3.os.trans hk.os
     ·exact hk3.tape.trans hk.tape
     ·exact hk3.output.trans hk.output
     ·have h1:=hk.size;have h2:(W3.putObj (w.heap.size+1) (.loop { rc with state:=.ready })).heap.size=W3.heap.size:=by simp [World.putObj]
      show W.heap.size≤(W3.putObj (w.heap.size+1) _).heap.size;simp only [World.putObj,Array.size_setIfInBounds];omega
     ·by_cases hil:i=w.heap.size+1
      ·subst hil;exact(World.putObj_heap_same hlt3).trans hl.symm
      ·have hsW:=hk.size;exact(World.putObj_heap_other hil).trans ((hk3.block i (by rw [hsz];omega) hf).trans ((World.putObj_heap_other hil).trans (hk.block i hi hf)))
   | ret=>exact he.elim
   | exit id=>exact he.elim
   | goto t=>exact he.elim
   | panic ch=>exact he.elim
   | outgrown=>exact he.elim
  ·rintro e W2 ⟨⟨v,rfl⟩,⟨hi,hl,hdd⟩,hf⟩;refine⟨none,_,run_endLoop (P:=P) hl (by simp [rc]),hdone _ _ (lF _) (hI _ _ _ hi (yL Yo)) ?_ (zS7 Yo hdd)⟩;refine⟨hf.os,hf.tape,hf.output,?_,fun i hi' hfi=>?_⟩
   ·have:=hf.size;rw [hz]at this;simp only [World.putObj,Array.size_setIfInBounds];omega
   ·exact(World.putObj_heap_other Yo).trans ((hf.block i (by rw [hz];omega) hfi).trans (hB0.block i hi'))
end
section
open Go.RowKit Go.PlainAid Go.Shelf
attribute [local go_sem] Oper.semAt_some
theorem zB9 {P:Program} {F:Fence} {n:Nat} {fn:Func} {tmps:Array Value} {R:Ending→World→Prop} {b0:Nat}:∀ (Ds:List Nat) (w:World),Ds.Nodup→(∀ D∈Ds,b0≤D∧w.heap[D]?=some (.deferred (some [])))→(∀ w',Below b0 w w'→LeavesIn F n P fn tmps R [] .returning w')→LeavesInM F n P fn tmps R (Ds.map fun D=>{ target:=.collected D,args:=#[] }) .returning w
 | [],w,_,_,h=>h w (lB _ _)
 | D :: Ds,w,hn,hd,h=>by have hD:=hd D Ym;have hn':=List.nodup_cons.1 hn;refine⟨Ym,.inl ⟨D,_,rfl,run_takeDeferred hD.2,zB9 Ds _ hn'.2 (fun E hE=>?_) fun w' hb=>h w' ((yL hD.1).trans hb)⟩⟩;have hE':=hd E (by simp [hE]);exact⟨hE'.1,(World.putObj_heap_other (fun e=>hn'.1 (by rw [←e];exact hE))).trans hE'.2⟩
def Marks (b0:Nat) (ds:List Deferred) (w:World):Prop:=∃ Ds:List Nat,ds=Ds.map (fun D=>{ target:=.collected D,args:=#[] })∧Ds.Nodup∧∀ D∈Ds,b0≤D∧w.heap[D]?=some (.deferred (some []))
theorem Marks.nil (b0:Nat) (w:World):Marks b0 [] w:=⟨[],rfl,List.nodup_nil,fun D h=>by cases h⟩
theorem Marks.cons {b0:Nat} {ds:List Deferred} {w w':World} {D:Nat} (h:Marks b0 ds w) (hb:b0≤w.heap.size) (hD:w.heap.size≤D) (hd:w'.heap[D]?=some (.deferred (some []))) (hk:∀ (k:Nat) (o:Obj),w.heap[k]?=some o→o.isCells=false→w'.heap[k]?=some o):Marks b0 ({ target:=.collected D,args:=#[] } :: ds) w':=by
 obtain⟨Ds,rfl,hn,ha⟩:=h;refine⟨D :: Ds,rfl,List.nodup_cons.2 ⟨fun hm=>?_,hn⟩,fun E hE=>?_⟩
 ·have:=zO (ha D hm).2;omega
 ·rcases lU.1 hE with rfl | hE
  ·exact⟨Yo,hd⟩
  ·exact⟨(ha E hE).1,hk _ _ (ha E hE).2 rfl⟩
theorem Marks.keep {b0:Nat} {ds:List Deferred} {w w':World} (h:Marks b0 ds w) (hk:∀ (k:Nat) (o:Obj),w.heap[k]?=some o→o.isCells=false→w'.heap[k]?=some o):Marks b0 ds w':=by obtain⟨Ds,rfl,hn,ha⟩:=h;exact⟨Ds,rfl,hn,fun E hE=>⟨(ha E hE).1,hk _ _ (ha E hE).2 rfl⟩⟩
abbrev FrC (c:Nat) (w w':World):Prop:=Fr (fun q=>q=c) w w'
theorem FrC.stays {c:Nat} {P:Nat→Prop} {w w':World} {cs:Array Value} (h:FrC c w w') (hc:Bk w c 3 cs):Stays P w w':=Stays.box h hc zS5
theorem FrC.others {c:Nat} {w w':World} {cs:Array Value} (h:FrC c w w') (hc:Bk w c 3 cs):∀ (k:Nat) (o:Obj),w.heap[k]?=some o→o.isCells=false→w'.heap[k]?=some o:=fun k o hk ho=>by refine(h.block k (zO hk) fun e=>?_).trans hk;subst e;have h2:w.heap[k]?=some _:=hc;rw [hk]at h2;injection h2 with h2;subst h2;cases ho
theorem qZ2 (cs:Array Value) (w:World):Calls Tryz.prog 94 #[.agg cs] w fun e w'=>e=.returned (.func (.func 120) #[] #[uQ w.heap.size 0])∧w'=w.alloc (.cells cs 31):=by
 go_enter Tryz.func94,Tryz.ntmps94
 go_wp2
 go_ret;exact⟨rfl,rfl⟩
theorem xN {P:Nat→Prop} {W:World} {l:Nat} {r:Loop} {o':Obj} (h:W.heap[l]?=some (.loop r)):Stays P W (W.putObj l o'):=fun b cs t fr hb _ _=>World.putObj_heap_other fun e=>by subst e;rw [h]at hb;cases hb
theorem xJ {W:World} {l b:Nat} {t:TypeId} {cs:Array Value} {o':Obj} (h:Bk W b t cs) (hne:b≠l):Bk (W.putObj l o') b t cs:=(World.putObj_heap_other hne).trans h
def qD5 (x:Ex) (S:SV):Array Value:=#[.int .u8 x.kind,.int .u8 x.op,.int .u32 x.value,.int .i64 x.width,.string (str x.name),.slice S.A S.n S.c]
theorem TX.at {P:Nat→Prop} {w:World} {x:Ex} {S:SV} (h:TX P w x S) {i:Nat} (hi:i<S.n) :
 ∃ b off y v,S.A=some ⟨b,off,none⟩∧x.subs[i]?=some y∧TX P w y v∧b<w.heap.size∧∀ j u,j<6→(qX y v)[j]?=some u→w.cell? ⟨b,off+(i*6+j),none⟩=some u:=by
 cases h with
 | mk _ _ vs ok hl hn hP rd all =>
   obtain⟨b,off,p,hA,hp,hb,hcl⟩:=rd.rd.flat (f:=fun p:Ex×SV=>qX p.1 p.2) (m:=6) (fun p=>rfl) Yo (L:=x.subs.zip vs) (i:=i) (by rw [List.length_zip,hl,Nat.min_self,←hn];exact hi);obtain⟨y,v⟩:=p;obtain⟨h1,h2⟩:=List.getElem?_zip_eq_some.1 hp;exact⟨b,off,y,v,hA,h1,all i y v h1 h2,hb,hcl⟩
theorem TX.len {P:Nat→Prop} {w:World} {x:Ex} {S:SV} (h:TX P w x S):S.n=x.subs.length:=by cases h;assumption
def jR8 (l c M b0:Nat) (J:Nat→World→Prop):Prop:=∀ k y V W,J k W→b0≤W.heap.size→k+1≤M→TX (fun _=>True) W y V→∀ j,YieldAt Fence.wide j Tryz.prog l #[.agg (qD5 y V)] W fun e W'=>e=.returned (.bool true)∧J (k+1) W'∧FrC c W W'
theorem qZ3 (x:Ex):1≤szX x:=by cases x;simp [szX]
theorem zO8:∀ l:List Ex,l.length≤kC l
 | []=>by simp [kC]
 | x :: l=>by have h1:=qZ3 x;have h2:=zO8 l;simp only [kC,Yc];omega
theorem vE:∀ (l:List Ex) (j:Nat) (y:Ex),l[j]?=some y→kC (l.take j)+szX y≤kC l∧kC (l.take (j+1))=kC (l.take j)+szX y
 | [],j,y,h=>by simp at h
 | x :: l,0,y,h=>by simp at h;subst h;simp [kC]
 | x :: l,j+1,y,h=>by have:=vE l j y (by simpa using h);simp only [cR,kC];omega
theorem qJ6:∀ (N:Nat) (x:Ex) (S:SV) (n l pb c m M b0:Nat) (J:Nat→World→Prop) (W1:World),szX x≤N→1≤n→Hid (TX (fun _=>True) W1 x S)→Hid (Bk W1 pb 31 (qD5 x S))→pb≠c→b0≤W1.heap.size→m+szX x≤M→M≤1000000 →
 Hid (∀ k W,J k W→∃ cs,Bk W c 3 cs)→Hid (∀ k W W',J k W→Below b0 W W'→J k W')→Hid (jR8 l c M b0 J)→Hid (J m W1) →
 CallsIn Fence.wide n Tryz.prog 120 #[.func (.yield l) #[] #[],uQ pb 0] W1 fun e W'=>(∃ v,e=.returned v)∧J (m+szX x) W'∧FrC c W1 W'
 | 0,x,S,n,l,pb,c,m,M,b0,J,W1,hN,_,_,_,_,_,_,_,_,_,_,_=>by cases x;simp [szX]at hN
 | N+1,x,S,n,l,pb,c,m,M,b0,J,W1,hN,h1n,HT,HPB,hpc,hb0,hM,hM6,HJC,HJB,HY,HJ=>by
   have IH:=Ph (qJ6 N);obtain⟨SA,Sn,Sc⟩:=S;have HL:Hid (Sn=x.subs.length):=Ph HT.out.len;have hsz:szX x=1+kC x.subs:=by cases x;rfl
   refine callsIn_of_wp_marks Tryz.func120 rfl trivial ?_ rfl;simp only [Tryz.ntmps120,List.size_toArray,Yc,Yn,Nat.reduceAdd,Nat.reduceSub,Array.replicate_succ,Array.replicate_zero,List.push_toArray,List.append_toArray,cF,lR];refine wpIn_wide.2 ?_;have hyb:=Ph (Bk.new W1 57 #[.func (.yield l) #[] #[]]);have hB1:Below W1.heap.size W1 (W1.alloc (.cells #[.func (.yield l) #[] #[]] 57)):=zG (lB _ _) _;have HPB1:=Ph (zD HPB.out hB1);go_upto_region 1 with fail
   generalize (W1.alloc _)=W2 at hyb hB1 HPB1 ⊢;obtain⟨yb,hybe⟩:∃ b,W1.heap.size=b:=⟨_,rfl⟩;rw [hybe]at hyb ⊢;have hypb:pb<yb:=by have:=HPB.out.lt;omega
   have x0:W2.cell? ⟨pb,0,none⟩=some (uB x.kind):=HPB1.out.cell 0;have x1:W2.cell? ⟨pb,1,none⟩=some (uB x.op):=HPB1.out.cell 1;have x2:W2.cell? ⟨pb,2,none⟩=some (uW x.value):=HPB1.out.cell 2;have x3:W2.cell? ⟨pb,3,none⟩=some (uI x.width):=HPB1.out.cell 3;have x4:W2.cell? ⟨pb,4,none⟩=some (uR x.name):=HPB1.out.cell 4;have x5:W2.cell? ⟨pb,5,none⟩=some (.slice SA Sn Sc):=HPB1.out.cell 5;have y0:W2.cell? ⟨yb,0,none⟩=some (.func (.yield l) #[] #[]):=hyb.out.cell 0;have hz2:W1.heap.size≤W2.heap.size:=hB1.size;have HT2:=Ph (HT.out.bel hB1);have HB12:=Ph hB1;obtain⟨fn,tmps,assign,body,hy,hRn⟩:=HY.out m x ⟨SA,Sn,Sc⟩ W2 (HJB.out _ _ _ HJ.out (hB1.mono hb0)) Yo Yo HT2.out (n-1);have HRn:=Ph hRn;dsimp only [qD5]at hy;clear hRn hB1;refine(wpIn_wide (n:=n)).1 ?_;gi_wp2
   refine HRn.out.mono ?_;clear hy HRn;rintro e W3 ⟨rfl,hJ3,hF3⟩;obtain⟨cs0,hcs0⟩:=HJC.out _ _ HJ.out;have HC1:=Ph hcs0;obtain⟨cc,hcc⟩:=HJC.out _ _ (HJB.out _ _ _ HJ.out (HB12.out.mono hb0));have hcl:c<W2.heap.size:=hcc.lt;have hcy:c≠yb:=by obtain⟨_,h⟩:=HJC.out _ _ HJ.out;have:=h.lt;omega
   have HT3:Hid (TX (fun _=>True) W3 x ⟨SA,Sn,Sc⟩):=Ph (HT2.out.stay (FrC.stays hF3 hcc));have HPB3:=Ph (HPB1.out.fr hF3 hpc);have HYB3:=Ph (hyb.out.fr hF3 (cX hcy));have HF3:Hid (FrC c W1 W3):=Ph ((Fr.of_below HB12.out).trans hF3);have HJ3:=Ph hJ3;clear x0 x1 x2 x3 x4 x5 y0 hJ3 hF3 hcc hcs0 hz2 HT2 HPB1 hyb HB12 HJ hcl;have x5:W3.cell? ⟨pb,5,none⟩=some (.slice SA Sn Sc):=HPB3.out.cell 5;gi_wp2
   go_wp2
   have HMM:=Ph hM;have HSZ:=Ph hsz;clear hM x5;refine wp_loop_ghost_k (fun g a w=>∃ (j:Nat) (s4 s5 s14 s15 s16 s17 s18 s19 s20 s21 s22 s23 s24:Value) (ds:List Deferred),g+j=Sn∧a=⟨#[.func (.yield l) #[] #[],uQ pb 0,uQ yb 0,undef,s4,s5,.func (.yield l) #[] #[],.agg #[uB x.kind,uB x.op,uW x.value,uI x.width,uR x.name,.slice SA Sn Sc],.bool true,.bool false,uQ pb 5,.slice SA Sn Sc,uI Sn,uI j,s14,s15,s16,s17,s18,s19,s20,s21,s22,s23,s24],ds⟩∧Hid (Marks W1.heap.size ds w)∧Hid (J (m+1+kC (x.subs.take j)) w)∧Hid (FrC c W1 w)∧Hid (Bk w yb 57 #[.func (.yield l) #[] #[]])) Sn ⟨0,_,_,_,_,_,_,_,_,_,_,_,_,_,[],rfl,rfl,Marks.nil _ _,by simpa [kC]using HJ3,HF3,HYB3⟩ ?_;clear HJ3 HF3 HYB3 HPB3 HT3;have hSn:Sn≤1000000:=by have h1:=HMM.out;have h2:=HSZ.out;have h3:=HL.out;have h4:=zO8 x.subs;omega
   rintro g a w ⟨j,s4,s5,s14,s15,s16,s17,s18,s19,s20,s21,s22,s23,s24,ds,hg,rfl,HMK,HJ,HF,HYB⟩ JJ K hJJ hK;obtain⟨cs1,hcs1⟩:=HJC.out _ _ (HJB.out _ _ _ HJ.out (lB _ _));have hcw:c<w.heap.size:=hcs1.lt;have hws:W1.heap.size≤w.heap.size:=HF.out.size;by_cases hlt:j<Sn
   ·have e1:decide ((j:Int)<(Sn:Int))=true:=by simp;omega
    have hji:(j:Int)<(Sn:Int):=Yo;have HTw:Hid (TX (fun _=>True) w x ⟨SA,Sn,Sc⟩):=Ph (HT.out.stay (FrC.stays HF.out HC1.out));obtain⟨b,off,y,v,hA,hx,hty,hb,hc⟩:=TX.at HTw.out (i:=j) hlt;obtain⟨vA,vn,vc⟩:=v;(try dsimp only at hA);subst hA;have c0:w.cell? ⟨b,off+j*6,none⟩=some (uB y.kind):=hc 0 _ Yo rfl;have c1:w.cell? ⟨b,off+j*6+1,none⟩=some (uB y.op):=hc 1 _ Yo rfl;have c2:w.cell? ⟨b,off+j*6+2,none⟩=some (uW y.value):=hc 2 _ Yo rfl;have c3:w.cell? ⟨b,off+j*6+3,none⟩=some (uI y.width):=hc 3 _ Yo rfl;have c4:w.cell? ⟨b,off+j*6+4,none⟩=some (uR y.name):=hc 4 _ Yo rfl;have c5:w.cell? ⟨b,off+j*6+5,none⟩=some (.slice vA vn vc):=hc 5 _ Yo rfl;have HX:=Ph hx;have HTY:=Ph hty;clear hx hc hty;go_upto_region 5 with fail
    have hyn:=Ph (Bk.new w 31 #[uB y.kind,uB y.op,uW y.value,uI y.width,uR y.name,.slice vA vn vc]);have hBa:Below w.heap.size w (w.alloc (.cells #[uB y.kind,uB y.op,uW y.value,uI y.width,uR y.name,.slice vA vn vc] 31)):=zG (lB _ _) _;have hza:(w.alloc (.cells #[uB y.kind,uB y.op,uW y.value,uI y.width,uR y.name,.slice vA vn vc] 31)).heap.size=w.heap.size+1:=lO _ _;generalize (w.alloc _)=W4 at hyn hBa hza ⊢;obtain⟨xb,hxb⟩:∃ b,w.heap.size=b:=⟨_,rfl⟩;rw [hxb]at hyn ⊢;have x0:W4.cell? ⟨xb,0,none⟩=some (uB y.kind):=hyn.out.cell 0;have x1:W4.cell? ⟨xb,1,none⟩=some (uB y.op):=hyn.out.cell 1;have x2:W4.cell? ⟨xb,2,none⟩=some (uW y.value):=hyn.out.cell 2;have x3:W4.cell? ⟨xb,3,none⟩=some (uI y.width):=hyn.out.cell 3;have x4:W4.cell? ⟨xb,4,none⟩=some (uR y.name):=hyn.out.cell 4;have x5:W4.cell? ⟨xb,5,none⟩=some (.slice vA vn vc):=hyn.out.cell 5;go_wp2_with fail
    refine(qZ2 #[uB y.kind,uB y.op,uW y.value,uI y.width,uR y.name,.slice vA vn vc] W4).mono ?_;rintro e W5 ⟨rfl,rfl⟩;clear x0 x1 x2 x3 x4 x5 c0 c1 c2 c3 c4 c5;go_wp2_with fail
    have heb:=Ph (Bk.new W4 31 #[uB y.kind,uB y.op,uW y.value,uI y.width,uR y.name,.slice vA vn vc]);have hBb:Below W4.heap.size W4 (W4.alloc (.cells #[uB y.kind,uB y.op,uW y.value,uI y.width,uR y.name,.slice vA vn vc] 31)):=zG (lB _ _) _;have hzb:(W4.alloc (.cells #[uB y.kind,uB y.op,uW y.value,uI y.width,uR y.name,.slice vA vn vc] 31)).heap.size=xb+2:=by rw [lO,hza,hxb]
    have hze:W4.heap.size=xb+1:=by rw [hza,hxb]
    generalize (W4.alloc _)=W5 at heb hBb hzb ⊢;rw [hze]at heb hBb;have hBab:Below w.heap.size w W5:=hBa.trans (hBb.mono Yo);have HTY5:=Ph (HTY.out.bel hBab);have HYB5:=Ph (zD HYB.out hBab);have HJ5:Hid (J (m+1+kC (x.subs.take j)) W5):=Ph (HJB.out _ _ _ HJ.out (hBab.mono Yo));have HF5:Hid (FrC c W1 W5):=Ph (HF.out.trans (Fr.of_below hBab));have HBAB:=Ph hBab;have HXI:=Ph HX.out;have hybl:yb<W5.heap.size:=by have:=HYB.out.lt;omega
    have hm5:m+1+kC (x.subs.take j)+szX y≤M:=by have h1:=HMM.out;have h2:=HSZ.out;have h3:=vE x.subs j y HX.out;omega
    have hN5:szX y≤N:=by have h2:=HSZ.out;have h3:=vE x.subs j y HX.out;omega
    have hcx:c<xb:=Yo;clear hza hze hBa hBb hBab hyn;refine(wpIn_wide (n:=6)).1 ?_;refine zF9 (α:=Ex×SV) (encs:=fun p=>#[.agg (qD5 p.1 p.2)]) rfl rfl Yo rfl trivial (enters_of Tryz.func120 Yk rfl) (fun _=>rfl) (fun q=>q=c) (fun k hk=>Yo) (fun _=>1) (fun p W=>TX (fun _=>True) W p.1 p.2) M (m+1+kC (x.subs.take j)) (szX y) (fun k W=>J k W∧Bk W yb 57 #[.func (.yield l) #[] #[]]) ?hI ⟨HJ5.out,HYB5.out⟩ ?hseq ?hround ?hdone
    case hI=>exact fun k W W' h hb=>⟨HJB.out _ _ _ h.1 (hb.mono Yo),(hb.block _ hybl).trans h.2⟩
    case hseq =>
     intro l' J' W' hW hb hJI hJb hY' h0;exact IH.out y ⟨vA,vn,vc⟩ 5 l' (xb+1) c _ M W'.heap.size J' W' hN5 Yo (Ph (HTY5.out.bel hb)) (Ph ((hb.block _ Yo).trans heb.out)) Yo (lF _) hm5 hM6 (Ph fun k W hj=>HJC.out k W (hJI k W hj).1) (Ph hJb) (Ph fun k z V W hj hs hk ht q=>hY' k (z,V) W q hj hs ht hk) (Ph h0)
    case hround =>
     intro l' k p W hi hl hr hg hk;obtain⟨z,⟨zA,zn,zc⟩⟩:=p;obtain⟨hj,hyb⟩:=hi;obtain⟨r0,hr0⟩:=hr;have hlW:l'<W.heap.size:=zO hr0;simp only [qD5];gi_wp2
     refine⟨Fr.of_below (zG (lB _ _) _),fun rr=>?_⟩;have hal:Below W.heap.size W (W.alloc (.cells #[uB z.kind,uB z.op,uW z.value,uI z.width,uR z.name,.slice zA zn zc] 31)):=zG (lB _ _) _;have hr6:(W.alloc (.cells #[uB z.kind,uB z.op,uW z.value,uI z.width,uR z.name,.slice zA zn zc] 31)).heap[l']?=some (.loop r0):=(hal.block l' hlW).trans hr0;have hz6:(W.alloc (.cells #[uB z.kind,uB z.op,uW z.value,uI z.width,uR z.name,.slice zA zn zc] 31)).heap.size=W.heap.size+1:=lO _ _;have hsz6:((W.alloc (.cells #[uB z.kind,uB z.op,uW z.value,uI z.width,uR z.name,.slice zA zn zc] 31)).putObj l' (.loop rr)).heap.size=W.heap.size+1:=by simp [World.putObj]
     have HZ:Hid (Bk ((W.alloc (.cells #[uB z.kind,uB z.op,uW z.value,uI z.width,uR z.name,.slice zA zn zc] 31)).putObj l' (.loop rr)) W.heap.size 31 #[uB z.kind,uB z.op,uW z.value,uI z.width,uR z.name,.slice zA zn zc]):=Ph (xJ (Bk.new _ _ _) Yo);have HYB6:Hid (Bk ((W.alloc (.cells #[uB z.kind,uB z.op,uW z.value,uI z.width,uR z.name,.slice zA zn zc] 31)).putObj l' (.loop rr)) yb 57 #[.func (.yield l) #[] #[]]):=Ph (xJ (zD hyb hal) Yo);have hj6:J k ((W.alloc (.cells #[uB z.kind,uB z.op,uW z.value,uI z.width,uR z.name,.slice zA zn zc] 31)).putObj l' (.loop rr)):=HJB.out _ _ _ hj ((hal.mono Yo).trans (yL Yo));have ht6:TX (fun _=>True) ((W.alloc (.cells #[uB z.kind,uB z.op,uW z.value,uI z.width,uR z.name,.slice zA zn zc] 31)).putObj l' (.loop rr)) z ⟨zA,zn,zc⟩:=(hg.bel hal).stay (xN hr6);obtain⟨fn,tmps,assign,body,hy,hRn⟩:=HY.out k z ⟨zA,zn,zc⟩ _ hj6 Yo hk ht6 3;have HRn:=Ph hRn;dsimp only [qD5]at hy;clear hRn hal hr6 hr0 hyb hj6 ht6 hj hg hz6;generalize ((W.alloc (.cells #[uB z.kind,uB z.op,uW z.value,uI z.width,uR z.name,.slice zA zn zc] 31)).putObj l' (.loop rr))=U at *;generalize W.heap.size=zb at *;have z0:U.cell? ⟨zb,0,none⟩=some (uB z.kind):=HZ.out.cell 0;have z1:U.cell? ⟨zb,1,none⟩=some (uB z.op):=HZ.out.cell 1;have z2:U.cell? ⟨zb,2,none⟩=some (uW z.value):=HZ.out.cell 2;have z3:U.cell? ⟨zb,3,none⟩=some (uI z.width):=HZ.out.cell 3;have z4:U.cell? ⟨zb,4,none⟩=some (uR z.name):=HZ.out.cell 4;have z5:U.cell? ⟨zb,5,none⟩=some (.slice zA zn zc):=HZ.out.cell 5;have y0:U.cell? ⟨yb,0,none⟩=some (.func (.yield l) #[] #[]):=HYB6.out.cell 0;gi_wp2
     refine RoundIn.mono (show RoundIn (Fence.wide.inRound l') 3 _ _ _ _ _ _ _ _ from HRn.out) ?_;clear hy HRn;rintro e W3 ⟨rfl,hJ3,hF3⟩;have HJ3:=Ph hJ3;have HF3:=Ph hF3;clear hJ3 hF3 z0 z1 z2 z3 z4 z5 y0;gi_wp2
     exact⟨⟨HJ3.out,HYB6.out.fr HF3.out Yo⟩,HF3.out⟩
    case hdone =>
     intro D W hD hi hf hd;obtain⟨hj,hyb⟩:=hi;have HJ3:=Ph hj;have HYB3:=Ph hyb;have HF3:Hid (FrC c W1 W):=Ph (HF5.out.trans hf);have HMK3:Hid (Marks W1.heap.size ({ target:=.collected D,args:=#[] } :: ds) W):=Ph (Marks.cons HMK.out Yo (by have:=HBAB.out.size;omega) hd (fun k o hk ho=>FrC.others hf (zD hcs1 HBAB.out) k o ((HBAB.out.block k (zO hk)).trans hk) ho));have hws3:=hf.size;clear hj hyb hf hd;have HTK:=Ph (vE x.subs j y HXI.out).2;have hwj:IntKind.i64.wrap ((j:Int)+1)=((j+1:Nat):Int):=by rw [lL];omega
     gi_wp2
     go_wp2
     refine Handed.intro (g-1) Yo (hJJ _ _ _ ⟨j+1,_,_,_,_,_,_,_,_,_,_,_,_,_,_,Yo,rfl,HMK3,?_,HF3,HYB3⟩);have h1:=HTK.out;rw [h1,←Nat.add_assoc];exact HJ3
   ·obtain rfl:j=Sn:=by omega
    have e1:decide ((j:Int)<(j:Int))=false:=Ym;go_wp2
    obtain⟨Ds,rfl,hn,ha⟩:=HMK.out;refine zB9 (b0:=W1.heap.size) Ds w hn ha fun w' hb=>⟨_,results_none rfl _ _ _,⟨_,rfl⟩,?_,HF.out.then (G:=fun k=>W1.heap.size≤k) ⟨hb.os,hb.tape,hb.output,hb.size,fun i _ hi=>hb.block i Yo⟩ fun i h1 h2=>Yo⟩;have h1:=HJB.out _ _ _ HJ.out (hb.mono hb0);have h2:=HL.out;rw [cJ Yo]at h1;have h3:=HSZ.out;rw [h3,←Nat.add_assoc];exact h1
end
section
open Go.RowKit Go.PlainAid Go.Shelf
attribute [local go_sem] Oper.semAt_some
theorem qU3 (x:Ex) (S:SV) (k:Nat) (w:World) (HT:Hid (TX (fun _=>True) w x S)) (hk:k+szX x≤20000) :
 Calls Tryz.prog 52 #[.agg (qD5 x S),uI k] w fun e w'=>e=.returned (uI ((k+szX x:Nat):Int))∧Below w.heap.size w w':=by
 refine(callsIn_wide (n:=6)).1 ?_;refine callsIn_of_wp_marks Tryz.func52 rfl trivial ?_ rfl;simp only [qD5,Tryz.ntmps52,List.size_toArray,Yc,Yn,Nat.reduceAdd,Nat.reduceSub,Array.replicate_succ,Array.replicate_zero,List.push_toArray,List.append_toArray,cF,lR];refine wpIn_wide.2 ?_;go_wp2
 have HE1:Hid (Bk ((w.alloc (.cells (uE x S) 31)).alloc (.cells #[uI k] 3)) w.heap.size 31 (uE x S)):=Ph ((Bk.new w 31 (uE x S)).alloc _);have hz0:(w.alloc (.cells (uE x S) 31)).heap.size=w.heap.size+1:=lO _ _;have HK1:Hid (Bk ((w.alloc (.cells (uE x S) 31)).alloc (.cells #[uI k] 3)) (w.heap.size+1) 3 #[uI k]):=Ph (by rw [←hz0];exact Bk.new _ _ _);have HB1:Hid (Below w.heap.size w ((w.alloc (.cells (uE x S) 31)).alloc (.cells #[uI k] 3))):=Ph (zG (zG (lB _ _) _) _);have hz1:((w.alloc (.cells (uE x S) 31)).alloc (.cells #[uI k] 3)).heap.size=w.heap.size+2:=by rw [lO,hz0]
 clear hz0;generalize ((World.alloc _ _))=W1 at *;obtain⟨eb,heb⟩:∃ b,w.heap.size=b:=⟨_,rfl⟩;rw [heb]at HE1 HK1 HB1 hz1 ⊢;have HT1:Hid (TX (fun _=>True) W1 x S):=Ph (HT.out.bel (heb▸HB1.out));go_step3
 go_wp2
 go_step3
 have x0:W1.cell? ⟨eb,0,none⟩=some (uB x.kind):=HE1.out.cell 0;have x1:W1.cell? ⟨eb,1,none⟩=some (uB x.op):=HE1.out.cell 1;have x2:W1.cell? ⟨eb,2,none⟩=some (uW x.value):=HE1.out.cell 2;have x3:W1.cell? ⟨eb,3,none⟩=some (uI x.width):=HE1.out.cell 3;have x4:W1.cell? ⟨eb,4,none⟩=some (uR x.name):=HE1.out.cell 4;have x5:W1.cell? ⟨eb,5,none⟩=some (.slice S.A S.n S.c):=HE1.out.cell 5;go_wp2_with fail
 refine(qZ2 (uE x S) W1).mono ?_;rintro e W2 ⟨rfl,rfl⟩;clear x0 x1 x2 x3 x4 x5;go_wp2_with fail
 have hBb:Below W1.heap.size W1 (W1.alloc (.cells (uE x S) 31)):=zG (lB _ _) _;have HE2:Hid (Bk (W1.alloc (.cells (uE x S) 31)) W1.heap.size 31 (uE x S)):=Ph (Bk.new _ _ _);have hz2:(W1.alloc (.cells (uE x S) 31)).heap.size=eb+3:=by rw [lO,hz1]
 generalize (W1.alloc _)=W2 at *;rw [hz1]at HE2 hBb;have HK2:=Ph (HK1.out.below hBb Yo);have HT2:Hid (TX (fun _=>True) W2 x S):=Ph (HT1.out.bel (hz1▸hBb));have HB2:Hid (Below eb w W2):=Ph (HB1.out.trans (hBb.mono Yo));clear hBb HK1 HT1 HB1 HE1;refine(wpIn_wide (n:=6)).1 ?_;refine zF9 (α:=Ex×SV) (encs:=fun p=>#[.agg (qD5 p.1 p.2)]) rfl rfl Yo rfl trivial (enters_of Tryz.func120 Yk rfl) (fun _=>rfl) (fun q=>q=eb+1) (fun k hk=>Yo) (fun _=>1) (fun p W=>TX (fun _=>True) W p.1 p.2) (k+szX x) k (szX x) (fun m W=>Bk W (eb+1) 3 #[uI m]) ?hI HK2.out ?hseq ?hround ?hdone
 case hI=>exact fun m W W' h hb=>h.below hb Yo
 case hseq =>
  intro l' J' W' hW hb hJI hJb hY' h0;exact qJ6 (szX x) x S 5 l' (eb+2) (eb+1) k (k+szX x) W'.heap.size J' W' (lF _) Yo (Ph (HT2.out.bel hb)) (Ph (HE2.out.below hb Yo)) Yo (lF _) (lF _) Yo (Ph fun k W hj=>⟨_,hJI k W hj⟩) (Ph hJb) (Ph fun k z V W hj hs hk ht q=>hY' k (z,V) W q hj hs ht hk) (Ph h0)
 case hround =>
  intro l' m p W hi hl hr hg hm;have HI:=Ph hi;have hel:eb+1<l':=Yo;clear hi hg hr HT2 HK2 HE2 HB2;gi_wp2
  refine⟨Fr.refl _ _,?_⟩;rintro _ ⟨rr,rfl⟩;have HU:Hid (Bk (W.putObj l' (.loop rr)) (eb+1) 3 #[uI m]):=Ph (xJ HI.out Yo);clear HI;generalize (W.putObj l' (.loop rr))=U at *;have x0:U.cell? ⟨eb+1,0,none⟩=some (uI m):=HU.out.cell 0;have f0:U.frozen? ⟨eb+1,0,none⟩=false:=HU.out.frozen 0;have hwj:IntKind.i64.wrap ((m:Int)+1)=((m+1:Nat):Int):=by rw [lL];omega
  have e1:decide ((20000:Int)<((m+1:Nat):Int))=false:=Yp;have hlU:eb+1<U.heap.size:=HU.out.lt;gi_wp2
  exact⟨HU.out.put 0 _,Fr.setCell (F:=fun q=>q=eb+1) (p:=⟨eb+1,0,none⟩) (Fr.refl _ U) (.inl rfl) _⟩
 case hdone =>
  intro D W hD hi hf hd;have HI:=Ph hi;have HD:=Ph hd;have HBW:Hid (Below w.heap.size w W):=Ph (by rw [heb];exact HB2.out.trans (hf.below eb Yo (fun q hq e=>Yo)));have x0:W.cell? ⟨eb+1,0,none⟩=some (uI ((k+szX x:Nat):Int)):=hi.cell 0;clear hi hf hd HT2 HK2 HE2 HB2;gi_wp2
  go_wp2
  rw [Exit.noGoto_ret];exact⟨Ym,.inl ⟨D,_,rfl,run_takeDeferred HD.out,⟨_,results_tmp rfl _ _ _,rfl,HBW.out.trans (yL Yo)⟩⟩⟩
end
end Go.Proofs.YtfdaebgllibphaaGreatDoor
