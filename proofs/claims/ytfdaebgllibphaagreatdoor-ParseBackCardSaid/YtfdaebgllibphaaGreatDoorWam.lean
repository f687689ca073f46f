import Derived.StillTail
import Derived.StillTactics
import Derived.Test.YtfdaebgllibphaaGreatDoorWah
set_option linter.unusedVariables false
set_option linter.unusedSimpArgs false
set_option maxRecDepth 100000
set_option maxHeartbeats 16000000
namespace Go.Proofs.YtfdaebgllibphaaGreatDoor
open Go.Proofs.Tryz
section
section
variable {E:Env} {n:Nat} {d:Int} {fl:Nat} {l:List Nat} {wide:Bool}
theorem jE9:∀ (es:List Ex) (n:Nat) (l:List Nat) (out:List Ex),(∀ x∈es,kP x)→0≤d→d+2*(vJ es:Int)≤200→kC es≤1000000→es≠[]→AtW E n ((4,[44]) :: kO (es.map (wX wide)))→nw E (n+1+(kO (es.map (wX wide))).length)=(4,[41])→l.length+kC es≤800000000 →
 Ev fun f=>yA E f (Qt n d fl l) out=some (out++es,Qt (n+1+(kO (es.map (wX wide))).length) d fl (l++plC E wide (n+1) es))
 | [],n,l,out,_,_,_,_,hne,_,_,_=>absurd rfl hne
 | x :: es,n,l,out,hg,h0,h1,hz,_,ha,hs,hl=>by
   have hgx:=hg x Ym;have e1:vJ (x :: es)=max (htX x) (vJ es):=by simp [vJ]
   have e2:kC (x :: es)=szX x+kC es:=by simp [kC]
   rw [e1]at h1;rw [e2]at hz hl;have hm1:=cO (htX x) (vJ es);have hm2:=cN (htX x) (vJ es);obtain⟨a0,a1⟩:=ha;have hcs:vX (4,[44]):=⟨Yd,Yd,Yd,fun _=>Yd⟩;cases es with
   | nil =>
     have ec:kO ([x].map (wX wide))=wX wide x:=rfl;rw [ec]at a1 hs ⊢;have hx:=xA (E:=E) (wide:=wide) (fl:=fl) (l:=l) hgx h0 Yo Yo a1 (by rw [hs];exact zB2) (by simp [kC]at hl;omega);have e3:plC E wide (n+1) [x]=plX E wide (n+1) x:=by simp [plC]
     rw [e3];refine(Ev.step (hx.step (Q:=fun f=>qS E f (Qt (n+1) d fl l)=some (x,Qt (n+1+(wX wide x).length) d fl (l++plX E wide (n+1) x))∧1≤f) fun f h=>⟨?_,Yo⟩) fun f h=>?_)
     ·unfold qS at h ⊢;cases hc:zM E f (St (n+1) d fl)with
      | none=>rw [show(Qt (n+1) d fl l).s=St (n+1) d fl from rfl,hc]at h;cases h
      | some r =>
        rw [show(Qt (n+1) d fl l).s=St (n+1) d fl from rfl,hc]at h;rw [show(Qt (n+1) d fl l).s=St (n+1) d fl from rfl,zA9 (Nat.le_succ f) hc];exact h
     ·obtain⟨h,hf⟩:=h;obtain⟨g,rfl⟩:∃ g,f=g+1:=⟨f-1,Yo⟩;rw [yA,show(Qt n d fl l).s=St n d fl from rfl,zG4 (by rw [a0]) (by rw [a0];decide)];simp only [if_true];rw [show(Qt n d fl l).on (zE (St n d fl))=Qt (n+1) d fl l from rfl,h];show yA E (g+1) _ _=_;rw [yA,show(Qt (n+1+(wX wide x).length) d fl (l++plX E wide (n+1) x)).s=St (n+1+(wX wide x).length) d fl from rfl,qF9 (by rw [hs];decide)];simp
   | cons y es =>
     have ec:kO ((x :: y :: es).map (wX wide))=wX wide x++(4,[44]) :: kO ((y :: es).map (wX wide)):=rfl;rw [ec]at a1 hs ⊢;obtain⟨a1,a2⟩:=AtW.app a1;have hx:=xA (E:=E) (wide:=wide) (fl:=fl) (l:=l) hgx h0 Yo Yo a1 (by rw [a2.1];exact hcs) Yo;have hlen:n+1+(wX wide x++(4,[44]) :: kO ((y :: es).map (wX wide))).length=n+1+(wX wide x).length+1+(kO ((y :: es).map (wX wide))).length:=Yp;rw [hlen]at hs ⊢;have ih:=jE9 (y :: es) (n+1+(wX wide x).length) (l++plX E wide (n+1) x) (out++[x]) (fun z hz=>hg z (by simp at hz ⊢;exact .inr hz)) h0 Yo Yo Ym a2 hs (by rw [Ya,jE E wide hgx];omega);refine(hx.and ih).step fun f h=>?_;obtain⟨h,k⟩:=h;rw [yA,show(Qt n d fl l).s=St n d fl from rfl,zG4 (by rw [a0]) (by rw [a0];decide)];simp only [if_true];rw [show(Qt n d fl l).on (zE (St n d fl))=Qt (n+1) d fl l from rfl,h];show yA E f _ _=_;rw [k];have e3:plC E wide (n+1) (x :: y :: es)=plX E wide (n+1) x++plC E wide (n+1+(wX wide x).length+1) (y :: es):=by simp [plC]
     rw [e3];simp
end
theorem jZ9 {wide:Bool} {x:Ex} (h:kP x):∃ w r,wX wide x=w :: r∧w.2≠[41]:=by
 have hnm:∀ {n:List UInt8},NameOk n→n≠[41]:=by rintro n h rfl;obtain⟨c,r,e,hc,_⟩:=h.word;injection e with e _;subst e;exact absurd hc Yd
 have hsub:∀ {y:Ex},(∃ w r,wX wide y=w :: r∧w.2≠[41])→∃ w r,sW wide y=w :: r∧w.2≠[41]:=by
  rintro y ⟨w,r,e,hw⟩;show ∃ w r,jE2 wide y (wX wide y)=w :: r∧_;unfold jE2;split
  ·exact⟨_,_,rfl,Yd⟩
  ·exact⟨w,r,e,hw⟩
 induction h with
 | num v w hv hw =>
   refine⟨_,_,by simp only [wX,if_true];rfl,?_⟩;obtain⟨h1,h2,_⟩:=jQ hv;dsimp only;cases hd:qZ v with
   | nil=>exact absurd hd h2
   | cons c r =>
     rw [hd]at h1;intro e;injection e with e _;have:=h1 c Ym;rw [e]at this;exact absurd this Yd
 | var n hn=>exact⟨(1,n),[],by simp [wX],hnm hn⟩
 | elem n y hn hy ih=>exact⟨(1,n),_,by simp [wX];rfl,hnm hn⟩
 | disk y hy ih=>exact⟨(1,bs "disk"),_,by simp [wX];rfl,Yd⟩
 | un o y o1 o2 hy ih=>exact⟨(4,kK o),_,by simp [wX];rfl,by rcases(by omega:o=1∨o=2)with rfl | rfl <;> decide⟩
 | bin o x y o1 o2 hx hy ih1 ih2=>obtain⟨w,r,e,hw⟩:=hsub ih1;exact⟨w,_,by simp [wX,wXs];rw [show jE2 wide x (wX wide x)=w :: r from e];rfl,hw⟩
 | mux x y z hx hy hz ih1 ih2 ih3=>obtain⟨w,r,e,hw⟩:=hsub ih1;exact⟨w,_,by simp [wX,wXs];rw [show jE2 wide x (wX wide x)=w :: r from e];rfl,hw⟩
 | cast w y hw hy ih=>obtain⟨w,r,e,hw⟩:=hsub ih;exact⟨w,_,by simp [wX,wXs];rw [show jE2 wide y (wX wide y)=w :: r from e];rfl,hw⟩
section
variable {E:Env} {n:Nat} {d:Int} {fl:Nat} {l:List Nat} {wide:Bool}
theorem zD5 (h:l.length≤800000000):okL (Qt n d fl l)=true:=lH h
theorem xO {k:Nat} {x:Sx} {q':QSt} {out:List Sx} {r} (hl:l.length≤800000000) (hk:kM (nw E n).2=some k) (hr:Ev fun f=>qY E f k (Qt (n+1) d fl (l++[plc E n]))=some (x,q')) (hc:Ev fun f=>jM E f q' (out++[x])=some r):Ev fun f=>jM E f (Qt n d fl l) out=some r:=by refine(hr.and hc).step fun f h=>?_;obtain⟨h1,h2⟩:=h;rw [jM,lM (show(Qt n d fl l).s.e=0 from rfl),zD5 hl,lM rfl,show(Qt n d fl l).s=St n d fl from rfl,zT,yP,hk];dsimp only;rw [show zE (St n d fl)=St (n+1) d fl from rfl,h1];exact h2
theorem zY3 {x:Sx} {q':QSt} {out:List Sx} {nm:List UInt8} {r} (hl:l.length≤800000000) (hw:nw E n=(1,nm)) (hn:NameOk nm) (hr:Ev fun f=>qY E f 0 (Qt n d fl (l++[plc E n]))=some (x,q')) (hc:Ev fun f=>jM E f q' (out++[x])=some r):Ev fun f=>jM E f (Qt n d fl l) out=some r:=by
 refine(hr.and hc).step fun f h=>?_;obtain⟨h1,h2⟩:=h;have e:(Qt n d fl l).at E=Qt n d fl (l++[plc E n]):=by unfold QSt.at;rw [show(Qt n d fl l).s=St n d fl from rfl,yP]
 rw [jM,lM (show(Qt n d fl l).s.e=0 from rfl),zD5 hl,lM rfl,e,show(Qt n d fl l).s=St n d fl from rfl,zT,qU,hw,qM6 hn];dsimp only;rw [lM ⟨rfl,hn.no⟩,h1];exact h2
theorem jF1 {out:List Sx} (hl:l.length≤800000000) (h1:kM (nw E n).2=none) (h2:(nw E n).1=1→vO (nw E n).2=true):Ev fun f=>jM E f (Qt n d fl l) out=some (out,Qt n d fl l):=by refine Ev.step (Ev.of (P:=fun _=>True) fun _=>trivial) fun f _=>?_;rw [jM,lM (show(Qt n d fl l).s.e=0 from rfl),zD5 hl,lM rfl,show(Qt n d fl l).s=St n d fl from rfl,zT,qU,h1];dsimp only;rw [lN];intro h;rw [h2 h.1]at h;exact absurd h.2 Yd
def LS (E:Env) (wide:Bool) (x:Sx):Prop:=∀ (n:Nat) (d:Int) (fl:Nat) (l:List Nat) (out:List Sx) (r:List Sx×QSt),0≤d→d+2*(htS x:Int)≤200→szS x≤1000000→l.length+szS x≤800000000→AtW E n (wS wide x)→qM5 (nw E (n+(wS wide x).length)) →
 (Ev fun f=>jM E f (Qt (n+(wS wide x).length) d fl (l++plS E wide n x)) (out++[x])=some r)→Ev fun f=>jM E f (Qt n d fl l) out=some r
theorem xB (E:Env) (wide:Bool):∀ (xs:List Sx),(∀ y∈xs,∀ n,(plS E wide n y).length=szS y)→∀ n,(zL8 E wide n xs).length=yE xs
 | [],_,n=>by simp [zL8,yE]
 | x :: xs,h,n=>by simp only [zL8,yE,Ya];rw [h x Ym,xB E wide xs (fun y hy=>h y (by simp [hy]))]
theorem jF2 (E:Env) (wide:Bool):∀ (xs:List Ex),(∀ y∈xs,kP y)→∀ n,(plC E wide n xs).length=kC xs
 | [],_,n=>by simp [plC,kC]
 | x :: xs,h,n=>by simp only [plC,kC,Ya];rw [jE E wide (h x Ym),jF2 E wide xs (fun y hy=>h y (by simp [hy]))]
theorem zD6 (E:Env) (wide:Bool) {x:Sx} (h:vP x):∀ n,(plS E wide n x).length=szS x:=by
 induction h with
 | set n x hn hx=>intro m;simp [plS,szS,kC,yE,jE E wide hx];omega
 | put n i x hn hi hx=>intro m;simp [plS,szS,kC,yE,jE E wide hx,jE E wide hi];omega
 | write b x hb hx=>intro m;simp [plS,szS,kC,yE,jE E wide hx,jE E wide hb];omega
 | flush=>intro m;simp [plS,szS,kC,yE]
 | barrier=>intro m;simp [plS,szS,kC,yE]
 | ifs x t e hx ht he ih1 ih2=>intro m;simp [plS,szS,kC,yE,jE E wide hx,xB E wide t ih1,xB E wide e ih2];omega
 | loop x b t hx hb ht ih=>intro m;simp [plS,szS,kC,yE,jE E wide hx,xB E wide t ih];omega
 | call n es hn hes=>intro m;simp [plS,szS,yE,jF2 E wide es hes];omega
theorem kA1:∀ (xs:List Sx) (n:Nat) (l:List Nat) (out:List Sx) (r:List Sx×QSt),(∀ y∈xs,vP y∧LS E wide y)→0≤d→d+2*(vL xs:Int)≤200→yE xs≤1000000→l.length+yE xs≤800000000→AtW E n (wSs wide xs)→qM5 (nw E (n+(wSs wide xs).length)) →
 (Ev fun f=>jM E f (Qt (n+(wSs wide xs).length) d fl (l++zL8 E wide n xs)) (out++xs)=some r)→Ev fun f=>jM E f (Qt n d fl l) out=some r
 | [],n,l,out,r,_,_,_,_,_,_,_,h=>by simpa [wSs,zL8]using h
 | x :: xs,n,l,out,r,hg,h0,h1,hz,hl,ha,hs,h=>by
   have e0:wSs wide (x :: xs)=wS wide x++wSs wide xs:=by simp [wSs]
   have e1:vL (x :: xs)=max (htS x) (vL xs):=by simp [vL]
   have e2:yE (x :: xs)=szS x+yE xs:=by simp [yE]
   have e3:zL8 E wide n (x :: xs)=plS E wide n x++zL8 E wide (n+(wS wide x).length) xs:=by simp [zL8]
   rw [e0]at ha hs h;rw [e1]at h1;rw [e2]at hz hl;rw [e3]at h;have hm1:=cO (htS x) (vL xs);have hm2:=cN (htS x) (vL xs);obtain⟨a1,a2⟩:=AtW.app ha;have hlen:n+(wS wide x++wSs wide xs).length=n+(wS wide x).length+(wSs wide xs).length:=by rw [Ya];omega
   rw [hlen]at hs h;obtain⟨g1,g2⟩:=hg x Ym;have hsx:qM5 (nw E (n+(wS wide x).length)):=by
    cases xs with
    | nil=>simpa [wSs]using hs
    | cons y ys =>
      obtain⟨w,r,hw,hsw⟩:=jZ8 (wide:=wide) (hg y Ym).1;have e4:wSs wide (y :: ys)=w :: (r++wSs wide ys):=by simp [wSs,hw]
      rw [e4]at a2;rw [a2.1];exact hsw
   refine g2 n d fl l out r h0 Yo Yo Yo a1 hsx ?_;refine kA1 xs (n+(wS wide x).length) (l++plS E wide n x) (out++[x]) r (fun y hy=>hg y (by simp [hy])) h0 Yo Yo (by rw [Ya,zD6 E wide g1];omega) a2 hs ?_;simpa using h
theorem qW9:qM5 (4,[125]):=⟨⟨Yd,Yd,Yd,fun _=>Yd⟩,Yd⟩
theorem zN8 {xs:List Sx} (hg:∀ y∈xs,vP y∧LS E wide y) (h0:0≤d) (h1:d+1+2*(vL xs:Int)≤200) (hz:yE xs≤1000000) (hl:l.length+yE xs≤800000000) (ha:AtW E n (wB wide xs)) :
 Ev fun f=>kE E f (Qt n d fl l)=some (xs,Qt (n+1+(wSs wide xs).length+1) d fl (l++zL8 E wide (n+1) xs)):=by
 obtain⟨a1,a2⟩:=ha;obtain⟨a2,a3,_⟩:=AtW.app a2;have key:=kA1 (E:=E) (wide:=wide) (d:=d+1) (fl:=fl) xs (n+1) l [] _ hg Yo h1 hz hl a2 (by rw [a3];exact qW9) (jF1 (by simp only [Ya,xB E wide xs (fun y hy=>zD6 E wide (hg y hy).1)];exact hl) (by rw [a3];decide) (by rw [a3];decide));refine key.step fun f h=>?_;rw [kE,zY2 (by rw [a1]) Yd h0 Yo];dsimp only;rw [h];dsimp only;rw [zT6 (by rw [a3]) (by rw [a3];decide) h0 Yo];rfl
theorem qB3 (xs:List Sx):n+(wB wide xs).length=n+1+(wSs wide xs).length+1:=Yp
theorem kN4 (E:Env) (wide:Bool) {x:Sx} (h:vP x):LS E wide x:=by
 induction h with
 | set nm x hn hx =>
   intro n d fl l out r h0 h1 hz hl ha hs hc;have e:wS wide (.mk 1 nm [x] 0 [] [])=(1,nm) :: (4,[61]) :: wX wide x:=by simp [wS]
   have e2:plS E wide n (.mk 1 nm [x] 0 [] [])=plc E n :: plX E wide (n+2) x:=by simp [plS]
   have e3:htS (.mk 1 nm [x] 0 [] [])=1+htX x:=by simp [htS,vJ,vL]
   have e4:szS (.mk 1 nm [x] 0 [] [])=1+szX x:=by simp [szS,kC,yE]
   rw [e]at ha hs hc;rw [e2]at hc;rw [e3]at h1;rw [e4]at hz hl;obtain⟨a1,a2,a3⟩:=ha;have hlen:n+((1,nm) :: (4,[61]) :: wX wide x).length=n+2+(wX wide x).length:=Yp;rw [hlen]at hs hc;have hx:=xA (E:=E) (wide:=wide) (n:=n+2) (fl:=fl) (l:=l++[plc E n]) hx h0 Yo Yo a3 hs.x Yp;refine zY3 Yo a1 hn (hx.step (Q:=fun f=>qY E f 0 (Qt n d fl (l++[plc E n]))=some (.mk 1 nm [x] 0 [] [],Qt (n+2+(wX wide x).length) d fl (l++[plc E n]++plX E wide (n+2) x))) fun f h=>?_) (by simpa using hc);obtain⟨g1,g2⟩:=xU (d:=d) (fl:=fl) a1 hn.no;simp only [qY];rw [g1,g2,zT,lN (by rw [a2];decide),kI (by rw [a2]) (by rw [a2];decide)];rw [show(Qt n d fl (l++[plc E n])).on (St (n+1+1) d fl)=Qt (n+2) d fl (l++[plc E n]) from rfl,h]
 | put nm i x hn hi hx =>
   intro n d fl l out r h0 h1 hz hl ha hs hc;have e:wS wide (.mk 2 nm [i,x] 0 [] [])=(1,nm) :: (4,[91]) :: (wX wide i++(4,[93]) :: (4,[61]) :: wX wide x):=by simp [wS]
   have e2:plS E wide n (.mk 2 nm [i,x] 0 [] [])=plc E n :: (plX E wide (n+2) i++plX E wide (n+2+(wX wide i).length+2) x):=by simp [plS]
   have e3:htS (.mk 2 nm [i,x] 0 [] [])=1+max (htX i) (htX x):=by simp [htS,vJ,vL]
   have e4:szS (.mk 2 nm [i,x] 0 [] [])=1+(szX i+szX x):=by simp [szS,kC,yE]
   rw [e]at ha hs hc;rw [e2]at hc;rw [e3]at h1;rw [e4]at hz hl;have hm1:=cO (htX i) (htX x);have hm2:=cN (htX i) (htX x);obtain⟨a1,a2,a3⟩:=ha;obtain⟨a3,a4,a5,a6⟩:=AtW.app a3;have hlen:n+((1,nm) :: (4,[91]) :: (wX wide i++(4,[93]) :: (4,[61]) :: wX wide x)).length=n+2+(wX wide i).length+2+(wX wide x).length:=Yp;rw [hlen]at hs hc;have hxi:=xA (E:=E) (wide:=wide) (n:=n+2) (d:=d+1) (fl:=fl) (l:=l++[plc E n]) hi Yo Yo Yo a3 (by rw [a4];exact zH5) Yp;have hxx:=xA (E:=E) (wide:=wide) (n:=n+2+(wX wide i).length+2) (d:=d) (fl:=fl) (l:=l++[plc E n]++plX E wide (n+2) i) hx Yo Yo Yo a6 hs.x (by simp [jE E wide hi];omega);refine zY3 Yo a1 hn ((hxi.and hxx).step (Q:=fun f=>qY E f 0 (Qt n d fl (l++[plc E n]))=some (.mk 2 nm [i,x] 0 [] [],Qt (n+2+(wX wide i).length+2+(wX wide x).length) d fl (l++[plc E n]++plX E wide (n+2) i++plX E wide (n+2+(wX wide i).length+2) x))) fun f h=>?_) (by simpa using hc);obtain⟨k1,k2⟩:=h;obtain⟨g1,g2⟩:=xU (d:=d) (fl:=fl) a1 hn.no;simp only [qY];rw [g1,g2,zT,lM (by rw [a2])];rw [show(Qt n d fl (l++[plc E n])).on (St (n+1) d fl)=Qt (n+1) d fl (l++[plc E n]) from rfl,zY2 (by rw [a2]) Yd h0 Yo];dsimp only;rw [k1];dsimp only;rw [zT6 (by rw [a4]) (by rw [a4];decide) h0 Yo];dsimp only;rw [kI (by rw [a5]) (by rw [a5];decide)];rw [show(Qt (n+2+(wX wide i).length+1) d fl (l++[plc E n]++plX E wide (n+2) i)).on (St (n+2+(wX wide i).length+1+1) d fl)=Qt (n+2+(wX wide i).length+2) d fl (l++[plc E n]++plX E wide (n+2) i) from rfl,k2]
 | write b x hb hx =>
   intro n d fl l out r h0 h1 hz hl ha hs hc;have e:wS wide (.mk 3 [] [b,x] 0 [] [])=(1,bs "write") :: (wX wide b++(4,[44]) :: wX wide x):=by simp [wS]
   have e2:plS E wide n (.mk 3 [] [b,x] 0 [] [])=plc E n :: (plX E wide (n+1) b++plX E wide (n+1+(wX wide b).length+1) x):=by simp [plS]
   have e3:htS (.mk 3 [] [b,x] 0 [] [])=1+max (htX b) (htX x):=by simp [htS,vJ,vL]
   have e4:szS (.mk 3 [] [b,x] 0 [] [])=1+(szX b+szX x):=by simp [szS,kC,yE]
   rw [e]at ha hs hc;rw [e2]at hc;rw [e3]at h1;rw [e4]at hz hl;have hm1:=cO (htX b) (htX x);have hm2:=cN (htX b) (htX x);obtain⟨a1,a3⟩:=ha;obtain⟨a3,a4,a6⟩:=AtW.app a3;have hlen:n+((1,bs "write") :: (wX wide b++(4,[44]) :: wX wide x)).length=n+1+(wX wide b).length+1+(wX wide x).length:=Yp;rw [hlen]at hs hc;have hcs:vX (4,[44]):=⟨Yd,Yd,Yd,fun _=>Yd⟩;have hxi:=xA (E:=E) (wide:=wide) (n:=n+1) (d:=d) (fl:=fl) (l:=l++[plc E n]) hb Yo Yo Yo a3 (by rw [a4];exact hcs) Yp;have hxx:=xA (E:=E) (wide:=wide) (n:=n+1+(wX wide b).length+1) (d:=d) (fl:=fl) (l:=l++[plc E n]++plX E wide (n+1) b) hx Yo Yo Yo a6 hs.x (by simp [jE E wide hb];omega);refine xO (hl:=Yo) (by rw [a1];decide) ((hxi.and hxx).step (Q:=fun f=>qY E f 3 (Qt (n+1) d fl (l++[plc E n]))=some (.mk 3 [] [b,x] 0 [] [],Qt (n+1+(wX wide b).length+1+(wX wide x).length) d fl (l++[plc E n]++plX E wide (n+1) b++plX E wide (n+1+(wX wide b).length+1) x))) fun f h=>?_) (by simpa using hc);obtain⟨k1,k2⟩:=h;simp only [qY];rw [k1];dsimp only;rw [kI (by rw [a4]) (by rw [a4];decide)];rw [show(Qt (n+1+(wX wide b).length) d fl (l++[plc E n]++plX E wide (n+1) b)).on (St (n+1+(wX wide b).length+1) d fl)=Qt (n+1+(wX wide b).length+1) d fl (l++[plc E n]++plX E wide (n+1) b) from rfl,k2]
 | flush =>
   intro n d fl l out r h0 h1 hz hl ha hs hc;have e:wS wide (.mk 4 [] [] 0 [] [])=[(1,bs "flush")]:=by simp [wS]
   have e2:plS E wide n (.mk 4 [] [] 0 [] [])=[plc E n]:=by simp [plS]
   rw [e]at ha hs hc;rw [e2]at hc;obtain⟨a1,_⟩:=ha;refine xO (hl:=Yo) (k:=4) (x:=.mk 4 [] [] 0 [] []) (by rw [a1];decide) (Ev.step (Ev.of (P:=fun _=>True) fun _=>trivial) fun f _=>?_) hc;simp only [qY];rfl
 | barrier =>
   intro n d fl l out r h0 h1 hz hl ha hs hc;have e:wS wide (.mk 5 [] [] 0 [] [])=[(1,bs "barrier")]:=by simp [wS]
   have e2:plS E wide n (.mk 5 [] [] 0 [] [])=[plc E n]:=by simp [plS]
   rw [e]at ha hs hc;rw [e2]at hc;obtain⟨a1,_⟩:=ha;refine xO (hl:=Yo) (k:=5) (x:=.mk 5 [] [] 0 [] []) (by rw [a1];decide) (Ev.step (Ev.of (P:=fun _=>True) fun _=>trivial) fun f _=>?_) hc;simp only [qY];rfl
 | ifs x t e hx ht he ih1 ih2 =>
   intro n d fl l out r h0 h1 hz hl ha hs hc;have e0:wS wide (.mk 6 [] [x] 0 t e)=(1,bs "if") :: (wX wide x++(wB wide t++(if e≠[]∨wide then(1,bs "else") :: wB wide e else []))):=by simp [wS]
   have e2:plS E wide n (.mk 6 [] [x] 0 t e)=plc E n :: (plX E wide (n+1) x++(zL8 E wide (n+1+(wX wide x).length+1) t++zL8 E wide (n+1+(wX wide x).length+1+(wSs wide t).length+1+2) e)):=by simp [plS]
   have e3:htS (.mk 6 [] [x] 0 t e)=1+max (htX x) (max (vL t) (vL e)):=by simp [htS,vJ]
   have e4:szS (.mk 6 [] [x] 0 t e)=1+szX x+yE t+yE e:=by simp [szS,kC]
   rw [e0]at ha hs hc;rw [e2]at hc;rw [e3]at h1;rw [e4]at hz hl;have hm1:=cO (htX x) (max (vL t) (vL e));have hm2:=cN (htX x) (max (vL t) (vL e));have hm3:=cO (vL t) (vL e);have hm4:=cN (vL t) (vL e);obtain⟨a1,a3⟩:=ha;obtain⟨a3,a4⟩:=AtW.app a3;obtain⟨a4,a5⟩:=AtW.app a4;rw [qB3]at a5;have hxi:=xA (E:=E) (wide:=wide) (n:=n+1) (d:=d) (fl:=fl) (l:=l++[plc E n]) hx Yo Yo Yo a3 (by rw [a4.1];exact⟨Yd,Yd,Yd,fun _=>Yd⟩) Yp;have hbt:=zN8 (E:=E) (wide:=wide) (n:=n+1+(wX wide x).length) (d:=d) (fl:=fl) (l:=l++[plc E n]++plX E wide (n+1) x) (xs:=t) (fun y hy=>⟨ht y hy,ih1 y hy⟩) h0 Yo Yo (by simp [jE E wide hx];omega) a4;by_cases hel:e≠[]∨wide=true
   ·rw [lM hel]at a5 hs hc;obtain⟨a6,a7⟩:=a5;have hlen:n+((1,bs "if") :: (wX wide x++(wB wide t++(1,bs "else") :: wB wide e))).length=n+1+(wX wide x).length+1+(wSs wide t).length+1+1+1+(wSs wide e).length+1:=Yp;rw [hlen]at hs hc;have hbe:=zN8 (E:=E) (wide:=wide) (n:=n+1+(wX wide x).length+1+(wSs wide t).length+1+1) (d:=d) (fl:=fl) (l:=l++[plc E n]++plX E wide (n+1) x++zL8 E wide (n+1+(wX wide x).length+1) t) (xs:=e) (fun y hy=>⟨he y hy,ih2 y hy⟩) h0 Yo Yo (by simp [jE E wide hx,xB E wide t (fun y hy=>zD6 E wide (ht y hy))];omega) a7;refine xO (hl:=Yo) (k:=6) (x:=.mk 6 [] [x] 0 t e) (by rw [a1];decide) (((hxi.and hbt).and hbe).step fun f h=>?_) (by simpa using hc);obtain⟨⟨k1,k2⟩,k3⟩:=h;simp only [qY];rw [k1];dsimp only;rw [k2];dsimp only;rw [zG4 (by rw [a6]) (by rw [a6];decide),lM rfl];rw [show(Qt (n+1+(wX wide x).length+1+(wSs wide t).length+1) d fl (l++[plc E n]++plX E wide (n+1) x++zL8 E wide (n+1+(wX wide x).length+1) t)).on (zE (St (n+1+(wX wide x).length+1+(wSs wide t).length+1) d fl))=Qt (n+1+(wX wide x).length+1+(wSs wide t).length+1+1) d fl (l++[plc E n]++plX E wide (n+1) x++zL8 E wide (n+1+(wX wide x).length+1) t) from rfl,k3];simp
   ·rw [lN hel]at a5 hs hc;have he0:e=[]:=by
     cases e with
     | nil=>rfl
     | cons y ys=>exact absurd (.inl Ym) hel
    subst he0;have hlen:n+((1,bs "if") :: (wX wide x++(wB wide t++[]))).length=n+1+(wX wide x).length+1+(wSs wide t).length+1:=Yp;rw [hlen]at hs hc;refine xO (hl:=Yo) (k:=6) (x:=.mk 6 [] [x] 0 t []) (by rw [a1];decide) ((hxi.and hbt).step fun f h=>?_) (by simpa [zL8]using hc);obtain⟨k1,k2⟩:=h;simp only [qY];rw [k1];dsimp only;rw [k2];dsimp only;rw [qF9 hs.e];simp
 | loop x b t hx hb ht ih =>
   intro n d fl l out r h0 h1 hz hl ha hs hc;have e0:wS wide (.mk 7 [] [x] b t [])=(1,bs "while") :: (wX wide x++(1,bs "bound") :: (2,qZ b) :: wB wide t):=by simp [wS]
   have e2:plS E wide n (.mk 7 [] [x] b t [])=plc E n :: (plX E wide (n+1) x++zL8 E wide (n+1+(wX wide x).length+2+1) t):=by simp [plS]
   have e3:htS (.mk 7 [] [x] b t [])=1+max (htX x) (vL t):=by simp [htS,vJ,vL]
   have e4:szS (.mk 7 [] [x] b t [])=1+szX x+yE t:=by simp [szS,kC,yE]
   rw [e0]at ha hs hc;rw [e2]at hc;rw [e3]at h1;rw [e4]at hz hl;have hm1:=cO (htX x) (vL t);have hm2:=cN (htX x) (vL t);obtain⟨a1,a3⟩:=ha;obtain⟨a3,a4,a5,a6⟩:=AtW.app a3;have hlen:n+((1,bs "while") :: (wX wide x++(1,bs "bound") :: (2,qZ b) :: wB wide t)).length=n+1+(wX wide x).length+2+1+(wSs wide t).length+1:=Yp;rw [hlen]at hs hc;have hxi:=xA (E:=E) (wide:=wide) (n:=n+1) (d:=d) (fl:=fl) (l:=l++[plc E n]) hx Yo Yo Yo a3 (by rw [a4];exact zD4 rfl ⟨_,_,rfl,Yd⟩) Yp;have hbt:=zN8 (E:=E) (wide:=wide) (n:=n+1+(wX wide x).length+2) (d:=d) (fl:=fl) (l:=l++[plc E n]++plX E wide (n+1) x) (xs:=t) (fun y hy=>⟨ht y hy,ih y hy⟩) h0 Yo Yo (by simp [jE E wide hx];omega) a6;refine xO (hl:=Yo) (k:=7) (x:=.mk 7 [] [x] b t []) (by rw [a1];decide) ((hxi.and hbt).step fun f h=>?_) (by simpa using hc);obtain⟨k1,k2⟩:=h;simp only [qY];rw [k1];dsimp only;rw [kI (by rw [a4]) (by rw [a4];decide),zB1 a5 (jQ hb).2.2];dsimp only;rw [show(Qt (n+1+(wX wide x).length) d fl (l++[plc E n]++plX E wide (n+1) x)).on (St (n+1+(wX wide x).length+1+1) d fl)=Qt (n+1+(wX wide x).length+2) d fl (l++[plc E n]++plX E wide (n+1) x) from rfl,k2];simp
 | call nm es hn hes =>
   intro n d fl l out r h0 h1 hz hl ha hs hc;have e0:wS wide (.mk 8 nm es 0 [] [])=(1,bs "call") :: (1,nm) :: (4,[40]) :: (kO (es.map (wX wide))++[(4,[41])]):=by simp [wS]
   have e2:plS E wide n (.mk 8 nm es 0 [] [])=plc E n :: plC E wide (n+3) es:=by simp [plS]
   have e3:htS (.mk 8 nm es 0 [] [])=1+vJ es:=by simp [htS,vL]
   have e4:szS (.mk 8 nm es 0 [] [])=1+kC es:=by simp [szS,yE]
   rw [e0]at ha hs hc;rw [e2]at hc;rw [e3]at h1;rw [e4]at hz hl;obtain⟨a1,a2,a3,a4⟩:=ha;obtain⟨a4,a5,_⟩:=AtW.app a4;have hlen:n+((1,bs "call") :: (1,nm) :: (4,[40]) :: (kO (es.map (wX wide))++[(4,[41])])).length=n+3+(kO (es.map (wX wide))).length+1:=Yp;rw [hlen]at hs hc;obtain⟨g1',g2'⟩:=xU (d:=d) (fl:=fl) a2 hn.no;have key:Ev fun f=>yC E f (Qt (n+2) d fl (l++[plc E n]))=some (es,Qt (n+3+(kO (es.map (wX wide))).length+1) d fl (l++[plc E n]++plC E wide (n+3) es)):=by
    cases es with
    | nil =>
      have ec:kO (([]:List Ex).map (wX wide))=[]:=rfl;rw [ec]at a5;have a5:nw E (n+3)=(4,[41]):=a5;refine Ev.of fun f=>?_;unfold yC;rw [zY2 (by rw [a3]) Yd h0 Yo];simp only [cG,lP];rw [show St (n+2+1) (d+1) fl=St (n+3) (d+1) fl from rfl,zT,a5,lN Ym];rw [show Qt (n+2+1) (d+1) fl (l++[plc E n])=Qt (n+3) (d+1) fl (l++[plc E n]) from rfl,zT6 (by rw [a5]) (by rw [a5];decide) h0 Yo];simp [plC,kO]
    | cons x es =>
      have hgx:=hes x Ym;have f1:vJ (x :: es)=max (htX x) (vJ es):=by simp [vJ]
      have f2:kC (x :: es)=szX x+kC es:=by simp [kC]
      rw [f1]at h1;rw [f2]at hz hl;have hm1:=cO (htX x) (vJ es);have hm2:=cN (htX x) (vJ es);have hcs:vX (4,[44]):=⟨Yd,Yd,Yd,fun _=>Yd⟩;obtain⟨tl,htl⟩:∃ tl:List Wd,kO ((x :: es).map (wX wide))=wX wide x++tl∧((tl=[]∧es=[])∨(∃ y ys,es=y :: ys∧tl=(4,[44]) :: kO (es.map (wX wide)))):=by
       cases es with
       | nil=>exact⟨[],by simp [kO],.inl ⟨rfl,rfl⟩⟩
       | cons y ys=>exact⟨(4,[44]) :: kO ((y :: ys).map (wX wide)),rfl,.inr ⟨y,ys,rfl,rfl⟩⟩
      obtain⟨htl,hcase⟩:=htl;rw [htl]at a4 a5 ⊢;obtain⟨b1,b2⟩:=AtW.app a4;have hne:(nw E (n+3)).2≠[41]:=by obtain⟨w,r,e,hw⟩:=jZ9 (wide:=wide) hgx;rw [e]at b1;have b1:nw E (n+3)=w:=b1.1;rw [b1];exact hw
      have hstart:∀ f,yC E f (Qt (n+2) d fl (l++[plc E n]))=(match qS E f (Qt (n+3) (d+1) fl (l++[plc E n]))with
       | none=>none
       | some (x,q)=>match yA E f q [x]with
         | none=>none
         | some (l,q)=>match jX E q [41]with
           | none=>none
           | some q=>some (l,q)):=by
       intro f;unfold yC;rw [zY2 (by rw [a3]) Yd h0 Yo];simp only [cG,lP];rw [show St (n+2+1) (d+1) fl=St (n+3) (d+1) fl from rfl,zT,lM ⟨hne,trivial⟩];rw [show Qt (n+2+1) (d+1) fl (l++[plc E n])=Qt (n+3) (d+1) fl (l++[plc E n]) from rfl];cases qS E f (Qt (n+3) (d+1) fl (l++[plc E n]))with
       | none=>rfl
       | some q =>
         obtain⟨x,q⟩:=q;simp only [lP];cases yA E f q [x]with
         | none=>rfl
         | some q =>
           obtain⟨y,q⟩:=q;simp only [lP];cases jX E q [41] <;> rfl
      rcases hcase with⟨rfl,rfl⟩ | ⟨y,ys,rfl,rfl⟩
      ·rw [cT]at a5 ⊢;have hxi:=xA (E:=E) (wide:=wide) (n:=n+3) (d:=d+1) (fl:=fl) (l:=l++[plc E n]) hgx Yo Yo Yo b1 (by rw [show n+3+(wX wide x).length=n+1+1+1+(wX wide x).length from rfl,a5];exact zB2) Yp;refine(hxi.and (Ev.step (Ev.of (P:=fun _=>True) fun _=>trivial) (Q:=fun f=>1≤f) fun f _=>Yo)).mono fun f h=>?_;obtain⟨k1,hf⟩:=h;obtain⟨g,rfl⟩:∃ g,f=g+1:=⟨f-1,Yo⟩;rw [hstart,k1];dsimp only;rw [yA,show(Qt (n+3+(wX wide x).length) (d+1) fl (l++[plc E n]++plX E wide (n+3) x)).s=St (n+1+1+1+(wX wide x).length) (d+1) fl from rfl,qF9 (by rw [a5];decide)];dsimp only;rw [lN Yd];dsimp only;rw [zT6 (by rw [show n+3+(wX wide x).length=n+1+1+1+(wX wide x).length from rfl,a5]) (by rw [show n+3+(wX wide x).length=n+1+1+1+(wX wide x).length from rfl,a5];decide) h0 Yo];simp [plC]
      ·have hxi:=xA (E:=E) (wide:=wide) (n:=n+3) (d:=d+1) (fl:=fl) (l:=l++[plc E n]) hgx Yo Yo Yo b1 (by rw [show n+3+(wX wide x).length=n+1+1+1+(wX wide x).length from rfl,b2.1];exact hcs) Yp;have hend:nw E (n+3+(wX wide x).length+1+(kO ((y :: ys).map (wX wide))).length)=(4,[41]):=by rw [←a5];congr 1;simp;omega
       have hmr:=jE9 (E:=E) (wide:=wide) (d:=d+1) (fl:=fl) (y :: ys) (n+3+(wX wide x).length) (l++[plc E n]++plX E wide (n+3) x) [x] (fun z hz=>hes z (by simp at hz ⊢;exact .inr hz)) Yo Yo Yo Ym b2 hend (by simp [jE E wide hgx];omega);refine(hxi.and hmr).mono fun f h=>?_;obtain⟨k1,k2⟩:=h;rw [hstart,k1];dsimp only;rw [k2];dsimp only;rw [zT6 (by rw [hend]) (by rw [hend];decide) h0 Yo];simp [plC];omega
   refine xO (hl:=Yo) (k:=8) (x:=.mk 8 nm es 0 [] []) (by rw [a1];decide) (key.step fun f h=>?_) (by simpa using hc);simp only [qY];rw [g1',g2'];rw [show(Qt (n+1) d fl (l++[plc E n])).on (St (n+1+1) d fl)=Qt (n+2) d fl (l++[plc E n]) from rfl,h];simp
end
end
section
structure zJ4 (arr:Bool) (x:Dx):Prop where
 n:NameOk x.name
 w:∃ k:Nat,x.width=(k:Int)∧k≤1000000000
 s:∃ k:Nat,x.size=(k:Int)∧k≤1000000000∧(arr=false→k=0)
def wD (w:List UInt8) (arr:Bool) (x:Dx):List Wd:=(1,w) :: (1,x.name) :: ((if arr then [(4,[91]),(2,qZ x.size.toNat),(4,[93])] else [])++[(4,[58]),(2,qZ x.width.toNat)])
def wJ (arr:Bool):Nat:=if arr then 7 else 4
theorem jU2 (w:List UInt8) (arr:Bool) (x:Dx):(wD w arr x).length=wJ arr:=by cases arr <;> rfl
def vD (E:Env) (k:Nat):Nat→List Dx→List Nat
 | _,[]=>[]
 | n,_ :: r=>plc E n :: vD E k (n+k) r
theorem zF4 (E:Env) (k:Nat):∀ (l:List Dx) n,(vD E k n l).length=l.length
 | [],_=>rfl
 | _ :: r,n=>by simp [vD,zF4 E k r]
section
variable {E:Env} {d:Int} {fl:Nat} {wide:Bool}
theorem zJ5 (w:List UInt8) (hw:w≠[]) (arr:Bool) (h0:0≤d) (h1:d<200):∀ (ds:List Dx) (n:Nat) (l:List Nat) (out:List Dx),(∀ x∈ds,zJ4 arr x)→l.length+ds.length≤800000000→AtW E n (ds.flatMap (wD w arr))→(nw E (n+(ds.flatMap (wD w arr)).length)).2≠w →
 Ev fun f=>jK E w arr f (Qt n d fl l) out=some (out++ds,Qt (n+(ds.flatMap (wD w arr)).length) d fl (l++vD E (wJ arr) n ds))
 | [],n,l,out,_,_,_,hs=>Ev.step (Ev.of (P:=fun _=>True) fun _=>trivial) fun f _=>by have hs:(nw E n).2≠w:=hs;rw [jK,show(Qt n d fl l).s=St n d fl from rfl,qF9 hs];simp [vD]
 | x :: ds,n,l,out,hg,hl,ha,hs=>by
   simp only [Yc]at hl;obtain⟨hn,⟨k,hk,hk1⟩,⟨m,hm,hm1,hm2⟩⟩:=hg x Ym;rw [lQ]at ha hs ⊢;obtain⟨a1,a2⟩:=AtW.app ha;rw [jU2]at a2;have hlen:n+(wD w arr x++ds.flatMap (wD w arr)).length=n+wJ arr+(ds.flatMap (wD w arr)).length:=by rw [Ya,jU2];omega
   rw [hlen]at hs ⊢;have hnx:x=⟨x.name,(k:Int),(m:Int)⟩:=by rw [←hk,←hm]
   refine(zJ5 w hw arr h0 h1 ds (n+wJ arr) (l++[plc E n]) (out++[x]) (fun y hy=>hg y (by simp [hy])) (by simp only [Ya,Yc,Yn];omega) a2 hs).step fun f h=>?_;unfold wD at a1;obtain⟨b1,b2,b3⟩:=a1;obtain⟨g1,g2⟩:=xU (d:=d) (fl:=fl) b2 hn.no;rw [jK,show(Qt n d fl l).s=St n d fl from rfl,zG4 (by rw [b1]) (by rw [b1];exact Nat.succ_ne_zero 0),zD5 Yo];simp only [if_true,yP];rw [show zE (St n d fl)=St (n+1) d fl from rfl,g1,g2];cases arr with
   | true =>
     simp only [if_true]at b3;obtain⟨b3,b4,b5,b6,b7,_⟩:=b3;simp only [if_true];rw [hk]at b7;rw [hm]at b4;rw [show(⟨St (n+1+1) d fl,(Qt n d fl l).l++[plc E n]⟩:QSt)=Qt (n+2) d fl (l++[plc E n]) from rfl,zY2 (by rw [b3]) Yd h0 h1];dsimp only;have e4:=zB1 (d:=d+1) (fl:=fl) (n:=n+2+1) (E:=E) (u:=qZ m) b4 (jQ hm1).2.2;rw [e4];dsimp only;rw [show(Qt (n+2+1) (d+1) fl (l++[plc E n])).on (St (n+2+1+1) (d+1) fl)=Qt (n+4) (d+1) fl (l++[plc E n]) from rfl,zT6 (by rw [show n+4=n+1+1+1+1 from rfl,b5]) (by rw [show n+4=n+1+1+1+1 from rfl,b5];decide) h0 Yo];dsimp only;rw [kI (by rw [show n+4+1=n+1+1+1+1+1 from rfl,b6]) (by rw [show n+4+1=n+1+1+1+1+1 from rfl,b6];decide)];have e7:=zB1 (d:=d) (fl:=fl) (n:=n+4+1+1) (E:=E) (u:=qZ k) b7 (jQ hk1).2.2;rw [e7];dsimp only;rw [show(Qt (n+4+1) d fl (l++[plc E n])).on (St (n+4+1+1+1) d fl)=Qt (n+wJ true) d fl (l++[plc E n]) from rfl,←hnx,h];simp [vD]
   | false =>
     obtain rfl:=hm2 rfl;simp only [Bool.false_eq_true,if_false,cF]at b3;obtain⟨b3,b4,_⟩:=b3;simp only [Bool.false_eq_true,if_false];rw [hk]at b4;rw [kI (by rw [b3]) (by rw [b3];decide)];have e7:=zB1 (d:=d) (fl:=fl) (n:=n+1+1+1) (E:=E) (u:=qZ k) b4 (jQ hk1).2.2;rw [e7];dsimp only;rw [show(⟨St (n+1+1+1+1) d fl,l++[plc E n]⟩:QSt)=Qt (n+wJ false) d fl (l++[plc E n]) from rfl,show(⟨x.name,(k:Int),0⟩:Dx)=x from hnx.symm,h];simp [vD]
def jF3 (x:Dx):List Wd:=[(1,x.name),(4,[58]),(2,qZ x.width.toNat)]
def zT7 (E:Env):Nat→List Dx→List Nat
 | _,[]=>[]
 | n,_ :: r=>plc E n :: zT7 E (n+4) r
theorem zT8 (E:Env):∀ (l:List Dx) n,(zT7 E n l).length=l.length
 | [],_=>rfl
 | _ :: r,n=>by simp [zT7,zT8 E r]
theorem qG1 {x:Dx} {n:Nat} {l:List Nat} (hg:zJ4 false x) (ha:AtW E n (jF3 x)):qV E (Qt n d fl l)=(x,Qt (n+3) d fl (l++[plc E n])):=by
 obtain⟨hn,⟨k,hk,hk1⟩,⟨m,hm,hm1,hm2⟩⟩:=hg;obtain rfl:=hm2 rfl;obtain⟨b1,b2,b3,_⟩:=ha;obtain⟨g1,g2⟩:=xU (d:=d) (fl:=fl) b1 hn.no;rw [hk]at b3;have e7:=zB1 (d:=d) (fl:=fl) (n:=n+1+1) (E:=E) (u:=qZ k) b3 (jQ hk1).2.2;have hnx:x=⟨x.name,(k:Int),0⟩:=by have:((0:Nat):Int)=0:=rfl;rw [←hk,←this,←hm]
 unfold qV;simp only [yP];rw [g1,g2,kI (by rw [b2]) (by rw [b2];decide),e7];dsimp only;rw [←hnx]
theorem qG2:∀ (ps:List Dx) (n:Nat) (l:List Nat) (out:List Dx),(∀ x∈ps,zJ4 false x)→l.length+ps.length≤800000000→AtW E n (ps.flatMap fun x=>(4,[44]) :: jF3 x)→(nw E (n+4*ps.length)).2=[41] →
 Ev fun f=>jN E f (Qt n d fl l) out=some (out++ps,Qt (n+4*ps.length) d fl (l++zT7 E (n+1) ps))
 | [],n,l,out,_,_,_,hs=>Ev.step (Ev.of (P:=fun _=>True) fun _=>trivial) fun f _=>by have hs:(nw E n).2=[41]:=hs;rw [jN,show(Qt n d fl l).s=St n d fl from rfl,qF9 (by rw [hs];decide)];simp [zT7]
 | x :: ps,n,l,out,hg,hl,ha,hs=>by simp only [Yc]at hl;rw [lQ]at ha;obtain⟨a1,a2⟩:=AtW.app ha;obtain⟨a0,a1⟩:=a1;have e:n+4*(x :: ps).length=n+4+4*ps.length:=Yp;rw [e]at hs ⊢;refine(qG2 ps (n+4) (l++[plc E (n+1)]) (out++[x]) (fun y hy=>hg y (by simp [hy])) (by simp only [Ya,Yc,Yn];omega) a2 hs).step fun f h=>?_;rw [jN,show(Qt n d fl l).s=St n d fl from rfl,zG4 (by rw [a0]) (by rw [a0];decide),zD5 Yo];simp only [if_true];rw [show(Qt n d fl l).on (zE (St n d fl))=Qt (n+1) d fl l from rfl,qG1 (hg x Ym) a1];dsimp only;rw [show Qt (n+1+3) d fl (l++[plc E (n+1)])=Qt (n+4) d fl (l++[plc E (n+1)]) from rfl,h];simp [zT7]
def zN9:List Dx→List Wd
 | []=>[]
 | x :: r=>jF3 x++r.flatMap fun x=>(4,[44]) :: jF3 x
structure qM7 (x:Rx):Prop where
 n:NameOk x.name
 p:∀ y∈x.params,zJ4 false y
 b:∀ y∈x.body,vP y
def wR (wide:Bool) (x:Rx):List Wd:=(1,bs "proc") :: (1,x.name) :: (4,[40]) :: (zN9 x.params++(4,[41]) :: wB wide x.body)
def plR (E:Env) (wide:Bool) (n:Nat) (x:Rx):List Nat:=plc E n :: (zT7 E (n+3) x.params++zL8 E wide (n+3+(zN9 x.params).length+1+1) x.body)
def szR (x:Rx):Nat:=1+x.params.length+yE x.body
theorem jF4 {x:Rx} (h:qM7 x) (n:Nat):(plR E wide n x).length=szR x:=by unfold plR szR;simp [zT8,xB E wide x.body fun y hy=>zD6 E wide (h.b y hy)];omega
theorem jF5:∀ l:List Dx,(zN9 l).length=4*l.length-1
 | []=>rfl
 | x :: r=>by
   have:∀ l:List Dx,(l.flatMap fun x=>(4,[44]) :: jF3 x:List Wd).length=4*l.length:=by
    intro l;induction l with
    | nil=>rfl
    | cons y r ih=>rw [lQ,Ya,ih];simp [jF3];omega
   show(jF3 x++_).length=_;rw [Ya,this];simp [jF3];omega
theorem kA2 {x:Rx} {n:Nat} {l:List Nat} (hg:qM7 x) (h0:0≤d) (h1:d+1+2*(vL x.body:Int)≤200) (hz:yE x.body≤1000000) (hl:l.length+szR x≤800000000) (ha:AtW E n (wR wide x)) :
 Ev fun f=>zH1 E f (Qt (n+1) d fl (l++[plc E n]))=some (x,Qt (n+(wR wide x).length) d fl (l++plR E wide n x)):=by
 obtain⟨a0,a1,a2,a3⟩:=ha;obtain⟨a3,a4,a5⟩:=AtW.app a3;obtain⟨g1,g2⟩:=xU (d:=d) (fl:=fl) a1 hg.n.no;have hlen:n+(wR wide x).length=n+3+(zN9 x.params).length+1+1+(wSs wide x.body).length+1:=by unfold wR;simp;omega
 have hb:=zN8 (E:=E) (wide:=wide) (n:=n+3+(zN9 x.params).length+1) (d:=d) (fl:=fl) (l:=l++[plc E n]++zT7 E (n+3) x.params) (xs:=x.body) (fun y hy=>⟨hg.b y hy,kN4 E wide (hg.b y hy)⟩) h0 h1 hz (by unfold szR at hl;simp [zT8];omega) a5;have hp:Ev fun f=>(if (zC E (St (n+3) (d+1) fl)).text≠[41]∧(St (n+3) (d+1) fl).e=0 then(if okL (Qt (n+3) (d+1) fl (l++[plc E n])) then jN E f (qV E (Qt (n+3) (d+1) fl (l++[plc E n]))).2 [(qV E (Qt (n+3) (d+1) fl (l++[plc E n]))).1] else none) else some ([],Qt (n+3) (d+1) fl (l++[plc E n])))=some (x.params,Qt (n+3+(zN9 x.params).length) (d+1) fl (l++[plc E n]++zT7 E (n+3) x.params)):=by
  rw [zT];cases hps:x.params with
  | nil =>
    rw [hps]at a4;have a4:nw E (n+3)=(4,[41]):=a4;rw [a4];refine Ev.of fun f=>?_;rw [lN Ym];simp [zN9,zT7]
  | cons p ps =>
    have hgp:=hg.p;unfold szR at hl;rw [hps]at a3 a4 hgp hl;simp only [Yc]at hl;have e5:=jF5 (p :: ps);have e6:(zN9 (p :: ps)).length=3+4*ps.length:=by rw [e5];simp;omega
    obtain⟨b1,b2⟩:=AtW.app a3;have hne:(nw E (n+3)).2≠[41]:=by have b1':nw E (n+3)=(1,p.name):=b1.1;obtain⟨c,r,e,hc,_⟩:=(hgp p Ym).n.word;rw [b1',e];intro e2;injection e2 with e2 _;subst e2;exact absurd hc Yd
    have hq:=qG2 (E:=E) (d:=d+1) (fl:=fl) ps (n+6) (l++[plc E n]++[plc E (n+3)]) [p] (fun y hy=>hgp y (by simp [hy])) (by simp only [Ya,Yc,Yn];omega) b2 (by rw [e6]at a4;have e7:n+6+4*ps.length=n+1+1+1+(3+4*ps.length):=Yo;rw [e7,a4]);refine hq.mono fun f h=>?_;rw [lM ⟨hne,rfl⟩,zD5 (by simp only [Ya,Yc,Yn];omega),lM rfl,qG1 (hgp p Ym) b1];dsimp only;rw [show Qt (n+3+3) (d+1) fl (l++[plc E n]++[plc E (n+3)])=Qt (n+6) (d+1) fl (l++[plc E n]++[plc E (n+3)]) from rfl,h,e6];simp [zT7];omega
 refine(hb.and hp).mono fun f h=>?_;obtain⟨k1,k2⟩:=h;unfold zH1;simp only [cG];rw [g1,g2];rw [show(Qt (n+1) d fl (l++[plc E n])).on (St (n+1+1) d fl)=Qt (n+2) d fl (l++[plc E n]) from rfl,zY2 (by rw [a2]) Yd h0 Yo];simp only [lP];have k3:=k2;simp only [and_true]at k3;rw [show Qt (n+2+1) (d+1) fl (l++[plc E n])=Qt (n+3) (d+1) fl (l++[plc E n]) from rfl,show St (n+2+1) (d+1) fl=St (n+3) (d+1) fl from rfl];simp only [and_true];rw [k3];simp only [lP];rw [zT6 (by rw [show n+3+(zN9 x.params).length=n+1+1+1+(zN9 x.params).length from rfl,a4]) (by rw [show n+3+(zN9 x.params).length=n+1+1+1+(zN9 x.params).length from rfl,a4];decide) h0 Yo];simp only [lP];rw [k1,hlen];simp [plR]
def jF6 (E:Env) (wide:Bool):Nat→List Rx→List Nat
 | _,[]=>[]
 | n,x :: r=>plR E wide n x++jF6 E wide (n+(wR wide x).length) r
def jF7:List Rx→Nat
 | []=>0
 | x :: r=>szR x+jF7 r
theorem qR1 (h0:0≤d):∀ (xs:List Rx) (n:Nat) (l:List Nat) (out:List Rx),(∀ x∈xs,qM7 x∧d+1+2*(vL x.body:Int)≤200)→jF7 xs≤1000000→l.length+jF7 xs≤800000000→AtW E n (xs.flatMap (wR wide))→(nw E (n+(xs.flatMap (wR wide)).length)).2≠bs "proc" →
 Ev fun f=>kX E f (Qt n d fl l) out=some (out++xs,Qt (n+(xs.flatMap (wR wide)).length) d fl (l++jF6 E wide n xs))
 | [],n,l,out,_,_,_,_,hs=>Ev.step (Ev.of (P:=fun _=>True) fun _=>trivial) fun f _=>by have hs:(nw E n).2≠bs "proc":=hs;rw [kX,show(Qt n d fl l).s=St n d fl from rfl,qF9 hs];simp [jF6]
 | x :: xs,n,l,out,hg,hz,hl,ha,hs=>by
   have ez:jF7 (x :: xs)=szR x+jF7 xs:=rfl;rw [ez]at hz hl;rw [lQ]at ha hs ⊢;obtain⟨a1,a2⟩:=AtW.app ha;have hlen:n+(wR wide x++xs.flatMap (wR wide)).length=n+(wR wide x).length+(xs.flatMap (wR wide)).length:=by rw [Ya];omega
   rw [hlen]at hs ⊢;obtain⟨g1,g2⟩:=hg x Ym;have hp:=kA2 (E:=E) (wide:=wide) (n:=n) (d:=d) (fl:=fl) (l:=l) g1 h0 g2 (by unfold szR at hz;omega) Yo a1;refine(hp.and (qR1 h0 xs (n+(wR wide x).length) (l++plR E wide n x) (out++[x]) (fun y hy=>hg y (by simp [hy])) Yo (by rw [Ya,jF4 g1];omega) a2 hs)).step fun f h=>?_;obtain⟨k1,k2⟩:=h;have a0:nw E n=(1,bs "proc"):=a1.1;rw [kX,show(Qt n d fl l).s=St n d fl from rfl,zG4 (by rw [a0]) (by rw [a0];decide),zD5 Yo];simp only [if_true,yP,cG];rw [show(⟨zE (St n d fl),(Qt n d fl l).l++[plc E n]⟩:QSt)=Qt (n+1) d fl (l++[plc E n]) from rfl,k1];simp only [lP];rw [k2];simp [jF6]
structure jF8 (x:Ix):Prop where
 b:∃ k:Nat,x.block=(k:Int)∧k≤1000000000
 v:kP x.value
def wI (wide:Bool) (x:Ix):List Wd:=(1,bs "init") :: (2,qZ x.block.toNat) :: (4,[61]) :: wX wide x.value
def qZ8 (E:Env) (wide:Bool):Nat→List Ix→List Nat
 | _,[]=>[]
 | n,x :: r=>plc E n :: (plX E wide (n+3) x.value++qZ8 E wide (n+(wI wide x).length) r)
def jF9:List Ix→Nat
 | []=>0
 | x :: r=>1+szX x.value+jF9 r
theorem qR2 (h0:0≤d):∀ (xs:List Ix) (n:Nat) (l:List Nat) (out:List Ix),(∀ x∈xs,jF8 x∧d+2*(htX x.value:Int)≤200)→jF9 xs≤1000000→l.length+jF9 xs≤800000000→AtW E n (xs.flatMap (wI wide))→vX (nw E (n+(xs.flatMap (wI wide)).length))→(nw E (n+(xs.flatMap (wI wide)).length)).2≠bs "init" →
 Ev fun f=>kY E f (Qt n d fl l) out=some (out++xs,Qt (n+(xs.flatMap (wI wide)).length) d fl (l++qZ8 E wide n xs))
 | [],n,l,out,_,_,_,_,_,hs=>Ev.step (Ev.of (P:=fun _=>True) fun _=>trivial) fun f _=>by have hs:(nw E n).2≠bs "init":=hs;rw [kY,show(Qt n d fl l).s=St n d fl from rfl,qF9 hs];simp [qZ8]
 | x :: xs,n,l,out,hg,hz,hl,ha,hx,hs=>by
   have ez:jF9 (x :: xs)=1+szX x.value+jF9 xs:=rfl;rw [ez]at hz hl;rw [lQ]at ha hx hs ⊢;obtain⟨a1,a2⟩:=AtW.app ha;have hlen:n+(wI wide x++xs.flatMap (wI wide)).length=n+(wI wide x).length+(xs.flatMap (wI wide)).length:=by rw [Ya];omega
   rw [hlen]at hx hs ⊢;obtain⟨⟨⟨k,hk,hk1⟩,g1⟩,g2⟩:=hg x Ym;have hl3:n+(wI wide x).length=n+3+(wX wide x.value).length:=by unfold wI;simp;omega
   have hsx:vX (nw E (n+3+(wX wide x.value).length)):=by
    rw [←hl3];cases xs with
    | nil=>simpa using hx
    | cons y ys =>
      rw [lQ]at a2;have a3:nw E (n+(wI wide x).length)=(1,bs "init"):=(AtW.app a2).1.1;rw [a3];exact zD4 rfl ⟨_,_,rfl,Yd⟩
   obtain⟨b1,b2,b3,b4⟩:=a1;have hxi:=xA (E:=E) (wide:=wide) (n:=n+3) (d:=d) (fl:=fl) (l:=l++[plc E n]) g1 h0 g2 Yo b4 hsx Yp;refine(hxi.and (qR2 h0 xs (n+(wI wide x).length) (l++[plc E n]++plX E wide (n+3) x.value) (out++[x]) (fun y hy=>hg y (by simp [hy])) Yo (by simp [jE E wide g1];omega) a2 hx hs)).step fun f h=>?_;obtain⟨k1,k2⟩:=h;rw [hk]at b2;have e4:=zB1 (d:=d) (fl:=fl) (n:=n+1) (E:=E) (u:=qZ k) b2 (jQ hk1).2.2;rw [kY,show(Qt n d fl l).s=St n d fl from rfl,zG4 (by rw [b1]) (by rw [b1];decide),zD5 Yo];simp only [if_true,yP,cG];rw [show zE (St n d fl)=St (n+1) d fl from rfl,e4];dsimp only;rw [kI (by rw [b3]) (by rw [b3];decide)];rw [show(⟨St (n+1+1+1) d fl,(Qt n d fl l).l++[plc E n]⟩:QSt)=Qt (n+3) d fl (l++[plc E n]) from rfl,k1];simp only [lP];rw [show(⟨(k:Int),x.value⟩:Ix)=x from by rw [←hk],←hl3,k2];simp [qZ8]
end
end
structure zW8 (p:Gx):Prop where
 b:∃ k:Nat,p.blocks=(k:Int)∧k≤1000000000
 w:∃ k:Nat,p.width=(k:Int)∧k≤1000000000
 ins:∀ x∈p.inputs,zJ4 false x
 gs:∀ x∈p.ghosts,zJ4 false x
 vs:∀ x∈p.vars,zJ4 false x
 az:∀ x∈p.arrays,zJ4 true x
 rq:kP p.require
 its:∀ x∈p.inits,jF8 x
 prs:∀ x∈p.procs,qM7 x
 wk:∀ y∈p.work,vP y
 rc:∀ y∈p.recover,vP y
 iv:kP p.invariant
def szG (p:Gx):Nat:=1+p.inputs.length+p.ghosts.length+p.vars.length+p.arrays.length+szX p.require+jF9 p.inits+jF7 p.procs+yE p.work+yE p.recover+szX p.invariant
structure kE1 (p:Gx):Prop where
 rq:htX p.require≤90
 its:∀ x∈p.inits,htX x.value≤90
 prs:∀ x∈p.procs,vL x.body≤90
 wk:vL p.work≤90
 rc:vL p.recover≤90
 iv:htX p.invariant≤90
 sz:szG p≤1000000
def wG1 (wide:Bool) (p:Gx):List Wd:=(1,bs "invariant") :: wX wide p.invariant
def wG2 (wide:Bool) (p:Gx):List Wd:=(1,bs "work") :: (wB wide p.work++(1,bs "recover") :: (wB wide p.recover++wG1 wide p))
def wG3 (wide:Bool) (p:Gx):List Wd:=p.inits.flatMap (wI wide)++(p.procs.flatMap (wR wide)++wG2 wide p)
def wG4 (wide:Bool) (p:Gx):List Wd:=(1,bs "require") :: (wX wide p.require++wG3 wide p)
def wG5 (wide:Bool) (p:Gx):List Wd:=p.vars.flatMap (wD (bs "var") false)++(p.arrays.flatMap (wD (bs "array") true)++wG4 wide p)
def wG6 (wide:Bool) (p:Gx):List Wd:=p.inputs.flatMap (wD (bs "input") false)++(p.ghosts.flatMap (wD (bs "ghost") false)++wG5 wide p)
def wG (wide:Bool) (p:Gx):List Wd:=(1,bs "device") :: (2,qZ p.blocks.toNat) :: (1,bs "width") :: (2,qZ p.width.toNat) :: wG6 wide p
def plG (E:Env) (wide:Bool) (p:Gx):List Nat :=
 let n2:=4+(p.inputs.flatMap (wD (bs "input") false)).length
 let n3:=n2+(p.ghosts.flatMap (wD (bs "ghost") false)).length
 let n4:=n3+(p.vars.flatMap (wD (bs "var") false)).length
 let n5:=n4+(p.arrays.flatMap (wD (bs "array") true)).length
 let n6:=n5+1+(wX wide p.require).length
 let n7:=n6+(p.inits.flatMap (wI wide)).length
 let n8:=n7+(p.procs.flatMap (wR wide)).length
 let n9:=n8+1+1+(wSs wide p.work).length+1
 let n10:=n9+1+1+(wSs wide p.recover).length+1
 [plc E 0]++vD E (wJ false) 4 p.inputs++vD E (wJ false) n2 p.ghosts++vD E (wJ false) n3 p.vars++vD E (wJ true) n4 p.arrays++plX E wide (n5+1) p.require++qZ8 E wide n6 p.inits++jF6 E wide n7 p.procs++zL8 E wide (n8+1+1) p.work++zL8 E wide (n9+1+1) p.recover++plX E wide (n10+1) p.invariant
theorem zY4 {E:Env} {n:Nat} {w:List UInt8} {arr:Bool} {ds:List Dx} {rest:List Wd} (h:AtW E n (ds.flatMap (wD w arr)++rest)):nw E n=(1,w)∨AtW E n rest:=by
 cases ds with
 | nil=>exact .inr h
 | cons x r=>rw [lQ,lS]at h;exact .inl h.1
theorem kH7 {E:Env} {n:Nat} {wide:Bool} {ds:List Ix} {rest:List Wd} (h:AtW E n (ds.flatMap (wI wide)++rest)):nw E n=(1,bs "init")∨AtW E n rest:=by
 cases ds with
 | nil=>exact .inr h
 | cons x r=>rw [lQ,lS]at h;exact .inl h.1
theorem jU3 {E:Env} {n:Nat} {wide:Bool} {ds:List Rx} {rest:List Wd} (h:AtW E n (ds.flatMap (wR wide)++rest)):nw E n=(1,bs "proc")∨AtW E n rest:=by
 cases ds with
 | nil=>exact .inr h
 | cons x r=>rw [lQ,lS]at h;exact .inl h.1
theorem qB4 (E:Env) (wide:Bool):∀ (xs:List Ix),(∀ y∈xs,jF8 y)→∀ n,(qZ8 E wide n xs).length=jF9 xs
 | [],_,n=>rfl
 | x :: xs,h,n=>by simp only [qZ8,jF9,Yc,Ya];rw [jE E wide (h x Ym).v,qB4 E wide xs (fun y hy=>h y (by simp [hy]))];omega
theorem qB5 (E:Env) (wide:Bool):∀ (xs:List Rx),(∀ y∈xs,qM7 y)→∀ n,(jF6 E wide n xs).length=jF7 xs
 | [],_,n=>rfl
 | x :: xs,h,n=>by simp only [jF6,jF7,Ya];rw [jF4 (h x Ym),qB5 E wide xs (fun y hy=>h y (by simp [hy]))]
theorem kA3 (E:Env) (wide:Bool) {p:Gx} (h:zW8 p):(plG E wide p).length=szG p:=by unfold plG szG;simp only [Ya,Yc,Yn,zF4,jE E wide h.rq,jE E wide h.iv,qB4 E wide p.inits h.its,qB5 E wide p.procs h.prs,xB E wide p.work (fun y hy=>zD6 E wide (h.wk y hy)),xB E wide p.recover (fun y hy=>zD6 E wide (h.rc y hy))]
theorem kQ5 (E:Env) (wide:Bool) (p:Gx) (fl:Nat) (hg:zW8 p) (hf:kE1 p) (ha:AtW E 0 (wG wide p)) (hs:vX (nw E (wG wide p).length)) :
 Ev fun f=>kH E f (Qt 0 0 fl [])=some (p,Qt (wG wide p).length 0 fl (plG E wide p)):=by
 obtain⟨kb,hkb,hkb1⟩:=hg.b;obtain⟨kw,hkw,hkw1⟩:=hg.w;have hsz:=hf.sz;unfold szG at hsz;obtain⟨b1,b2,b3,b4,b5⟩:=ha;rw [hkb]at b2;rw [hkw]at b4;have b5:AtW E 4 (wG6 wide p):=b5;unfold wG6 at b5;have hword:∀ w:List UInt8,(∃ c r,w=c :: r∧qM c=true)→vX (1,w):=fun w h=>zD4 rfl h;have wword:vX (1,bs "work"):=hword _ ⟨_,_,rfl,Yd⟩;obtain⟨c1,b5⟩:=AtW.app b5;generalize h2:4+(p.inputs.flatMap (wD (bs "input") false)).length=n2 at b5;have hn1:(nw E n2).2≠bs "input":=by
  rcases zY4 b5 with h | h
  ·rw [h];decide
  ·unfold wG5 at h;rcases zY4 h with h | h
   ·rw [h];decide
   ·rcases zY4 h with h | h
    ·rw [h];decide
    ·rw [h.1];decide
 obtain⟨c2,b6⟩:=AtW.app b5;unfold wG5 at b6;generalize h3:n2+(p.ghosts.flatMap (wD (bs "ghost") false)).length=n3 at b6;have hn2:(nw E n3).2≠bs "ghost":=by
  rcases zY4 b6 with h | h
  ·rw [h];decide
  ·rcases zY4 h with h | h
   ·rw [h];decide
   ·rw [h.1];decide
 obtain⟨c3,b7⟩:=AtW.app b6;generalize h4:n3+(p.vars.flatMap (wD (bs "var") false)).length=n4 at b7;have hn3:(nw E n4).2≠bs "var":=by
  rcases zY4 b7 with h | h
  ·rw [h];decide
  ·rw [h.1];decide
 obtain⟨c4,b8⟩:=AtW.app b7;generalize h5:n4+(p.arrays.flatMap (wD (bs "array") true)).length=n5 at b8;have hn4:(nw E n5).2≠bs "array":=by rw [b8.1];decide
 obtain⟨c5,b9⟩:=b8;obtain⟨c6,b10⟩:=AtW.app b9;unfold wG3 at b10;generalize h6:n5+1+(wX wide p.require).length=n6 at b10;have hn5:vX (nw E n6):=by
  rcases kH7 b10 with h | h
  ·rw [h];exact hword _ ⟨_,_,rfl,Yd⟩
  ·rcases jU3 h with h | h
   ·rw [h];exact hword _ ⟨_,_,rfl,Yd⟩
   ·rw [h.1];exact wword
 obtain⟨c7,b11⟩:=AtW.app b10;generalize h7:n6+(p.inits.flatMap (wI wide)).length=n7 at b11;have hn6:vX (nw E n7)∧(nw E n7).2≠bs "init":=by
  rcases jU3 b11 with h | h
  ·rw [h];exact⟨hword _ ⟨_,_,rfl,Yd⟩,Yd⟩
  ·rw [h.1];exact⟨wword,Yd⟩
 obtain⟨c8,b12⟩:=AtW.app b11;generalize h8:n7+(p.procs.flatMap (wR wide)).length=n8 at b12;obtain⟨c9,b13⟩:=b12;have hn7:(nw E n8).2≠bs "proc":=by rw [c9];decide
 obtain⟨c10,b14⟩:=AtW.app b13;rw [qB3]at b14;generalize h9:n8+1+1+(wSs wide p.work).length+1=n9 at b14;obtain⟨c11,b15⟩:=b14;obtain⟨c12,b16⟩:=AtW.app b15;rw [qB3]at b16;generalize h10:n9+1+1+(wSs wide p.recover).length+1=n10 at b16;obtain⟨c13,c14⟩:=b16;have hlen:(wG wide p).length=n10+1+(wX wide p.invariant).length:=by unfold wG wG6 wG5 wG4 wG3 wG2 wG1;simp only [Ya,Yc,Yn];omega
 rw [hlen]at hs ⊢;have L1:=zF4 E (wJ false) p.inputs;have L2:=zF4 E (wJ false) p.ghosts;have L3:=zF4 E (wJ false) p.vars;have L4:=zF4 E (wJ true) p.arrays;have L5:=jE E wide hg.rq;have L6:=qB4 E wide p.inits hg.its;have L7:=qB5 E wide p.procs hg.prs;have L8:=xB E wide p.work (fun y hy=>zD6 E wide (hg.wk y hy));have L9:=xB E wide p.recover (fun y hy=>zD6 E wide (hg.rc y hy));have hrq:=hf.rq;have hwk:=hf.wk;have hrc:=hf.rc;have hiv:=hf.iv;have d1:=zJ5 (E:=E) (d:=0) (fl:=fl) (bs "input") Yd false Yd Yd p.inputs 4 [plc E 0] [] hg.ins (by simp only [Ya,Yc,Yn,L1,L2,L3];omega) c1 (by rw [h2];exact hn1);rw [h2]at d1;have d2:=zJ5 (E:=E) (d:=0) (fl:=fl) (bs "ghost") Yd false Yd Yd p.ghosts n2 ([plc E 0]++vD E (wJ false) 4 p.inputs) [] hg.gs (by simp only [Ya,Yc,Yn,L1,L2,L3];omega) c2 (by rw [h3];exact hn2);rw [h3]at d2;have d3:=zJ5 (E:=E) (d:=0) (fl:=fl) (bs "var") Yd false Yd Yd p.vars n3 ([plc E 0]++vD E (wJ false) 4 p.inputs++vD E (wJ false) n2 p.ghosts) [] hg.vs (by simp only [Ya,Yc,Yn,L1,L2,L3];omega) c3 (by rw [h4];exact hn3);rw [h4]at d3;have d4:=zJ5 (E:=E) (d:=0) (fl:=fl) (bs "array") Yd true Yd Yd p.arrays n4 ([plc E 0]++vD E (wJ false) 4 p.inputs++vD E (wJ false) n2 p.ghosts++vD E (wJ false) n3 p.vars) [] hg.az (by simp only [Ya,Yc,Yn,L1,L2,L3];omega) c4 (by rw [h5];exact hn4);rw [h5]at d4;have d5:=xA (E:=E) (wide:=wide) (n:=n5+1) (d:=0) (fl:=fl) (l:=[plc E 0]++vD E (wJ false) 4 p.inputs++vD E (wJ false) n2 p.ghosts++vD E (wJ false) n3 p.vars++vD E (wJ true) n4 p.arrays) hg.rq Yd Yo Yo c6 (by rw [h6];exact hn5) (by simp only [Ya,Yc,Yn,L1,L2,L3,L4];omega);rw [h6]at d5;have d6:=qR2 (E:=E) (wide:=wide) (d:=0) (fl:=fl) Yd p.inits n6 ([plc E 0]++vD E (wJ false) 4 p.inputs++vD E (wJ false) n2 p.ghosts++vD E (wJ false) n3 p.vars++vD E (wJ true) n4 p.arrays++plX E wide (n5+1) p.require) [] (fun x hx=>⟨hg.its x hx,by have:=hf.its x hx;omega⟩) Yo (by simp only [Ya,Yc,Yn,L1,L2,L3,L4,L5];omega) c7 (by rw [h7];exact hn6.1) (by rw [h7];exact hn6.2);rw [h7]at d6;have d7:=qR1 (E:=E) (wide:=wide) (d:=0) (fl:=fl) Yd p.procs n7 ([plc E 0]++vD E (wJ false) 4 p.inputs++vD E (wJ false) n2 p.ghosts++vD E (wJ false) n3 p.vars++vD E (wJ true) n4 p.arrays++plX E wide (n5+1) p.require++qZ8 E wide n6 p.inits) [] (fun x hx=>⟨hg.prs x hx,by have:=hf.prs x hx;omega⟩) Yo (by simp only [Ya,Yc,Yn,L1,L2,L3,L4,L5,L6];omega) c8 (by rw [h8];exact hn7);rw [h8]at d7;have d8:=zN8 (E:=E) (wide:=wide) (n:=n8+1) (d:=0) (fl:=fl) (l:=[plc E 0]++vD E (wJ false) 4 p.inputs++vD E (wJ false) n2 p.ghosts++vD E (wJ false) n3 p.vars++vD E (wJ true) n4 p.arrays++plX E wide (n5+1) p.require++qZ8 E wide n6 p.inits++jF6 E wide n7 p.procs) (xs:=p.work) (fun y hy=>⟨hg.wk y hy,kN4 E wide (hg.wk y hy)⟩) Yd Yo Yo (by simp only [Ya,Yc,Yn,L1,L2,L3,L4,L5,L6,L7];omega) c10;rw [h9]at d8;have d9:=zN8 (E:=E) (wide:=wide) (n:=n9+1) (d:=0) (fl:=fl) (l:=[plc E 0]++vD E (wJ false) 4 p.inputs++vD E (wJ false) n2 p.ghosts++vD E (wJ false) n3 p.vars++vD E (wJ true) n4 p.arrays++plX E wide (n5+1) p.require++qZ8 E wide n6 p.inits++jF6 E wide n7 p.procs++zL8 E wide (n8+1+1) p.work) (xs:=p.recover) (fun y hy=>⟨hg.rc y hy,kN4 E wide (hg.rc y hy)⟩) Yd Yo Yo (by simp only [Ya,Yc,Yn,L1,L2,L3,L4,L5,L6,L7,L8];omega) c12;rw [h10]at d9;have d10:=xA (E:=E) (wide:=wide) (n:=n10+1) (d:=0) (fl:=fl) (l:=[plc E 0]++vD E (wJ false) 4 p.inputs++vD E (wJ false) n2 p.ghosts++vD E (wJ false) n3 p.vars++vD E (wJ true) n4 p.arrays++plX E wide (n5+1) p.require++qZ8 E wide n6 p.inits++jF6 E wide n7 p.procs++zL8 E wide (n8+1+1) p.work++zL8 E wide (n9+1+1) p.recover) hg.iv Yd Yo Yo c14 hs (by simp only [Ya,Yc,Yn,L1,L2,L3,L4,L5,L6,L7,L8,L9];omega);have hpl:plG E wide p=[plc E 0]++vD E (wJ false) 4 p.inputs++vD E (wJ false) n2 p.ghosts++vD E (wJ false) n3 p.vars++vD E (wJ true) n4 p.arrays++plX E wide (n5+1) p.require++qZ8 E wide n6 p.inits++jF6 E wide n7 p.procs++zL8 E wide (n8+1+1) p.work++zL8 E wide (n9+1+1) p.recover++plX E wide (n10+1) p.invariant:=by unfold plG;simp only [h2,h3,h4,h5,h6,h7,h8,h9,h10]
 rw [hpl];refine(((((((((d1.and d2).and d3).and d4).and d5).and d6).and d7).and d8).and d9).and d10).mono fun f h=>?_;obtain⟨⟨⟨⟨⟨⟨⟨⟨⟨k1,k2⟩,k3⟩,k4⟩,k5⟩,k6⟩,k7⟩,k8⟩,k9⟩,k10⟩:=h;have f2:=zB1 (d:=0) (fl:=fl) (n:=1) (E:=E) (u:=qZ kb) b2 (jQ hkb1).2.2;have f4:=zB1 (d:=0) (fl:=fl) (n:=3) (E:=E) (u:=qZ kw) b4 (jQ hkw1).2.2;have m1:=kI (E:=E) (n:=0) (d:=0) (fl:=fl) (u:=bs "device") (by rw [b1]) (by rw [b1];decide);have m3:=kI (E:=E) (n:=2) (d:=0) (fl:=fl) (u:=bs "width") (by rw [show 2=0+1+1 from rfl,b3]) (by rw [show 2=0+1+1 from rfl,b3];decide);have q0:(Qt 0 0 fl []).at E=Qt 0 0 fl [plc E 0]:=by unfold QSt.at;rw [show(Qt 0 0 fl []).s=St 0 0 fl from rfl,yP];rfl
 unfold kH;simp only [cG];rw [q0,show(Qt 0 0 fl [plc E 0]).s=St 0 0 fl from rfl,m1,show St (0+1) 0 fl=St 1 0 fl from rfl,f2];dsimp only;rw [show St (1+1) 0 fl=St 2 0 fl from rfl,m3,show St (2+1) 0 fl=St 3 0 fl from rfl,f4];dsimp only;rw [show(Qt 0 0 fl [plc E 0]).on (St (3+1) 0 fl)=Qt 4 0 fl [plc E 0] from rfl,k1];simp only [lP,cF];rw [k2];simp only [lP,cF];rw [k3];simp only [lP,cF];rw [k4];simp only [lP,cF];rw [zG4 (by rw [c5]) (by rw [c5];decide),lM rfl];rw [show ∀ l,(Qt n5 0 fl l).on (zE (St n5 0 fl))=Qt (n5+1) 0 fl l from fun _=>rfl,k5];simp only [lP];rw [k6];simp only [lP,cF];rw [k7];simp only [lP,cF];rw [kI (by rw [c9]) (by rw [c9];decide)];rw [show ∀ l,(Qt n8 0 fl l).on (St (n8+1) 0 fl)=Qt (n8+1) 0 fl l from fun _=>rfl,k8];simp only [lP];rw [kI (by rw [c11]) (by rw [c11];decide)];rw [show ∀ l,(Qt n9 0 fl l).on (St (n9+1) 0 fl)=Qt (n9+1) 0 fl l from fun _=>rfl,k9];simp only [lP];rw [kI (by rw [c13]) (by rw [c13];decide)];rw [show ∀ l,(Qt n10 0 fl l).on (St (n10+1) 0 fl)=Qt (n10+1) 0 fl l from fun _=>rfl,k10];simp only [lP];rw [←hkb,←hkw];rfl
section
open Go.RowKit
section
variable {P:Program} {ops:Array Oper} {md:Region.Mode} {w:World}
def jC9 (md:Region.Mode) (ops:Array Oper) (n:Nat):Bool :=
 (List.range ops.size).all fun t=>decide (t≤n) || (List.range t).any fun j=>decide (n≤j) && Region.waitsFor md ops t j
theorem qA4 {n t:Nat} {listed:Array Bool} (hc:jC9 md ops n=true) (inv:HeadInv md ops n listed) (ht:n<t):t ∉ Region.ready md ops listed:=by
 intro hr;obtain⟨_,ot,hot,hall⟩:=mem_ready.1 hr;have htlt:t<ops.size:=(Array.getElem?_eq_some_iff.1 hot).1;have h1:=List.all_eq_true.1 hc t (List.mem_range.2 htlt);simp only [Bool.or_eq_true,cC]at h1;rcases h1 with h1 | h1
 ·omega
 ·obtain⟨j,hj,hj2⟩:=List.any_eq_true.1 h1;simp only [lZ,cC]at hj2;obtain⟨o',ho',e,he,hb,hon⟩:=Region.waitsFor_spec hj2.2;obtain rfl:o'=ot:=Option.some.inj (ho'.symm.trans hot);have h2:=hall e he hb;have hjt:=List.mem_range.1 hj;rw [hon,getD_both (inv.tail j hj2.1 Yo)]at h2;cases h2
theorem qW1 {n:Nat} {listed:Array Bool} (hs:Region.sinkB md ops n=true) (hn:n<ops.size) (inv:HeadInv md ops n listed) :
 ∀ (d i:Nat),n-i=d→i<n→listed.getD i true=false→n ∉ Region.ready md ops listed:=by
 intro d;induction d using Nat.strongRecOn with
 | _ d ih =>
   intro i hd hi hun hr;obtain⟨_,on,hon',hall⟩:=mem_ready.1 hr;obtain⟨j,hj,hj2⟩:=List.any_eq_true.1 (List.all_eq_true.1 hs i (List.mem_range.2 hi));simp only [lZ,cC]at hj2;obtain⟨oj,hoj,e,he,hb,hon⟩:=Region.waitsFor_spec hj2.2;have hjn:j≤n:=by have:=List.mem_range.1 hj;omega
   rcases Nat.lt_or_ge j n with hlt | hge
   ·cases hl:listed.getD j false with
    | true =>
      have h2:=inv.closed j oj hoj hl e he hb;rw [hon,getD_both hun]at h2;cases h2
    | false=>exact ih (n-j) Yo j rfl hlt (getD_in (by rw [inv.size];omega) hl) hr
   ·obtain rfl:j=n:=by omega
    obtain rfl:oj=on:=Option.some.inj (hoj.symm.trans hon');have h2:=hall e he hb;rw [hon,getD_both hun]at h2;cases h2
theorem zM7 {n i j:Nat} {listed:Array Bool} (hs:Region.sinkB md ops n=true) (hc:jC9 md ops n=true) (hn:n<ops.size) (inv:HeadInv md ops n listed) (hi:i<n) (hun:listed.getD i true=false)
 (hj:j∈Region.ready md ops listed):j<n:=by
 rcases Nat.lt_trichotomy j n with h | h | h
 ·exact h
 ·subst h;exact absurd hj (qW1 hs hn inv _ i rfl hi hun)
 ·exact absurd hj (qA4 hc inv h)
theorem qW2 {n i:Nat} {oi:Oper} {v:Value} {L:Array Bool→Act→Prop} (hi:ops[i]?=some oi) (hsel:∀ (j:Nat) (o:Oper) cs b,ops[j]?=some o→o.op≠.select cs b)
 (hs:Region.sinkB md ops n=true) (hc:jC9 md ops n=true) (hn:n<ops.size) (hin:i<n) (hdone:∀ listed a,L listed a→∀ j∈Region.ready md ops listed,n≤j) :
 ∀ (f:Nat) (listed:Array Bool) (a:Act),HeadInv md ops n listed →
  (∀ j oj,ops[j]?=some oj→j≠i→listed.getD j true=false→(∀ e∈oj.after,Region.binds md e=true→e.on≠i)→oi.apart ops oj=true) →
  i∈Region.ready md ops listed→YieldsAt P ops w oi v a →
  wpAnyL P md ops w n L f (listed.setIfInBounds i true) (a.put oi.dst v)→wpAnyL P md ops w n L (f+1) listed a:=by
 intro f;induction f with
 | zero =>
   intro listed a inv _ hr hy H;refine⟨fun h=>(by rw [h]at hr;cases hr),fun j hj=>⟨zM7 hs hc hn inv hin (mem_ready.1 hr).1 hj,?_⟩⟩;by_cases hji:j=i
   ·subst hji;exact hy.stOp hi H
   ·have h1:=hdone _ _ H j (ready_mono hj hji);have h2:=zM7 hs hc hn inv hin (mem_ready.1 hr).1 hj;omega
 | succ f ih =>
   intro listed a inv hfree hr hy H;have hun:=(mem_ready.1 hr).1;refine⟨fun h=>(by rw [h]at hr;cases hr),fun j hj=>?_⟩;have hjn:=zM7 hs hc hn inv hin hun hj;refine⟨hjn,?_⟩;by_cases hji:j=i
   ·subst hji;exact hy.stOp hi H
   ·obtain⟨hjun,oj,hoj,hall⟩:=mem_ready.1 hj;have hnot:∀ e∈oj.after,Region.binds md e=true→e.on≠i:=by intro e he hb heq;have h1:=hall e he hb;rw [heq,getD_both hun]at h1;cases h1
    have h2:=stOp_put hoj (hfree j oj hoj hji hjun hnot) (fun cs b=>hsel i oi cs b hi) (fun cs b=>hsel j oj cs b hoj) hy (H.2 j (ready_mono hj hji)).2;refine stOp_mono (fun a' h3=>ih (listed.setIfInBounds j true) a' (inv.set hj hjn) ?_ (ready_mono hr (cX hji)) h3.1 (by rw [Array.setIfInBounds_comm _ _ hji];exact h3.2)) h2;intro k ok hk hki hunk hno;refine hfree k ok hk hki ?_ hno;by_cases hjk:j=k
    ·subst hjk;exact hjun
    ·rwa [getD_set_ne true hjk]at hunk
def zA6 (md:Region.Mode) (ops:Array Oper) (n:Nat):Nat→Nat→Array Bool→Bool
 | 0,_,listed=>decide (Region.ready md ops listed=[n]) && Region.lexFrom md ops (ops.size-n-1) (n+1) (listed.setIfInBounds n true)
 | f+1,k,listed=>(Region.ready md ops listed).contains k && Region.free md ops listed k && zA6 md ops n f (k+1) (listed.setIfInBounds k true)
def kM5 (md:Region.Mode) (ops:Array Oper) (n:Nat):Bool :=
 Region.noSelect ops && decide (n<ops.size) && Region.sinkB md ops n && jC9 md ops n && zA6 md ops n n 0 (Array.replicate ops.size false)
theorem qP9 {n:Nat} {Lq:Act→Prop} (hsel:Region.noSelect ops=true) (hs:Region.sinkB md ops n=true) (hc:jC9 md ops n=true) (hn:n<ops.size) :
 ∀ (l:List Oper) (k:Nat) (listed:Array Bool) (a:Act),(∀ j,j<l.length→l[j]?=ops[k+j]?)→k+l.length=n→HeadInv md ops n listed →
 zA6 md ops n l.length k listed=true→wpStill P ops w Lq l a →
 wpAnyL P md ops w n (fun listed' a'=>zA6 md ops n 0 n listed'=true∧Lq a') l.length listed a
 | [],k,listed,a,_,hk,_,hB,h=>by
   obtain rfl:k=n:=by simpa using hk
   exact⟨hB,h⟩
 | o :: l,k,listed,a,hl,hk,inv,hB,h=>by
   have h0:ops[k]?=some o:=by simpa using(hl 0 Ym).symm
   simp only [Yc,zA6,lZ]at hB;have hkn:k<n:=by simp only [Yc]at hk;omega
   have hr:k∈Region.ready md ops listed:=by simpa using hB.1.1
   obtain⟨v,hy,hK⟩:=yieldsAt_of_stOp h0 (K:=wpStill P ops w Lq l) (by unfold stOp;simp only [h0];exact h)
   refine qW2 h0 (Region.noSelect_spec hsel) hs hc hn hkn ?_ l.length listed a inv (Region.free_spec h0 hB.1.2) hr hy
    (qP9 hsel hs hc hn l (k+1) _ _ (fun j hj=>by have:=hl (j+1) Yp;simpa [Nat.add_assoc,Nat.add_comm 1 j]using this) (by simp only [Yc]at hk;omega) (inv.set hr hkn) hB.2 hK)
   intro listed' a' hL j hj;simp only [zA6,lZ,cC]at hL;rw [hL.1.1]at hj;have:j=n:=by simpa using hj
   omega
theorem qA5 {id:Nat} {Q:Exit→Act→World→Prop} {a:Act} {w:World} {l:List Oper} (n:Nat) (hm:P.follows .mixedOrders=true) (hB:kM5 .any l.toArray n=true)
 (h:wpStill P l.toArray w.drew (fun a1=>wpOp P l.toArray Q n (fun a2 w2=>wpStill P l.toArray w2 (fun a3=>Q .normal a3 w2) (l.drop (n+1)) a2) a1 w.drew) (l.take n) a) :
 (Code.region id l.toArray true).wp P Q a w:=by
 simp only [kM5,lZ,cC]at hB;obtain⟨⟨⟨⟨hsel,hn⟩,hs⟩,hc⟩,hlex⟩:=hB;have hn':n<l.length:=by simpa using hn
 have htl:(l.take n).length=n:=Yp
 have inv0:HeadInv .any l.toArray n (Array.replicate l.toArray.size false) :=
  ⟨Ym,fun j oj _ hl=>(by rw [getD_replicate_false]at hl;cases hl),fun t _ ht=>getD_in (by simpa using ht) (getD_replicate_false _ _)⟩
 have H:=qP9 (md:=.any) hsel hs hc hn (l.take n) 0 _ a (fun j hj=>by
  have hj':j<n:=by rw [htl]at hj;exact hj
  simp [hj']) (by simpa using htl) inv0 (by rw [htl];exact hlex) h
 refine wp_region_any hm ?_;have hk:=wpAny_of_head (Q':=Q) (g:=l.toArray.size-n) (fun listed a' hL=>?_) _ _ _ H
 ·rw [htl,show n+(l.toArray.size-n)=l.toArray.size by omega]at hk;exact hk
 ·obtain⟨h1,h2⟩:=hL;simp only [zA6,lZ,cC]at h1;rw [show l.toArray.size-n=(l.toArray.size-n-1)+1 by omega];refine⟨fun h0=>(by rw [h1.1]at h0;cases h0),fun i hi=>?_⟩;rw [h1.1]at hi;obtain rfl:i=n:=by simpa using hi
  refine wpOp_mono (fun a2 w2 h3=>wpAny_of_still (Q:=fun a3=>Q .normal a3 w2) (fun _ h=>h) _ _ _ ?_) h2;have hd:(l.drop (i+1)).length=l.toArray.size-i-1:=Yp;have:=wpAnyS_lex (md:=.any) hsel (l.drop (i+1)) (i+1) (listed.setIfInBounds i true) a2 (fun j=>by simp [List.getElem?_drop]) (by rw [hd];exact h1.2) h3;rwa [hd]at this
theorem wT {Q:Exit→Act→World→Prop} {K:Act→World→Prop} {a:Act} {w:World} {i:Nat} {o:Oper} (ho:ops[i]?=some o) (hg:o.guard=none)
 (h:∀ K':Act→World→Prop,(∀ a w,K a w→K' a w)→o.wp P a w K' Q):wpOp P ops Q i K a w:=by
 unfold wpOp;simp only [ho];rw [lM (by simp [Region.wanted,hg])];exact .inl (h K fun _ _ h=>h)
end
end
section
open Go.RowKit
section
variable {P:Program} {ops:Array Oper} {w:World}
theorem zG3 {Q:Act→Prop} (l:List Oper):∀ (a:Act),wpQuiet P ops (fun w'=>w'=w) Q l a→wpStill P ops w Q l a:=by
 induction l with
 | nil=>exact fun _ h=>h
 | cons o l ih =>
   intro a h;unfold wpQuiet at h;unfold wpStill;split at h
   ·rename_i hw;rw [lM hw];obtain⟨v,h1,h2⟩:=h;have h3:=h1 w rfl;unfold Oper.quietAt at h3;unfold Oper.still;generalize (execOp a.eval o).run P w=r at *;cases r with
    | ok n w' =>
      cases n <;> simp only [Oper.quietUpon]at h3 <;> simp only [Oper.stillUpon]
      case value u=>obtain⟨rfl,rfl⟩:=h3;exact⟨rfl,ih _ h2⟩
      case skip=>obtain⟨rfl,rfl⟩:=h3;exact⟨rfl,ih _ h2⟩
      case enter f args=>obtain⟨rfl,hc⟩:=h3;exact⟨rfl,v,hc,ih _ h2⟩
    | halt x w'=>simp only [Oper.quietUpon]at h3
   ·rename_i hw;rw [lN hw];exact ih _ h
theorem still_mono {Q Q':Act→Prop} (hq:∀ a,Q a→Q' a):∀ (l:List Oper) (a:Act),wpStill P ops w Q l a→wpStill P ops w Q' l a
 | [],a,h=>hq a h
 | o :: l,a,h=>by
   unfold wpStill at h ⊢;split at h
   ·rename_i hw;rw [lM hw];exact Oper.still_mono (still_mono hq l) h
   ·rename_i hw;rw [lN hw];exact still_mono hq l _ h
theorem xR {id:Nat} {Q:Exit→Act→World→Prop} {a:Act} {w:World} {l:List Oper} (n:Nat) (hm:P.follows .mixedOrders=true) (hB:kM5 .any l.toArray n=true)
 (h:wpQuiet P l.toArray (fun w'=>w'=w.drew) (fun a1=>wpOp P l.toArray Q n (fun a2 w2=>wpQuiet P l.toArray (fun w'=>w'=w2) (fun a3=>Q .normal a3 w2) (l.drop (n+1)) a2) a1 w.drew) (l.take n) a) :
 (Code.region id l.toArray true).wp P Q a w :=
 qA5 n hm hB (still_mono (fun _ h1=>wpOp_mono (fun _ _ h2=>zG3 _ _ h2) h1) _ _ (zG3 _ _ h))
end
end
section
open Go.RowKit Go.PlainAid
theorem jO5 (y:Ex):zM6 y=y.kind:=by cases y;rfl
theorem jY5 (a b:List UInt8):str a++str b=str (a++b):=(jW3 a b)
theorem zQ (a b:List UInt8) (h:a.length+b.length≤4000000) (w:World):(Op.stringOp .add (str a) (str b)).run prog w=.ok (.string (str (a++b))) w:=by
 have h0:(str a).size+(str b).size≤4000000:=by rw [jV,jV];exact h
 have h1:(str a++str b).size≤4000000:=by rw [ByteArray.size_append];exact h0
 have h4:(((str a).size:Int)+((str b).size:Int))≤9223372036854775807:=Yo;have h5:(str a).size+(str b).size≤9223372036854775807:=Yo;rw [←jY5];simp [Op.stringOp,go_sem,h1,h4,h5]
abbrev TE (w:World) (x:Ex) (S:SV):Prop:=TreeAt 0 qX 31 w x S
theorem xS (n:Nat) (hn:n≤9) (w:World):Calls prog 19 #[uI n] w fun e w'=>e=.returned (.string (str (qZ n)))∧w=w':=by
 have key:∀ k:Nat,k=n→Calls prog 19 #[uI n] w fun e w'=>e=.returned (.string (str (qZ n)))∧w=w':=by
  intro k hk;match k,hk with
  | 0,rfl | 1,rfl | 2,rfl | 3,rfl | 4,rfl | 5,rfl | 6,rfl | 7,rfl | 8,rfl | 9,rfl =>
    go_enter func19,ntmps19
    go_wp2
    go_ret;exact⟨rfl,rfl⟩
  | k+10,h=>omega
 exact key n rfl
theorem qL5 (x y:Ex) (i:Nat) (wide:Bool) (S:SV) (hi:Ud (x.subs[i]?=some y)) (hi3:i≤2) (b2 b3:Nat) (hz:Ud ((zP wide y).length≤1000000)) (W:World) (hb2:Ud (Bk W b2 31 (uE x S))) (hb3:Ud (Bk W b3 4 #[.bool wide])) (hT:Ud (TE W x S))
 (IH:Ud (∀ (V:SV) (W':World),Ud (TE W' y V)→Calls prog 29 #[.agg (uE y V),.bool wide] W' fun e w'=>e=.returned (.string (str (zP wide y)))∧Below W'.heap.size W' w')) :
 Calls prog 73 #[uI i,uQ b2 0,uQ b3 0] W fun e w'=>e=.returned (.string (str (zI5 wide y (zP wide y))))∧Below W.heap.size W w':=by
 obtain⟨SA,Sn,Sc⟩:=S;have hlt:i<Sn:=by
  have h1:Sn=x.subs.length:=hT.o.len;have h2:=hi.o;rcases Nat.lt_or_ge i x.subs.length with h | h
  ·omega
  ·rw [cW h]at h2;cases h2
 obtain⟨bb,off,y',v,hA,hx,hty,hbb,hc⟩:=hT.o.sub wO (i:=i) hlt;obtain rfl:y=y':=by have h2:=hi.o;rw [h2]at hx;injection hx
 obtain⟨vA,vn,vc⟩:=v;(try dsimp only at hA);subst hA;have c0:W.cell? ⟨bb,off+i*6,none⟩=some (uB y.kind):=hc 0 _ Yo rfl;have c1:W.cell? ⟨bb,off+i*6+1,none⟩=some (uB y.op):=hc 1 _ Yo rfl;have c2:W.cell? ⟨bb,off+i*6+2,none⟩=some (uW y.value):=hc 2 _ Yo rfl;have c3:W.cell? ⟨bb,off+i*6+3,none⟩=some (uI y.width):=hc 3 _ Yo rfl;have c4:W.cell? ⟨bb,off+i*6+4,none⟩=some (uR y.name):=hc 4 _ Yo rfl;have c5:W.cell? ⟨bb,off+i*6+5,none⟩=some (.slice vA vn vc):=hc 5 _ Yo rfl;have HC0:=Ph c0;obtain⟨g0,g1,g2,g3,g4,g5⟩:=zH hb2.o;have w0:W.cell? ⟨b3,0,none⟩=some (.bool wide):=hb3.o.cell 0;have HC:=Ph (IH.o ⟨vA,vn,vc⟩ W.drew (Ph (hty.bel (lB _ _).drew)));(try dsimp only at HC);have hji:(i:Int)<(Sn:Int):=Yo;have hj0:(0:Int)≤(i:Int):=Yo;have HBB:=Ph hbb;clear hc hx hty hi hbb;obtain⟨T,hT1⟩:∃ t,zP wide y=t:=⟨_,rfl⟩;rw [hT1]at HC hz ⊢;have HZ:=hz;clear hT1 hz IH;go_enter func73,ntmps73
 go_upto_region 1 with fail
 refine xR 6 Yk Yk ?_;simp only [cR,List.take_zero,List.drop_succ_cons,List.drop_zero];repeat (go_big_quiet_step (fail))
 refine wpQuiet_nil ?_;refine wT rfl rfl (fun K hK=>?_);go_simp;go_at_call 29
 refine HC.o.mono ?_;rintro e w1 ⟨rfl,hb1⟩;have HB1:=Ph (zU (lB _ _).drew hb1);clear hb1 c0 c1 c2 c3 c4 c5 w0 g0 g1 g2 g3 g4 g5;refine hK _ _ ?_;clear hK K;try go_frame
 repeat (go_big_quiet_step (fail))
 refine wpQuiet_nil ?_;have c0:w1.cell? ⟨bb,off+i*6,none⟩=some (uB y.kind):=((Fr.of_below (F:=fun _=>False) HB1.o).cell HBB.o (fun e=>e)).trans HC0.o;have g5:w1.cell? ⟨b2,5,none⟩=some (.slice (some ⟨bb,off,none⟩) Sn Sc):=(zD hb2.o HB1.o).cell 5;have w0:w1.cell? ⟨b3,0,none⟩=some (.bool wide):=(zD hb3.o HB1.o).cell 0;have hzT:=HZ.o;have R1:∀ w,(Op.stringOp .add (⟨#[40,32]⟩:ByteArray) (str T)).run prog w=.ok (.string (str ([40,32]++T))) w:=zQ [40,32] T (by show 2+T.length≤4000000;omega);have R2:∀ w,(Op.stringOp .add (str ([40,32]++T)) (⟨#[41]⟩:ByteArray)).run prog w=.ok (.string (str ([40,32]++T++[41]))) w:=zQ ([40,32]++T) [41] (by rw [Ya];show 2+T.length+1≤4000000;omega);obtain⟨U,hU⟩:∃ u,[40,32]++T=u:=⟨_,rfl⟩;obtain⟨V,hV⟩:∃ u,U++[41]=u:=⟨_,rfl⟩;rw [hU]at R1 R2;rw [hV]at R2;have HS:Ud (∀ (b:Bool),(b=true↔(wide=true∨y.kind=6∨y.kind=7∨y.kind=5))→zI5 wide y T=if b then V else T):=Ph fun b hb=>by
  unfold zI5;rw [jO5,←hV,←hU];by_cases h:wide=true∨y.kind=6∨y.kind=7∨y.kind=5
  ·rw [lM h,lM (hb.2 h)]
  ·rw [lN h,lN (fun e=>h (hb.1 e))]
 clear hU hV hzT HZ hT hb2 hb3 HBB HC0 HC;cases wide
 ·by_cases h6:y.kind=6
  ·have e6:((y.kind:Int) == 6)=true:=by simp;omega
   have hs:zI5 _ y T=V:=HS.o true (by simp [h6]);clear h6 HS;go_wp2_with fail
   go_ret;exact⟨by first | rfl | (rw [hs];rfl),HB1.o⟩
  ·have e6:((y.kind:Int) == 6)=false:=by simp;omega
   by_cases h7:y.kind=7
   ·have e7:((y.kind:Int) == 7)=true:=by simp;omega
    have hs:zI5 _ y T=V:=HS.o true (by simp [h7]);clear h6 h7 HS;go_wp2_with fail
    go_ret;exact⟨by first | rfl | (rw [hs];rfl),HB1.o⟩
   ·have e7:((y.kind:Int) == 7)=false:=by simp;omega
    by_cases h5:y.kind=5
    ·have e5:((y.kind:Int) == 5)=true:=by simp;omega
     have hs:zI5 _ y T=V:=HS.o true (by simp [h5]);clear h6 h7 h5 HS;go_wp2_with fail
     go_ret;exact⟨by first | rfl | (rw [hs];rfl),HB1.o⟩
    ·have e5:((y.kind:Int) == 5)=false:=by simp;omega
     have hs:zI5 _ y T=T:=HS.o false (by simp [h5,h6,h7]);clear h6 h7 h5 HS;go_wp2_with fail
     go_ret;exact⟨by first | rfl | (rw [hs];rfl),HB1.o⟩
 ·have hs:zI5 _ y T=V:=HS.o true Ym;clear HS;go_wp2_with fail
  go_ret;exact⟨by first | rfl | (rw [hs];rfl),HB1.o⟩
end
end Go.Proofs.YtfdaebgllibphaaGreatDoor
