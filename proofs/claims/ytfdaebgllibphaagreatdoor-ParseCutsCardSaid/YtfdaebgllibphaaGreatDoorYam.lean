import Derived.Test.YtfdaebgllibphaaGreatDoorYak
import Derived.Test.YtfdaebgllibphaaGreatDoorYal
set_option linter.unusedVariables false
set_option linter.unusedSimpArgs false
set_option maxRecDepth 100000
set_option maxHeartbeats 16000000
namespace Go.Proofs.YtfdaebgllibphaaGreatDoor
section
structure zJ4 (arr:Bool) (x:Dx):Prop where
 n:NameOk x.name
 w:∃ k:Nat,x.width=(k:Int)∧k≤1000000000
 s:∃ k:Nat,x.size=(k:Int)∧k≤1000000000∧(arr=false→k=0)
def wD (w:List UInt8) (arr:Bool) (x:Dx):List Wd:=(1,w) :: (1,x.name) :: ((if arr then [(4,[91]),(2,qZ x.size.toNat),(4,[93])] else [])++[(4,[58]),(2,qZ x.width.toNat)])
def wJ (arr:Bool):Nat:=if arr then 7 else 4
theorem jU2 (w:List UInt8) (arr:Bool) (x:Dx):(wD w arr x).length=wJ arr:=by cases arr <;> rfl
def vD (E:Env) (k:Nat):Nat→List Dx→List Nat
 | _,[]=>[]
 | n,_ :: r=>plc E n :: vD E k (n+k) r
theorem zF4 (E:Env) (k:Nat):∀ (l:List Dx) n,(vD E k n l).length=l.length
 | [],_=>rfl
 | _ :: r,n=>by simp [vD,zF4 E k r]
section
variable {E:Env} {d:Int} {fl:Nat} {wide:Bool}
theorem zJ5 (w:List UInt8) (hw:w≠[]) (arr:Bool) (h0:0≤d) (h1:d<200):∀ (ds:List Dx) (n:Nat) (l:List Nat) (out:List Dx),(∀ x∈ds,zJ4 arr x)→l.length+ds.length≤800000000→AtW E n (ds.flatMap (wD w arr))→(nw E (n+(ds.flatMap (wD w arr)).length)).2≠w →
 Ev fun f=>jK E w arr f (Qt n d fl l) out=some (out++ds,Qt (n+(ds.flatMap (wD w arr)).length) d fl (l++vD E (wJ arr) n ds))
 | [],n,l,out,_,_,_,hs=>Ev.step (Ev.of (P:=fun _=>True) fun _=>trivial) fun f _=>by have hs:(nw E n).2≠w:=hs;rw [jK,show(Qt n d fl l).s=St n d fl from rfl,qF9 hs];simp [vD]
 | x :: ds,n,l,out,hg,hl,ha,hs=>by
   simp only [Yc]at hl;obtain⟨hn,⟨k,hk,hk1⟩,⟨m,hm,hm1,hm2⟩⟩:=hg x Ym;rw [lQ]at ha hs ⊢;obtain⟨a1,a2⟩:=AtW.app ha;rw [jU2]at a2;have hlen:n+(wD w arr x++ds.flatMap (wD w arr)).length=n+wJ arr+(ds.flatMap (wD w arr)).length:=by rw [Ya,jU2];omega
   rw [hlen]at hs ⊢;have hnx:x=⟨x.name,(k:Int),(m:Int)⟩:=by rw [←hk,←hm]
   refine(zJ5 w hw arr h0 h1 ds (n+wJ arr) (l++[plc E n]) (out++[x]) (fun y hy=>hg y (by simp [hy])) (by simp only [Ya,Yc,Yn];omega) a2 hs).step fun f h=>?_;unfold wD at a1;obtain⟨b1,b2,b3⟩:=a1;obtain⟨g1,g2⟩:=xU (d:=d) (fl:=fl) b2 hn.no;rw [jK,show(Qt n d fl l).s=St n d fl from rfl,zG4 (by rw [b1]) (by rw [b1];exact Nat.succ_ne_zero 0),zD5 Yo];simp only [if_true,yP];rw [show zE (St n d fl)=St (n+1) d fl from rfl,g1,g2];cases arr with
   | true =>
     simp only [if_true]at b3;obtain⟨b3,b4,b5,b6,b7,_⟩:=b3;simp only [if_true];rw [hk]at b7;rw [hm]at b4;rw [show(⟨St (n+1+1) d fl,(Qt n d fl l).l++[plc E n]⟩:QSt)=Qt (n+2) d fl (l++[plc E n]) from rfl,zY2 (by rw [b3]) Yd h0 h1];dsimp only;have e4:=zB1 (d:=d+1) (fl:=fl) (n:=n+2+1) (E:=E) (u:=qZ m) b4 (jQ hm1).2.2;rw [e4];dsimp only;rw [show(Qt (n+2+1) (d+1) fl (l++[plc E n])).on (St (n+2+1+1) (d+1) fl)=Qt (n+4) (d+1) fl (l++[plc E n]) from rfl,zT6 (by rw [show n+4=n+1+1+1+1 from rfl,b5]) (by rw [show n+4=n+1+1+1+1 from rfl,b5];decide) h0 Yo];dsimp only;rw [kI (by rw [show n+4+1=n+1+1+1+1+1 from rfl,b6]) (by rw [show n+4+1=n+1+1+1+1+1 from rfl,b6];decide)];have e7:=zB1 (d:=d) (fl:=fl) (n:=n+4+1+1) (E:=E) (u:=qZ k) b7 (jQ hk1).2.2;rw [e7];dsimp only;rw [show(Qt (n+4+1) d fl (l++[plc E n])).on (St (n+4+1+1+1) d fl)=Qt (n+wJ true) d fl (l++[plc E n]) from rfl,←hnx,h];simp [vD]
   | false =>
     obtain rfl:=hm2 rfl;simp only [Bool.false_eq_true,if_false,cF]at b3;obtain⟨b3,b4,_⟩:=b3;simp only [Bool.false_eq_true,if_false];rw [hk]at b4;rw [kI (by rw [b3]) (by rw [b3];decide)];have e7:=zB1 (d:=d) (fl:=fl) (n:=n+1+1+1) (E:=E) (u:=qZ k) b4 (jQ hk1).2.2;rw [e7];dsimp only;rw [show(⟨St (n+1+1+1+1) d fl,l++[plc E n]⟩:QSt)=Qt (n+wJ false) d fl (l++[plc E n]) from rfl,show(⟨x.name,(k:Int),0⟩:Dx)=x from hnx.symm,h];simp [vD]
def jF3 (x:Dx):List Wd:=[(1,x.name),(4,[58]),(2,qZ x.width.toNat)]
def zT7 (E:Env):Nat→List Dx→List Nat
 | _,[]=>[]
 | n,_ :: r=>plc E n :: zT7 E (n+4) r
theorem zT8 (E:Env):∀ (l:List Dx) n,(zT7 E n l).length=l.length
 | [],_=>rfl
 | _ :: r,n=>by simp [zT7,zT8 E r]
theorem qG1 {x:Dx} {n:Nat} {l:List Nat} (hg:zJ4 false x) (ha:AtW E n (jF3 x)):qV E (Qt n d fl l)=(x,Qt (n+3) d fl (l++[plc E n])):=by
 obtain⟨hn,⟨k,hk,hk1⟩,⟨m,hm,hm1,hm2⟩⟩:=hg;obtain rfl:=hm2 rfl;obtain⟨b1,b2,b3,_⟩:=ha;obtain⟨g1,g2⟩:=xU (d:=d) (fl:=fl) b1 hn.no;rw [hk]at b3;have e7:=zB1 (d:=d) (fl:=fl) (n:=n+1+1) (E:=E) (u:=qZ k) b3 (jQ hk1).2.2;have hnx:x=⟨x.name,(k:Int),0⟩:=by have:((0:Nat):Int)=0:=rfl;rw [←hk,←this,←hm]
 unfold qV;simp only [yP];rw [g1,g2,kI (by rw [b2]) (by rw [b2];decide),e7];dsimp only;rw [←hnx]
theorem qG2:∀ (ps:List Dx) (n:Nat) (l:List Nat) (out:List Dx),(∀ x∈ps,zJ4 false x)→l.length+ps.length≤800000000→AtW E n (ps.flatMap fun x=>(4,[44]) :: jF3 x)→(nw E (n+4*ps.length)).2=[41] →
 Ev fun f=>jN E f (Qt n d fl l) out=some (out++ps,Qt (n+4*ps.length) d fl (l++zT7 E (n+1) ps))
 | [],n,l,out,_,_,_,hs=>Ev.step (Ev.of (P:=fun _=>True) fun _=>trivial) fun f _=>by have hs:(nw E n).2=[41]:=hs;rw [jN,show(Qt n d fl l).s=St n d fl from rfl,qF9 (by rw [hs];decide)];simp [zT7]
 | x :: ps,n,l,out,hg,hl,ha,hs=>by simp only [Yc]at hl;rw [lQ]at ha;obtain⟨a1,a2⟩:=AtW.app ha;obtain⟨a0,a1⟩:=a1;have e:n+4*(x :: ps).length=n+4+4*ps.length:=Yp;rw [e]at hs ⊢;refine(qG2 ps (n+4) (l++[plc E (n+1)]) (out++[x]) (fun y hy=>hg y (by simp [hy])) (by simp only [Ya,Yc,Yn];omega) a2 hs).step fun f h=>?_;rw [jN,show(Qt n d fl l).s=St n d fl from rfl,zG4 (by rw [a0]) (by rw [a0];decide),zD5 Yo];simp only [if_true];rw [show(Qt n d fl l).on (zE (St n d fl))=Qt (n+1) d fl l from rfl,qG1 (hg x Ym) a1];dsimp only;rw [show Qt (n+1+3) d fl (l++[plc E (n+1)])=Qt (n+4) d fl (l++[plc E (n+1)]) from rfl,h];simp [zT7]
def zN9:List Dx→List Wd
 | []=>[]
 | x :: r=>jF3 x++r.flatMap fun x=>(4,[44]) :: jF3 x
structure qM7 (x:Rx):Prop where
 n:NameOk x.name
 p:∀ y∈x.params,zJ4 false y
 b:∀ y∈x.body,vP y
def wR (wide:Bool) (x:Rx):List Wd:=(1,bs "proc") :: (1,x.name) :: (4,[40]) :: (zN9 x.params++(4,[41]) :: wB wide x.body)
def plR (E:Env) (wide:Bool) (n:Nat) (x:Rx):List Nat:=plc E n :: (zT7 E (n+3) x.params++zL8 E wide (n+3+(zN9 x.params).length+1+1) x.body)
def szR (x:Rx):Nat:=1+x.params.length+yE x.body
theorem jF4 {x:Rx} (h:qM7 x) (n:Nat):(plR E wide n x).length=szR x:=by unfold plR szR;simp [zT8,xB E wide x.body fun y hy=>zD6 E wide (h.b y hy)];omega
theorem jF5:∀ l:List Dx,(zN9 l).length=4*l.length-1
 | []=>rfl
 | x :: r=>by
   have:∀ l:List Dx,(l.flatMap fun x=>(4,[44]) :: jF3 x:List Wd).length=4*l.length:=by
    intro l;induction l with
    | nil=>rfl
    | cons y r ih=>rw [lQ,Ya,ih];simp [jF3];omega
   show(jF3 x++_).length=_;rw [Ya,this];simp [jF3];omega
theorem kA2 {x:Rx} {n:Nat} {l:List Nat} (hg:qM7 x) (h0:0≤d) (h1:d+1+2*(vL x.body:Int)≤200) (hz:yE x.body≤1000000) (hl:l.length+szR x≤800000000) (ha:AtW E n (wR wide x)) :
 Ev fun f=>zH1 E f (Qt (n+1) d fl (l++[plc E n]))=some (x,Qt (n+(wR wide x).length) d fl (l++plR E wide n x)):=by
 obtain⟨a0,a1,a2,a3⟩:=ha;obtain⟨a3,a4,a5⟩:=AtW.app a3;obtain⟨g1,g2⟩:=xU (d:=d) (fl:=fl) a1 hg.n.no;have hlen:n+(wR wide x).length=n+3+(zN9 x.params).length+1+1+(wSs wide x.body).length+1:=by unfold wR;simp;omega
 have hb:=zN8 (E:=E) (wide:=wide) (n:=n+3+(zN9 x.params).length+1) (d:=d) (fl:=fl) (l:=l++[plc E n]++zT7 E (n+3) x.params) (xs:=x.body) (fun y hy=>⟨hg.b y hy,kN4 E wide (hg.b y hy)⟩) h0 h1 hz (by unfold szR at hl;simp [zT8];omega) a5;have hp:Ev fun f=>(if (zC E (St (n+3) (d+1) fl)).text≠[41]∧(St (n+3) (d+1) fl).e=0 then(if okL (Qt (n+3) (d+1) fl (l++[plc E n])) then jN E f (qV E (Qt (n+3) (d+1) fl (l++[plc E n]))).2 [(qV E (Qt (n+3) (d+1) fl (l++[plc E n]))).1] else none) else some ([],Qt (n+3) (d+1) fl (l++[plc E n])))=some (x.params,Qt (n+3+(zN9 x.params).length) (d+1) fl (l++[plc E n]++zT7 E (n+3) x.params)):=by
  rw [zT];cases hps:x.params with
  | nil =>
    rw [hps]at a4;have a4:nw E (n+3)=(4,[41]):=a4;rw [a4];refine Ev.of fun f=>?_;rw [lN Ym];simp [zN9,zT7]
  | cons p ps =>
    have hgp:=hg.p;unfold szR at hl;rw [hps]at a3 a4 hgp hl;simp only [Yc]at hl;have e5:=jF5 (p :: ps);have e6:(zN9 (p :: ps)).length=3+4*ps.length:=by rw [e5];simp;omega
    obtain⟨b1,b2⟩:=AtW.app a3;have hne:(nw E (n+3)).2≠[41]:=by have b1':nw E (n+3)=(1,p.name):=b1.1;obtain⟨c,r,e,hc,_⟩:=(hgp p Ym).n.word;rw [b1',e];intro e2;injection e2 with e2 _;subst e2;exact absurd hc Yd
    have hq:=qG2 (E:=E) (d:=d+1) (fl:=fl) ps (n+6) (l++[plc E n]++[plc E (n+3)]) [p] (fun y hy=>hgp y (by simp [hy])) (by simp only [Ya,Yc,Yn];omega) b2 (by rw [e6]at a4;have e7:n+6+4*ps.length=n+1+1+1+(3+4*ps.length):=Yo;rw [e7,a4]);refine hq.mono fun f h=>?_;rw [lM ⟨hne,rfl⟩,zD5 (by simp only [Ya,Yc,Yn];omega),lM rfl,qG1 (hgp p Ym) b1];dsimp only;rw [show Qt (n+3+3) (d+1) fl (l++[plc E n]++[plc E (n+3)])=Qt (n+6) (d+1) fl (l++[plc E n]++[plc E (n+3)]) from rfl,h,e6];simp [zT7];omega
 refine(hb.and hp).mono fun f h=>?_;obtain⟨k1,k2⟩:=h;unfold zH1;simp only [cG];rw [g1,g2];rw [show(Qt (n+1) d fl (l++[plc E n])).on (St (n+1+1) d fl)=Qt (n+2) d fl (l++[plc E n]) from rfl,zY2 (by rw [a2]) Yd h0 Yo];simp only [lP];have k3:=k2;simp only [and_true]at k3;rw [show Qt (n+2+1) (d+1) fl (l++[plc E n])=Qt (n+3) (d+1) fl (l++[plc E n]) from rfl,show St (n+2+1) (d+1) fl=St (n+3) (d+1) fl from rfl];simp only [and_true];rw [k3];simp only [lP];rw [zT6 (by rw [show n+3+(zN9 x.params).length=n+1+1+1+(zN9 x.params).length from rfl,a4]) (by rw [show n+3+(zN9 x.params).length=n+1+1+1+(zN9 x.params).length from rfl,a4];decide) h0 Yo];simp only [lP];rw [k1,hlen];simp [plR]
def jF6 (E:Env) (wide:Bool):Nat→List Rx→List Nat
 | _,[]=>[]
 | n,x :: r=>plR E wide n x++jF6 E wide (n+(wR wide x).length) r
def jF7:List Rx→Nat
 | []=>0
 | x :: r=>szR x+jF7 r
theorem qR1 (h0:0≤d):∀ (xs:List Rx) (n:Nat) (l:List Nat) (out:List Rx),(∀ x∈xs,qM7 x∧d+1+2*(vL x.body:Int)≤200)→jF7 xs≤1000000→l.length+jF7 xs≤800000000→AtW E n (xs.flatMap (wR wide))→(nw E (n+(xs.flatMap (wR wide)).length)).2≠bs "proc" →
 Ev fun f=>kX E f (Qt n d fl l) out=some (out++xs,Qt (n+(xs.flatMap (wR wide)).length) d fl (l++jF6 E wide n xs))
 | [],n,l,out,_,_,_,_,hs=>Ev.step (Ev.of (P:=fun _=>True) fun _=>trivial) fun f _=>by have hs:(nw E n).2≠bs "proc":=hs;rw [kX,show(Qt n d fl l).s=St n d fl from rfl,qF9 hs];simp [jF6]
 | x :: xs,n,l,out,hg,hz,hl,ha,hs=>by
   have ez:jF7 (x :: xs)=szR x+jF7 xs:=rfl;rw [ez]at hz hl;rw [lQ]at ha hs ⊢;obtain⟨a1,a2⟩:=AtW.app ha;have hlen:n+(wR wide x++xs.flatMap (wR wide)).length=n+(wR wide x).length+(xs.flatMap (wR wide)).length:=by rw [Ya];omega
   rw [hlen]at hs ⊢;obtain⟨g1,g2⟩:=hg x Ym;have hp:=kA2 (E:=E) (wide:=wide) (n:=n) (d:=d) (fl:=fl) (l:=l) g1 h0 g2 (by unfold szR at hz;omega) Yo a1;refine(hp.and (qR1 h0 xs (n+(wR wide x).length) (l++plR E wide n x) (out++[x]) (fun y hy=>hg y (by simp [hy])) Yo (by rw [Ya,jF4 g1];omega) a2 hs)).step fun f h=>?_;obtain⟨k1,k2⟩:=h;have a0:nw E n=(1,bs "proc"):=a1.1;rw [kX,show(Qt n d fl l).s=St n d fl from rfl,zG4 (by rw [a0]) (by rw [a0];decide),zD5 Yo];simp only [if_true,yP,cG];rw [show(⟨zE (St n d fl),(Qt n d fl l).l++[plc E n]⟩:QSt)=Qt (n+1) d fl (l++[plc E n]) from rfl,k1];simp only [lP];rw [k2];simp [jF6]
structure jF8 (x:Ix):Prop where
 b:∃ k:Nat,x.block=(k:Int)∧k≤1000000000
 v:kP x.value
def wI (wide:Bool) (x:Ix):List Wd:=(1,bs "init") :: (2,qZ x.block.toNat) :: (4,[61]) :: wX wide x.value
def qZ8 (E:Env) (wide:Bool):Nat→List Ix→List Nat
 | _,[]=>[]
 | n,x :: r=>plc E n :: (plX E wide (n+3) x.value++qZ8 E wide (n+(wI wide x).length) r)
def jF9:List Ix→Nat
 | []=>0
 | x :: r=>1+szX x.value+jF9 r
theorem qR2 (h0:0≤d):∀ (xs:List Ix) (n:Nat) (l:List Nat) (out:List Ix),(∀ x∈xs,jF8 x∧d+2*(htX x.value:Int)≤200)→jF9 xs≤1000000→l.length+jF9 xs≤800000000→AtW E n (xs.flatMap (wI wide))→vX (nw E (n+(xs.flatMap (wI wide)).length))→(nw E (n+(xs.flatMap (wI wide)).length)).2≠bs "init" →
 Ev fun f=>kY E f (Qt n d fl l) out=some (out++xs,Qt (n+(xs.flatMap (wI wide)).length) d fl (l++qZ8 E wide n xs))
 | [],n,l,out,_,_,_,_,_,hs=>Ev.step (Ev.of (P:=fun _=>True) fun _=>trivial) fun f _=>by have hs:(nw E n).2≠bs "init":=hs;rw [kY,show(Qt n d fl l).s=St n d fl from rfl,qF9 hs];simp [qZ8]
 | x :: xs,n,l,out,hg,hz,hl,ha,hx,hs=>by
   have ez:jF9 (x :: xs)=1+szX x.value+jF9 xs:=rfl;rw [ez]at hz hl;rw [lQ]at ha hx hs ⊢;obtain⟨a1,a2⟩:=AtW.app ha;have hlen:n+(wI wide x++xs.flatMap (wI wide)).length=n+(wI wide x).length+(xs.flatMap (wI wide)).length:=by rw [Ya];omega
   rw [hlen]at hx hs ⊢;obtain⟨⟨⟨k,hk,hk1⟩,g1⟩,g2⟩:=hg x Ym;have hl3:n+(wI wide x).length=n+3+(wX wide x.value).length:=by unfold wI;simp;omega
   have hsx:vX (nw E (n+3+(wX wide x.value).length)):=by
    rw [←hl3];cases xs with
    | nil=>simpa using hx
    | cons y ys =>
      rw [lQ]at a2;have a3:nw E (n+(wI wide x).length)=(1,bs "init"):=(AtW.app a2).1.1;rw [a3];exact zD4 rfl ⟨_,_,rfl,Yd⟩
   obtain⟨b1,b2,b3,b4⟩:=a1;have hxi:=xA (E:=E) (wide:=wide) (n:=n+3) (d:=d) (fl:=fl) (l:=l++[plc E n]) g1 h0 g2 Yo b4 hsx Yp;refine(hxi.and (qR2 h0 xs (n+(wI wide x).length) (l++[plc E n]++plX E wide (n+3) x.value) (out++[x]) (fun y hy=>hg y (by simp [hy])) Yo (by simp [jE E wide g1];omega) a2 hx hs)).step fun f h=>?_;obtain⟨k1,k2⟩:=h;rw [hk]at b2;have e4:=zB1 (d:=d) (fl:=fl) (n:=n+1) (E:=E) (u:=qZ k) b2 (jQ hk1).2.2;rw [kY,show(Qt n d fl l).s=St n d fl from rfl,zG4 (by rw [b1]) (by rw [b1];decide),zD5 Yo];simp only [if_true,yP,cG];rw [show zE (St n d fl)=St (n+1) d fl from rfl,e4];dsimp only;rw [kI (by rw [b3]) (by rw [b3];decide)];rw [show(⟨St (n+1+1+1) d fl,(Qt n d fl l).l++[plc E n]⟩:QSt)=Qt (n+3) d fl (l++[plc E n]) from rfl,k1];simp only [lP];rw [show(⟨(k:Int),x.value⟩:Ix)=x from by rw [←hk],←hl3,k2];simp [qZ8]
end
end
structure zW8 (p:Gx):Prop where
 b:∃ k:Nat,p.blocks=(k:Int)∧k≤1000000000
 w:∃ k:Nat,p.width=(k:Int)∧k≤1000000000
 ins:∀ x∈p.inputs,zJ4 false x
 gs:∀ x∈p.ghosts,zJ4 false x
 vs:∀ x∈p.vars,zJ4 false x
 az:∀ x∈p.arrays,zJ4 true x
 rq:kP p.require
 its:∀ x∈p.inits,jF8 x
 prs:∀ x∈p.procs,qM7 x
 wk:∀ y∈p.work,vP y
 rc:∀ y∈p.recover,vP y
 iv:kP p.invariant
def szG (p:Gx):Nat:=1+p.inputs.length+p.ghosts.length+p.vars.length+p.arrays.length+szX p.require+jF9 p.inits+jF7 p.procs+yE p.work+yE p.recover+szX p.invariant
structure kE1 (p:Gx):Prop where
 rq:htX p.require≤90
 its:∀ x∈p.inits,htX x.value≤90
 prs:∀ x∈p.procs,vL x.body≤90
 wk:vL p.work≤90
 rc:vL p.recover≤90
 iv:htX p.invariant≤90
 sz:szG p≤1000000
def wG1 (wide:Bool) (p:Gx):List Wd:=(1,bs "invariant") :: wX wide p.invariant
def wG2 (wide:Bool) (p:Gx):List Wd:=(1,bs "work") :: (wB wide p.work++(1,bs "recover") :: (wB wide p.recover++wG1 wide p))
def wG3 (wide:Bool) (p:Gx):List Wd:=p.inits.flatMap (wI wide)++(p.procs.flatMap (wR wide)++wG2 wide p)
def wG4 (wide:Bool) (p:Gx):List Wd:=(1,bs "require") :: (wX wide p.require++wG3 wide p)
def wG5 (wide:Bool) (p:Gx):List Wd:=p.vars.flatMap (wD (bs "var") false)++(p.arrays.flatMap (wD (bs "array") true)++wG4 wide p)
def wG6 (wide:Bool) (p:Gx):List Wd:=p.inputs.flatMap (wD (bs "input") false)++(p.ghosts.flatMap (wD (bs "ghost") false)++wG5 wide p)
def wG (wide:Bool) (p:Gx):List Wd:=(1,bs "device") :: (2,qZ p.blocks.toNat) :: (1,bs "width") :: (2,qZ p.width.toNat) :: wG6 wide p
def plG (E:Env) (wide:Bool) (p:Gx):List Nat :=
 let n2:=4+(p.inputs.flatMap (wD (bs "input") false)).length
 let n3:=n2+(p.ghosts.flatMap (wD (bs "ghost") false)).length
 let n4:=n3+(p.vars.flatMap (wD (bs "var") false)).length
 let n5:=n4+(p.arrays.flatMap (wD (bs "array") true)).length
 let n6:=n5+1+(wX wide p.require).length
 let n7:=n6+(p.inits.flatMap (wI wide)).length
 let n8:=n7+(p.procs.flatMap (wR wide)).length
 let n9:=n8+1+1+(wSs wide p.work).length+1
 let n10:=n9+1+1+(wSs wide p.recover).length+1
 [plc E 0]++vD E (wJ false) 4 p.inputs++vD E (wJ false) n2 p.ghosts++vD E (wJ false) n3 p.vars++vD E (wJ true) n4 p.arrays++plX E wide (n5+1) p.require++qZ8 E wide n6 p.inits++jF6 E wide n7 p.procs++zL8 E wide (n8+1+1) p.work++zL8 E wide (n9+1+1) p.recover++plX E wide (n10+1) p.invariant
theorem zY4 {E:Env} {n:Nat} {w:List UInt8} {arr:Bool} {ds:List Dx} {rest:List Wd} (h:AtW E n (ds.flatMap (wD w arr)++rest)):nw E n=(1,w)∨AtW E n rest:=by
 cases ds with
 | nil=>exact .inr h
 | cons x r=>rw [lQ,lS]at h;exact .inl h.1
theorem kH7 {E:Env} {n:Nat} {wide:Bool} {ds:List Ix} {rest:List Wd} (h:AtW E n (ds.flatMap (wI wide)++rest)):nw E n=(1,bs "init")∨AtW E n rest:=by
 cases ds with
 | nil=>exact .inr h
 | cons x r=>rw [lQ,lS]at h;exact .inl h.1
theorem jU3 {E:Env} {n:Nat} {wide:Bool} {ds:List Rx} {rest:List Wd} (h:AtW E n (ds.flatMap (wR wide)++rest)):nw E n=(1,bs "proc")∨AtW E n rest:=by
 cases ds with
 | nil=>exact .inr h
 | cons x r=>rw [lQ,lS]at h;exact .inl h.1
theorem qB4 (E:Env) (wide:Bool):∀ (xs:List Ix),(∀ y∈xs,jF8 y)→∀ n,(qZ8 E wide n xs).length=jF9 xs
 | [],_,n=>rfl
 | x :: xs,h,n=>by simp only [qZ8,jF9,Yc,Ya];rw [jE E wide (h x Ym).v,qB4 E wide xs (fun y hy=>h y (by simp [hy]))];omega
theorem qB5 (E:Env) (wide:Bool):∀ (xs:List Rx),(∀ y∈xs,qM7 y)→∀ n,(jF6 E wide n xs).length=jF7 xs
 | [],_,n=>rfl
 | x :: xs,h,n=>by simp only [jF6,jF7,Ya];rw [jF4 (h x Ym),qB5 E wide xs (fun y hy=>h y (by simp [hy]))]
theorem kA3 (E:Env) (wide:Bool) {p:Gx} (h:zW8 p):(plG E wide p).length=szG p:=by unfold plG szG;simp only [Ya,Yc,Yn,zF4,jE E wide h.rq,jE E wide h.iv,qB4 E wide p.inits h.its,qB5 E wide p.procs h.prs,xB E wide p.work (fun y hy=>zD6 E wide (h.wk y hy)),xB E wide p.recover (fun y hy=>zD6 E wide (h.rc y hy))]
theorem kQ5 (E:Env) (wide:Bool) (p:Gx) (fl:Nat) (hg:zW8 p) (hf:kE1 p) (ha:AtW E 0 (wG wide p)) (hs:vX (nw E (wG wide p).length)) :
 Ev fun f=>kH E f (Qt 0 0 fl [])=some (p,Qt (wG wide p).length 0 fl (plG E wide p)):=by
 obtain⟨kb,hkb,hkb1⟩:=hg.b;obtain⟨kw,hkw,hkw1⟩:=hg.w;have hsz:=hf.sz;unfold szG at hsz;obtain⟨b1,b2,b3,b4,b5⟩:=ha;rw [hkb]at b2;rw [hkw]at b4;have b5:AtW E 4 (wG6 wide p):=b5;unfold wG6 at b5;have hword:∀ w:List UInt8,(∃ c r,w=c :: r∧qM c=true)→vX (1,w):=fun w h=>zD4 rfl h;have wword:vX (1,bs "work"):=hword _ ⟨_,_,rfl,Yd⟩;obtain⟨c1,b5⟩:=AtW.app b5;generalize h2:4+(p.inputs.flatMap (wD (bs "input") false)).length=n2 at b5;have hn1:(nw E n2).2≠bs "input":=by
  rcases zY4 b5 with h | h
  ·rw [h];decide
  ·unfold wG5 at h;rcases zY4 h with h | h
   ·rw [h];decide
   ·rcases zY4 h with h | h
    ·rw [h];decide
    ·rw [h.1];decide
 obtain⟨c2,b6⟩:=AtW.app b5;unfold wG5 at b6;generalize h3:n2+(p.ghosts.flatMap (wD (bs "ghost") false)).length=n3 at b6;have hn2:(nw E n3).2≠bs "ghost":=by
  rcases zY4 b6 with h | h
  ·rw [h];decide
  ·rcases zY4 h with h | h
   ·rw [h];decide
   ·rw [h.1];decide
 obtain⟨c3,b7⟩:=AtW.app b6;generalize h4:n3+(p.vars.flatMap (wD (bs "var") false)).length=n4 at b7;have hn3:(nw E n4).2≠bs "var":=by
  rcases zY4 b7 with h | h
  ·rw [h];decide
  ·rw [h.1];decide
 obtain⟨c4,b8⟩:=AtW.app b7;generalize h5:n4+(p.arrays.flatMap (wD (bs "array") true)).length=n5 at b8;have hn4:(nw E n5).2≠bs "array":=by rw [b8.1];decide
 obtain⟨c5,b9⟩:=b8;obtain⟨c6,b10⟩:=AtW.app b9;unfold wG3 at b10;generalize h6:n5+1+(wX wide p.require).length=n6 at b10;have hn5:vX (nw E n6):=by
  rcases kH7 b10 with h | h
  ·rw [h];exact hword _ ⟨_,_,rfl,Yd⟩
  ·rcases jU3 h with h | h
   ·rw [h];exact hword _ ⟨_,_,rfl,Yd⟩
   ·rw [h.1];exact wword
 obtain⟨c7,b11⟩:=AtW.app b10;generalize h7:n6+(p.inits.flatMap (wI wide)).length=n7 at b11;have hn6:vX (nw E n7)∧(nw E n7).2≠bs "init":=by
  rcases jU3 b11 with h | h
  ·rw [h];exact⟨hword _ ⟨_,_,rfl,Yd⟩,Yd⟩
  ·rw [h.1];exact⟨wword,Yd⟩
 obtain⟨c8,b12⟩:=AtW.app b11;generalize h8:n7+(p.procs.flatMap (wR wide)).length=n8 at b12;obtain⟨c9,b13⟩:=b12;have hn7:(nw E n8).2≠bs "proc":=by rw [c9];decide
 obtain⟨c10,b14⟩:=AtW.app b13;rw [qB3]at b14;generalize h9:n8+1+1+(wSs wide p.work).length+1=n9 at b14;obtain⟨c11,b15⟩:=b14;obtain⟨c12,b16⟩:=AtW.app b15;rw [qB3]at b16;generalize h10:n9+1+1+(wSs wide p.recover).length+1=n10 at b16;obtain⟨c13,c14⟩:=b16;have hlen:(wG wide p).length=n10+1+(wX wide p.invariant).length:=by unfold wG wG6 wG5 wG4 wG3 wG2 wG1;simp only [Ya,Yc,Yn];omega
 rw [hlen]at hs ⊢;have L1:=zF4 E (wJ false) p.inputs;have L2:=zF4 E (wJ false) p.ghosts;have L3:=zF4 E (wJ false) p.vars;have L4:=zF4 E (wJ true) p.arrays;have L5:=jE E wide hg.rq;have L6:=qB4 E wide p.inits hg.its;have L7:=qB5 E wide p.procs hg.prs;have L8:=xB E wide p.work (fun y hy=>zD6 E wide (hg.wk y hy));have L9:=xB E wide p.recover (fun y hy=>zD6 E wide (hg.rc y hy));have hrq:=hf.rq;have hwk:=hf.wk;have hrc:=hf.rc;have hiv:=hf.iv;have d1:=zJ5 (E:=E) (d:=0) (fl:=fl) (bs "input") Yd false Yd Yd p.inputs 4 [plc E 0] [] hg.ins (by simp only [Ya,Yc,Yn,L1,L2,L3];omega) c1 (by rw [h2];exact hn1);rw [h2]at d1;have d2:=zJ5 (E:=E) (d:=0) (fl:=fl) (bs "ghost") Yd false Yd Yd p.ghosts n2 ([plc E 0]++vD E (wJ false) 4 p.inputs) [] hg.gs (by simp only [Ya,Yc,Yn,L1,L2,L3];omega) c2 (by rw [h3];exact hn2);rw [h3]at d2;have d3:=zJ5 (E:=E) (d:=0) (fl:=fl) (bs "var") Yd false Yd Yd p.vars n3 ([plc E 0]++vD E (wJ false) 4 p.inputs++vD E (wJ false) n2 p.ghosts) [] hg.vs (by simp only [Ya,Yc,Yn,L1,L2,L3];omega) c3 (by rw [h4];exact hn3);rw [h4]at d3;have d4:=zJ5 (E:=E) (d:=0) (fl:=fl) (bs "array") Yd true Yd Yd p.arrays n4 ([plc E 0]++vD E (wJ false) 4 p.inputs++vD E (wJ false) n2 p.ghosts++vD E (wJ false) n3 p.vars) [] hg.az (by simp only [Ya,Yc,Yn,L1,L2,L3];omega) c4 (by rw [h5];exact hn4);rw [h5]at d4;have d5:=xA (E:=E) (wide:=wide) (n:=n5+1) (d:=0) (fl:=fl) (l:=[plc E 0]++vD E (wJ false) 4 p.inputs++vD E (wJ false) n2 p.ghosts++vD E (wJ false) n3 p.vars++vD E (wJ true) n4 p.arrays) hg.rq Yd Yo Yo c6 (by rw [h6];exact hn5) (by simp only [Ya,Yc,Yn,L1,L2,L3,L4];omega);rw [h6]at d5;have d6:=qR2 (E:=E) (wide:=wide) (d:=0) (fl:=fl) Yd p.inits n6 ([plc E 0]++vD E (wJ false) 4 p.inputs++vD E (wJ false) n2 p.ghosts++vD E (wJ false) n3 p.vars++vD E (wJ true) n4 p.arrays++plX E wide (n5+1) p.require) [] (fun x hx=>⟨hg.its x hx,by have:=hf.its x hx;omega⟩) Yo (by simp only [Ya,Yc,Yn,L1,L2,L3,L4,L5];omega) c7 (by rw [h7];exact hn6.1) (by rw [h7];exact hn6.2);rw [h7]at d6;have d7:=qR1 (E:=E) (wide:=wide) (d:=0) (fl:=fl) Yd p.procs n7 ([plc E 0]++vD E (wJ false) 4 p.inputs++vD E (wJ false) n2 p.ghosts++vD E (wJ false) n3 p.vars++vD E (wJ true) n4 p.arrays++plX E wide (n5+1) p.require++qZ8 E wide n6 p.inits) [] (fun x hx=>⟨hg.prs x hx,by have:=hf.prs x hx;omega⟩) Yo (by simp only [Ya,Yc,Yn,L1,L2,L3,L4,L5,L6];omega) c8 (by rw [h8];exact hn7);rw [h8]at d7;have d8:=zN8 (E:=E) (wide:=wide) (n:=n8+1) (d:=0) (fl:=fl) (l:=[plc E 0]++vD E (wJ false) 4 p.inputs++vD E (wJ false) n2 p.ghosts++vD E (wJ false) n3 p.vars++vD E (wJ true) n4 p.arrays++plX E wide (n5+1) p.require++qZ8 E wide n6 p.inits++jF6 E wide n7 p.procs) (xs:=p.work) (fun y hy=>⟨hg.wk y hy,kN4 E wide (hg.wk y hy)⟩) Yd Yo Yo (by simp only [Ya,Yc,Yn,L1,L2,L3,L4,L5,L6,L7];omega) c10;rw [h9]at d8;have d9:=zN8 (E:=E) (wide:=wide) (n:=n9+1) (d:=0) (fl:=fl) (l:=[plc E 0]++vD E (wJ false) 4 p.inputs++vD E (wJ false) n2 p.ghosts++vD E (wJ false) n3 p.vars++vD E (wJ true) n4 p.arrays++plX E wide (n5+1) p.require++qZ8 E wide n6 p.inits++jF6 E wide n7 p.procs++zL8 E wide (n8+1+1) p.work) (xs:=p.recover) (fun y hy=>⟨hg.rc y hy,kN4 E wide (hg.rc y hy)⟩) Yd Yo Yo (by simp only [Ya,Yc,Yn,L1,L2,L3,L4,L5,L6,L7,L8];omega) c12;rw [h10]at d9;have d10:=xA (E:=E) (wide:=wide) (n:=n10+1) (d:=0) (fl:=fl) (l:=[plc E 0]++vD E (wJ false) 4 p.inputs++vD E (wJ false) n2 p.ghosts++vD E (wJ false) n3 p.vars++vD E (wJ true) n4 p.arrays++plX E wide (n5+1) p.require++qZ8 E wide n6 p.inits++jF6 E wide n7 p.procs++zL8 E wide (n8+1+1) p.work++zL8 E wide (n9+1+1) p.recover) hg.iv Yd Yo Yo c14 hs (by simp only [Ya,Yc,Yn,L1,L2,L3,L4,L5,L6,L7,L8,L9];omega);have hpl:plG E wide p=[plc E 0]++vD E (wJ false) 4 p.inputs++vD E (wJ false) n2 p.ghosts++vD E (wJ false) n3 p.vars++vD E (wJ true) n4 p.arrays++plX E wide (n5+1) p.require++qZ8 E wide n6 p.inits++jF6 E wide n7 p.procs++zL8 E wide (n8+1+1) p.work++zL8 E wide (n9+1+1) p.recover++plX E wide (n10+1) p.invariant:=by unfold plG;simp only [h2,h3,h4,h5,h6,h7,h8,h9,h10]
 rw [hpl];refine(((((((((d1.and d2).and d3).and d4).and d5).and d6).and d7).and d8).and d9).and d10).mono fun f h=>?_;obtain⟨⟨⟨⟨⟨⟨⟨⟨⟨k1,k2⟩,k3⟩,k4⟩,k5⟩,k6⟩,k7⟩,k8⟩,k9⟩,k10⟩:=h;have f2:=zB1 (d:=0) (fl:=fl) (n:=1) (E:=E) (u:=qZ kb) b2 (jQ hkb1).2.2;have f4:=zB1 (d:=0) (fl:=fl) (n:=3) (E:=E) (u:=qZ kw) b4 (jQ hkw1).2.2;have m1:=kI (E:=E) (n:=0) (d:=0) (fl:=fl) (u:=bs "device") (by rw [b1]) (by rw [b1];decide);have m3:=kI (E:=E) (n:=2) (d:=0) (fl:=fl) (u:=bs "width") (by rw [show 2=0+1+1 from rfl,b3]) (by rw [show 2=0+1+1 from rfl,b3];decide);have q0:(Qt 0 0 fl []).at E=Qt 0 0 fl [plc E 0]:=by unfold QSt.at;rw [show(Qt 0 0 fl []).s=St 0 0 fl from rfl,yP];rfl
 unfold kH;simp only [cG];rw [q0,show(Qt 0 0 fl [plc E 0]).s=St 0 0 fl from rfl,m1,show St (0+1) 0 fl=St 1 0 fl from rfl,f2];dsimp only;rw [show St (1+1) 0 fl=St 2 0 fl from rfl,m3,show St (2+1) 0 fl=St 3 0 fl from rfl,f4];dsimp only;rw [show(Qt 0 0 fl [plc E 0]).on (St (3+1) 0 fl)=Qt 4 0 fl [plc E 0] from rfl,k1];simp only [lP,cF];rw [k2];simp only [lP,cF];rw [k3];simp only [lP,cF];rw [k4];simp only [lP,cF];rw [zG4 (by rw [c5]) (by rw [c5];decide),lM rfl];rw [show ∀ l,(Qt n5 0 fl l).on (zE (St n5 0 fl))=Qt (n5+1) 0 fl l from fun _=>rfl,k5];simp only [lP];rw [k6];simp only [lP,cF];rw [k7];simp only [lP,cF];rw [kI (by rw [c9]) (by rw [c9];decide)];rw [show ∀ l,(Qt n8 0 fl l).on (St (n8+1) 0 fl)=Qt (n8+1) 0 fl l from fun _=>rfl,k8];simp only [lP];rw [kI (by rw [c11]) (by rw [c11];decide)];rw [show ∀ l,(Qt n9 0 fl l).on (St (n9+1) 0 fl)=Qt (n9+1) 0 fl l from fun _=>rfl,k9];simp only [lP];rw [kI (by rw [c13]) (by rw [c13];decide)];rw [show ∀ l,(Qt n10 0 fl l).on (St (n10+1) 0 fl)=Qt (n10+1) 0 fl l from fun _=>rfl,k10];simp only [lP];rw [←hkb,←hkw];rfl
def wdP (p:Pc):Wd:=(p.kind,p.tok)
def zW4 (g:List UInt8):List Pc→List Pc
 | []=>[]
 | p :: r=>⟨g++p.gap,p.kind,p.tok⟩ :: r
theorem vQ (g:List UInt8) (l:List Pc):(zW4 g l).map wdP=l.map wdP:=by cases l <;> rfl
theorem jW {g:List UInt8} {l:List Pc} (h:l≠[]):jF (zW4 g l)=g++jF l:=by
 cases l with
 | nil=>exact absurd rfl h
 | cons p r=>simp [zW4,zF]
theorem jC {g:List UInt8} (hg:GapOk g) {l:List Pc} {t:List UInt8} (h:LexOk l t):LexOk (zW4 g l) t:=by
 cases l with
 | nil=>trivial
 | cons p r =>
   obtain⟨h1,h2,h3,h4,h5⟩:=h;refine⟨?_,h2,h3,h4,h5⟩;show jG false ((g++p.gap)++_)=(g++p.gap).length;rw [lS,hg,h1,Ya]
def Safe (t:List UInt8):Prop:=∀ c,t.head?=some c→yU c=false∧c.toNat≠58
theorem Safe.nil:Safe []:=fun c h=>by cases h
theorem Safe.cons {c:UInt8} {t:List UInt8} (h1:yU c=false) (h2:c.toNat≠58):Safe (c :: t):=fun d h=>by injection h with h;subst h;exact⟨h1,h2⟩
theorem vZ {c:UInt8} (h:yU c=false):zV c=false:=by unfold yU at h;simp only [Bool.or_eq_false_iff]at h;exact h.2.2.2
theorem zT9 {g tok:List UInt8} {k:Nat} {r:List Pc} {t:List UInt8} (hg:GapOk g) (c:UInt8) (s:List UInt8) (ht:tok=c :: s) (hb:yJ c=false) (h35:c.toNat≠35) (hk:k≠0) (htok:zC1 (tok++(jF r++t))=(k,tok.length)) (h:LexOk r t):LexOk (⟨g,k,tok⟩ :: r) t:=by subst ht;refine⟨?_,htok,hk,Ym,h⟩;show jG false (g++_)=g.length;rw [hg,lR,vY _ hb h35];omega
theorem qG3 {c:UInt8} (h:qM c=true):yJ c=false∧c.toNat≠35:=by unfold qM at h;simp only [lZ,cC]at h;unfold yJ;refine⟨?_,Yo⟩;rw [lG Yo,lG Yo,lG Yo,lG Yo];rfl
theorem zQ9 {c:UInt8} (h:zV c=true):yJ c=false∧c.toNat≠35:=by unfold zV at h;simp only [lZ,cC]at h;unfold yJ;refine⟨?_,Yo⟩;rw [lG Yo,lG Yo,lG Yo,lG Yo];rfl
theorem qP {g n:List UInt8} {r:List Pc} {t:List UInt8} (hg:GapOk g) (hn:∃ c s,n=c :: s∧qM c=true∧∀ x∈s,yU x=true) (hs:∀ d,(jF r++t).head?=some d→yU d=false) (h:LexOk r t):LexOk (⟨g,1,n⟩ :: r) t:=by obtain⟨c,s,rfl,hc,hp⟩:=hn;exact zT9 hg c s rfl (qG3 hc).1 (qG3 hc).2 Yd (zJ3 c s _ hc hp hs) h
theorem zD7 {g:List UInt8} {n:Nat} {r:List Pc} {t:List UInt8} (hg:GapOk g) (hn:n≤1000000000) (hs:∀ d,(jF r++t).head?=some d→zV d=false∧d.toNat≠58) (h:LexOk r t):LexOk (⟨g,2,qZ n⟩ :: r) t:=by
 obtain⟨h1,h2,_⟩:=jQ hn;cases hd:qZ n with
 | nil=>exact absurd hd h2
 | cons c s =>
   rw [hd]at h1;have hc:=h1 c Ym;exact zT9 hg c s rfl (zQ9 hc).1 (zQ9 hc).2 Yd (jP5 c s _ h1 hs) h
theorem kA4 {g:List UInt8} {n m:Nat} {r:List Pc} {t:List UInt8} (hg:GapOk g) (hn:n≤1000000000) (hm:m≤1000000000) (hs:∀ d,(jF r++t).head?=some d→zV d=false) (h:LexOk r t):LexOk (⟨g,3,qZ n++58 :: qZ m⟩ :: r) t:=by
 obtain⟨h1,h2,_⟩:=jQ hn;obtain⟨g1,g2,_⟩:=jQ hm;cases hd:qZ n with
 | nil=>exact absurd hd h2
 | cons c s =>
   cases he:qZ m with
   | nil=>exact absurd he g2
   | cons d q =>
     rw [hd]at h1;rw [he]at g1;have hc:=h1 c Ym;exact zT9 hg c (s++58 :: d :: q) rfl (zQ9 hc).1 (zQ9 hc).2 Yd (qQ7 c s d q _ h1 g1 hs) h
theorem zJ6 {g:List UInt8} (c:UInt8) {r:List Pc} {t:List UInt8} (hg:GapOk g) (h0:yF.contains c=true) (h1:qM c=false) (h2:zV c=false) (hb:yJ c=false) (h35:c.toNat≠35) (hs:∀ d,(jF r++t).head?=some d→wV c d=false) (h:LexOk r t):LexOk (⟨g,4,[c]⟩ :: r) t :=
 zT9 hg c [] rfl hb h35 Yd (zT5 c _ h0 h1 h2 hs) h
theorem kA5 {c:UInt8} (h1:c≠60) (h2:c≠62) (h3:c≠61) (h4:c≠33) (d:UInt8):wV c d=false:=by unfold wV;rw [beq_false_of_ne h1,beq_false_of_ne h2,beq_false_of_ne h3,beq_false_of_ne h4];rfl
theorem zW {g:List UInt8} (c:UInt8) {r:List Pc} {t:List UInt8} (hg:GapOk g) (hc:([43,45,42,47,37,38,124,94,126,63,58,44,64,40,41,91,93,123,125]:List UInt8).contains c=true) (h:LexOk r t):LexOk (⟨g,4,[c]⟩ :: r) t:=by have key:∀ c∈([43,45,42,47,37,38,124,94,126,63,58,44,64,40,41,91,93,123,125]:List UInt8),yF.contains c=true∧qM c=false∧zV c=false∧yJ c=false∧c.toNat≠35∧c≠60∧c≠62∧c≠61∧c≠33:=Yd;obtain⟨k1,k2,k3,k4,k5,k6,k7,k8,k9⟩:=key c (List.contains_iff_mem.1 hc);exact zJ6 c hg k1 k2 k3 k4 k5 (fun d _=>kA5 k6 k7 k8 k9 d) h
theorem zJ7 {g:List UInt8} (c d:UInt8) {r:List Pc} {t:List UInt8} (hg:GapOk g) (hp:wV c d=true) (h1:qM c=false) (h2:zV c=false) (hb:yJ c=false) (h35:c.toNat≠35) (h:LexOk r t):LexOk (⟨g,4,[c,d]⟩ :: r) t :=
 zT9 hg c [d] rfl hb h35 Yd (jE6 c d _ hp h1 h2) h
theorem xP:GapOk [32]:=.one Yd
def opG (o:Nat):List UInt8:=if o=4∨o=15 then [32] else []
def kQ6 (wide:Bool) (y:Ex) (l:List Pc):List Pc:=if qZ7 wide y then⟨[],4,[40]⟩ :: (zW4 [32] l++[⟨[],4,[41]⟩]) else l
mutual
def pcX (wide:Bool):Ex→List Pc
 | .mk k o v wd n l =>
   let r:=jU4 wide l
   let s:Nat→List Pc:=fun i=>match l[i]? with
    | some y=>kQ6 wide y (r.getD i [])
    | none=>[]
   if k=1 then [⟨[],3,qZ v++58 :: qZ wd.toNat⟩]
   else if k=2 then [⟨[],1,n⟩]
   else if k=3 then⟨[],1,n⟩ :: ⟨[],4,[91]⟩ :: (r.getD 0 []++[⟨[],4,[93]⟩])
   else if k=4 then⟨[],1,bs "disk"⟩ :: ⟨[32],4,[91]⟩ :: (r.getD 0 []++[⟨[],4,[93]⟩])
   else if k=5 then⟨[],4,kK o⟩ :: s 0
   else if k=6 then s 0++⟨opG o,4,kK o⟩ :: zW4 (opG o) (s 1)
   else if k=7 then s 0++⟨[],4,[63]⟩ :: (zW4 [32] (s 1)++⟨[32],4,[58]⟩ :: zW4 [32] (s 2))
   else s 0++[⟨[32],4,[64]⟩,⟨[],2,qZ wd.toNat⟩]
def jU4 (wide:Bool):List Ex→List (List Pc)
 | []=>[]
 | x :: l=>pcX wide x :: jU4 wide l
end
abbrev sP (wide:Bool) (y:Ex):List Pc:=kQ6 wide y (pcX wide y)
section
theorem qR3 (wide:Bool) (y:Ex):qZ7 wide y=true↔(wide=true∨zM6 y=6∨zM6 y=7∨zM6 y=5):=by unfold qZ7;simp
structure PcE (wide:Bool) (x:Ex):Prop where
 cat:jF (pcX wide x)=zP wide x
 wd:(pcX wide x).map wdP=wX wide x
 lex:∀ t,Safe t→LexOk (pcX wide x) t
 hd:∃ c r,zP wide x=c :: r∧c≠61
 ne:pcX wide x≠[]
structure PcU (wide:Bool) (x:Ex):Prop where
 cat:jF (sP wide x)=zI5 wide x (zP wide x)
 wd:(sP wide x).map wdP=sW wide x
 lex:∀ t,Safe t→LexOk (sP wide x) t
 hd:∃ c r,zI5 wide x (zP wide x)=c :: r∧c≠61
 ne:sP wide x≠[]
theorem zF5:jF []=[]:=rfl
theorem xC (p:Pc):jF [p]=p.gap++p.tok:=by simp [jF]
section
variable {wide:Bool} {x:Ex}
theorem PcE.u (h:PcE wide x):PcU wide x:=by
 by_cases hp:qZ7 wide x=true
 ·have e1:sP wide x=⟨[],4,[40]⟩ :: (zW4 [32] (pcX wide x)++[⟨[],4,[41]⟩]):=lM hp;have e2:zI5 wide x (zP wide x)=[40,32]++zP wide x++[41]:=lM ((qR3 wide x).1 hp);have e3:sW wide x=(4,[40]) :: (wX wide x++[(4,[41])]):=lM hp;refine⟨?_,?_,fun t ht=>?_,?_,?_⟩
  ·rw [e1,e2,zF,qD,jW h.ne,h.cat,xC];simp
  ·rw [e1,e3,lY,cB,vQ,h.wd];rfl
  ·rw [e1];refine zW 40 .nil Yd (LexOk.app _ _ _ (jC xP (h.lex _ ?_)) (zW 41 .nil Yd trivial));rw [xC];exact Safe.cons Yd Yd
  ·rw [e2];exact⟨40,_,rfl,Yd⟩
  ·rw [e1];simp
 ·have e1:sP wide x=pcX wide x:=lN hp;have e2:zI5 wide x (zP wide x)=zP wide x:=lN fun h=>hp ((qR3 wide x).2 h);have e3:sW wide x=wX wide x:=lN hp;exact⟨by rw [e1,e2,h.cat],by rw [e1,e3,h.wd],fun t ht=>by rw [e1];exact h.lex t ht,by rw [e2];exact h.hd,by rw [e1];exact h.ne⟩
theorem kN5 {o:Nat} (h0:3≤o) (h1:o≤16) {r:List Pc} {t:List UInt8} (hr:r≠[]) (h:LexOk r t):LexOk (⟨opG o,4,kK o⟩ :: zW4 (opG o) r) t:=by
 rcases(by omega:o=3∨o=4∨o=5∨o=6∨o=7∨o=8∨o=9∨o=10∨o=11∨o=12∨o=13∨o=14∨o=15∨o=16)with rfl | rfl | rfl | rfl | rfl | rfl | rfl | rfl | rfl | rfl | rfl | rfl | rfl | rfl
 ·exact zW 43 .nil Yd (jC .nil h)
 ·exact zW 45 xP Yd (jC xP h)
 ·exact zW 42 .nil Yd (jC .nil h)
 ·exact zW 47 .nil Yd (jC .nil h)
 ·exact zW 37 .nil Yd (jC .nil h)
 ·exact zW 38 .nil Yd (jC .nil h)
 ·exact zW 124 .nil Yd (jC .nil h)
 ·exact zW 94 .nil Yd (jC .nil h)
 ·exact zJ7 60 60 .nil Yd Yd Yd Yd Yd (jC .nil h)
 ·exact zJ7 62 62 .nil Yd Yd Yd Yd Yd (jC .nil h)
 ·exact zJ7 61 61 .nil Yd Yd Yd Yd Yd (jC .nil h)
 ·exact zJ7 33 61 .nil Yd Yd Yd Yd Yd (jC .nil h)
 ·refine zJ6 60 xP Yd Yd Yd Yd Yd (fun d hd=>?_) (jC xP h);rw [show opG 15=[32] from rfl,jW hr]at hd;injection hd with hd;subst hd;decide
 ·exact zJ7 60 61 .nil Yd Yd Yd Yd Yd (jC .nil h)
theorem kH8 {o:Nat} (h0:3≤o) (h1:o≤16) (r:List Pc) (t:List UInt8):Safe (jF (⟨opG o,4,kK o⟩ :: r)++t):=by rw [zF];rcases(by omega:o=3∨o=4∨o=5∨o=6∨o=7∨o=8∨o=9∨o=10∨o=11∨o=12∨o=13∨o=14∨o=15∨o=16)with rfl | rfl | rfl | rfl | rfl | rfl | rfl | rfl | rfl | rfl | rfl | rfl | rfl | rfl <;> exact Safe.cons Yd Yd
theorem kH9:∀ o,o<17→3≤o→biT o=opG o++kK o++opG o:=Yd
theorem kI1:∀ o,o<3→1≤o→unT o=kK o:=Yd
theorem jP7 {n:Nat} (h:n≤1000000000) (m:List UInt8):∃ c r,qZ n++m=c :: r∧c≠61:=by
 obtain⟨h1,h2,_⟩:=jQ h;cases hd:qZ n with
 | nil=>exact absurd hd h2
 | cons c r =>
   refine⟨c,r++m,rfl,?_⟩;rintro rfl;have:=h1 61 (by rw [hd];simp);exact absurd this Yd
theorem jG1 {n:List UInt8} (h:NameOk n) (m:List UInt8):∃ c r,n++m=c :: r∧c≠61:=by obtain⟨c,r,rfl,hc,_⟩:=h.word;refine⟨c,r++m,rfl,?_⟩;rintro rfl;exact absurd hc Yd
theorem pcE {x:Ex} (h:kP x):PcE wide x:=by
 induction h with
 | num v w hv hw =>
   have e1:pcX wide (.mk 1 0 v w [] [])=[⟨[],3,qZ v++58 :: qZ w⟩]:=by simp [pcX]
   have e2:zP wide (.mk 1 0 v w [] [])=qZ v++58 :: qZ w:=by simp [zP]
   have e3:wX wide (.mk 1 0 v w [] [])=[(3,qZ v++58 :: qZ w)]:=by simp [wX]
   refine⟨by rw [e1,e2,xC];rfl,by rw [e1,e3];rfl,fun t ht=>?_,by rw [e2];exact jP7 hv _,by rw [e1];simp⟩;rw [e1];exact kA4 .nil hv hw (fun d hd=>vZ (ht d hd).1) trivial
 | var n hn =>
   have e1:pcX wide (.mk 2 0 0 0 n [])=[⟨[],1,n⟩]:=by simp [pcX]
   have e2:zP wide (.mk 2 0 0 0 n [])=n:=by simp [zP]
   have e3:wX wide (.mk 2 0 0 0 n [])=[(1,n)]:=by simp [wX]
   refine⟨by rw [e1,e2,xC];rfl,by rw [e1,e3];rfl,fun t ht=>?_,by rw [e2];simpa using jG1 hn [],by rw [e1];simp⟩;rw [e1];exact qP .nil hn.word (fun d hd=>(ht d hd).1) trivial
 | elem n y hn hy ih =>
   have e1:pcX wide (.mk 3 0 0 0 n [y])=⟨[],1,n⟩ :: ⟨[],4,[91]⟩ :: (pcX wide y++[⟨[],4,[93]⟩]):=by simp [pcX,jU4]
   have e2:zP wide (.mk 3 0 0 0 n [y])=n++([91]++zP wide y++[93]):=by simp [zP,yD]
   have e3:wX wide (.mk 3 0 0 0 n [y])=(1,n) :: (4,[91]) :: (wX wide y++[(4,[93])]):=by simp [wX,wXs]
   refine⟨by rw [e1,e2];simp [zF,qD,zF5,ih.cat],by rw [e1,e3];simp [ih.wd,wdP],fun t ht=>?_,by rw [e2];exact jG1 hn _,by rw [e1];simp⟩;rw [e1];refine qP .nil hn.word (fun d hd=>?_) (zW 91 .nil Yd (LexOk.app _ _ _ (ih.lex _ ?_) (zW 93 .nil Yd trivial)))
   ·rw [zF]at hd;injection hd with hd;subst hd;decide
   ·rw [xC];exact Safe.cons Yd Yd
 | disk y hy ih =>
   have e1:pcX wide (.mk 4 0 0 0 [] [y])=⟨[],1,bs "disk"⟩ :: ⟨[32],4,[91]⟩ :: (pcX wide y++[⟨[],4,[93]⟩]):=by simp [pcX,jU4]
   have e2:zP wide (.mk 4 0 0 0 [] [y])=bs "disk ["++(zP wide y++[93]):=by simp [zP,yD]
   have e3:wX wide (.mk 4 0 0 0 [] [y])=(1,bs "disk") :: (4,[91]) :: (wX wide y++[(4,[93])]):=by simp [wX,wXs]
   have e4:bs "disk [" = bs "disk"++[32,91]:=Yd;refine⟨by rw [e1,e2,e4];simp [zF,qD,zF5,ih.cat],by rw [e1,e3];simp [ih.wd,wdP],fun t ht=>?_,by rw [e2];exact⟨_,_,rfl,Yd⟩,by rw [e1];simp⟩;rw [e1];refine qP .nil ⟨_,_,rfl,Yd,Yd⟩ (fun d hd=>?_) (zW 91 xP Yd (LexOk.app _ _ _ (ih.lex _ ?_) (zW 93 .nil Yd trivial)))
   ·rw [zF]at hd;injection hd with hd;subst hd;decide
   ·rw [xC];exact Safe.cons Yd Yd
 | un o y o1 o2 hy ih =>
   have e1:pcX wide (.mk 5 o 0 0 [] [y])=⟨[],4,kK o⟩ :: sP wide y:=by simp [pcX,jU4]
   have e2:zP wide (.mk 5 o 0 0 [] [y])=kK o++zI5 wide y (zP wide y):=by simp [zP,yD,kI1 o Yo o1]
   have e3:wX wide (.mk 5 o 0 0 [] [y])=(4,kK o) :: sW wide y:=by simp [wX,wXs]
   refine⟨by rw [e1,e2];simp [zF,ih.u.cat],by rw [e1,e3];simp [ih.u.wd,wdP],fun t ht=>?_,?_,by rw [e1];simp⟩
   ·rw [e1];rcases(by omega:o=1∨o=2)with rfl | rfl
    ·exact zW 126 .nil Yd (ih.u.lex t ht)
    ·exact zW 45 .nil Yd (ih.u.lex t ht)
   ·rw [e2];rcases(by omega:o=1∨o=2)with rfl | rfl <;> exact⟨_,_,rfl,Yd⟩
 | bin o x y o1 o2 hx hy ih1 ih2 =>
   have e1:pcX wide (.mk 6 o 0 0 [] [x,y])=sP wide x++⟨opG o,4,kK o⟩ :: zW4 (opG o) (sP wide y):=by simp [pcX,jU4]
   have e2:zP wide (.mk 6 o 0 0 [] [x,y])=zI5 wide x (zP wide x)++(opG o++kK o++opG o)++zI5 wide y (zP wide y):=by simp [zP,yD,kH9 o Yo o1]
   have e3:wX wide (.mk 6 o 0 0 [] [x,y])=sW wide x++(4,kK o) :: sW wide y:=by simp [wX,wXs]
   refine⟨by rw [e1,e2];simp [zF,qD,jW ih2.u.ne,ih1.u.cat,ih2.u.cat],by rw [e1,e3];simp [ih1.u.wd,ih2.u.wd,wdP,vQ],fun t ht=>?_,?_,by rw [e1];simp⟩
   ·rw [e1];exact LexOk.app _ _ _ (ih1.u.lex _ (kH8 o1 o2 _ _)) (kN5 o1 o2 ih2.u.ne (ih2.u.lex t ht))
   ·obtain⟨c,r,e,hc⟩:=ih1.u.hd;rw [e2,e];exact⟨c,_,rfl,hc⟩
 | mux x y z hx hy hz ih1 ih2 ih3 =>
   have e1:pcX wide (.mk 7 0 0 0 [] [x,y,z])=sP wide x++⟨[],4,[63]⟩ :: (zW4 [32] (sP wide y)++⟨[32],4,[58]⟩ :: zW4 [32] (sP wide z)):=by simp [pcX,jU4]
   have e2:zP wide (.mk 7 0 0 0 [] [x,y,z])=zI5 wide x (zP wide x)++bs "? "++zI5 wide y (zP wide y)++bs " : "++zI5 wide z (zP wide z):=by simp [zP,yD]
   have e3:wX wide (.mk 7 0 0 0 [] [x,y,z])=sW wide x++(4,[63]) :: (sW wide y++(4,[58]) :: sW wide z):=by simp [wX,wXs]
   have e4:bs "? " = [63,32]:=Yd;have e5:bs " : " = [32,58,32]:=Yd;refine⟨by rw [e1,e2,e4,e5];simp [zF,qD,jW ih2.u.ne,jW ih3.u.ne,ih1.u.cat,ih2.u.cat,ih3.u.cat],by rw [e1,e3];simp [ih1.u.wd,ih2.u.wd,ih3.u.wd,wdP,vQ],fun t ht=>?_,?_,by rw [e1];simp⟩
   ·rw [e1];refine LexOk.app _ _ _ (ih1.u.lex _ ?_) (zW 63 .nil Yd (LexOk.app _ _ _ (jC xP (ih2.u.lex _ ?_)) (zW 58 xP Yd (jC xP (ih3.u.lex t ht)))))
    ·rw [zF];exact Safe.cons Yd Yd
    ·rw [zF];exact Safe.cons Yd Yd
   ·obtain⟨c,r,e,hc⟩:=ih1.u.hd;rw [e2,e];exact⟨c,_,rfl,hc⟩
 | cast w y hw hy ih =>
   have e1:pcX wide (.mk 8 0 0 w [] [y])=sP wide y++[⟨[32],4,[64]⟩,⟨[],2,qZ w⟩]:=by simp [pcX,jU4]
   have e2:zP wide (.mk 8 0 0 w [] [y])=zI5 wide y (zP wide y)++bs " @"++qZ w:=by simp [zP,yD]
   have e3:wX wide (.mk 8 0 0 w [] [y])=sW wide y++[(4,[64]),(2,qZ w)]:=by simp [wX,wXs]
   have e4:bs " @" = [32,64]:=Yd;refine⟨by rw [e1,e2,e4];simp [zF,qD,zF5,ih.u.cat],by rw [e1,e3];simp [ih.u.wd,wdP],fun t ht=>?_,?_,by rw [e1];simp⟩
   ·rw [e1];refine LexOk.app _ _ _ (ih.u.lex _ ?_) (zW 64 xP Yd (zD7 .nil hw (fun d hd=>⟨vZ (ht d hd).1,(ht d hd).2⟩) trivial));rw [zF];exact Safe.cons Yd Yd
   ·obtain⟨c,r,e,hc⟩:=ih.u.hd;rw [e2,e];exact⟨c,_,rfl,hc⟩
end
end
section
def zP5:List (List Pc)→List Pc
 | []=>[]
 | [x]=>x
 | x :: l=>x++⟨[],4,[44]⟩ :: zP5 l
def kI2:List UInt8:=bs " # \n"
theorem kI3:GapOk kI2:=by have e:kI2=32 :: (35 :: ([32]++(10 :: []))):=Yd;rw [e];exact .cons Yd (.rem Yd .nil)
mutual
def pcS (wide:Bool):Sx→List Pc
 | .mk k n es b t e =>
   let r:=es.map (pcX wide)
   let tt:=⟨[],4,[123]⟩ :: qX1 wide [] t
   let te:=⟨[],4,[123]⟩ :: qX1 wide [] e
   if k=1 then⟨[],1,n⟩ :: ⟨[],4,[61]⟩ :: r.getD 0 []
   else if k=2 then⟨[],1,n⟩ :: ⟨[],4,[91]⟩ :: (r.getD 0 []++⟨[],4,[93]⟩ :: ⟨[],4,[61]⟩ :: r.getD 1 [])
   else if k=3 then⟨[],1,bs "write"⟩ :: (zW4 [32] (r.getD 0 [])++⟨[],4,[44]⟩ :: r.getD 1 [])
   else if k=4 then [⟨[],1,bs "flush"⟩]
   else if k=5 then [⟨[],1,bs "barrier"⟩]
   else if k=6 then⟨[],1,bs "if"⟩ :: (zW4 [32] (r.getD 0 [])++(tt++(if e≠[]∨wide then⟨[],1,bs "else"⟩ :: te else [])))
   else if k=7 then⟨[],1,bs "while"⟩ :: (zW4 [32] (r.getD 0 [])++⟨[32],1,bs "bound"⟩ :: ⟨[32],2,qZ b.toNat⟩ :: tt)
   else⟨[],1,bs "call"⟩ :: ⟨[32],1,n⟩ :: ⟨[],4,[40]⟩ :: (zP5 r++[⟨[],4,[41]⟩])
def qX1 (wide:Bool):List UInt8→List Sx→List Pc
 | g,[]=>[⟨g,4,[125]⟩]
 | g,x :: l=>zW4 g (pcS wide x)++qX1 wide kI2 l
end
abbrev pcB (wide:Bool) (l:List Sx):List Pc:=⟨[],4,[123]⟩ :: qX1 wide [] l
structure PcT (wide:Bool) (x:Sx):Prop where
 cat:jF (pcS wide x)=jH wide x
 wd:(pcS wide x).map wdP=wS wide x
 lex:∀ t,Safe t→LexOk (pcS wide x) t
 ne:pcS wide x≠[]
section
variable {wide:Bool}
theorem qR4:∀ (es:List Ex),(∀ x∈es,kP x)→jF (zP5 (es.map (pcX wide)))=qT (es.map (zP wide))∧(zP5 (es.map (pcX wide))).map wdP=kO (es.map (wX wide))∧∀ t,Safe t→LexOk (zP5 (es.map (pcX wide))) t
 | [],_=>⟨rfl,rfl,fun _ _=>trivial⟩
 | [x],h=>by have hx:=pcE (wide:=wide) (h x Ym);exact⟨hx.cat,hx.wd,hx.lex⟩
 | x :: y :: es,h=>by
   have hx:=pcE (wide:=wide) (h x Ym);obtain⟨i1,i2,i3⟩:=qR4 (y :: es) fun z hz=>h z (by simp at hz ⊢;exact .inr hz);have e1:zP5 ((x :: y :: es).map (pcX wide))=pcX wide x++⟨[],4,[44]⟩ :: zP5 ((y :: es).map (pcX wide)):=rfl;have e2:qT ((x :: y :: es).map (zP wide))=zP wide x++[44]++qT ((y :: es).map (zP wide)):=rfl;have e3:kO ((x :: y :: es).map (wX wide))=wX wide x++(4,[44]) :: kO ((y :: es).map (wX wide)):=rfl;refine⟨?_,?_,fun t ht=>?_⟩
   ·rw [e1,e2,qD,zF,i1,hx.cat];simp
   ·rw [e1,e3,cB,lY,i2,hx.wd];rfl
   ·rw [e1];refine LexOk.app _ _ _ (hx.lex _ ?_) (zW 44 .nil Yd (i3 t ht));rw [zF];exact Safe.cons Yd Yd
theorem jG2:∀ (l:List Sx) (g:List UInt8),GapOk g→(∀ y∈l,PcT wide y)→jF (qX1 wide g l)=g++(kF wide l++[125])∧(qX1 wide g l).map wdP=wSs wide l++[(4,[125])]∧∀ t,LexOk (qX1 wide g l) t
 | [],g,hg,_=>by
   refine⟨?_,?_,fun t=>?_⟩
   ·simp [qX1,kF,xC]
   ·simp [qX1,wSs,wdP]
   ·rw [qX1];exact zW 125 hg Yd trivial
 | x :: l,g,hg,h=>by
   have hx:=h x Ym;obtain⟨i1,i2,i3⟩:=jG2 l kI2 kI3 fun y hy=>h y (by simp [hy]);refine⟨?_,?_,fun t=>?_⟩
   ·rw [qX1,qD,jW hx.ne,hx.cat,i1];simp [kF,kI2]
   ·simp [qX1,wSs,vQ,hx.wd,i2]
   ·rw [qX1];refine LexOk.app _ _ _ (jC hg (hx.lex _ ?_)) (i3 t);rw [i1];exact Safe.cons (c:=32) Yd Yd
theorem zO1 {l:List Sx} (h:∀ y∈l,PcT wide y):jF (pcB wide l)=jJ wide l∧(pcB wide l).map wdP=wB wide l∧∀ t,LexOk (pcB wide l) t:=by
 obtain⟨i1,i2,i3⟩:=jG2 l [] .nil h;refine⟨?_,?_,fun t=>?_⟩
 ·rw [zF,i1];simp [jJ]
 ·rw [lY,i2];rfl
 ·exact zW 123 .nil Yd (i3 t)
theorem kB (w:List UInt8) (h:(match w with | []=>false | c :: r=>qM c && r.all yU)=true):∃ c s,w=c :: s∧qM c=true∧∀ x∈s,yU x=true:=by
 cases w with
 | nil=>cases h
 | cons c r =>
   simp only [lZ,List.all_eq_true]at h;exact⟨c,r,rfl,h.1,h.2⟩
theorem qQ {c:UInt8} {t:List UInt8} {P:UInt8→Prop} (h:P c):∀ d,(c :: t).head?=some d→P d:=fun d hd=>by injection hd with hd;exact hd▸h
theorem pcT {x:Sx} (h:vP x):PcT wide x:=by
 induction h with
 | set n x hn hx =>
   have ih:=pcE (wide:=wide) hx;have e1:pcS wide (.mk 1 n [x] 0 [] [])=⟨[],1,n⟩ :: ⟨[],4,[61]⟩ :: pcX wide x:=by simp [pcS]
   have e2:jH wide (.mk 1 n [x] 0 [] [])=n++[61]++zP wide x:=by simp [jH]
   have e3:wS wide (.mk 1 n [x] 0 [] [])=(1,n) :: (4,[61]) :: wX wide x:=by simp [wS]
   refine⟨by rw [e1,e2];simp [zF,ih.cat],by rw [e1,e3];simp [ih.wd,wdP],fun t ht=>?_,by rw [e1];simp⟩;rw [e1];refine qP .nil hn.word ?_ (zJ6 61 .nil Yd Yd Yd Yd Yd (fun d hd=>?_) (ih.lex t ht))
   ·rw [zF];exact qQ Yd
   ·obtain⟨c,r,e,hc⟩:=ih.hd;rw [ih.cat,e]at hd;injection hd with hd;subst hd;unfold wV;rw [beq_false_of_ne hc];simp
 | put n i x hn hi hx =>
   have ih:=pcE (wide:=wide) hx;have jh:=pcE (wide:=wide) hi;have e1:pcS wide (.mk 2 n [i,x] 0 [] [])=⟨[],1,n⟩ :: ⟨[],4,[91]⟩ :: (pcX wide i++⟨[],4,[93]⟩ :: ⟨[],4,[61]⟩ :: pcX wide x):=by simp [pcS]
   have e2:jH wide (.mk 2 n [i,x] 0 [] [])=n++[91]++zP wide i++[93,61]++zP wide x:=by simp [jH]
   have e3:wS wide (.mk 2 n [i,x] 0 [] [])=(1,n) :: (4,[91]) :: (wX wide i++(4,[93]) :: (4,[61]) :: wX wide x):=by simp [wS]
   refine⟨by rw [e1,e2];simp [zF,qD,ih.cat,jh.cat],by rw [e1,e3];simp [ih.wd,jh.wd,wdP],fun t ht=>?_,by rw [e1];simp⟩;rw [e1];refine qP .nil hn.word ?_ (zW 91 .nil Yd (LexOk.app _ _ _ (jh.lex _ ?_) (zW 93 .nil Yd (zJ6 61 .nil Yd Yd Yd Yd Yd (fun d hd=>?_) (ih.lex t ht)))))
   ·rw [zF];exact qQ Yd
   ·rw [zF];exact Safe.cons Yd Yd
   ·obtain⟨c,r,e,hc⟩:=ih.hd;rw [ih.cat,e]at hd;injection hd with hd;subst hd;unfold wV;rw [beq_false_of_ne hc];simp
 | write b x hb hx =>
   have ih:=pcE (wide:=wide) hx;have jh:=pcE (wide:=wide) hb;have e1:pcS wide (.mk 3 [] [b,x] 0 [] [])=⟨[],1,bs "write"⟩ :: (zW4 [32] (pcX wide b)++⟨[],4,[44]⟩ :: pcX wide x):=by simp [pcS]
   have e2:jH wide (.mk 3 [] [b,x] 0 [] [])=bs "write "++(zP wide b++[44]++zP wide x):=by simp [jH,qT]
   have e3:wS wide (.mk 3 [] [b,x] 0 [] [])=(1,bs "write") :: (wX wide b++(4,[44]) :: wX wide x):=by simp [wS]
   have e4:bs "write " = bs "write"++[32]:=Yd;refine⟨by rw [e1,e2,e4];simp [zF,qD,ih.cat,jh.cat,jW jh.ne],by rw [e1,e3];simp [ih.wd,jh.wd,wdP,vQ],fun t ht=>?_,by rw [e1];simp⟩;rw [e1];refine qP .nil (kB _ Yd) ?_ (LexOk.app _ _ _ (jC xP (jh.lex _ ?_)) (zW 44 .nil Yd (ih.lex t ht)))
   ·rw [qD,jW jh.ne];exact qQ Yd
   ·rw [zF];exact Safe.cons Yd Yd
 | flush =>
   have e1:pcS wide (.mk 4 [] [] 0 [] [])=[⟨[],1,bs "flush"⟩]:=by simp [pcS]
   refine⟨by rw [e1];simp [jH,xC],by rw [e1];simp [wS,wdP],fun t ht=>?_,by rw [e1];simp⟩;rw [e1];exact qP .nil (kB _ Yd) (fun d hd=>(ht d hd).1) trivial
 | barrier =>
   have e1:pcS wide (.mk 5 [] [] 0 [] [])=[⟨[],1,bs "barrier"⟩]:=by simp [pcS]
   refine⟨by rw [e1];simp [jH,xC],by rw [e1];simp [wS,wdP],fun t ht=>?_,by rw [e1];simp⟩;rw [e1];exact qP .nil (kB _ Yd) (fun d hd=>(ht d hd).1) trivial
 | ifs x t e hx ht he ih1 ih2 =>
   have ih:=pcE (wide:=wide) hx;obtain⟨t1,t2,t3⟩:=zO1 ih1;obtain⟨u1,u2,u3⟩:=zO1 ih2;have e1:pcS wide (.mk 6 [] [x] 0 t e)=⟨[],1,bs "if"⟩ :: (zW4 [32] (pcX wide x)++(pcB wide t++(if e≠[]∨wide then⟨[],1,bs "else"⟩ :: pcB wide e else []))):=by simp [pcS]
   have e2:jH wide (.mk 6 [] [x] 0 t e)=bs "if "++zP wide x++jJ wide t++(if e≠[]∨wide then bs "else"++jJ wide e else []):=by simp [jH,jJ]
   have e3:wS wide (.mk 6 [] [x] 0 t e)=(1,bs "if") :: (wX wide x++(wB wide t++(if e≠[]∨wide then(1,bs "else") :: wB wide e else []))):=by simp [wS]
   have e4:bs "if " = bs "if"++[32]:=Yd;by_cases hel:e≠[]∨wide=true
   ·rw [lM hel]at e1 e2 e3;refine⟨?_,?_,fun t' ht'=>?_,by rw [e1];simp⟩
    ·rw [e1,e2,e4,zF,qD,qD,jW ih.ne,ih.cat,t1,zF,u1];simp
    ·rw [e1,e3,lY,cB,cB,vQ,ih.wd,t2,lY,u2];rfl
    ·rw [e1];refine qP .nil (kB _ Yd) ?_ (LexOk.app _ _ _ (jC xP (ih.lex _ ?_)) (LexOk.app _ _ _ (t3 _) (qP .nil (kB _ Yd) ?_ (u3 _))))
     ·rw [qD,jW ih.ne];exact qQ Yd
     ·rw [qD,zF];exact Safe.cons Yd Yd
     ·rw [zF];exact qQ Yd
   ·rw [lN hel]at e1 e2 e3;refine⟨?_,?_,fun t' ht'=>?_,by rw [e1];simp⟩
    ·rw [e1,e2,e4,zF,qD,qD,jW ih.ne,ih.cat,t1];simp [zF5]
    ·rw [e1,e3,lY,cB,cB,vQ,ih.wd,t2];rfl
    ·rw [e1];refine qP .nil (kB _ Yd) ?_ (LexOk.app _ _ _ (jC xP (ih.lex _ ?_)) (LexOk.app _ _ _ (t3 _) trivial))
     ·rw [qD,jW ih.ne];exact qQ Yd
     ·rw [qD,zF];exact Safe.cons Yd Yd
 | loop x b t hx hb ht ih1 =>
   have ih:=pcE (wide:=wide) hx;obtain⟨t1,t2,t3⟩:=zO1 ih1;have e1:pcS wide (.mk 7 [] [x] b t [])=⟨[],1,bs "while"⟩ :: (zW4 [32] (pcX wide x)++⟨[32],1,bs "bound"⟩ :: ⟨[32],2,qZ b⟩ :: pcB wide t):=by simp [pcS]
   have e2:jH wide (.mk 7 [] [x] b t [])=bs "while "++zP wide x++bs " bound "++qZ b++jJ wide t:=by simp [jH,jJ]
   have e3:wS wide (.mk 7 [] [x] b t [])=(1,bs "while") :: (wX wide x++(1,bs "bound") :: (2,qZ b) :: wB wide t):=by simp [wS]
   have e4:bs "while " = bs "while"++[32]:=Yd;have e5:bs " bound " = [32]++bs "bound"++[32]:=Yd;refine⟨?_,?_,fun t' ht'=>?_,by rw [e1];simp⟩
   ·rw [e1,e2,e4,e5,zF,qD,zF,zF,jW ih.ne,ih.cat,t1];simp
   ·rw [e1,e3,lY,cB,lY,lY,vQ,ih.wd,t2];rfl
   ·rw [e1];refine qP .nil (kB _ Yd) ?_ (LexOk.app _ _ _ (jC xP (ih.lex _ ?_)) (qP xP (kB _ Yd) ?_ (zD7 xP hb ?_ (t3 _))))
    ·rw [qD,jW ih.ne];exact qQ Yd
    ·rw [zF];exact Safe.cons Yd Yd
    ·rw [zF];exact qQ Yd
    ·rw [zF];exact qQ Yd
 | call n es hn hes =>
   obtain⟨c1,c2,c3⟩:=qR4 (wide:=wide) es hes;have e1:pcS wide (.mk 8 n es 0 [] [])=⟨[],1,bs "call"⟩ :: ⟨[32],1,n⟩ :: ⟨[],4,[40]⟩ :: (zP5 (es.map (pcX wide))++[⟨[],4,[41]⟩]):=by simp [pcS]
   have e2:jH wide (.mk 8 n es 0 [] [])=bs "call "++n++[40]++qT (es.map (zP wide))++[41]:=by simp [jH]
   have e3:wS wide (.mk 8 n es 0 [] [])=(1,bs "call") :: (1,n) :: (4,[40]) :: (kO (es.map (wX wide))++[(4,[41])]):=by simp [wS]
   have e4:bs "call " = bs "call"++[32]:=Yd;refine⟨?_,?_,fun t' ht'=>?_,by rw [e1];simp⟩
   ·rw [e1,e2,e4,zF,zF,zF,qD,xC,c1];simp
   ·rw [e1,e3,lY,lY,lY,cB,c2];rfl
   ·rw [e1];refine qP .nil (kB _ Yd) ?_ (qP xP hn.word ?_ (zW 40 .nil Yd (LexOk.app _ _ _ (c3 _ ?_) (zW 41 .nil Yd trivial))))
    ·rw [zF];exact qQ Yd
    ·rw [zF];exact qQ Yd
    ·rw [xC];exact Safe.cons Yd Yd
end
end
section
def pcD (w:List UInt8) (arr:Bool) (x:Dx):List Pc:=⟨[10],1,w⟩ :: ⟨[32],1,x.name⟩ :: ((if arr then [⟨[],4,[91]⟩,⟨[],2,qZ x.size.toNat⟩,⟨[],4,[93]⟩] else [])++[⟨[],4,[58]⟩,⟨[],2,qZ x.width.toNat⟩])
theorem kA6:GapOk [10]:=.one Yd
structure PcOk (l:List Pc) (t:List UInt8) (w:List Wd):Prop where
 cat:jF l=t
 wd:l.map wdP=w
 lex:∀ u,Safe u→LexOk l u
theorem PcOk.nil:PcOk [] [] []:=⟨rfl,rfl,fun _ _=>trivial⟩
theorem PcOk.app {a b:List Pc} {s t:List UInt8} {v w:List Wd} (h:PcOk a s v) (k:PcOk b t w) (hs:b=[]∨∀ u,Safe (t++u)):PcOk (a++b) (s++t) (v++w):=by
 refine⟨by rw [qD,h.cat,k.cat],by rw [cB,h.wd,k.wd],fun u hu=>LexOk.app _ _ _ (h.lex _ ?_) (k.lex u hu)⟩;rw [k.cat];rcases hs with rfl | hs
 ·rw [←k.cat];exact hu
 ·exact hs u
section
variable {wide:Bool}
theorem kA7 (w:List UInt8) (ws:String) (he:bs ("\n"++ws)=[10]++w++[32]) (hw:∃ c s,w=c :: s∧qM c=true∧∀ x∈s,yU x=true) (arr:Bool) {x:Dx} (h:zJ4 arr x):PcOk (pcD w arr x) (wQ ws arr x) (wD w arr x)∧∀ u,Safe (wQ ws arr x++u):=by
 obtain⟨hn,⟨k,hk,hk1⟩,⟨m,hm,hm1,_⟩⟩:=h;have hs:∀ u,Safe (wQ ws arr x++u):=fun u=>by unfold wQ;rw [he];exact Safe.cons (c:=10) Yd Yd
 refine⟨⟨?_,?_,fun u hu=>?_⟩,hs⟩
 ·unfold pcD wQ;rw [he];cases arr <;> simp [zF,zF5]
 ·cases arr <;> simp [pcD,wD,wdP]
 ·unfold pcD;rw [hk,hm];have hd:∀ d,u.head?=some d→zV d=false∧d.toNat≠58:=fun d hd=>⟨vZ (hu d hd).1,(hu d hd).2⟩;have key:LexOk ([⟨[],4,[58]⟩,⟨[],2,qZ k⟩]:List Pc) u:=zW 58 .nil Yd (zD7 .nil hk1 hd trivial);refine qP kA6 hw ?_ (qP xP hn.word ?_ ?_)
  ·rw [zF];exact qQ Yd
  ·cases arr
   ·exact qQ (c:=58) Yd
   ·exact qQ (c:=91) Yd
  ·cases arr
   ·exact key
   ·exact zW 91 .nil Yd (zD7 .nil hm1 (qQ (c:=93) Yd) (zW 93 .nil Yd key))
theorem zJ8 (w:List UInt8) (ws:String) (he:bs ("\n"++ws)=[10]++w++[32]) (hw:∃ c s,w=c :: s∧qM c=true∧∀ x∈s,yU x=true) (arr:Bool):∀ (l:List Dx),(∀ x∈l,zJ4 arr x)→PcOk (l.flatMap (pcD w arr)) (l.flatMap (wQ ws arr)) (l.flatMap (wD w arr))∧(l.flatMap (pcD w arr)=[]∨∀ u,Safe (l.flatMap (wQ ws arr)++u))
 | [],_=>⟨.nil,.inl rfl⟩
 | x :: l,h=>by obtain⟨h1,h2⟩:=kA7 w ws he hw arr (h x Ym);obtain⟨i1,i2⟩:=zJ8 w ws he hw arr l fun y hy=>h y (by simp [hy]);rw [lQ,lQ,lQ];refine⟨h1.app i1 i2,.inr fun u=>?_⟩;rw [lS];exact h2 _
def qG4 (x:Dx):List Pc:=[⟨[],1,x.name⟩,⟨[],4,[58]⟩,⟨[],2,qZ x.width.toNat⟩]
def jU5:List Dx→List Pc
 | []=>[]
 | x :: r=>qG4 x++r.flatMap fun x=>⟨[],4,[44]⟩ :: qG4 x
def qX2 (x:Dx):List UInt8:=x.name++[58]++qZ x.width.toNat
theorem jU6 {x:Dx} (h:zJ4 false x):PcOk (qG4 x) (qX2 x) (jF3 x):=by obtain⟨hn,⟨k,hk,hk1⟩,_⟩:=h;refine⟨by unfold qG4 qX2;simp [zF,zF5],rfl,fun u hu=>?_⟩;unfold qG4;rw [hk];exact qP .nil hn.word (qQ (c:=58) Yd) (zW 58 .nil Yd (zD7 .nil hk1 (fun d hd=>⟨vZ (hu d hd).1,(hu d hd).2⟩) trivial))
theorem qG5:∀ (l:List Dx),(∀ x∈l,zJ4 false x)→PcOk (l.flatMap fun x=>⟨[],4,[44]⟩ :: qG4 x) (l.flatMap fun x=>44 :: qX2 x) (l.flatMap fun x=>(4,[44]) :: jF3 x)∧((l.flatMap fun x=>⟨[],4,[44]⟩ :: qG4 x)=([]:List Pc)∨∀ u,Safe ((l.flatMap fun x=>44 :: qX2 x)++u))
 | [],_=>⟨.nil,.inl rfl⟩
 | x :: l,h=>by have h1:=jU6 (h x Ym);obtain⟨i1,i2⟩:=qG5 l fun y hy=>h y (by simp [hy]);rw [lQ,lQ,lQ];have h2:PcOk (⟨[],4,[44]⟩ :: qG4 x) (44 :: qX2 x) ((4,[44]) :: jF3 x):=⟨by rw [zF,h1.cat];rfl,by rw [lY,h1.wd];rfl,fun u hu=>zW 44 .nil Yd (h1.lex u hu)⟩;exact⟨h2.app i1 i2,.inr fun u=>Safe.cons (c:=44) Yd Yd⟩
theorem zU1:∀ (x:Dx) (l:List Dx),qT ((x :: l).map qX2)=qX2 x++l.flatMap fun x=>44 :: qX2 x
 | x,[]=>by simp [qT]
 | x,y :: l=>by have e:qT ((x :: y :: l).map qX2)=qX2 x++[44]++qT ((y :: l).map qX2):=rfl;rw [e,zU1 y l];simp
theorem kA8 (l:List Dx) (h:∀ x∈l,zJ4 false x):PcOk (jU5 l) (qT (l.map qX2)) (zN9 l):=by
 cases l with
 | nil=>exact .nil
 | cons x l =>
   obtain⟨i1,i2⟩:=qG5 l fun y hy=>h y (by simp [hy]);rw [zU1];exact(jU6 (h x Ym)).app i1 i2
def pcR (wide:Bool) (x:Rx):List Pc:=⟨[10],1,bs "proc"⟩ :: ⟨[32],1,x.name⟩ :: ⟨[],4,[40]⟩ :: (jU5 x.params++⟨[],4,[41]⟩ :: pcB wide x.body)
def zU2 (wide:Bool) (x:Rx):List UInt8:=bs "\nproc "++x.name++[40]++qT (x.params.map fun d=>d.name++[58]++qZ d.width.toNat)++[41]++jJ wide x.body
theorem kA9 {x:Rx} (h:qM7 x):PcOk (pcR wide x) (zU2 wide x) (wR wide x)∧∀ u,Safe (zU2 wide x++u):=by
 have hp:=kA8 x.params h.p;obtain⟨b1,b2,b3⟩:=zO1 (wide:=wide) fun y hy=>pcT (h.b y hy);have e:bs "\nproc " = [10]++bs "proc"++[32]:=Yd;have ep:(fun d:Dx=>d.name++[58]++qZ d.width.toNat)=qX2:=rfl;refine⟨⟨?_,?_,fun u hu=>?_⟩,fun u=>?_⟩
 ·unfold pcR zU2;rw [ep,e,zF,zF,zF,qD,hp.cat,zF,b1];simp
 ·unfold pcR wR;rw [lY,lY,lY,cB,hp.wd,lY,b2];rfl
 ·unfold pcR;refine qP kA6 (kB _ Yd) ?_ (qP xP h.n.word (qQ (c:=40) Yd) (zW 40 .nil Yd (LexOk.app _ _ _ (hp.lex _ (Safe.cons (c:=41) Yd Yd)) (zW 41 .nil Yd (b3 u)))));rw [zF];exact qQ Yd
 ·unfold zU2;rw [e];exact Safe.cons (c:=10) Yd Yd
theorem qR5:∀ (l:List Rx),(∀ x∈l,qM7 x)→PcOk (l.flatMap (pcR wide)) (l.flatMap (zU2 wide)) (l.flatMap (wR wide))∧(l.flatMap (pcR wide)=[]∨∀ u,Safe (l.flatMap (zU2 wide)++u))
 | [],_=>⟨.nil,.inl rfl⟩
 | x :: l,h=>by obtain⟨h1,h2⟩:=kA9 (wide:=wide) (h x Ym);obtain⟨i1,i2⟩:=qR5 l fun y hy=>h y (by simp [hy]);rw [lQ,lQ,lQ];refine⟨h1.app i1 i2,.inr fun u=>?_⟩;rw [lS];exact h2 _
def pcI (wide:Bool) (x:Ix):List Pc:=⟨[32],1,bs "init"⟩ :: ⟨[32],2,qZ x.block.toNat⟩ :: ⟨[],4,[61]⟩ :: pcX wide x.value
def zW9 (wide:Bool) (x:Ix):List UInt8:=bs " init "++qZ x.block.toNat++[61]++zP wide x.value
theorem kB1 {x:Ix} (h:jF8 x):PcOk (pcI wide x) (zW9 wide x) (wI wide x)∧∀ u,Safe (zW9 wide x++u):=by
 obtain⟨⟨k,hk,hk1⟩,hv⟩:=h;have ih:=pcE (wide:=wide) hv;have e:bs " init " = [32]++bs "init"++[32]:=Yd;refine⟨⟨?_,?_,fun u hu=>?_⟩,fun u=>?_⟩
 ·unfold pcI zW9;rw [e,zF,zF,zF,ih.cat];simp
 ·unfold pcI wI;rw [lY,lY,lY,ih.wd];rfl
 ·unfold pcI;rw [hk];refine qP xP (kB _ Yd) ?_ (zD7 xP hk1 (qQ (c:=61) Yd) (zJ6 61 .nil Yd Yd Yd Yd Yd (fun d hd=>?_) (ih.lex u hu)))
  ·rw [zF];exact qQ Yd
  ·obtain⟨c,r,e,hc⟩:=ih.hd;rw [ih.cat,e]at hd;injection hd with hd;subst hd;unfold wV;rw [beq_false_of_ne hc];simp
 ·unfold zW9;rw [e];exact Safe.cons (c:=32) Yd Yd
theorem qR6:∀ (l:List Ix),(∀ x∈l,jF8 x)→PcOk (l.flatMap (pcI wide)) (l.flatMap (zW9 wide)) (l.flatMap (wI wide))∧(l.flatMap (pcI wide)=[]∨∀ u,Safe (l.flatMap (zW9 wide)++u))
 | [],_=>⟨.nil,.inl rfl⟩
 | x :: l,h=>by obtain⟨h1,h2⟩:=kB1 (wide:=wide) (h x Ym);obtain⟨i1,i2⟩:=qR6 l fun y hy=>h y (by simp [hy]);rw [lQ,lQ,lQ];refine⟨h1.app i1 i2,.inr fun u=>?_⟩;rw [lS];exact h2 _
def pc1 (wide:Bool) (p:Gx):List Pc:=⟨[],1,bs "invariant"⟩ :: zW4 [32] (pcX wide p.invariant)
def pc2 (wide:Bool) (p:Gx):List Pc:=⟨[10],1,bs "work"⟩ :: (pcB wide p.work++⟨[],1,bs "recover"⟩ :: (pcB wide p.recover++pc1 wide p))
def pc3 (wide:Bool) (p:Gx):List Pc:=p.inits.flatMap (pcI wide)++(p.procs.flatMap (pcR wide)++pc2 wide p)
def pc4 (wide:Bool) (p:Gx):List Pc:=⟨[32],1,bs "require"⟩ :: (zW4 [32] (pcX wide p.require)++pc3 wide p)
def pc5 (wide:Bool) (p:Gx):List Pc:=p.vars.flatMap (pcD (bs "var") false)++(p.arrays.flatMap (pcD (bs "array") true)++pc4 wide p)
def pc6 (wide:Bool) (p:Gx):List Pc:=p.inputs.flatMap (pcD (bs "input") false)++(p.ghosts.flatMap (pcD (bs "ghost") false)++pc5 wide p)
def pcG (wide:Bool) (p:Gx):List Pc:=⟨[],1,bs "device"⟩ :: ⟨[32],2,qZ p.blocks.toNat⟩ :: ⟨[32],1,bs "width"⟩ :: ⟨[32],2,qZ p.width.toNat⟩ :: pc6 wide p
theorem qG6 {p:Gx} (h:zW8 p):PcOk (pcG wide p) (zH2 wide p) (wG wide p):=by
 obtain⟨kb,hkb,hkb1⟩:=h.b;obtain⟨kw,hkw,hkw1⟩:=h.w;have hiv:=pcE (wide:=wide) h.iv;have hrq:=pcE (wide:=wide) h.rq;obtain⟨w1,w2,w3⟩:=zO1 (wide:=wide) fun y hy=>pcT (h.wk y hy);obtain⟨r1,r2,r3⟩:=zO1 (wide:=wide) fun y hy=>pcT (h.rc y hy);have o1:PcOk (pc1 wide p) (bs "invariant "++zP wide p.invariant) (wG1 wide p):=by have e:bs "invariant " = bs "invariant"++[32]:=Yd;refine⟨by unfold pc1;rw [zF,jW hiv.ne,hiv.cat,e];simp,by unfold pc1 wG1;rw [lY,vQ,hiv.wd];rfl,fun u hu=>?_⟩;unfold pc1;refine qP .nil (kB _ Yd) ?_ (jC xP (hiv.lex u hu));rw [jW hiv.ne];exact qQ Yd
 have o2:PcOk (pc2 wide p) (bs "\nwork"++(jJ wide p.work++(bs "recover"++(jJ wide p.recover++(bs "invariant "++zP wide p.invariant))))) (wG2 wide p):=by
  have e:bs "\nwork" = [10]++bs "work":=Yd;refine⟨by unfold pc2;rw [zF,qD,w1,zF,qD,r1,o1.cat,e];simp,by unfold pc2 wG2;rw [lY,cB,w2,lY,cB,r2,o1.wd];rfl,fun u hu=>?_⟩;unfold pc2;refine qP kA6 (kB _ Yd) ?_ (LexOk.app _ _ _ (w3 _) (qP .nil (kB _ Yd) ?_ (LexOk.app _ _ _ (r3 _) (o1.lex u hu))))
  ·rw [qD,zF];exact qQ Yd
  ·rw [qD,zF];exact qQ Yd
 have s2:∀ u,Safe ((bs "\nwork"++(jJ wide p.work++(bs "recover"++(jJ wide p.recover++(bs "invariant "++zP wide p.invariant)))))++u):=fun u=>by have e:bs "\nwork" = [10]++bs "work":=Yd;rw [e];exact Safe.cons (c:=10) Yd Yd
 obtain⟨p1,p2⟩:=qR5 (wide:=wide) p.procs h.prs;obtain⟨i1,i2⟩:=qR6 (wide:=wide) p.inits h.its;have o3:=p1.app o2 (.inr s2);have s3:∀ u,Safe ((p.procs.flatMap (zU2 wide)++(bs "\nwork"++(jJ wide p.work++(bs "recover"++(jJ wide p.recover++(bs "invariant "++zP wide p.invariant))))))++u):=fun u=>by
  rw [lS];rcases p2 with h0 | h0
  ·rw [←p1.cat,h0];exact s2 u
  ·exact h0 _
 have o4:=i1.app o3 (.inr s3);have s4:∀ u,Safe ((p.inits.flatMap (zW9 wide)++(p.procs.flatMap (zU2 wide)++(bs "\nwork"++(jJ wide p.work++(bs "recover"++(jJ wide p.recover++(bs "invariant "++zP wide p.invariant)))))))++u):=fun u=>by
  rw [lS];rcases i2 with h0 | h0
  ·rw [←i1.cat,h0];exact s3 u
  ·exact h0 _
 have e5:bs " require " = [32]++bs "require"++[32]:=Yd;have o5:PcOk (pc4 wide p) (bs " require "++(zP wide p.require++(p.inits.flatMap (zW9 wide)++(p.procs.flatMap (zU2 wide)++(bs "\nwork"++(jJ wide p.work++(bs "recover"++(jJ wide p.recover++(bs "invariant "++zP wide p.invariant))))))))) (wG4 wide p):=by
  refine⟨?_,?_,fun u hu=>?_⟩
  ·unfold pc4 pc3;rw [zF,qD,jW hrq.ne,hrq.cat,o4.cat,e5];simp
  ·unfold pc4 pc3 wG4 wG3;rw [lY,cB,vQ,hrq.wd,o4.wd];rfl
  ·unfold pc4 pc3;refine qP xP (kB _ Yd) ?_ (LexOk.app _ _ _ (jC xP (hrq.lex _ ?_)) (o4.lex u hu))
   ·rw [qD,jW hrq.ne];exact qQ Yd
   ·rw [o4.cat];exact s4 u
 have s5:∀ u,Safe ((bs " require "++(zP wide p.require++(p.inits.flatMap (zW9 wide)++(p.procs.flatMap (zU2 wide)++(bs "\nwork"++(jJ wide p.work++(bs "recover"++(jJ wide p.recover++(bs "invariant "++zP wide p.invariant)))))))))++u):=fun u=>by rw [e5];exact Safe.cons (c:=32) Yd Yd
 obtain⟨d1,q1⟩:=zJ8 (bs "array") "array " Yd (kB _ Yd) true p.arrays h.az;obtain⟨d2,q2⟩:=zJ8 (bs "var") "var " Yd (kB _ Yd) false p.vars h.vs;obtain⟨d3,q3⟩:=zJ8 (bs "ghost") "ghost " Yd (kB _ Yd) false p.ghosts h.gs;obtain⟨d4,q4⟩:=zJ8 (bs "input") "input " Yd (kB _ Yd) false p.inputs h.ins;have app_safe:∀ {a b:List UInt8} {l:List Pc},jF l=a→(l=[]∨∀ u,Safe (a++u))→(∀ u,Safe (b++u))→∀ u,Safe ((a++b)++u):=by
  intro a b l hc h0 hb u;rw [lS];rcases h0 with h0 | h0
  ·rw [←hc,h0];exact hb u
  ·exact h0 _
 have o6:=d1.app o5 (.inr s5);have s6:=app_safe d1.cat q1 s5;have o7:=d2.app o6 (.inr s6);have s7:=app_safe d2.cat q2 s6;have o8:=d3.app o7 (.inr s7);have s8:=app_safe d3.cat q3 s7;have o9:=d4.app o8 (.inr s8);have s9:=app_safe d4.cat q4 s8;have e1:bs "device " = bs "device"++[32]:=Yd;have e2:bs " width " = [32]++bs "width"++[32]:=Yd;have ep:(fun x:Rx=>bs "\nproc "++x.name++[40]++qT (x.params.map fun d=>d.name++[58]++qZ d.width.toNat)++[41]++jJ wide x.body)=zU2 wide:=rfl;have ei:(fun x:Ix=>bs " init "++qZ x.block.toNat++[61]++zP wide x.value)=zW9 wide:=rfl;refine⟨?_,?_,fun u hu=>?_⟩
 ·have:=o9.cat;unfold pcG pc6 pc5;rw [zF,zF,zF,zF,this];unfold zH2;rw [ep,ei,e1,e2];simp
 ·have:=o9.wd;unfold pcG pc6 pc5 wG wG6 wG5;rw [lY,lY,lY,lY,this];rfl
 ·unfold pcG pc6 pc5;rw [hkb,hkw];refine qP .nil (kB _ Yd) (qQ (c:=32) Yd) (zD7 xP hkb1 (qQ (c:=32) Yd) (qP xP (kB _ Yd) (qQ (c:=32) Yd) (zD7 xP hkw1 ?_ (o9.lex u hu))));intro d hd;rw [o9.cat]at hd;have:=s9 u d hd;exact⟨vZ this.1,this.2⟩
theorem jG3:∀ (l:List Pc) (o i:Nat),((yI o l)[i]?).map (fun t=>(t.kind,t.text))=(l[i]?).map wdP
 | [],o,i=>by simp [yI]
 | p :: r,o,0=>rfl
 | p :: r,o,i+1=>by rw [yI,List.getElem?_cons_succ,List.getElem?_cons_succ];exact jG3 r _ i
theorem zU3 (t:List UInt8) (l:List Pc) (o n:Nat):nw ⟨t,yI o l⟩ n=((l[n]?).map wdP).getD (0,[]):=by have h:=jG3 l o n;unfold nw;show(match (yI o l)[n]? with | some t=>(t.kind,t.text) | none=>(0,[]))=_;rw [←h];cases (yI o l)[n]? <;> rfl
theorem qM8 (t:List UInt8) (o:Nat) (l:List Pc):∀ (m:List Pc) (n:Nat),(∀ i p,m[i]?=some p→l[n+i]?=some p)→AtW ⟨t,yI o l⟩ n (m.map wdP)
 | [],n,_=>trivial
 | p :: r,n,h=>by
   refine⟨?_,qM8 t o l r (n+1) fun i q hq=>?_⟩
   ·rw [zU3,show l[n]?=some p from h 0 p rfl];rfl
   ·rw [Nat.add_assoc,Nat.add_comm 1 i];exact h (i+1) q hq
theorem xV:∀ (l:List Pc) (o:Nat),(yI o l).length=l.length
 | [],_=>rfl
 | p :: r,o=>by simp [yI,xV r]
theorem kI4 {p:Gx} (hg:zW8 p) (hf:kE1 p):zI3 (kG (zH2 wide p))=none∧zY (zH2 wide p) (kG (zH2 wide p))=yI 0 (pcG wide p) ∧
 Ev fun f=>kH ⟨zH2 wide p,yI 0 (pcG wide p)⟩ f (Qt 0 0 0 [])=some (p,Qt (pcG wide p).length 0 0 (plG ⟨zH2 wide p,yI 0 (pcG wide p)⟩ wide p)):=by
 have hp:=qG6 (wide:=wide) hg;have ht:=zJ2 (pcG wide p) [] (hp.lex [] Safe.nil) rfl;rw [cT,hp.cat]at ht;refine⟨ht.2,ht.1,?_⟩;have hl:(wG wide p).length=(pcG wide p).length:=by rw [←hp.wd,lW]
 rw [←hl];refine kQ5 _ wide p 0 hg hf ?_ ?_
 ·rw [←hp.wd];exact qM8 _ 0 _ _ 0 fun i q hq=>by rw [Nat.zero_add];exact hq
 ·rw [zU3,hl,cW (lF _)];exact⟨Yd,Yd,Yd,Yd⟩
end
end
section
open Go.RowKit Go.PlainAid
structure MD where
 L:SV
 Lb:List UInt8
 W:Nat
 I:SV
 Il:List Dx
 G:SV
 Gl:List Dx
 V:SV
 Vl:List Dx
 np:Nat
 par:Bool
 cs:Nat→Option Value
structure DOk (d:Dx):Prop where
 n:NameOk d.name
 l:d.name.length=1
 w1:1≤d.width
 w3:d.width≤3
structure DRow (w:World) (S:SV) (l:List Dx):Prop where
 rd:RdT w S.A 87 (l.flatMap fun d=>yX d ())
 n:S.n=l.length
 few:l.length≤2
 ok:∀ d∈l,DOk d
structure MkB (w:World) (m:Nat) (D:MD) (cs:Array Value) (a:Nat):Prop where
 bk:Bk w m 84 cs
 sz:cs.size=25
 l:cs[0]?=some (.slice D.L.A D.L.n D.L.c)
 at':cs[1]?=some (uI a)
 le:a≤D.L.n
 wd:cs[3]?=some (uI D.W)
 i:cs[4]?=some (.slice D.I.A D.I.n D.I.c)
 g:cs[5]?=some (.slice D.G.A D.G.n D.G.c)
 v:cs[6]?=some (.slice D.V.A D.V.n D.V.c)
 pr:∃ A c,cs[15]?=some (.slice A D.np c)
 par:cs[24]?=some (.bool D.par)
 oth:∀ i,i≠1→cs[i]?=D.cs i
structure Mk (w:World) (m:Nat) (D:MD):Prop where
 ex:∃ cs a,MkB w m D cs a
 rd:Rd w D.L.A (D.Lb.map fun b=>uB b.toNat)
 lA:D.Lb≠[]→∀ b off,D.L.A=some ⟨b,off,none⟩→b<m
 ln:D.L.n=D.Lb.length
 few:D.L.n≤200
 w3:D.W≤3
 is:DRow w D.I D.Il
 gs:DRow w D.G D.Gl
 vs:DRow w D.V D.Vl
 np1:D.np≤1
structure MQ (w:World) (m:Nat) (D:MD) (w':World):Prop where
 k:Mk w' m D
 fr:Fr (fun k=>k=m) w w'
section
variable {w w1 w':World} {m:Nat} {D:MD} {F:Nat→Prop}
theorem DRow.keeps {S:SV} {l:List Dx} (h:DRow w S l) (hk:Keeps 87 w w'):DRow w' S l:=⟨h.rd.keeps hk,h.n,h.few,h.ok⟩
theorem Mk.lt (h:Mk w m D):m<w.heap.size:=by obtain⟨cs,a,hb⟩:=h.ex;exact hb.bk.lt
theorem MkB.fr {cs:Array Value} {a:Nat} (h:MkB w m D cs a) (hf:Fr F w w') (hm:¬F m):MkB w' m D cs a:={ h with bk:=h.bk.fr hf hm }
theorem Mk.of (h0:Mk w m D) (hf:Fr (fun k=>k=m) w w') (hx:∃ cs a,MkB w' m D cs a):Mk w' m D:=by
 obtain⟨cs0,a0,hb0⟩:=h0.ex;have hk:Keeps 87 w w':=Keeps.fr hf fun b cs fr hb e=>by subst e;have h1:=hb0.bk;unfold Bk at h1;rw [h1]at hb;injection hb with hb;injection hb with _ hb;revert hb;decide
 exact⟨hx,fun hx=>h0.rd.fr hf (fun b _ ⟨off,e⟩ e2=>by have:=h0.lA (by simpa using hx) b off e;omega) hx,h0.lA,h0.ln,h0.few,h0.w3,h0.is.keeps hk,h0.gs.keeps hk,h0.vs.keeps hk,h0.np1⟩
theorem MQ.refl (h:Mk w m D):MQ w m D w:=⟨h,Fr.refl _ _⟩
theorem MQ.trans (h:MQ w m D w1) (k:MQ w1 m D w'):MQ w m D w':=⟨k.k,h.fr.trans k.fr⟩
theorem MQ.data (h0:Mk w m D) (h:MQ w m D w1) (hf:Fr F w1 w') (hF:∀ k,k<w1.heap.size→F k→w.heap.size≤k):MQ w m D w':=by
 have hfr:Fr (fun k=>k=m) w w':=Fr.then h.fr hf fun i hi e=>by have:=hF i (lX hi h.fr.size) e;omega
 obtain⟨cs,a,hb⟩:=h.k.ex;exact⟨h0.of hfr ⟨cs,a,hb.fr hf fun e=>by have:=hF m hb.bk.lt e;have:=h0.lt;omega⟩,hfr⟩
theorem MQ.then (h0:Mk w m D) (h:MQ w m D w1) (hb:Below w1.heap.size w1 w'):MQ w m D w':=h.data h0 (Fr.of_below (F:=fun _=>False) hb) (fun _ _ e=>e.elim)
theorem Mk.below (h:Mk w m D) (hb:Below w.heap.size w w'):Mk w' m D:=((MQ.refl h).then h hb).k
theorem MQ.box (h0:Mk w m D) (h:MQ w m D w1) {r:Nat} (hf:Fr (fun k=>k=r) w1 w') (hr:w.heap.size≤r):MQ w m D w':=h.data h0 hf (fun k _ e=>Yo)
theorem MQ.staysP {P:Nat→Prop} (h:MQ w m D w') (h0:Mk w m D):Stays P w w':=by obtain⟨cs,a,hb⟩:=h0.ex;exact Stays.box h.fr hb.bk (by unfold TTy;decide)
theorem MQ.bk (h:MQ w m D w') (h0:Mk w m D) {r:Nat} {t:TypeId} {cs:Array Value} (hb:Bk w r t cs) (hr:r≠m):Bk w' r t cs:=hb.fr h.fr hr
end
theorem jG4 (w:World) (n:Nat):Below w.heap.size w (w.drewN n):=(Fr.refl (fun _=>False) w).drewN n |>.below w.heap.size (lF _) (fun _ _ h=>h)
theorem zB4 {cs:Array Value} {i:Nat} {u v:Value} (h:cs[i]?=some v) (hi:i≠1):(cs.setIfInBounds 1 u)[i]?=some v:=by rw [cP];rw [lN (cX hi)];exact h
theorem MkB.step {w:World} {m:Nat} {D:MD} {cs:Array Value} {a:Nat} (h:MkB w m D cs a) (ha:a<D.L.n):MkB (w.setCell ⟨m,1,none⟩ (uI ((a:Int)+1))) m D (cs.setIfInBounds 1 (uI ((a:Int)+1))) (a+1) :=
 ⟨h.bk.put 1 _,by rw [Array.size_setIfInBounds];exact h.sz,zB4 h.l Yd,by rw [cP,lM rfl,lM (by rw [h.sz];decide)];simp,ha,zB4 h.wd Yd,zB4 h.i Yd,zB4 h.g Yd,zB4 h.v Yd,by obtain⟨A,c,hp⟩:=h.pr;exact⟨A,c,zB4 hp Yd⟩,zB4 h.par Yd,fun i hi=>by rw [cP,lN (cX hi)];exact h.oth i hi⟩
theorem vR (m:Nat) (D:MD) (n:Nat) (hn:1≤n) (hn9:n≤1000) (w:World) (h:Hid (Mk w m D)):Calls Tryz.prog 36 #[uQ m 0,uI n] w fun e w'=>∃ v:Nat,v<n∧e=.returned (uI v)∧MQ w m D w':=by
 obtain⟨cs,a,hb⟩:=h.out.ex;have c0:w.cell? ⟨m,0,none⟩=some (.slice D.L.A D.L.n D.L.c):=(hb.bk.cell 0).trans hb.l;have c1:w.cell? ⟨m,1,none⟩=some (uI a):=(hb.bk.cell 1).trans hb.at';have f1:w.frozen? ⟨m,1,none⟩=false:=hb.bk.frozen 1;have hfew:=h.out.few;have hle:=hb.le;by_cases ha:a<D.L.n
 ·have hln:=h.out.ln;have hlt:a<D.Lb.length:=Yo;obtain⟨g,off,x,hA,hx,hc⟩:=Rd.getm (k:=a) h.out.rd rfl hlt;have hbA:=h.out.lA (fun e0=>by rw [e0]at hlt;exact Nat.not_lt_zero _ hlt) _ _ hA;have hxn:x.toNat<256:=x.toNat_lt;have hmod:x.toNat % n<n:=Nat.mod_lt _ hn;have HST:Hid (∀ W,Below w.heap.size w W→W.cell? ⟨m,1,none⟩=some (uI a)∧W.frozen? ⟨m,1,none⟩=false∧MQ w m D (W.setCell ⟨m,1,none⟩ (uI ((a:Int)+1)))∧(W.setCell ⟨m,1,none⟩ (uI ((a:Int)+1))).cell? ⟨m,0,none⟩=some (.slice (some ⟨g,off,none⟩) D.L.n D.L.c)∧(W.setCell ⟨m,1,none⟩ (uI ((a:Int)+1))).cell? ⟨m,1,none⟩=some (uI ((a:Int)+1))∧(W.setCell ⟨m,1,none⟩ (uI ((a:Int)+1))).cell? ⟨g,off+a,none⟩=some (uB x.toNat)):=Ph fun W hW=>by
   have hbW:MkB W m D cs a:=hb.fr (F:=fun _=>False) (Fr.of_below hW) (fun e=>e);have hst:=hbW.step ha;have hf:Fr (fun k=>k=m) W (W.setCell ⟨m,1,none⟩ (uI ((a:Int)+1))):=(Fr.refl (fun k=>k=m) W).setCell (p:=⟨m,1,none⟩) (.inl rfl) _;have hf2:Fr (fun k=>k=m) w (W.setCell ⟨m,1,none⟩ (uI ((a:Int)+1))):=(Fr.of_below hW).trans hf;refine⟨(hbW.bk.cell 1).trans hbW.at',hbW.bk.frozen 1,⟨h.out.of hf2 ⟨_,_,hst⟩,hf2⟩,?_,?_,?_⟩
   ·rw [←hA];exact(hst.bk.cell 0).trans hst.l
   ·rw [(hst.bk.cell 1).trans hst.at'];rw [show(((a+1:Nat):Int))=(a:Int)+1 from by omega]
   ·rw [hf2.cell (by exact World.block_lt_of_cell? w _ hc) (by show ¬g=m;omega)];exact hc
  rw [hA]at c0;have HH:=h;have e1:decide ((D.L.n:Int)≤(a:Int))=false:=Yp;have w1:IntKind.i64.wrap ((a:Int)+1)=(a:Int)+1:=by rw [lL];omega
  have w2:IntKind.i64.wrap ((a:Int)+1-1)=(a:Int):=by rw [lL];omega
  have hn0:((n:Int) == 0)=false:=Yp;have hrem:(x.toNat:Int).tmod (n:Int)=((x.toNat % n:Nat):Int):=by rw [Int.ofNat_tmod]
  have haI:(a:Int)<(D.L.n:Int):=Yo;have ha0:(0:Int)≤(a:Int):=Yo;clear hle hb h;go_enter Tryz.func36,Tryz.ntmps36
  go_upto_region 1 with fail
  go_quiet (fail)
  obtain⟨d1,f1',hmq,s0,s1,sx⟩:=HST.out (w.drewN nq) (jG4 _ nq);clear c0 c1 f1;have HMQ:=Ph hmq;clear hmq;go_upto_region 4 with fail
  generalize (World.setCell _ _ _)=W at *;clear d1 f1';go_quiet (fail)
  go_wp2_with fail
  go_ret;exact⟨x.toNat % n,hmod,rfl,HMQ.out.then HH.out (jG4 _ _)⟩
 ·have e1:decide ((D.L.n:Int)≤(a:Int))=true:=by simp;omega
  clear hb;go_enter Tryz.func36,Tryz.ntmps36
  go_upto_region 1 with fail
  go_quiet (fail)
  go_wp2_with fail
  go_ret;exact⟨0,hn,rfl,(MQ.refl h.out).then h.out (jG4 _ nq)⟩
end
section
open Go.RowKit Go.PlainAid
inductive ShX:Ex→Prop
 | num (v w:Nat):v≤9→w≤9→ShX (.mk 1 0 v w [] [])
 | var (n:List UInt8):NameOk n→n.length=1→ShX (.mk 2 0 0 0 n [])
 | elem (n:List UInt8) (y:Ex):NameOk n→n.length=1→ShX y→ShX (.mk 3 0 0 0 n [y])
 | disk (y:Ex):ShX y→ShX (.mk 4 0 0 0 [] [y])
 | un (o:Nat) (y:Ex):1≤o→o≤2→ShX y→ShX (.mk 5 o 0 0 [] [y])
 | bin (o:Nat) (x y:Ex):3≤o→o≤16→ShX x→ShX y→ShX (.mk 6 o 0 0 [] [x,y])
 | mux (x y z:Ex):ShX x→ShX y→ShX z→ShX (.mk 7 0 0 0 [] [x,y,z])
 | cast (w:Nat) (y:Ex):w≤9→ShX y→ShX (.mk 8 0 0 w [] [y])
theorem ShX.good {x:Ex} (h:ShX x):kP x:=by
 induction h with
 | num v w hv hw=>exact .num v w Yo Yo
 | var n hn hl=>exact .var n hn
 | elem n y hn hl hy ih=>exact .elem n y hn ih
 | disk y hy ih=>exact .disk y ih
 | un o y h1 h2 hy ih=>exact .un o y h1 h2 ih
 | bin o x y h1 h2 hx hy ih1 ih2=>exact .bin o x y h1 h2 ih1 ih2
 | mux x y z hx hy hz i1 i2 i3=>exact .mux x y z i1 i2 i3
 | cast w y hw hy ih=>exact .cast w y Yo ih
structure MdX (s h:Nat) (x:Ex):Prop where
 sh:ShX x
 sz:szX x≤s
 ht:htX x≤h
def OwnN (B:Nat) (w:World) (S:SV) (l:List Dx):Prop:=w.ownsRow B 87 3 (.slice S.A S.n S.c) S.n (l.flatMap fun d=>yX d ())∧S.n=l.length∧∀ d∈l,DOk d
theorem zJ9 (l:List Dx):(l.flatMap fun d=>yX d ()).length=l.length*3:=by
 induction l with
 | nil=>rfl
 | cons d l ih=>rw [lQ,Ya,ih];simp [yX];omega
theorem zK1 (l:List Dx):∀ u∈l.flatMap fun d=>yX d (),u.oneCell'=true:=by intro u hu;obtain⟨d,_,hd⟩:=List.mem_flatMap.1 hu;exact zI9 d () u hd
theorem OwnN.app {B:Nat} {w:World} {S:SV} {l:List Dx} (h:OwnN B w S l) (hB:B≤w.heap.size) (l2:List Dx) (A:Option Addr) (n c:Nat) (hr:Rd w A (l2.flatMap fun d=>yX d ())) (hn:n=l2.length) (ok:∀ d∈l2,DOk d) (few:S.n+n≤1000000000) :
 ∃ A' c' w',(∀ ty,(Builtin.append_ #[25,25] ty #[.slice S.A S.n S.c,.slice A n c]).run Tryz.prog w=.ok (.slice A' (S.n+n) c') w')∧OwnN B w' ⟨A',S.n+n,c'⟩ (l++l2)∧Fr (fun k=>(Value.slice S.A S.n S.c).ownBlock=some k) w w':=by
 obtain⟨A',c',w',hrun,ho,hg,hat⟩:=zG6 jD5 0 B _ S.n _ h.1 A n c _ hr (by rw [zJ9,hn]) (zK1 l2) few hB;refine⟨A',c',w',fun ty=>hrun,⟨?_,by rw [Ya,←h.2.1,hn],fun d hd=>?_⟩,(Fr.refl _ _).grown hg (fun k hk=>.inl hk)⟩
 ·rw [List.flatMap_append];exact ho
 ·rcases List.mem_append.1 hd with hd | hd
  ·exact h.2.2 d hd
  ·exact ok d hd
theorem OwnN.typed {B:Nat} {w:World} {S:SV} {l:List Dx} (h:OwnN B w S l) {k:Nat} (hk:(Value.slice S.A S.n S.c).ownBlock=some k):B≤k∧∃ cs,Bk w k 87 cs:=qF h.1 k hk
theorem OwnN.fr {B:Nat} {w w':World} {S:SV} {l:List Dx} {F:Nat→Prop} (h:OwnN B w S l) (hf:Fr F w w') (hF:∀ k cs,Bk w k 87 cs→B≤k→¬F k):OwnN B w' S l:=⟨jP h.1 hf (fun k hk=>by obtain⟨h1,cs,h2⟩:=h.typed hk;exact hF k cs h2 h1),h.2⟩
def OwnM (B:Nat) (w:World) (S:SV) (l:List (List UInt8)):Prop:=w.ownsRow B 9 1 (.slice S.A S.n S.c) S.n (l.map fun s=>uR s)∧S.n=l.length∧∀ s∈l,NameOk s∧s.length=1
theorem kI5:El Tryz.prog 68 9 1:=El.mk' (z:=uT) (bytes:=16) Tryz.underlying68 Yk rfl Yo Yo
theorem OwnM.typed {B:Nat} {w:World} {S:SV} {l:List (List UInt8)} (h:OwnM B w S l) {k:Nat} (hk:(Value.slice S.A S.n S.c).ownBlock=some k):B≤k∧∃ cs,Bk w k 9 cs:=qF h.1 k hk
theorem OwnM.fr {B:Nat} {w w':World} {S:SV} {l:List (List UInt8)} {F:Nat→Prop} (h:OwnM B w S l) (hf:Fr F w w') (hF:∀ k cs,Bk w k 9 cs→B≤k→¬F k):OwnM B w' S l:=⟨jP h.1 hf (fun k hk=>by obtain⟨h1,cs,h2⟩:=h.typed hk;exact hF k cs h2 h1),h.2⟩
theorem OwnM.push {B:Nat} {w:World} {S:SV} {l:List (List UInt8)} (h:OwnM B w S l) (hB:B≤w.heap.size) (s:List UInt8) (A:Option Addr) (c:Nat) (hr:Rd w A [uR s]) (ok:NameOk s∧s.length=1) (few:S.n<1000000000) :
 ∃ A' c' w',(∀ ty,(Builtin.append_ #[68,68] ty #[.slice S.A S.n S.c,.slice A 1 c]).run Tryz.prog w=.ok (.slice A' (S.n+1) c') w')∧OwnM B w' ⟨A',S.n+1,c'⟩ (l++[s])∧Fr (fun k=>(Value.slice S.A S.n S.c).ownBlock=some k) w w':=by
 obtain⟨A',c',w',hrun,ho,hg,hat⟩:=zG6 kI5 0 B _ S.n _ h.1 A 1 c [uR s] hr rfl (by simp [Value.oneCell']) Yo hB;refine⟨A',c',w',fun ty=>hrun,⟨?_,by rw [Ya,←h.2.1];rfl,fun d hd=>?_⟩,(Fr.refl _ _).grown hg (fun k hk=>.inl hk)⟩
 ·rw [cB];exact ho
 ·rcases List.mem_append.1 hd with hd | hd
  ·exact h.2.2 d hd
  ·simp at hd;subst hd;exact ok
theorem qX3 (A:Option Addr) (n c:Nat) (xs:List Value) (w:World) (hr:Hid (Rd w A xs)) (hl:Hid (xs.length=n*3)) (h1:Hid (∀ u∈xs,u.oneCell'=true)) (hn:n≤1000000000) :
 Calls Tryz.prog 107 #[.slice A n c] w fun e w'=>∃ A' c',e=.returned (.slice A' n c')∧w'.ownsRow w.heap.size 87 3 (.slice A' n c') n xs∧Below w.heap.size w w':=by
 have hen:=fun w a n c=>Lib.run_eql_slice_nil (P:=Tryz.prog) w 25 87 a n c 0 0 Tryz.underlying25;rcases A with _ | ad
 ·have hx:xs=[]:=by
   cases xs with
   | nil=>rfl
   | cons x r=>obtain⟨_,_,h,_⟩:=hr.out.cells Ym;cases h
  subst hx;have h0:n=0:=by have:=hl.out;simp at this;omega
  subst h0;clear hl hr;go_enter Tryz.func107,Tryz.ntmps107
  go_wp2
  go_ret;exact⟨none,0,rfl,World.ownsRow_nil _ _ _ _,lB _ _⟩
 ·go_enter Tryz.func107,Tryz.ntmps107
  go_wp2_with (at_builtin;refine zL9 jD5 rfl (.tmp 5) (.tmp 6) rfl w.heap.size (.slice (some ⟨w.heap.size,0,none⟩) 0 0) 0 [] rfl (World.ownsRow_lit w #[] 0 (lF _) (by simp [maxLen]) rfl) (some ad) n c xs rfl (hr.out.alloc _) (by rw [hl.out]) h1.out Yo Ym ?_;intro A' c' w1 hown1 hgr1 hat1;have Ho:=Ph hown1;have Hg:=Ph hgr1;clear hown1 hgr1 hat1)
  go_ret;refine⟨A',c',Ym,by simpa using Ho.out,?_⟩;exact((lB _ w).alloc (lF _) _).grown Hg.out Ym (by simp [Value.ownBlock])
end
end Go.Proofs.YtfdaebgllibphaaGreatDoor
