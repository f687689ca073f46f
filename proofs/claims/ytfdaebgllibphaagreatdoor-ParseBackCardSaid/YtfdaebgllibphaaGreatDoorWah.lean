import Derived.Sort.CutIn
import Derived.Test.YtfdaebgllibphaaGreatDoorWag
set_option linter.unusedVariables false
set_option linter.unusedSimpArgs false
set_option maxRecDepth 100000
set_option maxHeartbeats 16000000
namespace Go.Proofs.YtfdaebgllibphaaGreatDoor
open Go.Proofs.Tryz
section
theorem qQ8:∀ (l m:List UInt8) (v:Nat),zL7 v (l++m)=if (zL7 v l).2=0 then zL7 (zL7 v l).1 m else zL7 v l
 | [],m,v=>by simp [zL7]
 | c :: l,m,v=>by
   by_cases h:1000000000<10*v+(c.toNat-48)
   ·have e1:zL7 v (c :: (l++m))=(0,281):=by simp only [zL7,lM h]
    have e2:zL7 v (c :: l)=(0,281):=by simp only [zL7,lM h]
    rw [lR,e1,e2];rfl
   ·have e1:zL7 v (c :: (l++m))=zL7 (10*v+(c.toNat-48)) (l++m):=by simp only [zL7,lN h]
    have e2:zL7 v (c :: l)=zL7 (10*v+(c.toNat-48)) l:=by simp only [zL7,lN h]
    rw [lR,e1,e2];exact qQ8 l m _
theorem jE7 {k:Nat} (h:k<10):(UInt8.ofNat (48+k)).toNat=48+k∧zV (UInt8.ofNat (48+k))=true:=by
 have e:(UInt8.ofNat (48+k)).toNat=48+k:=by rw [UInt8.toNat_ofNat'];omega
 refine⟨e,?_⟩;unfold zV;rw [e,lH Yo,lH Yo];rfl
theorem jE8:∀ (f n:Nat),n<10 ^ f→1≤f→(∀ c∈kD9 f n,zV c=true)∧kD9 f n≠[]∧(n≤1000000000→zL7 0 (kD9 f n)=(n,0))
 | 0,n,_,h=>absurd h Yd
 | f+1,n,h,_=>by
   unfold kD9;by_cases hn:n<10
   ·rw [lM hn];obtain⟨h1,h2⟩:=jE7 hn;refine⟨fun c hc=>by rw [cQ.1 hc];exact h2,Ym,fun _=>?_⟩;simp only [zL7,h1];rw [lN Yo];congr 1;omega
   ·rw [lN hn];have h3:n / 10<10 ^ f:=by rw [Nat.div_lt_iff_lt_mul Yd];rwa [Nat.pow_succ]at h
    have h4:1≤f:=by
     rcases Nat.eq_zero_or_pos f with h0 | h0
     ·subst h0;simp at h3;omega
     ·exact h0
    obtain⟨i1,i2,i3⟩:=jE8 f (n / 10) h3 h4;obtain⟨g1,g2⟩:=jE7 (Nat.mod_lt n (show 0<10 by decide));refine⟨fun c hc=>?_,Ym,fun hN=>?_⟩
    ·rcases List.mem_append.1 hc with hc | hc
     ·exact i1 c hc
     ·rw [cQ.1 hc];exact g2
    ·rw [qQ8,i3 Yo];simp only [zL7,g1,if_true];rw [lN Yo];congr 1;omega
theorem jQ {n:Nat} (h:n≤1000000000):(∀ c∈qZ n,zV c=true)∧qZ n≠[]∧vS (qZ n)=(n,0):=by
 obtain⟨h1,h2,h3⟩:=jE8 20 n Yo Yd;refine⟨h1,h2,?_⟩;have hd:jT (qZ n)=(qZ n).length:=by have:=vK (qZ n) [] h1 (fun d h=>by cases h);rwa [cT]at this
 unfold vS;rw [lN (by rw [hd];intro h;rcases h with h | h;exact h2 h;omega)];exact h3 h
theorem qQ9:∀ (l r:List UInt8),(∀ c∈l,zV c=true)→zC2 58 (l++58 :: r)=(l,r,true)
 | [],r,_=>by simp [zC2]
 | c :: l,r,h=>by
   have hc:¬c=58:=by rintro rfl;exact absurd (h 58 Ym) Yd
   rw [lR];simp only [zC2,lN hc,qQ9 l r fun d hd=>h d (by simp [hd])]
theorem jP6 {v w:Nat} (hv:v≤1000000000) (hw:w≤1000000000):zH8 (qZ v++58 :: qZ w)=(v,w,0):=by obtain⟨h1,_,h3⟩:=jQ hv;obtain⟨_,_,g3⟩:=jQ hw;unfold zH8;rw [qQ9 _ _ h1];simp only [h3,g3];rw [lN Ym,lN Ym]
theorem kH5:∀ o,o<17→3≤o→jY (kK o) true=some o∧kK o≠[64]∧kK o≠[91]∧1≤kD o:=Yd
theorem kH6:∀ o,o<3→1≤o→jY (kK o) false=some o∧kK o≠[]:=Yd
theorem zQ8 {n:List UInt8} (h:NameOk n):n≠[40]∧n≠[100,105,115,107]:=by
 refine⟨?_,?_⟩
 ·rintro rfl;obtain⟨c,r,he,hc,_⟩:=h.word;injection he with he _;subst he;exact absurd hc Yd
 ·rintro rfl;exact absurd h.no Yd
theorem zB3 {l:List Nd} (h:(l.flatMap (·.2)).length≤1000000):okW l=true:=lH h
section
variable {E:Env} {n m:Nat} {d:Int} {fl:Nat} {wide:Bool}
theorem qW8 {k op:Nat} {x y:Nd} {s2:PSt} {r} (h4:(nw E n).1=4) (ho:jY (nw E n).2 true=some op) (hr:¬kD op<k) (hc:∃ f,qN E f (kD op+1) (St (n+1) d fl)=some (y,s2)) (hw:okW [x,y]=true)
 (hl:∃ f,qR E f k (qI 6 op 0 0 [] (yK x) [x,y]) s2=some r):∃ f,qR E f k x (St n d fl)=some r:=by
 obtain⟨f,hc⟩:=hc;obtain⟨g,hl⟩:=hl;refine⟨max f g+1,?_⟩;rw [qR,lH (show(St n d fl).e=0 from rfl),qU,zT];dsimp only;rw [lM h4,ho];dsimp only;rw [lG hr];dsimp only;rw [show zE (St n d fl)=St (n+1) d fl from rfl,zN6 (cO f g) hc];dsimp only;rw [hw];exact zN7 (cN f g) hl
theorem qB2 {x:Ex} (h:zM6 x=6∨zM6 x=7∨zM6 x=5):qZ7 wide x=true:=by unfold qZ7;rcases h with h | h | h <;> rw [h] <;> simp
theorem kR8 (E:Env) (wide:Bool) {x:Ex} (h:kP x):PX E wide x∧SX E wide x:=by
 induction h with
 | num v w hv hw =>
   have ho:OX E wide (.mk 1 0 v w [] []):=by
    intro n d fl h0 h1 hz ha hb r hr;have e:wX wide (.mk 1 0 v w [] [])=[(3,qZ v++58 :: qZ w)]:=by simp [wX]
    have e2:plX E wide n (.mk 1 0 v w [] [])=[plc E n]:=by simp [plX]
    rw [e]at ha hr;rw [e2]at hr;refine kA rfl (fun h=>by rw [ha.1]at h;cases h) ⟨1,?_⟩ hr;rw [qJ,lH (show(St n d fl).e=0 from rfl),qU,zT,yP,ha.1];dsimp only;rw [jP6 hv hw];rfl
   exact⟨ho.p,ho.s'⟩
 | var nm hn =>
   have ho:OX E wide (.mk 2 0 0 0 nm []):=by
    intro n d fl h0 h1 hz ha hb r hr;have e:wX wide (.mk 2 0 0 0 nm [])=[(1,nm)]:=by simp [wX]
    have e2:plX E wide n (.mk 2 0 0 0 nm [])=[plc E n]:=by simp [plX]
    rw [e]at ha hr hb;rw [e2]at hr;obtain⟨g1,g2⟩:=xU (d:=d) (fl:=fl) ha.1 hn.no;obtain⟨k1,k2⟩:=zQ8 hn;have hb:(nw E (n+1)).2≠[91]:=hb;refine kA rfl (fun h=>by rw [ha.1]at h;cases h) ⟨1,?_⟩ hr;rw [qJ,lH (show(St n d fl).e=0 from rfl),g1,g2,qU,zT,yP,zT,ha.1];dsimp only;rw [lG (show ¬1=3 by decide),lG k1,lG k2,lG hb];rfl
   exact⟨ho.p,ho.s'⟩
 | elem nm y hn hy ih =>
   have ho:OX E wide (.mk 3 0 0 0 nm [y]):=by
    intro n d fl h0 h1 hz ha hb r hr;have e:wX wide (.mk 3 0 0 0 nm [y])=(1,nm) :: (4,[91]) :: (wX wide y++[(4,[93])]):=by simp [wX,wXs]
    have e2:plX E wide n (.mk 3 0 0 0 nm [y])=plc E n :: plX E wide (n+2) y:=by simp [plX,qQ5]
    have e3:htX (.mk 3 0 0 0 nm [y])=1+htX y:=by simp [htX,vJ]
    have e4:szX (.mk 3 0 0 0 nm [y])=1+szX y:=by simp [szX,kC]
    rw [e]at ha hr hb;rw [e2]at hr;rw [e3]at h1;rw [e4]at hz;obtain⟨a1,a2,a3⟩:=ha;obtain⟨a3,a4,_⟩:=AtW.app a3;obtain⟨g1,g2⟩:=xU (d:=d) (fl:=fl) a1 hn.no;obtain⟨k1,k2⟩:=zQ8 hn;have hc:=ih.1 (n+2) (d+1) fl Yo Yo Yo a3 (by rw [a4];exact zH5);obtain⟨f,hw⟩:=zF3 (n:=n+1) (a:=[91]) (b:=[93]) h0 Yo (by rw [a2]) Yd hc (by rw [a4]) (by rw [a4];decide);have hl:n+((1,nm) :: (4,[91]) :: (wX wide y++[(4,[93])])).length=n+2+(wX wide y).length+1:=Yp;rw [hl]at hr;refine kA rfl (fun h=>by rw [a1]at h;cases h) ⟨f+1,?_⟩ hr;rw [qJ,lH (show(St n d fl).e=0 from rfl),g1,g2,qU,zT,yP,zT,a1,a2];dsimp only;rw [lG (show ¬1=3 by decide),lG k1,lG k2,lH rfl];dsimp only;rw [hw];dsimp only;rw [zB3 (by simp [jE E wide hy];omega)];simp [qI]
   exact⟨ho.p,ho.s'⟩
 | disk y hy ih =>
   have ho:OX E wide (.mk 4 0 0 0 [] [y]):=by
    intro n d fl h0 h1 hz ha hb r hr;have e:wX wide (.mk 4 0 0 0 [] [y])=(1,[100,105,115,107]) :: (4,[91]) :: (wX wide y++[(4,[93])]):=by have:bs "disk" = [100,105,115,107]:=Yd;simp [wX,wXs,this]
    have e2:plX E wide n (.mk 4 0 0 0 [] [y])=plc E n :: plX E wide (n+2) y:=by simp [plX,qQ5]
    have e3:htX (.mk 4 0 0 0 [] [y])=1+htX y:=by simp [htX,vJ]
    have e4:szX (.mk 4 0 0 0 [] [y])=1+szX y:=by simp [szX,kC]
    rw [e]at ha hr hb;rw [e2]at hr;rw [e3]at h1;rw [e4]at hz;obtain⟨a1,a2,a3⟩:=ha;obtain⟨a3,a4,_⟩:=AtW.app a3;have hc:=ih.1 (n+2) (d+1) fl Yo Yo Yo a3 (by rw [a4];exact zH5);obtain⟨f,hw⟩:=zF3 (n:=n+1) (a:=[91]) (b:=[93]) h0 Yo (by rw [a2]) Yd hc (by rw [a4]) (by rw [a4];decide);have hl:n+((1,[100,105,115,107]) :: (4,[91]) :: (wX wide y++[(4,[93])]):List Wd).length=n+2+(wX wide y).length+1:=Yp;rw [hl]at hr;refine kA rfl (fun h=>by rw [a1]at h;cases h) ⟨f+1,?_⟩ hr;rw [qJ,lH (show(St n d fl).e=0 from rfl),qU,zT,yP,a1];dsimp only;rw [lG (show ¬1=3 by decide),lG (show ¬([100,105,115,107]:List UInt8)=[40] by decide),lH rfl];dsimp only;rw [show zE (St n d fl)=St (n+1) d fl from rfl,hw];dsimp only;rw [zB3 (by simp [jE E wide hy];omega)];simp [qI]
   exact⟨ho.p,ho.s'⟩
 | un o y o1 o2 hy ih =>
   have hp:PX E wide (.mk 5 o 0 0 [] [y]):=by
    intro n d fl h0 h1 hz ha hs;have e:wX wide (.mk 5 o 0 0 [] [y])=(4,kK o) :: sW wide y:=by simp [wX,wXs]
    have e2:plX E wide n (.mk 5 o 0 0 [] [y])=plc E n :: sPl E wide (n+1) y:=by simp [plX,qQ5]
    have e3:htX (.mk 5 o 0 0 [] [y])=1+htX y:=by simp [htX,vJ]
    have e4:szX (.mk 5 o 0 0 [] [y])=1+szX y:=by simp [szX,kC]
    rw [e]at ha hs ⊢;rw [e2];rw [e3]at h1;rw [e4]at hz;obtain⟨a1,a2⟩:=ha;obtain⟨f1,f2⟩:=kH6 o Yo o1;have hl:n+((4,kK o) :: sW wide y).length=n+1+(sW wide y).length:=Yp;rw [hl]at hs ⊢;obtain⟨f,hx⟩:=ih.2 (n+1) (d+1) fl Yo Yo Yo a2 hs.b _ (yB hs.a);refine xM (yZ (x:=(.mk 5 o 0 0 [] [y],plc E n :: sPl E wide (n+1) y)) ⟨f+1,?_⟩ (yS hs.o)) h0 Yo hs.q;rw [zR,qU,zT,yP,a1];dsimp only;rw [lM rfl,f1];dsimp only;rw [wU Yo Yo,zQ6 (by rw [a1]) f2 Yo,hx];dsimp only;rw [wU Yo Yo,zB3 (by simp [jE E wide hy];omega)];simp [qI,yH,St];omega
   exact⟨hp,hp.par (qB2 (.inr (.inr rfl)))⟩
 | bin o x y o1 o2 hx hy ih1 ih2 =>
   have hp:PX E wide (.mk 6 o 0 0 [] [x,y]):=by
    intro n d fl h0 h1 hz ha hs;have e:wX wide (.mk 6 o 0 0 [] [x,y])=sW wide x++(4,kK o) :: sW wide y:=by simp [wX,wXs]
    have e2:plX E wide n (.mk 6 o 0 0 [] [x,y])=(sPl E wide n x).headD 0 :: (sPl E wide n x++sPl E wide (n+(sW wide x).length+1) y):=by simp [plX,qQ5]
    have e3:htX (.mk 6 o 0 0 [] [x,y])=1+max (htX x) (htX y):=by simp [htX,vJ]
    have e4:szX (.mk 6 o 0 0 [] [x,y])=1+(szX x+szX y):=by simp [szX,kC]
    rw [e]at ha hs ⊢;rw [e2];rw [e3]at h1;rw [e4]at hz;have hm1:=cO (htX x) (htX y);have hm2:=cN (htX x) (htX y);obtain⟨a1,a2,a3⟩:=AtW.app ha;obtain⟨f1,f2,f3,f4⟩:=kH5 o Yo o1;have hl:n+(sW wide x++(4,kK o) :: sW wide y).length=n+(sW wide x).length+1+(sW wide y).length:=Yp;rw [hl]at hs ⊢;have hc1:=ih1.2 n d fl h0 Yo Yo a1 (by rw [a2];exact f3) _ (yB (by rw [a2];exact f2));have hc2:=ih2.2 (n+(sW wide x).length+1) d fl h0 Yo Yo a3 hs.b _ (yB hs.a);refine xM (yZ hc1 (qW8 (by rw [a2]) (by rw [a2];exact f1) Yo (yZ hc2 (yS hs.o)) (zB3 (by simp [jE E wide hx,jE E wide hy];omega)) ?_)) h0 Yo hs.q;have e5:∀ a b:List Nat,qI 6 o 0 0 [] (yK (x,a)) [(x,a),(y,b)]=(.mk 6 o 0 0 [] [x,y],a.headD 0 :: (a++b)):=fun a b=>by simp [qI,yK]
    rw [e5];exact yS hs.o
   exact⟨hp,hp.par (qB2 (.inl rfl))⟩
 | mux x y z hx hy hz ih1 ih2 ih3 =>
   have hp:PX E wide (.mk 7 0 0 0 [] [x,y,z]):=by
    intro n d fl h0 h1 hsz ha hs;have e:wX wide (.mk 7 0 0 0 [] [x,y,z])=sW wide x++(4,[63]) :: (sW wide y++(4,[58]) :: sW wide z):=by simp [wX,wXs]
    have e2:plX E wide n (.mk 7 0 0 0 [] [x,y,z])=(sPl E wide n x).headD 0 :: (sPl E wide n x++sPl E wide (n+(sW wide x).length+1) y++sPl E wide (n+(sW wide x).length+1+(sW wide y).length+1) z):=by simp [plX,qQ5]
    have e3:htX (.mk 7 0 0 0 [] [x,y,z])=1+max (htX x) (max (htX y) (htX z)):=by simp [htX,vJ]
    have e4:szX (.mk 7 0 0 0 [] [x,y,z])=1+(szX x+(szX y+szX z)):=by simp [szX,kC]
    rw [e]at ha hs ⊢;rw [e2];rw [e3]at h1;rw [e4]at hsz;have hm1:=cO (htX x) (max (htX y) (htX z));have hm2:=cN (htX x) (max (htX y) (htX z));have hm3:=cO (htX y) (htX z);have hm4:=cN (htX y) (htX z);obtain⟨a1,a2,a3⟩:=AtW.app ha;obtain⟨a3,a4,a5⟩:=AtW.app a3;have hl:n+(sW wide x++(4,[63]) :: (sW wide y++(4,[58]) :: sW wide z)).length=n+(sW wide x).length+1+(sW wide y).length+1+(sW wide z).length:=Yp;rw [hl]at hs ⊢;have hc1:=ih1.2 n d fl h0 Yo Yo a1 (by rw [a2];decide) _ (yB (by rw [a2];decide));obtain⟨f1,k1⟩:=yZ hc1 (yS (k:=1) (by rw [a2];decide));obtain⟨f2,k2⟩:=ih2.2.c (n:=n+(sW wide x).length+1) (d:=d+1) (fl:=fl) Yo Yo Yo a3 (by rw [a4];exact qM3);obtain⟨f3,k3⟩:=ih3.2.c (n:=n+(sW wide x).length+1+(sW wide y).length+1) (d:=d+1) (fl:=fl) Yo Yo Yo a5 hs;refine⟨max f1 (max f2 f3)+1,?_⟩;rw [zM,zN6 (cO _ _) k1];dsimp only;rw [wU Yo Yo,qM2 (by rw [a2]) Yd,qQ3 (by rw [a2]) Yd Yo,zA9 (lE (cO f2 f3) (cN f1 _)) k2];dsimp only;rw [kI (by rw [a4]) (by rw [a4];decide),zA9 (lE (cN f2 f3) (cN f1 _)) k3];dsimp only;rw [wU Yo Yo,zB3 (by simp [jE E wide hx,jE E wide hy,jE E wide hz];omega)];simp [qI,yH,St,yK];omega
   exact⟨hp,hp.par (qB2 (.inr (.inl rfl)))⟩
 | cast w y hw hy ih =>
   have ho:OX E wide (.mk 8 0 0 w [] [y]):=by
    intro n d fl h0 h1 hz ha hb r hr;have e:wX wide (.mk 8 0 0 w [] [y])=sW wide y++[(4,[64]),(2,qZ w)]:=by simp [wX,wXs]
    have e2:plX E wide n (.mk 8 0 0 w [] [y])=(sPl E wide n y).headD 0 :: sPl E wide n y:=by simp [plX,qQ5]
    have e3:htX (.mk 8 0 0 w [] [y])=1+htX y:=by simp [htX,vJ]
    have e4:szX (.mk 8 0 0 w [] [y])=1+szX y:=by simp [szX,kC]
    rw [e]at ha hr hb;rw [e2]at hr;rw [e3]at h1;rw [e4]at hz;obtain⟨a1,a2,a3,_⟩:=AtW.app ha;have hl:n+(sW wide y++[(4,[64]),(2,qZ w)]).length=n+(sW wide y).length+1+1:=Yp;rw [hl]at hr;obtain⟨g,hr⟩:=hr;refine ih.2 n d fl h0 Yo Yo a1 (by rw [a2];decide) r ⟨g+1,?_⟩;rw [jI,zG4 (by rw [a2]) (by rw [a2];decide)];dsimp only;rw [zB3 (by simp [jE E wide hy];omega)];dsimp only;rw [show zE (St (n+(sW wide y).length) d fl)=St (n+(sW wide y).length+1) d fl from rfl,zB1 a3 (jQ hw).2.2];simpa [qI,yK]using hr
   exact⟨ho.p,ho.s'⟩
end
end
section
def Ev (P:Nat→Prop):Prop:=∃ F,∀ f,F≤f→P f
theorem Ev.step {P Q:Nat→Prop} (h:Ev P) (hs:∀ f,P f→Q (f+1)):Ev Q:=by obtain⟨F,h⟩:=h;refine⟨F+1,fun f hf=>?_⟩;obtain⟨g,rfl⟩:∃ g,f=g+1:=⟨f-1,Yo⟩;exact hs g (h g Yo)
theorem Ev.mono {P Q:Nat→Prop} (h:Ev P) (hs:∀ f,P f→Q f):Ev Q:=by obtain⟨F,h⟩:=h;exact⟨F,fun f hf=>hs f (h f hf)⟩
theorem Ev.and {P Q:Nat→Prop} (h:Ev P) (k:Ev Q):Ev fun f=>P f∧Q f:=by obtain⟨F,h⟩:=h;obtain⟨G,k⟩:=k;exact⟨max F G,fun f hf=>⟨h f (lE (cO F G) hf),k f (lE (cN F G) hf)⟩⟩
theorem Ev.of {P:Nat→Prop} (h:∀ f,P f):Ev P:=⟨0,fun f _=>h f⟩
theorem Ev.ex {P:Nat→Prop} (h:Ev P):∃ f,P f:=by obtain⟨F,h⟩:=h;exact⟨F,h F (lF _)⟩
abbrev Qt (n:Nat) (d:Int) (fl:Nat) (l:List Nat):QSt:=⟨St n d fl,l⟩
section
variable {E:Env} {n:Nat} {d:Int} {fl:Nat} {l:List Nat} {wide:Bool}
theorem xA {x:Ex} (hx:kP x) (h0:0≤d) (h1:d+2*(htX x:Int)≤200) (hz:szX x≤1000000) (ha:AtW E n (wX wide x)) (hs:vX (nw E (n+(wX wide x).length))) (hl:l.length+szX x≤800000000) :
 Ev fun f=>qS E f (Qt n d fl l)=some (x,Qt (n+(wX wide x).length) d fl (l++plX E wide n x)):=by
 obtain⟨F,h⟩:=(kR8 E wide hx).1 n d fl h0 h1 hz ha hs;refine⟨F,fun f hf=>?_⟩;show qS E f _=_;unfold qS;rw [show(Qt n d fl l).s=St n d fl from rfl,zA9 hf h];dsimp only;rw [jE E wide hx,lM hl]
theorem zY2 {u:List UInt8} (h:(nw E n).2=u) (hu:u≠[]) (h0:0≤d) (h1:d<200):kN E (Qt n d fl l) u=some (Qt (n+1) (d+1) fl l):=by unfold kN;rw [show(Qt n d fl l).s=St n d fl from rfl,wU Yo Yo,zQ6 h hu h1];rfl
theorem zT6 {u:List UInt8} (h:(nw E n).2=u) (hk:(nw E n).1≠0) (h0:0≤d) (h1:d≤200):jX E (Qt n (d+1) fl l) u=some (Qt (n+1) d fl l):=by unfold jX;rw [show(Qt n (d+1) fl l).s=St n (d+1) fl from rfl,wU Yo Yo,qQ4 h hk,Int.add_sub_cancel];rfl
end
def kO:List (List Wd)→List Wd
 | []=>[]
 | [x]=>x
 | x :: l=>x++(4,[44]) :: kO l
mutual
def wS (wide:Bool):Sx→List Wd
 | .mk k n es b t e =>
   let r:=es.map (wX wide)
   let tt:=(4,[123]) :: (wSs wide t++[(4,[125])])
   let te:=(4,[123]) :: (wSs wide e++[(4,[125])])
   if k=1 then(1,n) :: (4,[61]) :: r.getD 0 []
   else if k=2 then(1,n) :: (4,[91]) :: (r.getD 0 []++(4,[93]) :: (4,[61]) :: r.getD 1 [])
   else if k=3 then(1,bs "write") :: (r.getD 0 []++(4,[44]) :: r.getD 1 [])
   else if k=4 then [(1,bs "flush")]
   else if k=5 then [(1,bs "barrier")]
   else if k=6 then(1,bs "if") :: (r.getD 0 []++(tt++(if e≠[]∨wide then(1,bs "else") :: te else [])))
   else if k=7 then(1,bs "while") :: (r.getD 0 []++(1,bs "bound") :: (2,qZ b.toNat) :: tt)
   else(1,bs "call") :: (1,n) :: (4,[40]) :: (kO r++[(4,[41])])
def wSs (wide:Bool):List Sx→List Wd
 | []=>[]
 | x :: l=>wS wide x++wSs wide l
end
abbrev wB (wide:Bool) (l:List Sx):List Wd:=(4,[123]) :: (wSs wide l++[(4,[125])])
def plC (E:Env) (wide:Bool):Nat→List Ex→List Nat
 | _,[]=>[]
 | n,x :: l=>plX E wide n x++plC E wide (n+(wX wide x).length+1) l
mutual
def plS (E:Env) (wide:Bool):Nat→Sx→List Nat
 | n,.mk k nm es b t e =>
   let e0:=es.getD 0 ex0
   let e1:=es.getD 1 ex0
   let n0:=(wX wide e0).length
   plc E n :: (if k=1 then plX E wide (n+2) e0
   else if k=2 then plX E wide (n+2) e0++plX E wide (n+2+n0+2) e1
   else if k=3 then plX E wide (n+1) e0++plX E wide (n+1+n0+1) e1
   else if k=4∨k=5 then []
   else if k=6 then plX E wide (n+1) e0++(zL8 E wide (n+1+n0+1) t++zL8 E wide (n+1+n0+1+(wSs wide t).length+1+2) e)
   else if k=7 then plX E wide (n+1) e0++zL8 E wide (n+1+n0+2+1) t
   else plC E wide (n+3) es)
def zL8 (E:Env) (wide:Bool):Nat→List Sx→List Nat
 | _,[]=>[]
 | n,x :: l=>plS E wide n x++zL8 E wide (n+(wS wide x).length) l
end
mutual
def szS:Sx→Nat
 | .mk _ _ es _ t e=>1+kC es+yE t+yE e
def yE:List Sx→Nat
 | []=>0
 | x :: l=>szS x+yE l
end
mutual
def htS:Sx→Nat
 | .mk _ _ es _ t e=>1+max (vJ es) (max (vL t) (vL e))
def vL:List Sx→Nat
 | []=>0
 | x :: l=>max (htS x) (vL l)
end
inductive vP:Sx→Prop
 | set (n:List UInt8) (x:Ex):NameOk n→kP x→vP (.mk 1 n [x] 0 [] [])
 | put (n:List UInt8) (i x:Ex):NameOk n→kP i→kP x→vP (.mk 2 n [i,x] 0 [] [])
 | write (b x:Ex):kP b→kP x→vP (.mk 3 [] [b,x] 0 [] [])
 | flush:vP (.mk 4 [] [] 0 [] [])
 | barrier:vP (.mk 5 [] [] 0 [] [])
 | ifs (x:Ex) (t e:List Sx):kP x→(∀ y∈t,vP y)→(∀ y∈e,vP y)→vP (.mk 6 [] [x] 0 t e)
 | loop (x:Ex) (b:Nat) (t:List Sx):kP x→b≤1000000000→(∀ y∈t,vP y)→vP (.mk 7 [] [x] b t [])
 | call (n:List UInt8) (es:List Ex):NameOk n→(∀ x∈es,kP x)→vP (.mk 8 n es 0 [] [])
structure qM5 (w:Wd):Prop where
 x:vX w
 e:w.2≠bs "else"
theorem zD4 {w:Wd} (h:w.1=1) (h1:∃ c r,w.2=c :: r∧qM c=true):vX w:=by obtain⟨c,r,e,hc⟩:=h1;refine⟨?_,?_,?_,fun h4=>by rw [h]at h4;cases h4⟩ <;> (rw [e];intro e2;injection e2 with e2 _;subst e2;exact absurd hc Yd)
theorem NameOk.shut {n:List UInt8} (h:NameOk n):qM5 (1,n):=by obtain⟨c,r,e,hc,_⟩:=h.word;refine⟨zD4 rfl ⟨c,r,e,hc⟩,?_⟩;rintro rfl;exact absurd h.no Yd
theorem qM6 {n:List UInt8} (h:NameOk n):kM n=none:=by
 have key:∀ u:List UInt8,vO u=true→n≠u:=by rintro u hu rfl;rw [h.no]at hu;cases hu
 unfold kM;rw [lN (key _ Yd),lN (key _ Yd),lN (key _ Yd),lN (key _ Yd),lN (key _ Yd),lN (key _ Yd)]
theorem jZ8 {wide:Bool} {x:Sx} (h:vP x):∃ w r,wS wide x=w :: r∧qM5 w:=by
 have hw:∀ u:List UInt8,(∃ c r,u=c :: r∧qM c=true)→u≠bs "else"→qM5 (1,u):=fun u h1 h2=>⟨zD4 rfl h1,h2⟩;cases h with
 | set n x hn hx=>exact⟨_,_,by simp only [wS,if_true];rfl,hn.shut⟩
 | put n i x hn hi hx=>exact⟨_,_,by simp only [wS];rfl,hn.shut⟩
 | write b x hb hx=>exact⟨_,_,by simp only [wS];rfl,hw _ ⟨_,_,rfl,Yd⟩ Yd⟩
 | flush=>exact⟨_,_,by simp only [wS];rfl,hw _ ⟨_,_,rfl,Yd⟩ Yd⟩
 | barrier=>exact⟨_,_,by simp only [wS];rfl,hw _ ⟨_,_,rfl,Yd⟩ Yd⟩
 | ifs x t e hx ht he=>exact⟨_,_,by simp only [wS];rfl,hw _ ⟨_,_,rfl,Yd⟩ Yd⟩
 | loop x b t hx hb ht=>exact⟨_,_,by simp only [wS];rfl,hw _ ⟨_,_,rfl,Yd⟩ Yd⟩
 | call n es hn hes=>exact⟨_,_,by simp only [wS];rfl,hw _ ⟨_,_,rfl,Yd⟩ Yd⟩
end
section
open Go.RowKit Go.PlainAid Go.Shelf
attribute [local go_sem] Oper.semAt_some
theorem qO3 (A:Option Addr) (n c:Nat) (w:World):Calls prog 90 #[.slice A n c] w fun e w'=>e=.returned (.func (.func 115) #[] #[uQ w.heap.size 0])∧w'=w.alloc (.cells #[.slice A n c] 34):=by
 go_enter func90,ntmps90
 go_wp2
 go_ret;exact⟨rfl,rfl⟩
def qD3 (x:Sx) (v:SV×SV×SV):Array Value:=#[.int .u8 x.kind,.string (str x.name),.slice v.1.A v.1.n v.1.c,.int .i64 x.bound,.slice v.2.1.A v.2.1.n v.2.1.c,.slice v.2.2.A v.2.2.n v.2.2.c]
theorem Stays.below' {P:Nat→Prop} {w w':World} {B:Nat} (h:Below B w w') (hB:w.heap.size≤B:=by omega):Stays P w w':=Stays.below (h.mono hB)
theorem StsP.get {P:Nat→Prop} {w:World} {l:List Sx} {S:SV} (h:StsP P w l S) {i:Nat} (hi:i<S.n) :
 ∃ b off y v,S.A=some ⟨b,off,none⟩∧l[i]?=some y∧SxP P w y v∧b<w.heap.size∧∀ j u,j<6→(zC6 y v)[j]?=some u→w.cell? ⟨b,off+(i*6+j),none⟩=some u:=by
 cases h with
 | mk _ _ vs hl hn hP rd ok ex th el =>
   obtain⟨b,off,p,hA,hp,hb,hcl⟩:=rd.rd.flat (f:=fun p:Sx×(SV×SV×SV)=>zC6 p.1 p.2) (m:=6) (fun p=>rfl) Yo (L:=l.zip vs) (i:=i) (by rw [List.length_zip,hl,Nat.min_self,←hn];exact hi);obtain⟨y,v⟩:=p;obtain⟨h1,h2⟩:=List.getElem?_zip_eq_some.1 hp;exact⟨b,off,y,v,hA,h1,⟨ok i y v h1 h2,ex i y v h1 h2,th i y v h1 h2,el i y v h1 h2⟩,hb,hcl⟩
theorem qJ7 (y:Sx):szS y=1+kC y.exprs+yE y.thn+yE y.els:=by cases y;rfl
theorem zV9:∀ l:List Sx,l.length≤yE l
 | []=>by simp [yE]
 | x :: l=>by have h1:=qJ7 x;have h2:=zV9 l;simp only [yE,Yc];omega
theorem qO4:∀ (l:List Sx) (j:Nat) (y:Sx),l[j]?=some y→yE (l.take j)+szS y≤yE l∧yE (l.take (j+1))=yE (l.take j)+szS y
 | [],j,y,h=>by simp at h
 | x :: l,0,y,h=>by simp at h;subst h;simp [yE]
 | x :: l,j+1,y,h=>by have:=qO4 l j y (by simpa using h);simp only [cR,yE];omega
def jR6 (l c M b0:Nat) (J:Nat→World→Prop):Prop:=∀ k y V W,J k W→b0≤W.heap.size→k+(1+kC y.exprs)≤M→SxP (fun _=>True) W y V→∀ j,YieldAt Fence.wide j prog l #[.agg (qD3 y V)] W fun e W'=>e=.returned (.bool true)∧J (k+(1+kC y.exprs)) W'∧FrC c W W'
theorem qZ4:∀ (N:Nat) (L:List Sx) (S:SV) (n l pb c m M b0:Nat) (J:Nat→World→Prop) (W1:World),yE L≤N→1≤n→Ud (StsP (fun _=>True) W1 L S)→Ud (Bk W1 pb 34 #[.slice S.A S.n S.c])→pb≠c→b0≤W1.heap.size→m+yE L≤M→M≤1000000 →
 Ud (∀ k W,J k W→∃ cs,Bk W c 3 cs)→Ud (∀ k W W',J k W→Below b0 W W'→J k W')→Ud (jR6 l c M b0 J)→Ud (J m W1) →
 CallsIn Fence.wide n prog 115 #[.func (.yield l) #[] #[],uQ pb 0] W1 fun e W'=>(∃ v,e=.returned v)∧J (m+yE L) W'∧FrC c W1 W'
 | N,L,S,n,l,pb,c,m,M,b0,J,W1,hN,h1n,HT,HPB,hpc,hb0,hM,hM6,HJC,HJB,HY,HJ=>by
   have IH:Ud (∀ N',N'<N→∀ (L:List Sx) (S:SV) (n l pb c m M b0:Nat) (J:Nat→World→Prop) (W1:World),yE L≤N'→1≤n→Ud (StsP (fun _=>True) W1 L S)→Ud (Bk W1 pb 34 #[.slice S.A S.n S.c])→pb≠c→b0≤W1.heap.size→m+yE L≤M→M≤1000000 →
    Ud (∀ k W,J k W→∃ cs,Bk W c 3 cs)→Ud (∀ k W W',J k W→Below b0 W W'→J k W')→Ud (jR6 l c M b0 J)→Ud (J m W1) →
    CallsIn Fence.wide n prog 115 #[.func (.yield l) #[] #[],uQ pb 0] W1 fun e W'=>(∃ v,e=.returned v)∧J (m+yE L) W'∧FrC c W1 W'):=Ph (fun N' _=>qZ4 N')
   obtain⟨SA,Sn,Sc⟩:=S;have HL:Ud (Sn=L.length):=Ph HT.o.len;refine callsIn_of_wp_marks func115 rfl trivial ?_ rfl;simp only [ntmps115,List.size_toArray,Yc,Yn,Nat.reduceAdd,Nat.reduceSub,Array.replicate_succ,Array.replicate_zero,List.push_toArray,List.append_toArray,cF,lR];refine wpIn_wide.2 ?_;have hyb:=Ph (Bk.new W1 187 #[.func (.yield l) #[] #[]]);have hB1:Below W1.heap.size W1 (W1.alloc (.cells #[.func (.yield l) #[] #[]] 187)):=zG (lB _ _) _;have HPB1:=Ph (zD HPB.o hB1);go_upto_region 1 with fail
   generalize (W1.alloc _)=W2 at hyb hB1 HPB1 ⊢;obtain⟨yb,hybe⟩:∃ b,W1.heap.size=b:=⟨_,rfl⟩;rw [hybe]at hyb ⊢;have hypb:pb<yb:=by have:=HPB.o.lt;omega
   have x0:W2.cell? ⟨pb,0,none⟩=some (.slice SA Sn Sc):=HPB1.o.cell 0;have HF2:Ud (FrC c W1 W2):=Ph (Fr.of_below hB1);have HJ2:Ud (J m W2):=Ph (HJB.o _ _ _ HJ.o (hB1.mono hb0));have HYB2:Ud (Bk W2 yb 187 #[.func (.yield l) #[] #[]]):=hyb;obtain⟨cs0,hcs0⟩:=HJC.o _ _ HJ.o;have HC1:=Ph hcs0;have hcy:c<yb:=by have:=hcs0.lt;omega
   clear hyb hB1 HPB1 HJ hcs0;go_wp2
   have HMM:=Ph hM;clear hM x0;have hSn:Sn≤1000000:=by have h1:=HMM.o;have h3:=HL.o;have h4:=zV9 L;omega
   refine wp_loop_ghost_k (fun g a w=>∃ (j:Nat) (s4 s6 s7 s11 s12 s13 s14 s15 s16 s17 s18 s19 s20 s21 s22 s23 s24 s25 s26 s27 s28 s29 s30 s31 s32 s33 s34:Value) (ds:List Deferred),g+j=Sn∧a=⟨#[.func (.yield l) #[] #[],uQ pb 0,uQ yb 0,undef,s4,undef,s6,s7,.slice SA Sn Sc,uI Sn,uI j,s11,s12,s13,s14,s15,s16,s17,s18,s19,s20,s21,s22,s23,s24,s25,s26,s27,s28,s29,s30,s31,s32,s33,s34],ds⟩∧Ud (Marks W1.heap.size ds w)∧Ud (J (m+yE (L.take j)) w)∧Ud (FrC c W1 w)∧Ud (Bk w yb 187 #[.func (.yield l) #[] #[]])) Sn ⟨0,_,_,_,_,_,_,_,_,_,_,_,_,_,_,_,_,_,_,_,_,_,_,_,_,_,_,_,[],rfl,rfl,Marks.nil _ _,by simpa [yE]using HJ2,HF2,HYB2⟩ ?_;clear HJ2 HF2 HYB2;rintro g a w ⟨j,s4,s6,s7,s11,s12,s13,s14,s15,s16,s17,s18,s19,s20,s21,s22,s23,s24,s25,s26,s27,s28,s29,s30,s31,s32,s33,s34,ds,hg,rfl,HMK,HJ,HF,HYB⟩ JJ K hJJ hK;obtain⟨cs1,hcs1⟩:=HJC.o _ _ (HJB.o _ _ _ HJ.o (lB _ _));have hcw:c<w.heap.size:=hcs1.lt;have hws:W1.heap.size≤w.heap.size:=HF.o.size;by_cases hlt:j<Sn
   ·have e1:decide ((j:Int)<(Sn:Int))=true:=by simp;omega
    have hji:(j:Int)<(Sn:Int):=Yo;have HTw:Ud (StsP (fun _=>True) w L ⟨SA,Sn,Sc⟩):=Ph (HT.o.stay (FrC.stays HF.o HC1.o));obtain⟨b,off,y,v,hA,hx,hty,hb,hc⟩:=StsP.get HTw.o (i:=j) hlt;obtain⟨⟨pA,pn,pc⟩,⟨qA,qn,qc⟩,⟨rA,rn,rc⟩⟩:=v;(try dsimp only at hA);subst hA;have c0:w.cell? ⟨b,off+j*6,none⟩=some (uB y.kind):=hc 0 _ Yo rfl;have c1:w.cell? ⟨b,off+j*6+1,none⟩=some (uR y.name):=hc 1 _ Yo rfl;have c2:w.cell? ⟨b,off+j*6+2,none⟩=some (.slice pA pn pc):=hc 2 _ Yo rfl;have c3:w.cell? ⟨b,off+j*6+3,none⟩=some (uI y.bound):=hc 3 _ Yo rfl;have c4:w.cell? ⟨b,off+j*6+4,none⟩=some (.slice qA qn qc):=hc 4 _ Yo rfl;have c5:w.cell? ⟨b,off+j*6+5,none⟩=some (.slice rA rn rc):=hc 5 _ Yo rfl;have HX:=Ph hx;have HTY:=Ph hty;clear hx hc hty;go_upto_region 4 with fail
    have hyn:=Ph (Bk.new w 108 #[uB y.kind,uR y.name,.slice pA pn pc,uI y.bound,.slice qA qn qc,.slice rA rn rc]);have hBa:Below w.heap.size w (w.alloc (.cells #[uB y.kind,uR y.name,.slice pA pn pc,uI y.bound,.slice qA qn qc,.slice rA rn rc] 108)):=zG (lB _ _) _;have hza:(w.alloc (.cells #[uB y.kind,uR y.name,.slice pA pn pc,uI y.bound,.slice qA qn qc,.slice rA rn rc] 108)).heap.size=w.heap.size+1:=lO _ _;generalize (w.alloc _)=W4 at hyn hBa hza ⊢;obtain⟨sb,hxb⟩:∃ b,w.heap.size=b:=⟨_,rfl⟩;rw [hxb]at hyn ⊢;have x0:W4.cell? ⟨sb,0,none⟩=some (uB y.kind):=hyn.o.cell 0;have x1:W4.cell? ⟨sb,1,none⟩=some (uR y.name):=hyn.o.cell 1;have x2:W4.cell? ⟨sb,2,none⟩=some (.slice pA pn pc):=hyn.o.cell 2;have x3:W4.cell? ⟨sb,3,none⟩=some (uI y.bound):=hyn.o.cell 3;have x4:W4.cell? ⟨sb,4,none⟩=some (.slice qA qn qc):=hyn.o.cell 4;have x5:W4.cell? ⟨sb,5,none⟩=some (.slice rA rn rc):=hyn.o.cell 5;have HYB4:=Ph (zD HYB.o hBa);have y0:W4.cell? ⟨yb,0,none⟩=some (.func (.yield l) #[] #[]):=HYB4.o.cell 0;have HJ4:Ud (J (m+yE (L.take j)) W4):=Ph (HJB.o _ _ _ HJ.o (hBa.mono Yo));have HTY4:=Ph (itS.stay _ _ _ _ _ (Stays.below hBa) HTY.o);have hszY:=qJ7 y;have hm5:m+yE (L.take j)+szS y≤M∧szS y≤N:=by have h1:=HMM.o;have h3:=qO4 L j y HX.o;omega
    have hybl:yb<sb:=by have:=HYB.o.lt;omega
    obtain⟨fn,tmps,assign,body,hy,hRn⟩:=HY.o (m+yE (L.take j)) y (⟨pA,pn,pc⟩,⟨qA,qn,qc⟩,⟨rA,rn,rc⟩) W4 HJ4.o Yo Yo HTY4.o (n-1);have HRn:=Ph hRn;have HB4:=Ph hBa;have HMK4:Ud (Marks W1.heap.size ds W4):=Ph (HMK.o.keep fun k o hk ho=>(hBa.block k (zO hk)).trans hk);have HF4:Ud (FrC c W1 W4):=Ph (HF.o.trans (Fr.of_below hBa));have HC4:=Ph (zD hcs1 hBa);dsimp only [qD3]at hy;clear hRn hBa HTY HYB HMK HF HTw;refine(wpIn_wide (n:=n)).1 ?_;gi_wp2
    refine HRn.o.mono ?_;clear hy HRn;rintro e W5 ⟨rfl,hJ5,hF5⟩;have HJ5:=Ph hJ5;have HSB5:=Ph (hyn.o.fr hF5 (show sb≠c by omega));have HYB5:=Ph (HYB4.o.fr hF5 (show yb≠c by omega));have HTY5:=Ph (itS.stay _ _ _ _ _ (FrC.stays hF5 HC4.o) HTY4.o);have HMK5:Ud (Marks W1.heap.size ds W5):=Ph (HMK4.o.keep (FrC.others hF5 HC4.o));have HF5:Ud (FrC c W1 W5):=Ph (HF4.o.trans hF5);have hz5:sb+1≤W5.heap.size:=by have:=hF5.size;omega
    clear x0 x1 x2 x3 x4 x5 y0 hJ5 hF5 HYB4 HTY4 HMK4 HF4 HC4 hyn HJ4 c0 c1 c2 c3 c4 c5 hza;have x0:W5.cell? ⟨sb,0,none⟩=some (uB y.kind):=HSB5.o.cell 0;have x1:W5.cell? ⟨sb,1,none⟩=some (uR y.name):=HSB5.o.cell 1;have x2:W5.cell? ⟨sb,2,none⟩=some (.slice pA pn pc):=HSB5.o.cell 2;have x3:W5.cell? ⟨sb,3,none⟩=some (uI y.bound):=HSB5.o.cell 3;have x4:W5.cell? ⟨sb,4,none⟩=some (.slice qA qn qc):=HSB5.o.cell 4;have x5:W5.cell? ⟨sb,5,none⟩=some (.slice rA rn rc):=HSB5.o.cell 5;gi_wp2
    go_wp2
    clear x0 x1 x2 x3 x4 x5;refine wp_loop_ghost_k (fun g2 a w=>∃ (k:Nat) (kI:Int) (u6 u24 u25 u26 u27 u28 u29 u30 u31 u32 u33 u34:Value) (ds:List Deferred),g2+k=2∧a=⟨#[.func (.yield l) #[] #[],uQ pb 0,uQ yb 0,undef,uQ sb 0,undef,u6,s7,.slice (some ⟨b,off,none⟩) Sn Sc,uI Sn,uI j,.bool true,.pointer (some ⟨b,off+j*6,none⟩),.agg #[uB y.kind,uR y.name,.slice pA pn pc,uI y.bound,.slice qA qn qc,.slice rA rn rc],.func (.yield l) #[] #[],.agg #[uB y.kind,uR y.name,.slice pA pn pc,uI y.bound,.slice qA qn qc,.slice rA rn rc],.bool true,.bool false,uQ sb 4,.slice qA qn qc,uQ sb 5,.slice rA rn rc,.agg #[.slice qA qn qc,.slice rA rn rc],uI kI,u24,u25,u26,u27,u28,u29,u30,u31,u32,u33,u34],ds⟩∧kI=(k:Int)∧Ud (Marks W1.heap.size ds w)∧Ud (J (m+yE (L.take j)+(1+kC y.exprs)+(if 1≤k then yE y.thn else 0)+(if 2≤k then yE y.els else 0)) w)∧Ud (FrC c W1 w)∧Ud (Bk w yb 187 #[.func (.yield l) #[] #[]])∧Ud (SxP (fun _=>True) w y (⟨pA,pn,pc⟩,⟨qA,qn,qc⟩,⟨rA,rn,rc⟩))∧sb+1≤w.heap.size) 2 ⟨0,0,_,_,_,_,_,_,_,_,_,_,_,_,ds,rfl,rfl,rfl,HMK5,by simpa using HJ5,HF5,HYB5,HTY5,hz5⟩ ?_;clear HMK5 HJ5 HF5 HYB5 HTY5 HSB5 hz5;rintro g2 a w5 ⟨k,kI,u6,u24,u25,u26,u27,u28,u29,u30,u31,u32,u33,u34,ds5,hg2,rfl,hkI,HMK,HJ5,HF,HYB,HTY,hz5⟩ JJ2 K2 hJJ2 hK2;obtain⟨cs5,hcs5⟩:=HJC.o _ _ (HJB.o _ _ _ HJ5.o (lB _ _));rcases(by omega:k=0∨k=1∨k=2)with rfl | rfl | rfl
    ·have hjk:J (m+yE (L.take j)+(1+kC y.exprs)) w5:=by simpa using HJ5.o
     obtain rfl:kI=0:=Yo;clear hkI;have HJK:=Ph hjk;clear hjk HJ5;have ix:∀ w,(Instr.index 188 (.agg #[.slice qA qn qc,.slice rA rn rc]) (uI 0)).run prog w=.ok (.slice qA qn qc) w:=fun _=>Yk;go_upto_region 8 with fail
     clear ix;go_wp2_with fail
     refine(qO3 qA qn qc w5).mono ?_;rintro e W6 ⟨rfl,rfl⟩;go_wp2_with fail
     have heb:=Ph (Bk.new w5 34 #[.slice qA qn qc]);have hBb:Below w5.heap.size w5 (w5.alloc (.cells #[.slice qA qn qc] 34)):=zG (lB _ _) _;have hzb:(w5.alloc (.cells #[.slice qA qn qc] 34)).heap.size=w5.heap.size+1:=lO _ _;generalize (w5.alloc _)=W6 at heb hBb hzb ⊢;have HTZ:Ud (StsP (fun _=>True) W6 y.thn ⟨qA,qn,qc⟩):=Ph (HTY.o.th.stay (Stays.below hBb));have HTY6:=Ph (itS.stay _ _ _ _ _ (Stays.below hBb) HTY.o);have HYB6:=Ph (zD HYB.o hBb);have HJ6:Ud (J (m+yE (L.take j)+(1+kC y.exprs)) W6):=Ph (HJB.o _ _ _ HJK.o (hBb.mono Yo));have HF6:Ud (FrC c W1 W6):=Ph (HF.o.trans (Fr.of_below hBb));have HBB:=Ph hBb;obtain⟨eb,heb'⟩:∃ b,w5.heap.size=b:=⟨_,rfl⟩;rw [heb']at heb hzb hz5 ⊢;have hN5:yE y.thn<N:=Yo;have hm6:m+yE (L.take j)+(1+kC y.exprs)+yE y.thn≤M:=Yo;clear hBb;refine(wpIn_wide (n:=6)).1 ?_;refine zF9 (α:=Sx×(SV×SV×SV)) (encs:=fun p=>#[.agg (qD3 p.1 p.2)]) rfl rfl Yo rfl trivial (enters_of func115 Yk rfl) (fun _=>rfl) (fun q=>q=c) (fun k hk=>Yo) (fun p=>1+kC p.1.exprs) (fun p W=>SxP (fun _=>True) W p.1 p.2) M (m+yE (L.take j)+(1+kC y.exprs)) (yE y.thn) (fun k W=>J k W∧Bk W yb 187 #[.func (.yield l) #[] #[]]) ?hI ⟨HJ6.o,HYB6.o⟩ ?hseq ?hround ?hdone
     case hI=>exact fun k W W' h hb=>⟨HJB.o _ _ _ h.1 (hb.mono Yo),(hb.block _ Yo).trans h.2⟩
     case hseq =>
      intro l' J' W' hW hb hJI hJb hY' h0;exact IH.o _ hN5 y.thn ⟨qA,qn,qc⟩ 5 l' eb c _ M W'.heap.size J' W' (lF _) Yo (Ph (HTZ.o.stay (Stays.below' hb))) (Ph ((hb.block _ Yo).trans heb.o)) Yo (lF _) hm6 hM6 (Ph fun k W hj=>HJC.o k W (hJI k W hj).1) (Ph hJb) (Ph fun k z V W hj hs hk ht q=>hY' k (z,V) W q hj hs ht hk) (Ph h0)
     case hround =>
      intro l' k p W hi hl hr hg hk;obtain⟨z,⟨zpA,zpn,zpc⟩,⟨zqA,zqn,zqc⟩,⟨zrA,zrn,zrc⟩⟩:=p;obtain⟨hj,hyb⟩:=hi;obtain⟨r0,hr0⟩:=hr;have hlW:l'<W.heap.size:=zO hr0;simp only [qD3];gi_wp2
      refine⟨Fr.of_below (zG (lB _ _) _),fun rr=>?_⟩;have hal:Below W.heap.size W (W.alloc (.cells #[uB z.kind,uR z.name,.slice zpA zpn zpc,uI z.bound,.slice zqA zqn zqc,.slice zrA zrn zrc] 108)):=zG (lB _ _) _;have hr6:(W.alloc (.cells #[uB z.kind,uR z.name,.slice zpA zpn zpc,uI z.bound,.slice zqA zqn zqc,.slice zrA zrn zrc] 108)).heap[l']?=some (.loop r0):=(hal.block l' hlW).trans hr0;have hsz6:((W.alloc (.cells #[uB z.kind,uR z.name,.slice zpA zpn zpc,uI z.bound,.slice zqA zqn zqc,.slice zrA zrn zrc] 108)).putObj l' (.loop rr)).heap.size=W.heap.size+1:=by simp [World.putObj]
      have HZ:Ud (Bk ((W.alloc (.cells #[uB z.kind,uR z.name,.slice zpA zpn zpc,uI z.bound,.slice zqA zqn zqc,.slice zrA zrn zrc] 108)).putObj l' (.loop rr)) W.heap.size 108 #[uB z.kind,uR z.name,.slice zpA zpn zpc,uI z.bound,.slice zqA zqn zqc,.slice zrA zrn zrc]):=Ph (xJ (Bk.new _ _ _) Yo);have HYB7:Ud (Bk ((W.alloc (.cells #[uB z.kind,uR z.name,.slice zpA zpn zpc,uI z.bound,.slice zqA zqn zqc,.slice zrA zrn zrc] 108)).putObj l' (.loop rr)) yb 187 #[.func (.yield l) #[] #[]]):=Ph (xJ (zD hyb hal) Yo);have hj6:J k ((W.alloc (.cells #[uB z.kind,uR z.name,.slice zpA zpn zpc,uI z.bound,.slice zqA zqn zqc,.slice zrA zrn zrc] 108)).putObj l' (.loop rr)):=HJB.o _ _ _ hj ((hal.mono Yo).trans (yL Yo));have ht6:SxP (fun _=>True) ((W.alloc (.cells #[uB z.kind,uR z.name,.slice zpA zpn zpc,uI z.bound,.slice zqA zqn zqc,.slice zrA zrn zrc] 108)).putObj l' (.loop rr)) z (⟨zpA,zpn,zpc⟩,⟨zqA,zqn,zqc⟩,⟨zrA,zrn,zrc⟩):=itS.stay _ _ _ _ _ (xN hr6) (itS.stay _ _ _ _ _ (Stays.below hal) hg);obtain⟨fn,tmps,assign,body,hy,hRn⟩:=HY.o k z (⟨zpA,zpn,zpc⟩,⟨zqA,zqn,zqc⟩,⟨zrA,zrn,zrc⟩) _ hj6 Yo hk ht6 3;have HRn:=Ph hRn;dsimp only [qD3]at hy;clear hRn hal hr6 hr0 hyb hj6 ht6 hj hg;generalize ((W.alloc (.cells #[uB z.kind,uR z.name,.slice zpA zpn zpc,uI z.bound,.slice zqA zqn zqc,.slice zrA zrn zrc] 108)).putObj l' (.loop rr))=U at *;generalize W.heap.size=zb at *;have z0:U.cell? ⟨zb,0,none⟩=some (uB z.kind):=HZ.o.cell 0;have z1:U.cell? ⟨zb,1,none⟩=some (uR z.name):=HZ.o.cell 1;have z2:U.cell? ⟨zb,2,none⟩=some (.slice zpA zpn zpc):=HZ.o.cell 2;have z3:U.cell? ⟨zb,3,none⟩=some (uI z.bound):=HZ.o.cell 3;have z4:U.cell? ⟨zb,4,none⟩=some (.slice zqA zqn zqc):=HZ.o.cell 4;have z5:U.cell? ⟨zb,5,none⟩=some (.slice zrA zrn zrc):=HZ.o.cell 5;have y0:U.cell? ⟨yb,0,none⟩=some (.func (.yield l) #[] #[]):=HYB7.o.cell 0;gi_wp2
      refine RoundIn.mono (show RoundIn (Fence.wide.inRound l') 3 _ _ _ _ _ _ _ _ from HRn.o) ?_;clear hy HRn;rintro e W3 ⟨rfl,hJ3,hF3⟩;have HJ3:=Ph hJ3;have HF3:=Ph hF3;clear hJ3 hF3 z0 z1 z2 z3 z4 z5 y0;gi_wp2
      exact⟨⟨HJ3.o,HYB7.o.fr HF3.o Yo⟩,HF3.o⟩
     case hdone =>
      intro D W hD hi hf hd;obtain⟨hj,hyb⟩:=hi;have HJ3:=Ph hj;have HYB3:=Ph hyb;have hC6:=zD hcs5 HBB.o;have HF3:Ud (FrC c W1 W):=Ph (HF6.o.trans hf);have HTY3:=Ph (itS.stay _ _ _ _ _ (FrC.stays hf hC6) HTY6.o);have HMK3:Ud (Marks W1.heap.size ({ target:=.collected D,args:=#[] } :: ds5) W):=Ph (Marks.cons HMK.o (by have:=HF.o.size;omega) Yo hd (fun k o hk ho=>FrC.others hf hC6 k o ((HBB.o.block k (zO hk)).trans hk) ho));have hws3:=hf.size;clear hj hyb hf hd hC6;gi_wp2
      go_wp2
      refine Handed.intro 1 Yo (hJJ2 _ _ _ ⟨1,1,_,_,_,_,_,_,_,_,_,_,_,_,_,Yo,rfl,rfl,HMK3,?_,HF3,HYB3,HTY3,Yo⟩);simpa using HJ3
    ·have hjk:J (m+yE (L.take j)+(1+kC y.exprs)+yE y.thn) w5:=by simpa using HJ5.o
     obtain rfl:kI=1:=Yo;clear hkI;have HJK:=Ph hjk;clear hjk HJ5;have ix:∀ w,(Instr.index 188 (.agg #[.slice qA qn qc,.slice rA rn rc]) (uI 1)).run prog w=.ok (.slice rA rn rc) w:=fun _=>Yk;go_upto_region 8 with fail
     clear ix;go_wp2_with fail
     refine(qO3 rA rn rc w5).mono ?_;rintro e W6 ⟨rfl,rfl⟩;go_wp2_with fail
     have heb:=Ph (Bk.new w5 34 #[.slice rA rn rc]);have hBb:Below w5.heap.size w5 (w5.alloc (.cells #[.slice rA rn rc] 34)):=zG (lB _ _) _;have hzb:(w5.alloc (.cells #[.slice rA rn rc] 34)).heap.size=w5.heap.size+1:=lO _ _;generalize (w5.alloc _)=W6 at heb hBb hzb ⊢;have HTZ:Ud (StsP (fun _=>True) W6 y.els ⟨rA,rn,rc⟩):=Ph (HTY.o.el.stay (Stays.below hBb));have HTY6:=Ph (itS.stay _ _ _ _ _ (Stays.below hBb) HTY.o);have HYB6:=Ph (zD HYB.o hBb);have HJ6:Ud (J (m+yE (L.take j)+(1+kC y.exprs)+yE y.thn) W6):=Ph (HJB.o _ _ _ HJK.o (hBb.mono Yo));have HF6:Ud (FrC c W1 W6):=Ph (HF.o.trans (Fr.of_below hBb));have HBB:=Ph hBb;obtain⟨eb,heb'⟩:∃ b,w5.heap.size=b:=⟨_,rfl⟩;rw [heb']at heb hzb hz5 ⊢;have hN5:yE y.els<N:=Yo;have hm6:m+yE (L.take j)+(1+kC y.exprs)+yE y.thn+yE y.els≤M:=Yo;clear hBb;refine(wpIn_wide (n:=6)).1 ?_;refine zF9 (α:=Sx×(SV×SV×SV)) (encs:=fun p=>#[.agg (qD3 p.1 p.2)]) rfl rfl Yo rfl trivial (enters_of func115 Yk rfl) (fun _=>rfl) (fun q=>q=c) (fun k hk=>Yo) (fun p=>1+kC p.1.exprs) (fun p W=>SxP (fun _=>True) W p.1 p.2) M (m+yE (L.take j)+(1+kC y.exprs)+yE y.thn) (yE y.els) (fun k W=>J k W∧Bk W yb 187 #[.func (.yield l) #[] #[]]) ?hI ⟨HJ6.o,HYB6.o⟩ ?hseq ?hround ?hdone
     case hI=>exact fun k W W' h hb=>⟨HJB.o _ _ _ h.1 (hb.mono Yo),(hb.block _ Yo).trans h.2⟩
     case hseq =>
      intro l' J' W' hW hb hJI hJb hY' h0;exact IH.o _ hN5 y.els ⟨rA,rn,rc⟩ 5 l' eb c _ M W'.heap.size J' W' (lF _) Yo (Ph (HTZ.o.stay (Stays.below' hb))) (Ph ((hb.block _ Yo).trans heb.o)) Yo (lF _) hm6 hM6 (Ph fun k W hj=>HJC.o k W (hJI k W hj).1) (Ph hJb) (Ph fun k z V W hj hs hk ht q=>hY' k (z,V) W q hj hs ht hk) (Ph h0)
     case hround =>
      intro l' k p W hi hl hr hg hk;obtain⟨z,⟨zpA,zpn,zpc⟩,⟨zqA,zqn,zqc⟩,⟨zrA,zrn,zrc⟩⟩:=p;obtain⟨hj,hyb⟩:=hi;obtain⟨r0,hr0⟩:=hr;have hlW:l'<W.heap.size:=zO hr0;simp only [qD3];gi_wp2
      refine⟨Fr.of_below (zG (lB _ _) _),fun rr=>?_⟩;have hal:Below W.heap.size W (W.alloc (.cells #[uB z.kind,uR z.name,.slice zpA zpn zpc,uI z.bound,.slice zqA zqn zqc,.slice zrA zrn zrc] 108)):=zG (lB _ _) _;have hr6:(W.alloc (.cells #[uB z.kind,uR z.name,.slice zpA zpn zpc,uI z.bound,.slice zqA zqn zqc,.slice zrA zrn zrc] 108)).heap[l']?=some (.loop r0):=(hal.block l' hlW).trans hr0;have hsz6:((W.alloc (.cells #[uB z.kind,uR z.name,.slice zpA zpn zpc,uI z.bound,.slice zqA zqn zqc,.slice zrA zrn zrc] 108)).putObj l' (.loop rr)).heap.size=W.heap.size+1:=by simp [World.putObj]
      have HZ:Ud (Bk ((W.alloc (.cells #[uB z.kind,uR z.name,.slice zpA zpn zpc,uI z.bound,.slice zqA zqn zqc,.slice zrA zrn zrc] 108)).putObj l' (.loop rr)) W.heap.size 108 #[uB z.kind,uR z.name,.slice zpA zpn zpc,uI z.bound,.slice zqA zqn zqc,.slice zrA zrn zrc]):=Ph (xJ (Bk.new _ _ _) Yo);have HYB7:Ud (Bk ((W.alloc (.cells #[uB z.kind,uR z.name,.slice zpA zpn zpc,uI z.bound,.slice zqA zqn zqc,.slice zrA zrn zrc] 108)).putObj l' (.loop rr)) yb 187 #[.func (.yield l) #[] #[]]):=Ph (xJ (zD hyb hal) Yo);have hj6:J k ((W.alloc (.cells #[uB z.kind,uR z.name,.slice zpA zpn zpc,uI z.bound,.slice zqA zqn zqc,.slice zrA zrn zrc] 108)).putObj l' (.loop rr)):=HJB.o _ _ _ hj ((hal.mono Yo).trans (yL Yo));have ht6:SxP (fun _=>True) ((W.alloc (.cells #[uB z.kind,uR z.name,.slice zpA zpn zpc,uI z.bound,.slice zqA zqn zqc,.slice zrA zrn zrc] 108)).putObj l' (.loop rr)) z (⟨zpA,zpn,zpc⟩,⟨zqA,zqn,zqc⟩,⟨zrA,zrn,zrc⟩):=itS.stay _ _ _ _ _ (xN hr6) (itS.stay _ _ _ _ _ (Stays.below hal) hg);obtain⟨fn,tmps,assign,body,hy,hRn⟩:=HY.o k z (⟨zpA,zpn,zpc⟩,⟨zqA,zqn,zqc⟩,⟨zrA,zrn,zrc⟩) _ hj6 Yo hk ht6 3;have HRn:=Ph hRn;dsimp only [qD3]at hy;clear hRn hal hr6 hr0 hyb hj6 ht6 hj hg;generalize ((W.alloc (.cells #[uB z.kind,uR z.name,.slice zpA zpn zpc,uI z.bound,.slice zqA zqn zqc,.slice zrA zrn zrc] 108)).putObj l' (.loop rr))=U at *;generalize W.heap.size=zb at *;have z0:U.cell? ⟨zb,0,none⟩=some (uB z.kind):=HZ.o.cell 0;have z1:U.cell? ⟨zb,1,none⟩=some (uR z.name):=HZ.o.cell 1;have z2:U.cell? ⟨zb,2,none⟩=some (.slice zpA zpn zpc):=HZ.o.cell 2;have z3:U.cell? ⟨zb,3,none⟩=some (uI z.bound):=HZ.o.cell 3;have z4:U.cell? ⟨zb,4,none⟩=some (.slice zqA zqn zqc):=HZ.o.cell 4;have z5:U.cell? ⟨zb,5,none⟩=some (.slice zrA zrn zrc):=HZ.o.cell 5;have y0:U.cell? ⟨yb,0,none⟩=some (.func (.yield l) #[] #[]):=HYB7.o.cell 0;gi_wp2
      refine RoundIn.mono (show RoundIn (Fence.wide.inRound l') 3 _ _ _ _ _ _ _ _ from HRn.o) ?_;clear hy HRn;rintro e W3 ⟨rfl,hJ3,hF3⟩;have HJ3:=Ph hJ3;have HF3:=Ph hF3;clear hJ3 hF3 z0 z1 z2 z3 z4 z5 y0;gi_wp2
      exact⟨⟨HJ3.o,HYB7.o.fr HF3.o Yo⟩,HF3.o⟩
     case hdone =>
      intro D W hD hi hf hd;obtain⟨hj,hyb⟩:=hi;have HJ3:=Ph hj;have HYB3:=Ph hyb;have hC6:=zD hcs5 HBB.o;have HF3:Ud (FrC c W1 W):=Ph (HF6.o.trans hf);have HTY3:=Ph (itS.stay _ _ _ _ _ (FrC.stays hf hC6) HTY6.o);have HMK3:Ud (Marks W1.heap.size ({ target:=.collected D,args:=#[] } :: ds5) W):=Ph (Marks.cons HMK.o (by have:=HF.o.size;omega) Yo hd (fun k o hk ho=>FrC.others hf hC6 k o ((HBB.o.block k (zO hk)).trans hk) ho));have hws3:=hf.size;clear hj hyb hf hd hC6;gi_wp2
      go_wp2
      refine Handed.intro 0 Yo (hJJ2 _ _ _ ⟨2,2,_,_,_,_,_,_,_,_,_,_,_,_,_,Yo,rfl,rfl,HMK3,?_,HF3,HYB3,HTY3,Yo⟩);simpa using HJ3
    ·have hjk:J (m+yE (L.take j)+(1+kC y.exprs)+yE y.thn+yE y.els) w5:=by simpa using HJ5.o
     obtain rfl:kI=2:=Yo;clear hkI;have HJ3:Ud (J (m+yE (L.take (j+1))) w5):=Ph (by rw [(qO4 L j y HX.o).2,qJ7];have e:m+(yE (L.take j)+(1+kC y.exprs+yE y.thn+yE y.els))=m+yE (L.take j)+(1+kC y.exprs)+yE y.thn+yE y.els:=Yo;rw [e];exact hjk);have hwj:IntKind.i64.wrap ((j:Int)+1)=((j+1:Nat):Int):=by rw [lL];omega
     clear hjk HJ5;go_wp2
     refine Handed.intro (g-1) Yo (hJJ _ _ _ ⟨j+1,_,_,_,_,_,_,_,_,_,_,_,_,_,_,_,_,_,_,_,_,_,_,_,_,_,_,_,_,Yo,rfl,HMK,HJ3,HF,HYB⟩)
   ·obtain rfl:j=Sn:=by omega
    have e1:decide ((j:Int)<(j:Int))=false:=Ym;go_wp2
    obtain⟨Ds,rfl,hn,ha⟩:=HMK.o;refine zB9 (b0:=W1.heap.size) Ds w hn ha fun w' hb=>⟨_,results_none rfl _ _ _,⟨_,rfl⟩,?_,HF.o.then (G:=fun k=>W1.heap.size≤k) ⟨hb.os,hb.tape,hb.output,hb.size,fun i _ hi=>hb.block i Yo⟩ fun i h1 h2=>Yo⟩;have h1:=HJB.o _ _ _ HJ.o (hb.mono hb0);have h2:=HL.o;rw [cJ Yo]at h1;exact h1
 termination_by N=>N
end
section
open Go.RowKit Go.PlainAid Go.Shelf
attribute [local go_sem] Oper.semAt_some
theorem RowX.get {P:Nat→Prop} {w:World} {l:List Ex} {S:SV} (h:RowX P w l S) {i:Nat} (hi:i<S.n) :
 ∃ b off y v,S.A=some ⟨b,off,none⟩∧l[i]?=some y∧TX P w y v∧b<w.heap.size∧∀ j u,j<6→(qX y v)[j]?=some u→w.cell? ⟨b,off+(i*6+j),none⟩=some u:=by
 cases h with
 | mk vs hl hn hP rd all =>
   obtain⟨b,off,p,hA,hp,hb,hcl⟩:=rd.rd.flat (f:=fun p:Ex×SV=>qX p.1 p.2) (m:=6) (fun p=>rfl) Yo (L:=l.zip vs) (i:=i) (by rw [List.length_zip,hl,Nat.min_self,←hn];exact hi);obtain⟨y,v⟩:=p;obtain⟨h1,h2⟩:=List.getElem?_zip_eq_some.1 hp;exact⟨b,off,y,v,hA,h1,all i y v h1 h2,hb,hcl⟩
theorem jK3 (k:Nat) (h:k≤20000) (w:World):Calls prog 44 #[uI k] w fun e w'=>e=.returned (.bool true)∧w=w':=by
 have e1:decide ((k:Int)≤20000)=true:=Yp;go_enter func44,ntmps44
 go_wp2
 go_ret;exact⟨rfl,rfl⟩
theorem zW2 (L:List Sx) (S:SV) (k:Nat) (w:World) (HT:Ud (StsP (fun _=>True) w L S)) (hk:k+yE L≤20000) :
 Calls prog 45 #[.slice S.A S.n S.c,uI k] w fun e w'=>e=.returned (uI ((k+yE L:Nat):Int))∧Below w.heap.size w w':=by
 refine(callsIn_wide (n:=6)).1 ?_;refine callsIn_of_wp_marks func45 rfl trivial ?_ rfl;simp only [ntmps45,List.size_toArray,Yc,Yn,Nat.reduceAdd,Nat.reduceSub,Array.replicate_succ,Array.replicate_zero,List.push_toArray,List.append_toArray,cF,lR];refine wpIn_wide.2 ?_;go_wp2
 have HK1:Ud (Bk (w.alloc (.cells #[uI k] 3)) w.heap.size 3 #[uI k]):=Ph (Bk.new _ _ _);have HB1:Ud (Below w.heap.size w (w.alloc (.cells #[uI k] 3))):=Ph (zG (lB _ _) _);have hz1:(w.alloc (.cells #[uI k] 3)).heap.size=w.heap.size+1:=by rw [lO]
 generalize (w.alloc _)=W1 at *;obtain⟨cb,heb⟩:∃ b,w.heap.size=b:=⟨_,rfl⟩;rw [heb]at HK1 HB1 hz1 ⊢;have HT1:Ud (StsP (fun _=>True) W1 L S):=Ph (HT.o.stay (Stays.below (heb▸HB1.o)));go_step3
 go_wp2
 go_step3
 go_wp2_with fail
 refine(qO3 S.A S.n S.c W1).mono ?_;rintro e W2 ⟨rfl,rfl⟩;go_wp2_with fail
 have hBb:Below W1.heap.size W1 (W1.alloc (.cells #[.slice S.A S.n S.c] 34)):=zG (lB _ _) _;have HE2:Ud (Bk (W1.alloc (.cells #[.slice S.A S.n S.c] 34)) W1.heap.size 34 #[.slice S.A S.n S.c]):=Ph (Bk.new _ _ _);have hz2:(W1.alloc (.cells #[.slice S.A S.n S.c] 34)).heap.size=cb+2:=by rw [lO,hz1]
 generalize (W1.alloc _)=W2 at *;rw [hz1]at HE2 hBb;have HK2:=Ph (HK1.o.below hBb Yo);have HT2:Ud (StsP (fun _=>True) W2 L S):=Ph (HT1.o.stay (Stays.below' hBb));have HB2:Ud (Below cb w W2):=Ph (HB1.o.trans (hBb.mono Yo));clear hBb HK1 HT1 HB1;refine(wpIn_wide (n:=6)).1 ?_;refine zF9 (α:=Sx×(SV×SV×SV)) (encs:=fun p=>#[.agg (qD3 p.1 p.2)]) rfl rfl Yo rfl trivial (enters_of func115 Yk rfl) (fun _=>rfl) (fun q=>q=cb) (fun k hk=>Yo) (fun p=>1+kC p.1.exprs) (fun p W=>SxP (fun _=>True) W p.1 p.2) (k+yE L) k (yE L) (fun m W=>Bk W cb 3 #[uI m]) ?hI HK2.o ?hseq ?hround ?hdone
 case hI=>exact fun m W W' h hb=>h.below hb Yo
 case hseq =>
  intro l' J' W' hW hb hJI hJb hY' h0;exact qZ4 (yE L) L S 5 l' (cb+1) cb k (k+yE L) W'.heap.size J' W' (lF _) Yo (Ph (HT2.o.stay (Stays.below' hb))) (Ph (HE2.o.below hb Yo)) Yo (lF _) (lF _) Yo (Ph fun k W hj=>⟨_,hJI k W hj⟩) (Ph hJb) (Ph fun k z V W hj hs hk ht q=>hY' k (z,V) W q hj hs ht hk) (Ph h0)
 case hround =>
  intro l' m p W hi hl hr hg hm;obtain⟨z,⟨zpA,zpn,zpc⟩,⟨zqA,zqn,zqc⟩,⟨zrA,zrn,zrc⟩⟩:=p;obtain⟨r0,hr0⟩:=hr;have hlW:l'<W.heap.size:=zO hr0;have hel:cb<l':=Yo;clear HT2 HK2 HE2 HB2;simp only [qD3];gi_wp2
  refine⟨Fr.of_below (zG (lB _ _) _),fun rr=>?_⟩;have hal:Below W.heap.size W (W.alloc (.cells #[uB z.kind,uR z.name,.slice zpA zpn zpc,uI z.bound,.slice zqA zqn zqc,.slice zrA zrn zrc] 108)):=zG (lB _ _) _;have hr6:(W.alloc (.cells #[uB z.kind,uR z.name,.slice zpA zpn zpc,uI z.bound,.slice zqA zqn zqc,.slice zrA zrn zrc] 108)).heap[l']?=some (.loop r0):=(hal.block l' hlW).trans hr0;have hsz6:((W.alloc (.cells #[uB z.kind,uR z.name,.slice zpA zpn zpc,uI z.bound,.slice zqA zqn zqc,.slice zrA zrn zrc] 108)).putObj l' (.loop rr)).heap.size=W.heap.size+1:=by simp [World.putObj]
  have HZ:Ud (Bk ((W.alloc (.cells #[uB z.kind,uR z.name,.slice zpA zpn zpc,uI z.bound,.slice zqA zqn zqc,.slice zrA zrn zrc] 108)).putObj l' (.loop rr)) W.heap.size 108 #[uB z.kind,uR z.name,.slice zpA zpn zpc,uI z.bound,.slice zqA zqn zqc,.slice zrA zrn zrc]):=Ph (xJ (Bk.new _ _ _) Yo);have HU:Ud (Bk ((W.alloc (.cells #[uB z.kind,uR z.name,.slice zpA zpn zpc,uI z.bound,.slice zqA zqn zqc,.slice zrA zrn zrc] 108)).putObj l' (.loop rr)) cb 3 #[uI m]):=Ph (xJ (zD hi hal) Yo);have HTZ:Ud (RowX (fun _=>True) ((W.alloc (.cells #[uB z.kind,uR z.name,.slice zpA zpn zpc,uI z.bound,.slice zqA zqn zqc,.slice zrA zrn zrc] 108)).putObj l' (.loop rr)) z.exprs ⟨zpA,zpn,zpc⟩):=Ph (itS.stay _ _ _ _ _ (xN hr6) (itS.stay _ _ _ _ _ (Stays.below hal) hg)).ex;clear hal hr6 hr0 hg hi;generalize ((W.alloc (.cells #[uB z.kind,uR z.name,.slice zpA zpn zpc,uI z.bound,.slice zqA zqn zqc,.slice zrA zrn zrc] 108)).putObj l' (.loop rr))=U at *;generalize W.heap.size=zb at *;have x0:U.cell? ⟨cb,0,none⟩=some (uI m):=HU.o.cell 0;have f0:U.frozen? ⟨cb,0,none⟩=false:=HU.o.frozen 0;have hwj:IntKind.i64.wrap ((m:Int)+1)=((m+1:Nat):Int):=by rw [lL];omega
  have z2:U.cell? ⟨zb,2,none⟩=some (.slice zpA zpn zpc):=HZ.o.cell 2;have hne:zb≠cb:=Yo;have hlU:cb<U.heap.size:=HU.o.lt;have HU1:Ud (Bk (U.setCell ⟨cb,0,none⟩ (uI ((m:Int)+1))) cb 3 #[uI ((m+1:Nat):Int)]):=Ph (HU.o.put 0 _);have HF1:Ud (FrC cb U (U.setCell ⟨cb,0,none⟩ (uI ((m:Int)+1)))):=Ph (Fr.setCell (F:=fun q=>q=cb) (p:=⟨cb,0,none⟩) (Fr.refl _ U) (.inl rfl) _);have hszX:zpn≤20000:=by have h1:=HTZ.o.len;have h2:=zO8 z.exprs;(try dsimp only at h1);omega
  gi_wp2
  clear x0 f0 z2 hwj;gi_loopg [16] zpn (fun g v16 wr=>∃ i:Nat,g+i=zpn∧v16=uI i∧Ud (Bk wr cb 3 #[uI ((m+1+kC (z.exprs.take i):Nat):Int)])∧Ud (FrC cb U wr))
  case atStart=>exact⟨0,Yo,rfl,by simpa [kC]using HU1,HF1⟩
  case round =>
   obtain⟨i,hgi,rfl,HK,HF⟩:=hrel;have hFs:cb<wr.heap.size:=HK.o.lt;have HTw:Ud (RowX (fun _=>True) wr z.exprs ⟨zpA,zpn,zpc⟩):=Ph (HTZ.o.stay itX qW (FrC.stays HF.o HU.o));by_cases hlt:i<zpn
   ·have e1:decide ((i:Int)<(zpn:Int))=true:=by simp;omega
    have hji:(i:Int)<(zpn:Int):=Yo;obtain⟨b,off,y,v,hA,hx,hty,hb,hc⟩:=RowX.get HTw.o (i:=i) hlt;obtain⟨vA,vn,vc⟩:=v;(try dsimp only at hA);subst hA;have c0:wr.cell? ⟨b,off+i*6,none⟩=some (uB y.kind):=hc 0 _ Yo rfl;have c1:wr.cell? ⟨b,off+i*6+1,none⟩=some (uB y.op):=hc 1 _ Yo rfl;have c2:wr.cell? ⟨b,off+i*6+2,none⟩=some (uW y.value):=hc 2 _ Yo rfl;have c3:wr.cell? ⟨b,off+i*6+3,none⟩=some (uI y.width):=hc 3 _ Yo rfl;have c4:wr.cell? ⟨b,off+i*6+4,none⟩=some (uR y.name):=hc 4 _ Yo rfl;have c5:wr.cell? ⟨b,off+i*6+5,none⟩=some (.slice vA vn vc):=hc 5 _ Yo rfl;have hsm:=vE z.exprs i y hx;have HTY:=Ph hty;clear hx hc hty;gi_upto_region 7 with fail
    have hyn:=Ph (Bk.new wr 31 #[uB y.kind,uB y.op,uW y.value,uI y.width,uR y.name,.slice vA vn vc]);have hBa:Below wr.heap.size wr (wr.alloc (.cells #[uB y.kind,uB y.op,uW y.value,uI y.width,uR y.name,.slice vA vn vc] 31)):=zG (lB _ _) _;have hza:(wr.alloc (.cells #[uB y.kind,uB y.op,uW y.value,uI y.width,uR y.name,.slice vA vn vc] 31)).heap.size=wr.heap.size+1:=lO _ _;generalize (wr.alloc _)=W4 at hyn hBa hza ⊢;obtain⟨xb,hxb⟩:∃ b,wr.heap.size=b:=⟨_,rfl⟩;rw [hxb]at hyn ⊢;have HK4:=Ph (zD HK.o hBa);have HC:=Ph (qU3 y ⟨vA,vn,vc⟩ (m+1+kC (z.exprs.take i)) W4 (Ph (HTY.o.bel hBa)) Yo);dsimp only [qD5]at HC;have HF4:Ud (FrC cb U W4):=Ph (HF.o.trans (Fr.of_below hBa));have x0:W4.cell? ⟨xb,0,none⟩=some (uB y.kind):=hyn.o.cell 0;have x1:W4.cell? ⟨xb,1,none⟩=some (uB y.op):=hyn.o.cell 1;have x2:W4.cell? ⟨xb,2,none⟩=some (uW y.value):=hyn.o.cell 2;have x3:W4.cell? ⟨xb,3,none⟩=some (uI y.width):=hyn.o.cell 3;have x4:W4.cell? ⟨xb,4,none⟩=some (uR y.name):=hyn.o.cell 4;have x5:W4.cell? ⟨xb,5,none⟩=some (.slice vA vn vc):=hyn.o.cell 5;have k0:W4.cell? ⟨cb,0,none⟩=some (uI ((m+1+kC (z.exprs.take i):Nat):Int)):=HK4.o.cell 0;generalize hq:m+1+kC (z.exprs.take i)=q at *;clear c0 c1 c2 c3 c4 c5;have hwj:IntKind.i64.wrap ((i:Int)+1)=((i+1:Nat):Int):=by rw [lL];omega
    gi_wp2_with (refine⟨trivial,?_⟩;gi_at_call 52;refine(CallsIn.inRound l' (callsIn_wide.2 HC.o)).mono ?_;rintro e W5 ⟨rfl,hb5⟩;have HB5:=Ph hb5;have HK5:=Ph (zD HK4.o hb5);clear hb5 k0;have f5:W5.frozen? ⟨cb,0,none⟩=false:=HK5.o.frozen 0;have k5:W5.cell? ⟨cb,0,none⟩=some (uI q):=HK5.o.cell 0)
    have HKp:=Ph (HK5.o.put 0 (uI ((q:Int)+(szX y:Int))));have HFp:Ud (FrC cb U (W5.setCell ⟨cb,0,none⟩ (uI ((q:Int)+(szX y:Int))))):=Ph (Fr.setCell (F:=fun q=>q=cb) (p:=⟨cb,0,none⟩) (HF4.o.trans (Fr.of_below HB5.o)) (.inl rfl) _);clear x0 x1 x2 x3 x4 x5 k5 f5;have hz4:((q+szX y:Nat):Int)=(q:Int)+(szX y:Int):=Yo;gi_roundg (gk-1)
    case measure=>omega
    case rel =>
     refine⟨i+1,Yo,rfl,?_,HFp⟩;rw [hsm.2,←Nat.add_assoc,hq,hz4];exact HKp
   ·obtain rfl:i=zpn:=by omega
    have e1:decide ((i:Int)<(i:Int))=false:=Ym;have hl:z.exprs.take i=z.exprs:=cJ (by have:=HTw.o.len;(try dsimp only at this);omega);rw [hl]at HK;have k0:wr.cell? ⟨cb,0,none⟩=some (uI ((m+1+kC z.exprs:Nat):Int)):=HK.o.cell 0;have e2:decide ((20000:Int)<((m+1+kC z.exprs:Nat):Int))=false:=Yp;have e:((m+1+kC z.exprs:Nat):Int)=(m:Int)+(1+(kC z.exprs:Int)):=Yo;have HK9:=HK;rw [e]at HK9;gi_wp2
    exact⟨HK9.o,HF.o⟩
 case hdone =>
  intro D W hD hi hf hd;have HI:=Ph hi;have HD:=Ph hd;have HBW:Ud (Below w.heap.size w W):=Ph (by rw [heb];exact HB2.o.trans (hf.below cb Yo (fun q hq e=>Yo)));have x0:W.cell? ⟨cb,0,none⟩=some (uI ((k+yE L:Nat):Int)):=hi.cell 0;clear hi hf hd HT2 HK2 HE2 HB2;gi_wp2
  go_wp2
  rw [Exit.noGoto_ret];exact⟨Ym,.inl ⟨D,_,rfl,run_takeDeferred HD.o,⟨_,results_tmp rfl _ _ _,rfl,HBW.o.trans (yL Yo)⟩⟩⟩
end
section
open Go.RowKit Go.PlainAid
theorem qJ2 {y:Ex}:∀ {l:List Ex},y∈l→szX y≤kC l
 | x :: l,h=>by
   simp only [kC];rcases lU.1 h with rfl | h
   ·omega
   ·have:=qJ2 h;omega
theorem vC {y:Sx}:∀ {l:List Sx},y∈l→szS y≤yE l
 | x :: l,h=>by
   simp only [yE];rcases lU.1 h with rfl | h
   ·omega
   ·have:=vC h;omega
theorem TX.row {P:Nat→Prop} {w:World} {x:Ex} {S:SV} (h:TX P w x S):RowX P w x.subs S:=by
 cases h with
 | mk _ _ vs ok hl hn hP rd all=>exact .mk _ _ vs hl hn hP rd all
theorem kY6 (l:List Ex) (S U:SV) (w:World) (hS:Ud (RowX (fun _=>True) w l S)) (hU:Ud (RowX (fun _=>True) w l U)) (hl9:l.length≤1000000000)
 (IH:Ud (∀ y,y∈l→∀ (V V':SV) (W:World),Ud (TX (fun _=>True) W y V)→Ud (TX (fun _=>True) W y V')→Calls prog 65 #[.agg (qD5 y V),.agg (qD5 y V')] W fun e w'=>e=.returned (.bool true)∧Below W.heap.size W w')) :
 Calls prog 91 #[.slice S.A S.n S.c,.slice U.A U.n U.c,uF 65] w fun e w'=>e=.returned (.bool true)∧Below w.heap.size w w':=by
 obtain⟨SA,n,Sc⟩:=S;obtain⟨UA,m,Uc⟩:=U;have HL:Ud (n=l.length):=Ph hS.o.len;have HM:Ud (m=l.length):=Ph hU.o.len;obtain rfl:n=m:=by rw [HL.o,HM.o]
 have hn1:n≤1000000000:=by have:=HL.o;omega
 go_enter func91,ntmps91
 go_wp2_with fail
 go_loopw [17] (fun v17 wr=>∃ j:Nat,j≤n∧v17=uI j∧Ud (Ue w wr)) (fun v17 _=>n-(intOf v17).toNat)
 case atStart=>exact⟨0,lV _,rfl,Ph (lB _ _)⟩
 case round =>
  obtain⟨j,hj,rfl,HB⟩:=hrel;by_cases hlt:j<n
  ·have e1:decide ((j:Int)<(n:Int))=true:=by simp;omega
   have hji:(j:Int)<(n:Int):=Yo;have hS2:=hS.o.stay itX qW (Stays.below HB.o);have hU2:=hU.o.stay itX qW (Stays.below HB.o);obtain⟨b,off,y,v,hA,hx,hty,hb,hc⟩:=RowX.get hS2 (i:=j) hlt;obtain⟨b',off',y',u,hA',hx',hty',hb',hc'⟩:=RowX.get hU2 (i:=j) hlt;obtain rfl:y=y':=by rw [hx]at hx';injection hx'
   obtain⟨vA,vn,vc⟩:=v;obtain⟨uA,un,uc⟩:=u;(try dsimp only at hA hA');subst hA hA';have c0:wr.cell? ⟨b,off+j*6,none⟩=some (uB y.kind):=hc 0 _ Yo rfl;have c1:wr.cell? ⟨b,off+j*6+1,none⟩=some (uB y.op):=hc 1 _ Yo rfl;have c2:wr.cell? ⟨b,off+j*6+2,none⟩=some (uW y.value):=hc 2 _ Yo rfl;have c3:wr.cell? ⟨b,off+j*6+3,none⟩=some (uI y.width):=hc 3 _ Yo rfl;have c4:wr.cell? ⟨b,off+j*6+4,none⟩=some (uR y.name):=hc 4 _ Yo rfl;have c5:wr.cell? ⟨b,off+j*6+5,none⟩=some (.slice vA vn vc):=hc 5 _ Yo rfl;have HI:=Ph (IH.o y (cD hx) ⟨vA,vn,vc⟩ ⟨uA,un,uc⟩);have HT1:=Ph hty;have HT2:=Ph hty';have HCU:Ud (∀ W,Ue wr W→W.cell? ⟨b',off'+j*6,none⟩=some (uB y.kind)∧W.cell? ⟨b',off'+j*6+1,none⟩=some (uB y.op)∧W.cell? ⟨b',off'+j*6+2,none⟩=some (uW y.value)∧W.cell? ⟨b',off'+j*6+3,none⟩=some (uI y.width)∧W.cell? ⟨b',off'+j*6+4,none⟩=some (uR y.name)∧W.cell? ⟨b',off'+j*6+5,none⟩=some (.slice uA un uc)):=Ph fun W h=>⟨(h.cell (p:=⟨b',off'+j*6,none⟩) hb').trans (hc' 0 _ Yo rfl),(h.cell (p:=⟨b',off'+j*6+1,none⟩) hb').trans (hc' 1 _ Yo rfl),(h.cell (p:=⟨b',off'+j*6+2,none⟩) hb').trans (hc' 2 _ Yo rfl),(h.cell (p:=⟨b',off'+j*6+3,none⟩) hb').trans (hc' 3 _ Yo rfl),(h.cell (p:=⟨b',off'+j*6+4,none⟩) hb').trans (hc' 4 _ Yo rfl),(h.cell (p:=⟨b',off'+j*6+5,none⟩) hb').trans (hc' 5 _ Yo rfl)⟩;clear hx hx' hc hc' hty hty' hS2 hU2;go_upto_region 6 with fail
   have hy1:=Ph (Bk.new wr 31 #[uB y.kind,uB y.op,uW y.value,uI y.width,uR y.name,.slice vA vn vc]);have hBa:Ue wr (wr.alloc (.cells #[uB y.kind,uB y.op,uW y.value,uI y.width,uR y.name,.slice vA vn vc] 31)):=zG (lB _ _) _;have hza:(wr.alloc (.cells #[uB y.kind,uB y.op,uW y.value,uI y.width,uR y.name,.slice vA vn vc] 31)).heap.size=wr.heap.size+1:=lO _ _;obtain⟨d0,d1,d2,d3,d4,d5⟩:=HCU.o _ hBa;generalize (wr.alloc _)=W4 at hy1 hBa hza d0 d1 d2 d3 d4 d5 ⊢;obtain⟨xb,hxb⟩:∃ b,wr.heap.size=b:=⟨_,rfl⟩;rw [hxb]at hy1 ⊢;clear c0 c1 c2 c3 c4 c5;go_upto_region 7 with fail
   have hy2:=Ph (Bk.new W4 31 #[uB y.kind,uB y.op,uW y.value,uI y.width,uR y.name,.slice uA un uc]);have hBb:Ue W4 (W4.alloc (.cells #[uB y.kind,uB y.op,uW y.value,uI y.width,uR y.name,.slice uA un uc] 31)):=zG (lB _ _) _;have hy3:=Ph (zD hy1.o hBb);generalize (W4.alloc _)=W5 at hy2 hBb hy3 ⊢;have hze:W4.heap.size=xb+1:=by rw [hza,hxb]
   have hBab:Ue wr W5:=hBa.trans (hBb.mono Yo);try rw [hze]at hy2
   try rw [hze]
   have x0:W5.cell? ⟨xb,0,none⟩=some (uB y.kind):=hy3.o.cell 0;have x1:W5.cell? ⟨xb,1,none⟩=some (uB y.op):=hy3.o.cell 1;have x2:W5.cell? ⟨xb,2,none⟩=some (uW y.value):=hy3.o.cell 2;have x3:W5.cell? ⟨xb,3,none⟩=some (uI y.width):=hy3.o.cell 3;have x4:W5.cell? ⟨xb,4,none⟩=some (uR y.name):=hy3.o.cell 4;have x5:W5.cell? ⟨xb,5,none⟩=some (.slice vA vn vc):=hy3.o.cell 5;have z0:W5.cell? ⟨xb+1,0,none⟩=some (uB y.kind):=hy2.o.cell 0;have z1:W5.cell? ⟨xb+1,1,none⟩=some (uB y.op):=hy2.o.cell 1;have z2:W5.cell? ⟨xb+1,2,none⟩=some (uW y.value):=hy2.o.cell 2;have z3:W5.cell? ⟨xb+1,3,none⟩=some (uI y.width):=hy2.o.cell 3;have z4:W5.cell? ⟨xb+1,4,none⟩=some (uR y.name):=hy2.o.cell 4;have z5:W5.cell? ⟨xb+1,5,none⟩=some (.slice uA un uc):=hy2.o.cell 5;have HCC:=Ph (HI.o W5 (Ph (HT1.o.stay (Stays.below hBab))) (Ph (HT2.o.stay (Stays.below hBab))));dsimp only [qD5]at HCC;have HBB:=Ph hBab;clear d0 d1 d2 d3 d4 d5 hBb hBa hBab hza;have hwj:IntKind.i64.wrap ((j:Int)+1)=((j+1:Nat):Int):=by rw [lL];omega
   go_wp2_with fail
   refine HCC.o.mono ?_;rintro e W6 ⟨rfl,hb6⟩;have HB6:Ud (Ue w W6):=Ph (HB.o.trans ((zU HBB.o hb6).mono HB.o.size));clear x0 x1 x2 x3 x4 x5 z0 z1 z2 z3 z4 z5 hb6;go_wp2_with fail
   go_roundw
   case rel=>exact⟨j+1,Yo,by go_num,HB6⟩
   case measure=>simp [intOf];omega
  ·obtain rfl:j=n:=by omega
   have e1:decide ((j:Int)<(j:Int))=false:=Ym;go_wp2_with fail
   go_ret;exact⟨rfl,HB.o⟩
theorem kV8 (l:List Sx) (S U:SV) (w:World) (hS:Ud (StsP (fun _=>True) w l S)) (hU:Ud (StsP (fun _=>True) w l U)) (hl9:l.length≤1000000000)
 (IH:Ud (∀ y,y∈l→∀ (V V':SV×SV×SV) (W:World),Ud (SxP (fun _=>True) W y V)→Ud (SxP (fun _=>True) W y V')→Calls prog 47 #[.agg (qD3 y V),.agg (qD3 y V')] W fun e w'=>e=.returned (.bool true)∧Below W.heap.size W w')) :
 Calls prog 46 #[.slice S.A S.n S.c,.slice U.A U.n U.c,uF 47] w fun e w'=>e=.returned (.bool true)∧Below w.heap.size w w':=by
 obtain⟨SA,n,Sc⟩:=S;obtain⟨UA,m,Uc⟩:=U;have HL:Ud (n=l.length):=Ph hS.o.len;have HM:Ud (m=l.length):=Ph hU.o.len;obtain rfl:n=m:=by rw [HL.o,HM.o]
 have hn1:n≤1000000000:=by have:=HL.o;omega
 go_enter func46,ntmps46
 go_wp2_with fail
 go_loopw [17] (fun v17 wr=>∃ j:Nat,j≤n∧v17=uI j∧Ud (Ue w wr)) (fun v17 _=>n-(intOf v17).toNat)
 case atStart=>exact⟨0,lV _,rfl,Ph (lB _ _)⟩
 case round =>
  obtain⟨j,hj,rfl,HB⟩:=hrel;by_cases hlt:j<n
  ·have e1:decide ((j:Int)<(n:Int))=true:=by simp;omega
   have hji:(j:Int)<(n:Int):=Yo;have hS2:=hS.o.stay (Stays.below HB.o);have hU2:=hU.o.stay (Stays.below HB.o);obtain⟨b,off,y,v,hA,hx,hty,hb,hc⟩:=StsP.get hS2 (i:=j) hlt;obtain⟨b',off',y',u,hA',hx',hty',hb',hc'⟩:=StsP.get hU2 (i:=j) hlt;obtain rfl:y=y':=by rw [hx]at hx';injection hx'
   obtain⟨⟨vpA,vpn,vpc⟩,⟨vqA,vqn,vqc⟩,⟨vrA,vrn,vrc⟩⟩:=v;obtain⟨⟨upA,upn,upc⟩,⟨uqA,uqn,uqc⟩,⟨urA,urn,urc⟩⟩:=u;(try dsimp only at hA hA');subst hA hA';have c0:wr.cell? ⟨b,off+j*6,none⟩=some (uB y.kind):=hc 0 _ Yo rfl;have c1:wr.cell? ⟨b,off+j*6+1,none⟩=some (uR y.name):=hc 1 _ Yo rfl;have c2:wr.cell? ⟨b,off+j*6+2,none⟩=some (.slice vpA vpn vpc):=hc 2 _ Yo rfl;have c3:wr.cell? ⟨b,off+j*6+3,none⟩=some (uI y.bound):=hc 3 _ Yo rfl;have c4:wr.cell? ⟨b,off+j*6+4,none⟩=some (.slice vqA vqn vqc):=hc 4 _ Yo rfl;have c5:wr.cell? ⟨b,off+j*6+5,none⟩=some (.slice vrA vrn vrc):=hc 5 _ Yo rfl;have HI:=Ph (IH.o y (cD hx) ⟨⟨vpA,vpn,vpc⟩,⟨vqA,vqn,vqc⟩,⟨vrA,vrn,vrc⟩⟩ ⟨⟨upA,upn,upc⟩,⟨uqA,uqn,uqc⟩,⟨urA,urn,urc⟩⟩);have HT1:=Ph hty;have HT2:=Ph hty';have HCU:Ud (∀ W,Ue wr W→W.cell? ⟨b',off'+j*6,none⟩=some (uB y.kind)∧W.cell? ⟨b',off'+j*6+1,none⟩=some (uR y.name)∧W.cell? ⟨b',off'+j*6+2,none⟩=some (.slice upA upn upc)∧W.cell? ⟨b',off'+j*6+3,none⟩=some (uI y.bound)∧W.cell? ⟨b',off'+j*6+4,none⟩=some (.slice uqA uqn uqc)∧W.cell? ⟨b',off'+j*6+5,none⟩=some (.slice urA urn urc)):=Ph fun W h=>⟨(h.cell (p:=⟨b',off'+j*6,none⟩) hb').trans (hc' 0 _ Yo rfl),(h.cell (p:=⟨b',off'+j*6+1,none⟩) hb').trans (hc' 1 _ Yo rfl),(h.cell (p:=⟨b',off'+j*6+2,none⟩) hb').trans (hc' 2 _ Yo rfl),(h.cell (p:=⟨b',off'+j*6+3,none⟩) hb').trans (hc' 3 _ Yo rfl),(h.cell (p:=⟨b',off'+j*6+4,none⟩) hb').trans (hc' 4 _ Yo rfl),(h.cell (p:=⟨b',off'+j*6+5,none⟩) hb').trans (hc' 5 _ Yo rfl)⟩;clear hx hx' hc hc' hty hty' hS2 hU2;go_upto_region 6 with fail
   have hy1:=Ph (Bk.new wr 108 #[uB y.kind,uR y.name,.slice vpA vpn vpc,uI y.bound,.slice vqA vqn vqc,.slice vrA vrn vrc]);have hBa:Ue wr (wr.alloc (.cells #[uB y.kind,uR y.name,.slice vpA vpn vpc,uI y.bound,.slice vqA vqn vqc,.slice vrA vrn vrc] 108)):=zG (lB _ _) _;have hza:(wr.alloc (.cells #[uB y.kind,uR y.name,.slice vpA vpn vpc,uI y.bound,.slice vqA vqn vqc,.slice vrA vrn vrc] 108)).heap.size=wr.heap.size+1:=lO _ _;obtain⟨d0,d1,d2,d3,d4,d5⟩:=HCU.o _ hBa;generalize (wr.alloc _)=W4 at hy1 hBa hza d0 d1 d2 d3 d4 d5 ⊢;obtain⟨xb,hxb⟩:∃ b,wr.heap.size=b:=⟨_,rfl⟩;rw [hxb]at hy1 ⊢;clear c0 c1 c2 c3 c4 c5;go_upto_region 7 with fail
   have hy2:=Ph (Bk.new W4 108 #[uB y.kind,uR y.name,.slice upA upn upc,uI y.bound,.slice uqA uqn uqc,.slice urA urn urc]);have hBb:Ue W4 (W4.alloc (.cells #[uB y.kind,uR y.name,.slice upA upn upc,uI y.bound,.slice uqA uqn uqc,.slice urA urn urc] 108)):=zG (lB _ _) _;have hy3:=Ph (zD hy1.o hBb);generalize (W4.alloc _)=W5 at hy2 hBb hy3 ⊢;have hze:W4.heap.size=xb+1:=by rw [hza,hxb]
   have hBab:Ue wr W5:=hBa.trans (hBb.mono Yo);try rw [hze]at hy2
   try rw [hze]
   have x0:W5.cell? ⟨xb,0,none⟩=some (uB y.kind):=hy3.o.cell 0;have x1:W5.cell? ⟨xb,1,none⟩=some (uR y.name):=hy3.o.cell 1;have x2:W5.cell? ⟨xb,2,none⟩=some (.slice vpA vpn vpc):=hy3.o.cell 2;have x3:W5.cell? ⟨xb,3,none⟩=some (uI y.bound):=hy3.o.cell 3;have x4:W5.cell? ⟨xb,4,none⟩=some (.slice vqA vqn vqc):=hy3.o.cell 4;have x5:W5.cell? ⟨xb,5,none⟩=some (.slice vrA vrn vrc):=hy3.o.cell 5;have z0:W5.cell? ⟨xb+1,0,none⟩=some (uB y.kind):=hy2.o.cell 0;have z1:W5.cell? ⟨xb+1,1,none⟩=some (uR y.name):=hy2.o.cell 1;have z2:W5.cell? ⟨xb+1,2,none⟩=some (.slice upA upn upc):=hy2.o.cell 2;have z3:W5.cell? ⟨xb+1,3,none⟩=some (uI y.bound):=hy2.o.cell 3;have z4:W5.cell? ⟨xb+1,4,none⟩=some (.slice uqA uqn uqc):=hy2.o.cell 4;have z5:W5.cell? ⟨xb+1,5,none⟩=some (.slice urA urn urc):=hy2.o.cell 5;have HCC:=Ph (HI.o W5 (Ph (itS.stay _ _ _ _ _ ((Stays.below hBab)) HT1.o)) (Ph (itS.stay _ _ _ _ _ ((Stays.below hBab)) HT2.o)));dsimp only [qD3]at HCC;have HBB:=Ph hBab;clear d0 d1 d2 d3 d4 d5 hBb hBa hBab hza;have hwj:IntKind.i64.wrap ((j:Int)+1)=((j+1:Nat):Int):=by rw [lL];omega
   go_wp2_with fail
   refine HCC.o.mono ?_;rintro e W6 ⟨rfl,hb6⟩;have HB6:Ud (Ue w W6):=Ph (HB.o.trans ((zU HBB.o hb6).mono HB.o.size));clear x0 x1 x2 x3 x4 x5 z0 z1 z2 z3 z4 z5 hb6;go_wp2_with fail
   go_roundw
   case rel=>exact⟨j+1,Yo,by go_num,HB6⟩
   case measure=>simp [intOf];omega
  ·obtain rfl:j=n:=by omega
   have e1:decide ((j:Int)<(j:Int))=false:=Ym;go_wp2_with fail
   go_ret;exact⟨rfl,HB.o⟩
theorem qD1:∀ (N:Nat) (x:Ex) (S U:SV) (w:World),szX x≤N→N≤1000000000→Ud (TX (fun _=>True) w x S)→Ud (TX (fun _=>True) w x U) →
 Calls prog 65 #[.agg (qD5 x S),.agg (qD5 x U)] w fun e w'=>e=.returned (.bool true)∧Below w.heap.size w w'
 | 0,x,S,U,w,hN,_,_,_=>by have:=qZ3 x;omega
 | N+1,x,S,U,w,hN,hN9,hS,hU=>by
   have IH:=Ph (qD1 N);have hsz:szX x=1+kC x.subs:=by cases x;rfl
   have HIH:Ud (∀ y,y∈x.subs→∀ (V V':SV) (W:World),Ud (TX (fun _=>True) W y V)→Ud (TX (fun _=>True) W y V')→Calls prog 65 #[.agg (qD5 y V),.agg (qD5 y V')] W fun e w'=>e=.returned (.bool true)∧Below W.heap.size W w'):=Ph fun y hy V V' W h1 h2=>IH.o y V V' W (by have:=qJ2 hy;omega) Yo h1 h2;obtain⟨SA,Sn,Sc⟩:=S;obtain⟨UA,Un,Uc⟩:=U;obtain⟨k0,hk0⟩:∃ k,(x.kind:Int)=k:=⟨_,rfl⟩;obtain⟨k1,hk1⟩:∃ k,(x.op:Int)=k:=⟨_,rfl⟩;obtain⟨k2,hk2⟩:∃ k,(x.value:Int)=k:=⟨_,rfl⟩;obtain⟨k3,hk3⟩:∃ k,x.width=k:=⟨_,rfl⟩;obtain⟨k4,hk4⟩:∃ k,str x.name=k:=⟨_,rfl⟩;unfold qD5;rw [hk0,hk1,hk2,hk3,hk4];clear hk0 hk1 hk2 hk3 hk4;have HE:Ud (∀ W,Below w.heap.size w W→Calls prog 91 #[.slice SA Sn Sc,.slice UA Un Uc,.func (.func 65) #[] #[]] W fun e w'=>e=.returned (.bool true)∧Below W.heap.size W w'):=Ph fun W h=>kY6 x.subs ⟨SA,Sn,Sc⟩ ⟨UA,Un,Uc⟩ W (Ph (TX.row (hS.o.bel h))) (Ph (TX.row (hU.o.bel h))) (by have:=zO8 x.subs;omega) HIH;have h1:=(Bk.new w 31 #[.int .u8 k0,.int .u8 k1,.int .u32 k2,.int .i64 k3,.string k4,.slice SA Sn Sc]).alloc (.cells #[.int .u8 k0,.int .u8 k1,.int .u32 k2,.int .i64 k3,.string k4,.slice UA Un Uc] 31);have h2:=Bk.new (w.alloc (.cells #[.int .u8 k0,.int .u8 k1,.int .u32 k2,.int .i64 k3,.string k4,.slice SA Sn Sc] 31)) 31 #[.int .u8 k0,.int .u8 k1,.int .u32 k2,.int .i64 k3,.string k4,.slice UA Un Uc];simp only [lO]at h2;have H1:=Ph h1;have H2:=Ph h2;have HB0:Ud (Below w.heap.size w ((w.alloc (.cells #[.int .u8 k0,.int .u8 k1,.int .u32 k2,.int .i64 k3,.string k4,.slice SA Sn Sc] 31)).alloc (.cells #[.int .u8 k0,.int .u8 k1,.int .u32 k2,.int .i64 k3,.string k4,.slice UA Un Uc] 31))):=Ph (zG (zG (lB _ _) _) _);clear h1 h2;go_enter func65,ntmps65
   go_upto_region 1 with fail
   generalize ((World.alloc _ _))=W at H1 H2 HB0 ⊢;obtain⟨b1,hb1⟩:∃ b,w.heap.size=b:=⟨_,rfl⟩;obtain⟨b2,hb2⟩:∃ b,w.heap.size+1=b:=⟨_,rfl⟩;rw [hb1]at H1;rw [hb2]at H2;rw [hb2,hb1];clear hb1 hb2;have x0:W.cell? ⟨b1,0,none⟩=some (.int .u8 k0):=H1.o.cell 0;have x1:W.cell? ⟨b1,1,none⟩=some (.int .u8 k1):=H1.o.cell 1;have x2:W.cell? ⟨b1,2,none⟩=some (.int .u32 k2):=H1.o.cell 2;have x3:W.cell? ⟨b1,3,none⟩=some (.int .i64 k3):=H1.o.cell 3;have x4:W.cell? ⟨b1,4,none⟩=some (.string k4):=H1.o.cell 4;have x5:W.cell? ⟨b1,5,none⟩=some (.slice SA Sn Sc):=H1.o.cell 5;have z0:W.cell? ⟨b2,0,none⟩=some (.int .u8 k0):=H2.o.cell 0;have z1:W.cell? ⟨b2,1,none⟩=some (.int .u8 k1):=H2.o.cell 1;have z2:W.cell? ⟨b2,2,none⟩=some (.int .u32 k2):=H2.o.cell 2;have z3:W.cell? ⟨b2,3,none⟩=some (.int .i64 k3):=H2.o.cell 3;have z4:W.cell? ⟨b2,4,none⟩=some (.string k4):=H2.o.cell 4;have z5:W.cell? ⟨b2,5,none⟩=some (.slice UA Un Uc):=H2.o.cell 5;go_wp2_with fail
   refine(HE.o _ HB0.o).mono ?_;rintro e w1 ⟨rfl,hb⟩;have HB1:Ud (Below w.heap.size w w1):=Ph (HB0.o.trans (hb.mono HB0.o.size));have H1':=Ph (zD H1.o hb);have H2':=Ph (zD H2.o hb);clear hb x0 x1 x2 x3 x4 x5 z0 z1 z2 z3 z4 z5 H1 H2;have H1:=H1';have H2:=H2';clear H1' H2';have x0:w1.cell? ⟨b1,0,none⟩=some (.int .u8 k0):=H1.o.cell 0;have x1:w1.cell? ⟨b1,1,none⟩=some (.int .u8 k1):=H1.o.cell 1;have x2:w1.cell? ⟨b1,2,none⟩=some (.int .u32 k2):=H1.o.cell 2;have x3:w1.cell? ⟨b1,3,none⟩=some (.int .i64 k3):=H1.o.cell 3;have x4:w1.cell? ⟨b1,4,none⟩=some (.string k4):=H1.o.cell 4;have x5:w1.cell? ⟨b1,5,none⟩=some (.slice SA Sn Sc):=H1.o.cell 5;have z0:w1.cell? ⟨b2,0,none⟩=some (.int .u8 k0):=H2.o.cell 0;have z1:w1.cell? ⟨b2,1,none⟩=some (.int .u8 k1):=H2.o.cell 1;have z2:w1.cell? ⟨b2,2,none⟩=some (.int .u32 k2):=H2.o.cell 2;have z3:w1.cell? ⟨b2,3,none⟩=some (.int .i64 k3):=H2.o.cell 3;have z4:w1.cell? ⟨b2,4,none⟩=some (.string k4):=H2.o.cell 4;have z5:w1.cell? ⟨b2,5,none⟩=some (.slice UA Un Uc):=H2.o.cell 5;go_wp2_with fail
   go_ret;exact⟨rfl,HB1.o⟩
theorem qS7:∀ (N:Nat) (x:Sx) (S U:SV×SV×SV) (w:World),szS x≤N→N≤1000000000→Ud (SxP (fun _=>True) w x S)→Ud (SxP (fun _=>True) w x U) →
 Calls prog 47 #[.agg (qD3 x S),.agg (qD3 x U)] w fun e w'=>e=.returned (.bool true)∧Below w.heap.size w w'
 | 0,x,S,U,w,hN,_,_,_=>by have:=qJ7 x;omega
 | N+1,x,S,U,w,hN,hN9,hS,hU=>by
   have IH:=Ph (qS7 N);have hsz:=qJ7 x;have HI1:Ud (∀ y,y∈x.thn→∀ (V V':SV×SV×SV) (W:World),Ud (SxP (fun _=>True) W y V)→Ud (SxP (fun _=>True) W y V')→Calls prog 47 #[.agg (qD3 y V),.agg (qD3 y V')] W fun e w'=>e=.returned (.bool true)∧Below W.heap.size W w'):=Ph fun y hy V V' W h1 h2=>IH.o y V V' W (by have:=vC hy;omega) Yo h1 h2;have HI2:Ud (∀ y,y∈x.els→∀ (V V':SV×SV×SV) (W:World),Ud (SxP (fun _=>True) W y V)→Ud (SxP (fun _=>True) W y V')→Calls prog 47 #[.agg (qD3 y V),.agg (qD3 y V')] W fun e w'=>e=.returned (.bool true)∧Below W.heap.size W w'):=Ph fun y hy V V' W h1 h2=>IH.o y V V' W (by have:=vC hy;omega) Yo h1 h2;obtain⟨⟨pA,pn,pc⟩,⟨qA,qn,qc⟩,⟨rA,rn,rc⟩⟩:=S;obtain⟨⟨upA,upn,upc⟩,⟨uqA,uqn,uqc⟩,⟨urA,urn,urc⟩⟩:=U;obtain⟨k0,hk0⟩:∃ k,(x.kind:Int)=k:=⟨_,rfl⟩;obtain⟨k3,hk3⟩:∃ k,x.bound=k:=⟨_,rfl⟩;obtain⟨k4,hk4⟩:∃ k,str x.name=k:=⟨_,rfl⟩;unfold qD3;rw [hk0,hk3,hk4];clear hk0 hk3 hk4;have HE:Ud (∀ W,Below w.heap.size w W→Calls prog 91 #[.slice pA pn pc,.slice upA upn upc,.func (.func 65) #[] #[]] W fun e w'=>e=.returned (.bool true)∧Below W.heap.size W w'):=Ph fun W h=>kY6 x.exprs ⟨pA,pn,pc⟩ ⟨upA,upn,upc⟩ W (Ph (hS.o.ex.stay itX qW (Stays.below h))) (Ph (hU.o.ex.stay itX qW (Stays.below h))) (by have:=zO8 x.exprs;omega) (Ph fun y hy V V' W h1 h2=>qD1 _ y V V' W (lF _) (by have:=qJ2 hy;omega) h1 h2);have HG:Ud (∀ W,Below w.heap.size w W→Calls prog 46 #[.slice qA qn qc,.slice uqA uqn uqc,.func (.func 47) #[] #[]] W fun e w'=>e=.returned (.bool true)∧Below W.heap.size W w'):=Ph fun W h=>kV8 x.thn ⟨qA,qn,qc⟩ ⟨uqA,uqn,uqc⟩ W (Ph (hS.o.th.stay (Stays.below h))) (Ph (hU.o.th.stay (Stays.below h))) (by have:=zV9 x.thn;omega) HI1;have HH:Ud (∀ W,Below w.heap.size w W→Calls prog 46 #[.slice rA rn rc,.slice urA urn urc,.func (.func 47) #[] #[]] W fun e w'=>e=.returned (.bool true)∧Below W.heap.size W w'):=Ph fun W h=>kV8 x.els ⟨rA,rn,rc⟩ ⟨urA,urn,urc⟩ W (Ph (hS.o.el.stay (Stays.below h))) (Ph (hU.o.el.stay (Stays.below h))) (by have:=zV9 x.els;omega) HI2;have h1:=(Bk.new w 108 #[.int .u8 k0,.string k4,.slice pA pn pc,.int .i64 k3,.slice qA qn qc,.slice rA rn rc]).alloc (.cells #[.int .u8 k0,.string k4,.slice upA upn upc,.int .i64 k3,.slice uqA uqn uqc,.slice urA urn urc] 108);have h2:=Bk.new (w.alloc (.cells #[.int .u8 k0,.string k4,.slice pA pn pc,.int .i64 k3,.slice qA qn qc,.slice rA rn rc] 108)) 108 #[.int .u8 k0,.string k4,.slice upA upn upc,.int .i64 k3,.slice uqA uqn uqc,.slice urA urn urc];simp only [lO]at h2;have H1:=Ph h1;have H2:=Ph h2;have HB0:Ud (Below w.heap.size w ((w.alloc (.cells #[.int .u8 k0,.string k4,.slice pA pn pc,.int .i64 k3,.slice qA qn qc,.slice rA rn rc] 108)).alloc (.cells #[.int .u8 k0,.string k4,.slice upA upn upc,.int .i64 k3,.slice uqA uqn uqc,.slice urA urn urc] 108))):=Ph (zG (zG (lB _ _) _) _);clear h1 h2;go_enter func47,ntmps47
   go_upto_region 1 with fail
   generalize ((World.alloc _ _))=W at H1 H2 HB0 ⊢;obtain⟨b1,hb1⟩:∃ b,w.heap.size=b:=⟨_,rfl⟩;obtain⟨b2,hb2⟩:∃ b,w.heap.size+1=b:=⟨_,rfl⟩;rw [hb1]at H1;rw [hb2]at H2;rw [hb2,hb1];clear hb1 hb2;have x0:W.cell? ⟨b1,0,none⟩=some (.int .u8 k0):=H1.o.cell 0;have x1:W.cell? ⟨b1,1,none⟩=some (.string k4):=H1.o.cell 1;have x2:W.cell? ⟨b1,2,none⟩=some (.slice pA pn pc):=H1.o.cell 2;have x3:W.cell? ⟨b1,3,none⟩=some (.int .i64 k3):=H1.o.cell 3;have x4:W.cell? ⟨b1,4,none⟩=some (.slice qA qn qc):=H1.o.cell 4;have x5:W.cell? ⟨b1,5,none⟩=some (.slice rA rn rc):=H1.o.cell 5;have z0:W.cell? ⟨b2,0,none⟩=some (.int .u8 k0):=H2.o.cell 0;have z1:W.cell? ⟨b2,1,none⟩=some (.string k4):=H2.o.cell 1;have z2:W.cell? ⟨b2,2,none⟩=some (.slice upA upn upc):=H2.o.cell 2;have z3:W.cell? ⟨b2,3,none⟩=some (.int .i64 k3):=H2.o.cell 3;have z4:W.cell? ⟨b2,4,none⟩=some (.slice uqA uqn uqc):=H2.o.cell 4;have z5:W.cell? ⟨b2,5,none⟩=some (.slice urA urn urc):=H2.o.cell 5;go_wp2_with fail
   refine(HE.o _ HB0.o).mono ?_;rintro e w1 ⟨rfl,hb⟩;have HB1:Ud (Below w.heap.size w w1):=Ph (HB0.o.trans (hb.mono HB0.o.size));have H1':=Ph (zD H1.o hb);have H2':=Ph (zD H2.o hb);clear hb x0 x1 x2 x3 x4 x5 z0 z1 z2 z3 z4 z5 H1 H2;have H1:=H1';have H2:=H2';clear H1' H2';have x0:w1.cell? ⟨b1,0,none⟩=some (.int .u8 k0):=H1.o.cell 0;have x1:w1.cell? ⟨b1,1,none⟩=some (.string k4):=H1.o.cell 1;have x2:w1.cell? ⟨b1,2,none⟩=some (.slice pA pn pc):=H1.o.cell 2;have x3:w1.cell? ⟨b1,3,none⟩=some (.int .i64 k3):=H1.o.cell 3;have x4:w1.cell? ⟨b1,4,none⟩=some (.slice qA qn qc):=H1.o.cell 4;have x5:w1.cell? ⟨b1,5,none⟩=some (.slice rA rn rc):=H1.o.cell 5;have z0:w1.cell? ⟨b2,0,none⟩=some (.int .u8 k0):=H2.o.cell 0;have z1:w1.cell? ⟨b2,1,none⟩=some (.string k4):=H2.o.cell 1;have z2:w1.cell? ⟨b2,2,none⟩=some (.slice upA upn upc):=H2.o.cell 2;have z3:w1.cell? ⟨b2,3,none⟩=some (.int .i64 k3):=H2.o.cell 3;have z4:w1.cell? ⟨b2,4,none⟩=some (.slice uqA uqn uqc):=H2.o.cell 4;have z5:w1.cell? ⟨b2,5,none⟩=some (.slice urA urn urc):=H2.o.cell 5;go_wp2_with fail
   refine(HG.o _ HB1.o).mono ?_;rintro e w2 ⟨rfl,hb⟩;have HB2:Ud (Below w.heap.size w w2):=Ph (HB1.o.trans (hb.mono HB1.o.size));have H1':=Ph (zD H1.o hb);have H2':=Ph (zD H2.o hb);clear hb x0 x1 x2 x3 x4 x5 z0 z1 z2 z3 z4 z5 H1 H2;have H1:=H1';have H2:=H2';clear H1' H2';have x0:w2.cell? ⟨b1,0,none⟩=some (.int .u8 k0):=H1.o.cell 0;have x1:w2.cell? ⟨b1,1,none⟩=some (.string k4):=H1.o.cell 1;have x2:w2.cell? ⟨b1,2,none⟩=some (.slice pA pn pc):=H1.o.cell 2;have x3:w2.cell? ⟨b1,3,none⟩=some (.int .i64 k3):=H1.o.cell 3;have x4:w2.cell? ⟨b1,4,none⟩=some (.slice qA qn qc):=H1.o.cell 4;have x5:w2.cell? ⟨b1,5,none⟩=some (.slice rA rn rc):=H1.o.cell 5;have z0:w2.cell? ⟨b2,0,none⟩=some (.int .u8 k0):=H2.o.cell 0;have z1:w2.cell? ⟨b2,1,none⟩=some (.string k4):=H2.o.cell 1;have z2:w2.cell? ⟨b2,2,none⟩=some (.slice upA upn upc):=H2.o.cell 2;have z3:w2.cell? ⟨b2,3,none⟩=some (.int .i64 k3):=H2.o.cell 3;have z4:w2.cell? ⟨b2,4,none⟩=some (.slice uqA uqn uqc):=H2.o.cell 4;have z5:w2.cell? ⟨b2,5,none⟩=some (.slice urA urn urc):=H2.o.cell 5;go_wp2_with fail
   refine(HH.o _ HB2.o).mono ?_;rintro e w3 ⟨rfl,hb⟩;have HB3:Ud (Below w.heap.size w w3):=Ph (HB2.o.trans (hb.mono HB2.o.size));have H1':=Ph (zD H1.o hb);have H2':=Ph (zD H2.o hb);clear hb x0 x1 x2 x3 x4 x5 z0 z1 z2 z3 z4 z5 H1 H2;have H1:=H1';have H2:=H2';clear H1' H2';have x0:w3.cell? ⟨b1,0,none⟩=some (.int .u8 k0):=H1.o.cell 0;have x1:w3.cell? ⟨b1,1,none⟩=some (.string k4):=H1.o.cell 1;have x2:w3.cell? ⟨b1,2,none⟩=some (.slice pA pn pc):=H1.o.cell 2;have x3:w3.cell? ⟨b1,3,none⟩=some (.int .i64 k3):=H1.o.cell 3;have x4:w3.cell? ⟨b1,4,none⟩=some (.slice qA qn qc):=H1.o.cell 4;have x5:w3.cell? ⟨b1,5,none⟩=some (.slice rA rn rc):=H1.o.cell 5;have z0:w3.cell? ⟨b2,0,none⟩=some (.int .u8 k0):=H2.o.cell 0;have z1:w3.cell? ⟨b2,1,none⟩=some (.string k4):=H2.o.cell 1;have z2:w3.cell? ⟨b2,2,none⟩=some (.slice upA upn upc):=H2.o.cell 2;have z3:w3.cell? ⟨b2,3,none⟩=some (.int .i64 k3):=H2.o.cell 3;have z4:w3.cell? ⟨b2,4,none⟩=some (.slice uqA uqn uqc):=H2.o.cell 4;have z5:w3.cell? ⟨b2,5,none⟩=some (.slice urA urn urc):=H2.o.cell 5;go_wp2_with fail
   go_ret;exact⟨rfl,HB3.o⟩
end
end Go.Proofs.YtfdaebgllibphaaGreatDoor
