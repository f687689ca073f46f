import Derived.Sort.CutIn
import Derived.Test.YtfdaebgllibphaaGreatDoorXag
set_option linter.unusedVariables false
set_option linter.unusedSimpArgs false
set_option maxRecDepth 100000
set_option maxHeartbeats 16000000
namespace Go.Proofs.YtfdaebgllibphaaGreatDoor
section
theorem qQ8:∀ (l m:List UInt8) (v:Nat),zL7 v (l++m)=if (zL7 v l).2=0 then zL7 (zL7 v l).1 m else zL7 v l
 | [],m,v=>by simp [zL7]
 | c :: l,m,v=>by
   by_cases h:1000000000<10*v+(c.toNat-48)
   ·have e1:zL7 v (c :: (l++m))=(0,281):=by simp only [zL7,lM h]
    have e2:zL7 v (c :: l)=(0,281):=by simp only [zL7,lM h]
    rw [lR,e1,e2];rfl
   ·have e1:zL7 v (c :: (l++m))=zL7 (10*v+(c.toNat-48)) (l++m):=by simp only [zL7,lN h]
    have e2:zL7 v (c :: l)=zL7 (10*v+(c.toNat-48)) l:=by simp only [zL7,lN h]
    rw [lR,e1,e2];exact qQ8 l m _
theorem jE7 {k:Nat} (h:k<10):(UInt8.ofNat (48+k)).toNat=48+k∧zV (UInt8.ofNat (48+k))=true:=by
 have e:(UInt8.ofNat (48+k)).toNat=48+k:=by rw [UInt8.toNat_ofNat'];omega
 refine⟨e,?_⟩;unfold zV;rw [e,lH Yo,lH Yo];rfl
theorem jE8:∀ (f n:Nat),n<10 ^ f→1≤f→(∀ c∈kD9 f n,zV c=true)∧kD9 f n≠[]∧(n≤1000000000→zL7 0 (kD9 f n)=(n,0))
 | 0,n,_,h=>absurd h Yd
 | f+1,n,h,_=>by
   unfold kD9;by_cases hn:n<10
   ·rw [lM hn];obtain⟨h1,h2⟩:=jE7 hn;refine⟨fun c hc=>by rw [cQ.1 hc];exact h2,Ym,fun _=>?_⟩;simp only [zL7,h1];rw [lN Yo];congr 1;omega
   ·rw [lN hn];have h3:n / 10<10 ^ f:=by rw [Nat.div_lt_iff_lt_mul Yd];rwa [Nat.pow_succ]at h
    have h4:1≤f:=by
     rcases Nat.eq_zero_or_pos f with h0 | h0
     ·subst h0;simp at h3;omega
     ·exact h0
    obtain⟨i1,i2,i3⟩:=jE8 f (n / 10) h3 h4;obtain⟨g1,g2⟩:=jE7 (Nat.mod_lt n (show 0<10 by decide));refine⟨fun c hc=>?_,Ym,fun hN=>?_⟩
    ·rcases List.mem_append.1 hc with hc | hc
     ·exact i1 c hc
     ·rw [cQ.1 hc];exact g2
    ·rw [qQ8,i3 Yo];simp only [zL7,g1,if_true];rw [lN Yo];congr 1;omega
theorem jQ {n:Nat} (h:n≤1000000000):(∀ c∈qZ n,zV c=true)∧qZ n≠[]∧vS (qZ n)=(n,0):=by
 obtain⟨h1,h2,h3⟩:=jE8 20 n Yo Yd;refine⟨h1,h2,?_⟩;have hd:jT (qZ n)=(qZ n).length:=by have:=vK (qZ n) [] h1 (fun d h=>by cases h);rwa [cT]at this
 unfold vS;rw [lN (by rw [hd];intro h;rcases h with h | h;exact h2 h;omega)];exact h3 h
theorem qQ9:∀ (l r:List UInt8),(∀ c∈l,zV c=true)→zC2 58 (l++58 :: r)=(l,r,true)
 | [],r,_=>by simp [zC2]
 | c :: l,r,h=>by
   have hc:¬c=58:=by rintro rfl;exact absurd (h 58 Ym) Yd
   rw [lR];simp only [zC2,lN hc,qQ9 l r fun d hd=>h d (by simp [hd])]
theorem jP6 {v w:Nat} (hv:v≤1000000000) (hw:w≤1000000000):zH8 (qZ v++58 :: qZ w)=(v,w,0):=by obtain⟨h1,_,h3⟩:=jQ hv;obtain⟨_,_,g3⟩:=jQ hw;unfold zH8;rw [qQ9 _ _ h1];simp only [h3,g3];rw [lN Ym,lN Ym]
theorem kH5:∀ o,o<17→3≤o→jY (kK o) true=some o∧kK o≠[64]∧kK o≠[91]∧1≤kD o:=Yd
theorem kH6:∀ o,o<3→1≤o→jY (kK o) false=some o∧kK o≠[]:=Yd
theorem zQ8 {n:List UInt8} (h:NameOk n):n≠[40]∧n≠[100,105,115,107]:=by
 refine⟨?_,?_⟩
 ·rintro rfl;obtain⟨c,r,he,hc,_⟩:=h.word;injection he with he _;subst he;exact absurd hc Yd
 ·rintro rfl;exact absurd h.no Yd
theorem zB3 {l:List Nd} (h:(l.flatMap (·.2)).length≤1000000):okW l=true:=lH h
section
variable {E:Env} {n m:Nat} {d:Int} {fl:Nat} {wide:Bool}
theorem qW8 {k op:Nat} {x y:Nd} {s2:PSt} {r} (h4:(nw E n).1=4) (ho:jY (nw E n).2 true=some op) (hr:¬kD op<k) (hc:∃ f,qN E f (kD op+1) (St (n+1) d fl)=some (y,s2)) (hw:okW [x,y]=true)
 (hl:∃ f,qR E f k (qI 6 op 0 0 [] (yK x) [x,y]) s2=some r):∃ f,qR E f k x (St n d fl)=some r:=by
 obtain⟨f,hc⟩:=hc;obtain⟨g,hl⟩:=hl;refine⟨max f g+1,?_⟩;rw [qR,lH (show(St n d fl).e=0 from rfl),qU,zT];dsimp only;rw [lM h4,ho];dsimp only;rw [lG hr];dsimp only;rw [show zE (St n d fl)=St (n+1) d fl from rfl,zN6 (cO f g) hc];dsimp only;rw [hw];exact zN7 (cN f g) hl
theorem qB2 {x:Ex} (h:zM6 x=6∨zM6 x=7∨zM6 x=5):qZ7 wide x=true:=by unfold qZ7;rcases h with h | h | h <;> rw [h] <;> simp
theorem kR8 (E:Env) (wide:Bool) {x:Ex} (h:kP x):PX E wide x∧SX E wide x:=by
 induction h with
 | num v w hv hw =>
   have ho:OX E wide (.mk 1 0 v w [] []):=by
    intro n d fl h0 h1 hz ha hb r hr;have e:wX wide (.mk 1 0 v w [] [])=[(3,qZ v++58 :: qZ w)]:=by simp [wX]
    have e2:plX E wide n (.mk 1 0 v w [] [])=[plc E n]:=by simp [plX]
    rw [e]at ha hr;rw [e2]at hr;refine kA rfl (fun h=>by rw [ha.1]at h;cases h) ⟨1,?_⟩ hr;rw [qJ,lH (show(St n d fl).e=0 from rfl),qU,zT,yP,ha.1];dsimp only;rw [jP6 hv hw];rfl
   exact⟨ho.p,ho.s'⟩
 | var nm hn =>
   have ho:OX E wide (.mk 2 0 0 0 nm []):=by
    intro n d fl h0 h1 hz ha hb r hr;have e:wX wide (.mk 2 0 0 0 nm [])=[(1,nm)]:=by simp [wX]
    have e2:plX E wide n (.mk 2 0 0 0 nm [])=[plc E n]:=by simp [plX]
    rw [e]at ha hr hb;rw [e2]at hr;obtain⟨g1,g2⟩:=xU (d:=d) (fl:=fl) ha.1 hn.no;obtain⟨k1,k2⟩:=zQ8 hn;have hb:(nw E (n+1)).2≠[91]:=hb;refine kA rfl (fun h=>by rw [ha.1]at h;cases h) ⟨1,?_⟩ hr;rw [qJ,lH (show(St n d fl).e=0 from rfl),g1,g2,qU,zT,yP,zT,ha.1];dsimp only;rw [lG (show ¬1=3 by decide),lG k1,lG k2,lG hb];rfl
   exact⟨ho.p,ho.s'⟩
 | elem nm y hn hy ih =>
   have ho:OX E wide (.mk 3 0 0 0 nm [y]):=by
    intro n d fl h0 h1 hz ha hb r hr;have e:wX wide (.mk 3 0 0 0 nm [y])=(1,nm) :: (4,[91]) :: (wX wide y++[(4,[93])]):=by simp [wX,wXs]
    have e2:plX E wide n (.mk 3 0 0 0 nm [y])=plc E n :: plX E wide (n+2) y:=by simp [plX,qQ5]
    have e3:htX (.mk 3 0 0 0 nm [y])=1+htX y:=by simp [htX,vJ]
    have e4:szX (.mk 3 0 0 0 nm [y])=1+szX y:=by simp [szX,kC]
    rw [e]at ha hr hb;rw [e2]at hr;rw [e3]at h1;rw [e4]at hz;obtain⟨a1,a2,a3⟩:=ha;obtain⟨a3,a4,_⟩:=AtW.app a3;obtain⟨g1,g2⟩:=xU (d:=d) (fl:=fl) a1 hn.no;obtain⟨k1,k2⟩:=zQ8 hn;have hc:=ih.1 (n+2) (d+1) fl Yo Yo Yo a3 (by rw [a4];exact zH5);obtain⟨f,hw⟩:=zF3 (n:=n+1) (a:=[91]) (b:=[93]) h0 Yo (by rw [a2]) Yd hc (by rw [a4]) (by rw [a4];decide);have hl:n+((1,nm) :: (4,[91]) :: (wX wide y++[(4,[93])])).length=n+2+(wX wide y).length+1:=Yp;rw [hl]at hr;refine kA rfl (fun h=>by rw [a1]at h;cases h) ⟨f+1,?_⟩ hr;rw [qJ,lH (show(St n d fl).e=0 from rfl),g1,g2,qU,zT,yP,zT,a1,a2];dsimp only;rw [lG (show ¬1=3 by decide),lG k1,lG k2,lH rfl];dsimp only;rw [hw];dsimp only;rw [zB3 (by simp [jE E wide hy];omega)];simp [qI]
   exact⟨ho.p,ho.s'⟩
 | disk y hy ih =>
   have ho:OX E wide (.mk 4 0 0 0 [] [y]):=by
    intro n d fl h0 h1 hz ha hb r hr;have e:wX wide (.mk 4 0 0 0 [] [y])=(1,[100,105,115,107]) :: (4,[91]) :: (wX wide y++[(4,[93])]):=by have:bs "disk" = [100,105,115,107]:=Yd;simp [wX,wXs,this]
    have e2:plX E wide n (.mk 4 0 0 0 [] [y])=plc E n :: plX E wide (n+2) y:=by simp [plX,qQ5]
    have e3:htX (.mk 4 0 0 0 [] [y])=1+htX y:=by simp [htX,vJ]
    have e4:szX (.mk 4 0 0 0 [] [y])=1+szX y:=by simp [szX,kC]
    rw [e]at ha hr hb;rw [e2]at hr;rw [e3]at h1;rw [e4]at hz;obtain⟨a1,a2,a3⟩:=ha;obtain⟨a3,a4,_⟩:=AtW.app a3;have hc:=ih.1 (n+2) (d+1) fl Yo Yo Yo a3 (by rw [a4];exact zH5);obtain⟨f,hw⟩:=zF3 (n:=n+1) (a:=[91]) (b:=[93]) h0 Yo (by rw [a2]) Yd hc (by rw [a4]) (by rw [a4];decide);have hl:n+((1,[100,105,115,107]) :: (4,[91]) :: (wX wide y++[(4,[93])]):List Wd).length=n+2+(wX wide y).length+1:=Yp;rw [hl]at hr;refine kA rfl (fun h=>by rw [a1]at h;cases h) ⟨f+1,?_⟩ hr;rw [qJ,lH (show(St n d fl).e=0 from rfl),qU,zT,yP,a1];dsimp only;rw [lG (show ¬1=3 by decide),lG (show ¬([100,105,115,107]:List UInt8)=[40] by decide),lH rfl];dsimp only;rw [show zE (St n d fl)=St (n+1) d fl from rfl,hw];dsimp only;rw [zB3 (by simp [jE E wide hy];omega)];simp [qI]
   exact⟨ho.p,ho.s'⟩
 | un o y o1 o2 hy ih =>
   have hp:PX E wide (.mk 5 o 0 0 [] [y]):=by
    intro n d fl h0 h1 hz ha hs;have e:wX wide (.mk 5 o 0 0 [] [y])=(4,kK o) :: sW wide y:=by simp [wX,wXs]
    have e2:plX E wide n (.mk 5 o 0 0 [] [y])=plc E n :: sPl E wide (n+1) y:=by simp [plX,qQ5]
    have e3:htX (.mk 5 o 0 0 [] [y])=1+htX y:=by simp [htX,vJ]
    have e4:szX (.mk 5 o 0 0 [] [y])=1+szX y:=by simp [szX,kC]
    rw [e]at ha hs ⊢;rw [e2];rw [e3]at h1;rw [e4]at hz;obtain⟨a1,a2⟩:=ha;obtain⟨f1,f2⟩:=kH6 o Yo o1;have hl:n+((4,kK o) :: sW wide y).length=n+1+(sW wide y).length:=Yp;rw [hl]at hs ⊢;obtain⟨f,hx⟩:=ih.2 (n+1) (d+1) fl Yo Yo Yo a2 hs.b _ (yB hs.a);refine xM (yZ (x:=(.mk 5 o 0 0 [] [y],plc E n :: sPl E wide (n+1) y)) ⟨f+1,?_⟩ (yS hs.o)) h0 Yo hs.q;rw [zR,qU,zT,yP,a1];dsimp only;rw [lM rfl,f1];dsimp only;rw [wU Yo Yo,zQ6 (by rw [a1]) f2 Yo,hx];dsimp only;rw [wU Yo Yo,zB3 (by simp [jE E wide hy];omega)];simp [qI,yH,St];omega
   exact⟨hp,hp.par (qB2 (.inr (.inr rfl)))⟩
 | bin o x y o1 o2 hx hy ih1 ih2 =>
   have hp:PX E wide (.mk 6 o 0 0 [] [x,y]):=by
    intro n d fl h0 h1 hz ha hs;have e:wX wide (.mk 6 o 0 0 [] [x,y])=sW wide x++(4,kK o) :: sW wide y:=by simp [wX,wXs]
    have e2:plX E wide n (.mk 6 o 0 0 [] [x,y])=(sPl E wide n x).headD 0 :: (sPl E wide n x++sPl E wide (n+(sW wide x).length+1) y):=by simp [plX,qQ5]
    have e3:htX (.mk 6 o 0 0 [] [x,y])=1+max (htX x) (htX y):=by simp [htX,vJ]
    have e4:szX (.mk 6 o 0 0 [] [x,y])=1+(szX x+szX y):=by simp [szX,kC]
    rw [e]at ha hs ⊢;rw [e2];rw [e3]at h1;rw [e4]at hz;have hm1:=cO (htX x) (htX y);have hm2:=cN (htX x) (htX y);obtain⟨a1,a2,a3⟩:=AtW.app ha;obtain⟨f1,f2,f3,f4⟩:=kH5 o Yo o1;have hl:n+(sW wide x++(4,kK o) :: sW wide y).length=n+(sW wide x).length+1+(sW wide y).length:=Yp;rw [hl]at hs ⊢;have hc1:=ih1.2 n d fl h0 Yo Yo a1 (by rw [a2];exact f3) _ (yB (by rw [a2];exact f2));have hc2:=ih2.2 (n+(sW wide x).length+1) d fl h0 Yo Yo a3 hs.b _ (yB hs.a);refine xM (yZ hc1 (qW8 (by rw [a2]) (by rw [a2];exact f1) Yo (yZ hc2 (yS hs.o)) (zB3 (by simp [jE E wide hx,jE E wide hy];omega)) ?_)) h0 Yo hs.q;have e5:∀ a b:List Nat,qI 6 o 0 0 [] (yK (x,a)) [(x,a),(y,b)]=(.mk 6 o 0 0 [] [x,y],a.headD 0 :: (a++b)):=fun a b=>by simp [qI,yK]
    rw [e5];exact yS hs.o
   exact⟨hp,hp.par (qB2 (.inl rfl))⟩
 | mux x y z hx hy hz ih1 ih2 ih3 =>
   have hp:PX E wide (.mk 7 0 0 0 [] [x,y,z]):=by
    intro n d fl h0 h1 hsz ha hs;have e:wX wide (.mk 7 0 0 0 [] [x,y,z])=sW wide x++(4,[63]) :: (sW wide y++(4,[58]) :: sW wide z):=by simp [wX,wXs]
    have e2:plX E wide n (.mk 7 0 0 0 [] [x,y,z])=(sPl E wide n x).headD 0 :: (sPl E wide n x++sPl E wide (n+(sW wide x).length+1) y++sPl E wide (n+(sW wide x).length+1+(sW wide y).length+1) z):=by simp [plX,qQ5]
    have e3:htX (.mk 7 0 0 0 [] [x,y,z])=1+max (htX x) (max (htX y) (htX z)):=by simp [htX,vJ]
    have e4:szX (.mk 7 0 0 0 [] [x,y,z])=1+(szX x+(szX y+szX z)):=by simp [szX,kC]
    rw [e]at ha hs ⊢;rw [e2];rw [e3]at h1;rw [e4]at hsz;have hm1:=cO (htX x) (max (htX y) (htX z));have hm2:=cN (htX x) (max (htX y) (htX z));have hm3:=cO (htX y) (htX z);have hm4:=cN (htX y) (htX z);obtain⟨a1,a2,a3⟩:=AtW.app ha;obtain⟨a3,a4,a5⟩:=AtW.app a3;have hl:n+(sW wide x++(4,[63]) :: (sW wide y++(4,[58]) :: sW wide z)).length=n+(sW wide x).length+1+(sW wide y).length+1+(sW wide z).length:=Yp;rw [hl]at hs ⊢;have hc1:=ih1.2 n d fl h0 Yo Yo a1 (by rw [a2];decide) _ (yB (by rw [a2];decide));obtain⟨f1,k1⟩:=yZ hc1 (yS (k:=1) (by rw [a2];decide));obtain⟨f2,k2⟩:=ih2.2.c (n:=n+(sW wide x).length+1) (d:=d+1) (fl:=fl) Yo Yo Yo a3 (by rw [a4];exact qM3);obtain⟨f3,k3⟩:=ih3.2.c (n:=n+(sW wide x).length+1+(sW wide y).length+1) (d:=d+1) (fl:=fl) Yo Yo Yo a5 hs;refine⟨max f1 (max f2 f3)+1,?_⟩;rw [zM,zN6 (cO _ _) k1];dsimp only;rw [wU Yo Yo,qM2 (by rw [a2]) Yd,qQ3 (by rw [a2]) Yd Yo,zA9 (lE (cO f2 f3) (cN f1 _)) k2];dsimp only;rw [kI (by rw [a4]) (by rw [a4];decide),zA9 (lE (cN f2 f3) (cN f1 _)) k3];dsimp only;rw [wU Yo Yo,zB3 (by simp [jE E wide hx,jE E wide hy,jE E wide hz];omega)];simp [qI,yH,St,yK];omega
   exact⟨hp,hp.par (qB2 (.inr (.inl rfl)))⟩
 | cast w y hw hy ih =>
   have ho:OX E wide (.mk 8 0 0 w [] [y]):=by
    intro n d fl h0 h1 hz ha hb r hr;have e:wX wide (.mk 8 0 0 w [] [y])=sW wide y++[(4,[64]),(2,qZ w)]:=by simp [wX,wXs]
    have e2:plX E wide n (.mk 8 0 0 w [] [y])=(sPl E wide n y).headD 0 :: sPl E wide n y:=by simp [plX,qQ5]
    have e3:htX (.mk 8 0 0 w [] [y])=1+htX y:=by simp [htX,vJ]
    have e4:szX (.mk 8 0 0 w [] [y])=1+szX y:=by simp [szX,kC]
    rw [e]at ha hr hb;rw [e2]at hr;rw [e3]at h1;rw [e4]at hz;obtain⟨a1,a2,a3,_⟩:=AtW.app ha;have hl:n+(sW wide y++[(4,[64]),(2,qZ w)]).length=n+(sW wide y).length+1+1:=Yp;rw [hl]at hr;obtain⟨g,hr⟩:=hr;refine ih.2 n d fl h0 Yo Yo a1 (by rw [a2];decide) r ⟨g+1,?_⟩;rw [jI,zG4 (by rw [a2]) (by rw [a2];decide)];dsimp only;rw [zB3 (by simp [jE E wide hy];omega)];dsimp only;rw [show zE (St (n+(sW wide y).length) d fl)=St (n+(sW wide y).length+1) d fl from rfl,zB1 a3 (jQ hw).2.2];simpa [qI,yK]using hr
   exact⟨ho.p,ho.s'⟩
end
end
section
def Ev (P:Nat→Prop):Prop:=∃ F,∀ f,F≤f→P f
theorem Ev.step {P Q:Nat→Prop} (h:Ev P) (hs:∀ f,P f→Q (f+1)):Ev Q:=by obtain⟨F,h⟩:=h;refine⟨F+1,fun f hf=>?_⟩;obtain⟨g,rfl⟩:∃ g,f=g+1:=⟨f-1,Yo⟩;exact hs g (h g Yo)
theorem Ev.mono {P Q:Nat→Prop} (h:Ev P) (hs:∀ f,P f→Q f):Ev Q:=by obtain⟨F,h⟩:=h;exact⟨F,fun f hf=>hs f (h f hf)⟩
theorem Ev.and {P Q:Nat→Prop} (h:Ev P) (k:Ev Q):Ev fun f=>P f∧Q f:=by obtain⟨F,h⟩:=h;obtain⟨G,k⟩:=k;exact⟨max F G,fun f hf=>⟨h f (lE (cO F G) hf),k f (lE (cN F G) hf)⟩⟩
theorem Ev.of {P:Nat→Prop} (h:∀ f,P f):Ev P:=⟨0,fun f _=>h f⟩
theorem Ev.ex {P:Nat→Prop} (h:Ev P):∃ f,P f:=by obtain⟨F,h⟩:=h;exact⟨F,h F (lF _)⟩
abbrev Qt (n:Nat) (d:Int) (fl:Nat) (l:List Nat):QSt:=⟨St n d fl,l⟩
section
variable {E:Env} {n:Nat} {d:Int} {fl:Nat} {l:List Nat} {wide:Bool}
theorem xA {x:Ex} (hx:kP x) (h0:0≤d) (h1:d+2*(htX x:Int)≤200) (hz:szX x≤1000000) (ha:AtW E n (wX wide x)) (hs:vX (nw E (n+(wX wide x).length))) (hl:l.length+szX x≤800000000) :
 Ev fun f=>qS E f (Qt n d fl l)=some (x,Qt (n+(wX wide x).length) d fl (l++plX E wide n x)):=by
 obtain⟨F,h⟩:=(kR8 E wide hx).1 n d fl h0 h1 hz ha hs;refine⟨F,fun f hf=>?_⟩;show qS E f _=_;unfold qS;rw [show(Qt n d fl l).s=St n d fl from rfl,zA9 hf h];dsimp only;rw [jE E wide hx,lM hl]
theorem zY2 {u:List UInt8} (h:(nw E n).2=u) (hu:u≠[]) (h0:0≤d) (h1:d<200):kN E (Qt n d fl l) u=some (Qt (n+1) (d+1) fl l):=by unfold kN;rw [show(Qt n d fl l).s=St n d fl from rfl,wU Yo Yo,zQ6 h hu h1];rfl
theorem zT6 {u:List UInt8} (h:(nw E n).2=u) (hk:(nw E n).1≠0) (h0:0≤d) (h1:d≤200):jX E (Qt n (d+1) fl l) u=some (Qt (n+1) d fl l):=by unfold jX;rw [show(Qt n (d+1) fl l).s=St n (d+1) fl from rfl,wU Yo Yo,qQ4 h hk,Int.add_sub_cancel];rfl
end
def kO:List (List Wd)→List Wd
 | []=>[]
 | [x]=>x
 | x :: l=>x++(4,[44]) :: kO l
mutual
def wS (wide:Bool):Sx→List Wd
 | .mk k n es b t e =>
   let r:=es.map (wX wide)
   let tt:=(4,[123]) :: (wSs wide t++[(4,[125])])
   let te:=(4,[123]) :: (wSs wide e++[(4,[125])])
   if k=1 then(1,n) :: (4,[61]) :: r.getD 0 []
   else if k=2 then(1,n) :: (4,[91]) :: (r.getD 0 []++(4,[93]) :: (4,[61]) :: r.getD 1 [])
   else if k=3 then(1,bs "write") :: (r.getD 0 []++(4,[44]) :: r.getD 1 [])
   else if k=4 then [(1,bs "flush")]
   else if k=5 then [(1,bs "barrier")]
   else if k=6 then(1,bs "if") :: (r.getD 0 []++(tt++(if e≠[]∨wide then(1,bs "else") :: te else [])))
   else if k=7 then(1,bs "while") :: (r.getD 0 []++(1,bs "bound") :: (2,qZ b.toNat) :: tt)
   else(1,bs "call") :: (1,n) :: (4,[40]) :: (kO r++[(4,[41])])
def wSs (wide:Bool):List Sx→List Wd
 | []=>[]
 | x :: l=>wS wide x++wSs wide l
end
abbrev wB (wide:Bool) (l:List Sx):List Wd:=(4,[123]) :: (wSs wide l++[(4,[125])])
def plC (E:Env) (wide:Bool):Nat→List Ex→List Nat
 | _,[]=>[]
 | n,x :: l=>plX E wide n x++plC E wide (n+(wX wide x).length+1) l
mutual
def plS (E:Env) (wide:Bool):Nat→Sx→List Nat
 | n,.mk k nm es b t e =>
   let e0:=es.getD 0 ex0
   let e1:=es.getD 1 ex0
   let n0:=(wX wide e0).length
   plc E n :: (if k=1 then plX E wide (n+2) e0
   else if k=2 then plX E wide (n+2) e0++plX E wide (n+2+n0+2) e1
   else if k=3 then plX E wide (n+1) e0++plX E wide (n+1+n0+1) e1
   else if k=4∨k=5 then []
   else if k=6 then plX E wide (n+1) e0++(zL8 E wide (n+1+n0+1) t++zL8 E wide (n+1+n0+1+(wSs wide t).length+1+2) e)
   else if k=7 then plX E wide (n+1) e0++zL8 E wide (n+1+n0+2+1) t
   else plC E wide (n+3) es)
def zL8 (E:Env) (wide:Bool):Nat→List Sx→List Nat
 | _,[]=>[]
 | n,x :: l=>plS E wide n x++zL8 E wide (n+(wS wide x).length) l
end
mutual
def szS:Sx→Nat
 | .mk _ _ es _ t e=>1+kC es+yE t+yE e
def yE:List Sx→Nat
 | []=>0
 | x :: l=>szS x+yE l
end
mutual
def htS:Sx→Nat
 | .mk _ _ es _ t e=>1+max (vJ es) (max (vL t) (vL e))
def vL:List Sx→Nat
 | []=>0
 | x :: l=>max (htS x) (vL l)
end
inductive vP:Sx→Prop
 | set (n:List UInt8) (x:Ex):NameOk n→kP x→vP (.mk 1 n [x] 0 [] [])
 | put (n:List UInt8) (i x:Ex):NameOk n→kP i→kP x→vP (.mk 2 n [i,x] 0 [] [])
 | write (b x:Ex):kP b→kP x→vP (.mk 3 [] [b,x] 0 [] [])
 | flush:vP (.mk 4 [] [] 0 [] [])
 | barrier:vP (.mk 5 [] [] 0 [] [])
 | ifs (x:Ex) (t e:List Sx):kP x→(∀ y∈t,vP y)→(∀ y∈e,vP y)→vP (.mk 6 [] [x] 0 t e)
 | loop (x:Ex) (b:Nat) (t:List Sx):kP x→b≤1000000000→(∀ y∈t,vP y)→vP (.mk 7 [] [x] b t [])
 | call (n:List UInt8) (es:List Ex):NameOk n→(∀ x∈es,kP x)→vP (.mk 8 n es 0 [] [])
structure qM5 (w:Wd):Prop where
 x:vX w
 e:w.2≠bs "else"
theorem zD4 {w:Wd} (h:w.1=1) (h1:∃ c r,w.2=c :: r∧qM c=true):vX w:=by obtain⟨c,r,e,hc⟩:=h1;refine⟨?_,?_,?_,fun h4=>by rw [h]at h4;cases h4⟩ <;> (rw [e];intro e2;injection e2 with e2 _;subst e2;exact absurd hc Yd)
theorem NameOk.shut {n:List UInt8} (h:NameOk n):qM5 (1,n):=by obtain⟨c,r,e,hc,_⟩:=h.word;refine⟨zD4 rfl ⟨c,r,e,hc⟩,?_⟩;rintro rfl;exact absurd h.no Yd
theorem qM6 {n:List UInt8} (h:NameOk n):kM n=none:=by
 have key:∀ u:List UInt8,vO u=true→n≠u:=by rintro u hu rfl;rw [h.no]at hu;cases hu
 unfold kM;rw [lN (key _ Yd),lN (key _ Yd),lN (key _ Yd),lN (key _ Yd),lN (key _ Yd),lN (key _ Yd)]
theorem jZ8 {wide:Bool} {x:Sx} (h:vP x):∃ w r,wS wide x=w :: r∧qM5 w:=by
 have hw:∀ u:List UInt8,(∃ c r,u=c :: r∧qM c=true)→u≠bs "else"→qM5 (1,u):=fun u h1 h2=>⟨zD4 rfl h1,h2⟩;cases h with
 | set n x hn hx=>exact⟨_,_,by simp only [wS,if_true];rfl,hn.shut⟩
 | put n i x hn hi hx=>exact⟨_,_,by simp only [wS];rfl,hn.shut⟩
 | write b x hb hx=>exact⟨_,_,by simp only [wS];rfl,hw _ ⟨_,_,rfl,Yd⟩ Yd⟩
 | flush=>exact⟨_,_,by simp only [wS];rfl,hw _ ⟨_,_,rfl,Yd⟩ Yd⟩
 | barrier=>exact⟨_,_,by simp only [wS];rfl,hw _ ⟨_,_,rfl,Yd⟩ Yd⟩
 | ifs x t e hx ht he=>exact⟨_,_,by simp only [wS];rfl,hw _ ⟨_,_,rfl,Yd⟩ Yd⟩
 | loop x b t hx hb ht=>exact⟨_,_,by simp only [wS];rfl,hw _ ⟨_,_,rfl,Yd⟩ Yd⟩
 | call n es hn hes=>exact⟨_,_,by simp only [wS];rfl,hw _ ⟨_,_,rfl,Yd⟩ Yd⟩
end
section
open Go.RowKit Go.PlainAid Go.Shelf
attribute [local go_sem] Oper.semAt_some
theorem qO3 (A:Option Addr) (n c:Nat) (w:World):Calls Tryz.prog 90 #[.slice A n c] w fun e w'=>e=.returned (.func (.func 115) #[] #[uQ w.heap.size 0])∧w'=w.alloc (.cells #[.slice A n c] 34):=by
 go_enter Tryz.func90,Tryz.ntmps90
 go_wp2
 go_ret;exact⟨rfl,rfl⟩
def qD3 (x:Sx) (v:SV×SV×SV):Array Value:=#[.int .u8 x.kind,.string (str x.name),.slice v.1.A v.1.n v.1.c,.int .i64 x.bound,.slice v.2.1.A v.2.1.n v.2.1.c,.slice v.2.2.A v.2.2.n v.2.2.c]
theorem Stays.below' {P:Nat→Prop} {w w':World} {B:Nat} (h:Below B w w') (hB:w.heap.size≤B:=by omega):Stays P w w':=Stays.below (h.mono hB)
theorem StsP.get {P:Nat→Prop} {w:World} {l:List Sx} {S:SV} (h:StsP P w l S) {i:Nat} (hi:i<S.n) :
 ∃ b off y v,S.A=some ⟨b,off,none⟩∧l[i]?=some y∧SxP P w y v∧b<w.heap.size∧∀ j u,j<6→(zC6 y v)[j]?=some u→w.cell? ⟨b,off+(i*6+j),none⟩=some u:=by
 cases h with
 | mk _ _ vs hl hn hP rd ok ex th el =>
   obtain⟨b,off,p,hA,hp,hb,hcl⟩:=rd.rd.flat (f:=fun p:Sx×(SV×SV×SV)=>zC6 p.1 p.2) (m:=6) (fun p=>rfl) Yo (L:=l.zip vs) (i:=i) (by rw [List.length_zip,hl,Nat.min_self,←hn];exact hi);obtain⟨y,v⟩:=p;obtain⟨h1,h2⟩:=List.getElem?_zip_eq_some.1 hp;exact⟨b,off,y,v,hA,h1,⟨ok i y v h1 h2,ex i y v h1 h2,th i y v h1 h2,el i y v h1 h2⟩,hb,hcl⟩
theorem qJ7 (y:Sx):szS y=1+kC y.exprs+yE y.thn+yE y.els:=by cases y;rfl
theorem zV9:∀ l:List Sx,l.length≤yE l
 | []=>by simp [yE]
 | x :: l=>by have h1:=qJ7 x;have h2:=zV9 l;simp only [yE,Yc];omega
theorem qO4:∀ (l:List Sx) (j:Nat) (y:Sx),l[j]?=some y→yE (l.take j)+szS y≤yE l∧yE (l.take (j+1))=yE (l.take j)+szS y
 | [],j,y,h=>by simp at h
 | x :: l,0,y,h=>by simp at h;subst h;simp [yE]
 | x :: l,j+1,y,h=>by have:=qO4 l j y (by simpa using h);simp only [cR,yE];omega
def jR6 (l c M b0:Nat) (J:Nat→World→Prop):Prop:=∀ k y V W,J k W→b0≤W.heap.size→k+(1+kC y.exprs)≤M→SxP (fun _=>True) W y V→∀ j,YieldAt Fence.wide j Tryz.prog l #[.agg (qD3 y V)] W fun e W'=>e=.returned (.bool true)∧J (k+(1+kC y.exprs)) W'∧FrC c W W'
theorem qZ4:∀ (N:Nat) (L:List Sx) (S:SV) (n l pb c m M b0:Nat) (J:Nat→World→Prop) (W1:World),yE L≤N→1≤n→Hid (StsP (fun _=>True) W1 L S)→Hid (Bk W1 pb 34 #[.slice S.A S.n S.c])→pb≠c→b0≤W1.heap.size→m+yE L≤M→M≤1000000 →
 Hid (∀ k W,J k W→∃ cs,Bk W c 3 cs)→Hid (∀ k W W',J k W→Below b0 W W'→J k W')→Hid (jR6 l c M b0 J)→Hid (J m W1) →
 CallsIn Fence.wide n Tryz.prog 115 #[.func (.yield l) #[] #[],uQ pb 0] W1 fun e W'=>(∃ v,e=.returned v)∧J (m+yE L) W'∧FrC c W1 W'
 | N,L,S,n,l,pb,c,m,M,b0,J,W1,hN,h1n,HT,HPB,hpc,hb0,hM,hM6,HJC,HJB,HY,HJ=>by
   have IH:Hid (∀ N',N'<N→∀ (L:List Sx) (S:SV) (n l pb c m M b0:Nat) (J:Nat→World→Prop) (W1:World),yE L≤N'→1≤n→Hid (StsP (fun _=>True) W1 L S)→Hid (Bk W1 pb 34 #[.slice S.A S.n S.c])→pb≠c→b0≤W1.heap.size→m+yE L≤M→M≤1000000 →
    Hid (∀ k W,J k W→∃ cs,Bk W c 3 cs)→Hid (∀ k W W',J k W→Below b0 W W'→J k W')→Hid (jR6 l c M b0 J)→Hid (J m W1) →
    CallsIn Fence.wide n Tryz.prog 115 #[.func (.yield l) #[] #[],uQ pb 0] W1 fun e W'=>(∃ v,e=.returned v)∧J (m+yE L) W'∧FrC c W1 W'):=Ph (fun N' _=>qZ4 N')
   obtain⟨SA,Sn,Sc⟩:=S;have HL:Hid (Sn=L.length):=Ph HT.out.len;refine callsIn_of_wp_marks Tryz.func115 rfl trivial ?_ rfl;simp only [Tryz.ntmps115,List.size_toArray,Yc,Yn,Nat.reduceAdd,Nat.reduceSub,Array.replicate_succ,Array.replicate_zero,List.push_toArray,List.append_toArray,cF,lR];refine wpIn_wide.2 ?_;have hyb:=Ph (Bk.new W1 187 #[.func (.yield l) #[] #[]]);have hB1:Below W1.heap.size W1 (W1.alloc (.cells #[.func (.yield l) #[] #[]] 187)):=zG (lB _ _) _;have HPB1:=Ph (zD HPB.out hB1);go_upto_region 1 with fail
   generalize (W1.alloc _)=W2 at hyb hB1 HPB1 ⊢;obtain⟨yb,hybe⟩:∃ b,W1.heap.size=b:=⟨_,rfl⟩;rw [hybe]at hyb ⊢;have hypb:pb<yb:=by have:=HPB.out.lt;omega
   have x0:W2.cell? ⟨pb,0,none⟩=some (.slice SA Sn Sc):=HPB1.out.cell 0;have HF2:Hid (FrC c W1 W2):=Ph (Fr.of_below hB1);have HJ2:Hid (J m W2):=Ph (HJB.out _ _ _ HJ.out (hB1.mono hb0));have HYB2:Hid (Bk W2 yb 187 #[.func (.yield l) #[] #[]]):=hyb;obtain⟨cs0,hcs0⟩:=HJC.out _ _ HJ.out;have HC1:=Ph hcs0;have hcy:c<yb:=by have:=hcs0.lt;omega
   clear hyb hB1 HPB1 HJ hcs0;go_wp2
   have HMM:=Ph hM;clear hM x0;have hSn:Sn≤1000000:=by have h1:=HMM.out;have h3:=HL.out;have h4:=zV9 L;omega
   refine wp_loop_ghost_k (fun g a w=>∃ (j:Nat) (s4 s6 s7 s11 s12 s13 s14 s15 s16 s17 s18 s19 s20 s21 s22 s23 s24 s25 s26 s27 s28 s29 s30 s31 s32 s33 s34:Value) (ds:List Deferred),g+j=Sn∧a=⟨#[.func (.yield l) #[] #[],uQ pb 0,uQ yb 0,undef,s4,undef,s6,s7,.slice SA Sn Sc,uI Sn,uI j,s11,s12,s13,s14,s15,s16,s17,s18,s19,s20,s21,s22,s23,s24,s25,s26,s27,s28,s29,s30,s31,s32,s33,s34],ds⟩∧Hid (Marks W1.heap.size ds w)∧Hid (J (m+yE (L.take j)) w)∧Hid (FrC c W1 w)∧Hid (Bk w yb 187 #[.func (.yield l) #[] #[]])) Sn ⟨0,_,_,_,_,_,_,_,_,_,_,_,_,_,_,_,_,_,_,_,_,_,_,_,_,_,_,_,[],rfl,rfl,Marks.nil _ _,by simpa [yE]using HJ2,HF2,HYB2⟩ ?_;clear HJ2 HF2 HYB2;rintro g a w ⟨j,s4,s6,s7,s11,s12,s13,s14,s15,s16,s17,s18,s19,s20,s21,s22,s23,s24,s25,s26,s27,s28,s29,s30,s31,s32,s33,s34,ds,hg,rfl,HMK,HJ,HF,HYB⟩ JJ K hJJ hK;obtain⟨cs1,hcs1⟩:=HJC.out _ _ (HJB.out _ _ _ HJ.out (lB _ _));have hcw:c<w.heap.size:=hcs1.lt;have hws:W1.heap.size≤w.heap.size:=HF.out.size;by_cases hlt:j<Sn
   ·have e1:decide ((j:Int)<(Sn:Int))=true:=by simp;omega
    have hji:(j:Int)<(Sn:Int):=Yo;have HTw:Hid (StsP (fun _=>True) w L ⟨SA,Sn,Sc⟩):=Ph (HT.out.stay (FrC.stays HF.out HC1.out));obtain⟨b,off,y,v,hA,hx,hty,hb,hc⟩:=StsP.get HTw.out (i:=j) hlt;obtain⟨⟨pA,pn,pc⟩,⟨qA,qn,qc⟩,⟨rA,rn,rc⟩⟩:=v;(try dsimp only at hA);subst hA;have c0:w.cell? ⟨b,off+j*6,none⟩=some (uB y.kind):=hc 0 _ Yo rfl;have c1:w.cell? ⟨b,off+j*6+1,none⟩=some (uR y.name):=hc 1 _ Yo rfl;have c2:w.cell? ⟨b,off+j*6+2,none⟩=some (.slice pA pn pc):=hc 2 _ Yo rfl;have c3:w.cell? ⟨b,off+j*6+3,none⟩=some (uI y.bound):=hc 3 _ Yo rfl;have c4:w.cell? ⟨b,off+j*6+4,none⟩=some (.slice qA qn qc):=hc 4 _ Yo rfl;have c5:w.cell? ⟨b,off+j*6+5,none⟩=some (.slice rA rn rc):=hc 5 _ Yo rfl;have HX:=Ph hx;have HTY:=Ph hty;clear hx hc hty;go_upto_region 4 with fail
    have hyn:=Ph (Bk.new w 108 #[uB y.kind,uR y.name,.slice pA pn pc,uI y.bound,.slice qA qn qc,.slice rA rn rc]);have hBa:Below w.heap.size w (w.alloc (.cells #[uB y.kind,uR y.name,.slice pA pn pc,uI y.bound,.slice qA qn qc,.slice rA rn rc] 108)):=zG (lB _ _) _;have hza:(w.alloc (.cells #[uB y.kind,uR y.name,.slice pA pn pc,uI y.bound,.slice qA qn qc,.slice rA rn rc] 108)).heap.size=w.heap.size+1:=lO _ _;generalize (w.alloc _)=W4 at hyn hBa hza ⊢;obtain⟨sb,hxb⟩:∃ b,w.heap.size=b:=⟨_,rfl⟩;rw [hxb]at hyn ⊢;have x0:W4.cell? ⟨sb,0,none⟩=some (uB y.kind):=hyn.out.cell 0;have x1:W4.cell? ⟨sb,1,none⟩=some (uR y.name):=hyn.out.cell 1;have x2:W4.cell? ⟨sb,2,none⟩=some (.slice pA pn pc):=hyn.out.cell 2;have x3:W4.cell? ⟨sb,3,none⟩=some (uI y.bound):=hyn.out.cell 3;have x4:W4.cell? ⟨sb,4,none⟩=some (.slice qA qn qc):=hyn.out.cell 4;have x5:W4.cell? ⟨sb,5,none⟩=some (.slice rA rn rc):=hyn.out.cell 5;have HYB4:=Ph (zD HYB.out hBa);have y0:W4.cell? ⟨yb,0,none⟩=some (.func (.yield l) #[] #[]):=HYB4.out.cell 0;have HJ4:Hid (J (m+yE (L.take j)) W4):=Ph (HJB.out _ _ _ HJ.out (hBa.mono Yo));have HTY4:=Ph (itS.stay _ _ _ _ _ (Stays.below hBa) HTY.out);have hszY:=qJ7 y;have hm5:m+yE (L.take j)+szS y≤M∧szS y≤N:=by have h1:=HMM.out;have h3:=qO4 L j y HX.out;omega
    have hybl:yb<sb:=by have:=HYB.out.lt;omega
    obtain⟨fn,tmps,assign,body,hy,hRn⟩:=HY.out (m+yE (L.take j)) y (⟨pA,pn,pc⟩,⟨qA,qn,qc⟩,⟨rA,rn,rc⟩) W4 HJ4.out Yo Yo HTY4.out (n-1);have HRn:=Ph hRn;have HB4:=Ph hBa;have HMK4:Hid (Marks W1.heap.size ds W4):=Ph (HMK.out.keep fun k o hk ho=>(hBa.block k (zO hk)).trans hk);have HF4:Hid (FrC c W1 W4):=Ph (HF.out.trans (Fr.of_below hBa));have HC4:=Ph (zD hcs1 hBa);dsimp only [qD3]at hy;clear hRn hBa HTY HYB HMK HF HTw;refine(wpIn_wide (n:=n)).1 ?_;gi_wp2
    refine HRn.out.mono ?_;clear hy HRn;rintro e W5 ⟨rfl,hJ5,hF5⟩;have HJ5:=Ph hJ5;have HSB5:=Ph (hyn.out.fr hF5 (show sb≠c by omega));have HYB5:=Ph (HYB4.out.fr hF5 (show yb≠c by omega));have HTY5:=Ph (itS.stay _ _ _ _ _ (FrC.stays hF5 HC4.out) HTY4.out);have HMK5:Hid (Marks W1.heap.size ds W5):=Ph (HMK4.out.keep (FrC.others hF5 HC4.out));have HF5:Hid (FrC c W1 W5):=Ph (HF4.out.trans hF5);have hz5:sb+1≤W5.heap.size:=by have:=hF5.size;omega
    clear x0 x1 x2 x3 x4 x5 y0 hJ5 hF5 HYB4 HTY4 HMK4 HF4 HC4 hyn HJ4 c0 c1 c2 c3 c4 c5 hza;have x0:W5.cell? ⟨sb,0,none⟩=some (uB y.kind):=HSB5.out.cell 0;have x1:W5.cell? ⟨sb,1,none⟩=some (uR y.name):=HSB5.out.cell 1;have x2:W5.cell? ⟨sb,2,none⟩=some (.slice pA pn pc):=HSB5.out.cell 2;have x3:W5.cell? ⟨sb,3,none⟩=some (uI y.bound):=HSB5.out.cell 3;have x4:W5.cell? ⟨sb,4,none⟩=some (.slice qA qn qc):=HSB5.out.cell 4;have x5:W5.cell? ⟨sb,5,none⟩=some (.slice rA rn rc):=HSB5.out.cell 5;gi_wp2
    go_wp2
    clear x0 x1 x2 x3 x4 x5;refine wp_loop_ghost_k (fun g2 a w=>∃ (k:Nat) (kI:Int) (u6 u24 u25 u26 u27 u28 u29 u30 u31 u32 u33 u34:Value) (ds:List Deferred),g2+k=2∧a=⟨#[.func (.yield l) #[] #[],uQ pb 0,uQ yb 0,undef,uQ sb 0,undef,u6,s7,.slice (some ⟨b,off,none⟩) Sn Sc,uI Sn,uI j,.bool true,.pointer (some ⟨b,off+j*6,none⟩),.agg #[uB y.kind,uR y.name,.slice pA pn pc,uI y.bound,.slice qA qn qc,.slice rA rn rc],.func (.yield l) #[] #[],.agg #[uB y.kind,uR y.name,.slice pA pn pc,uI y.bound,.slice qA qn qc,.slice rA rn rc],.bool true,.bool false,uQ sb 4,.slice qA qn qc,uQ sb 5,.slice rA rn rc,.agg #[.slice qA qn qc,.slice rA rn rc],uI kI,u24,u25,u26,u27,u28,u29,u30,u31,u32,u33,u34],ds⟩∧kI=(k:Int)∧Hid (Marks W1.heap.size ds w)∧Hid (J (m+yE (L.take j)+(1+kC y.exprs)+(if 1≤k then yE y.thn else 0)+(if 2≤k then yE y.els else 0)) w)∧Hid (FrC c W1 w)∧Hid (Bk w yb 187 #[.func (.yield l) #[] #[]])∧Hid (SxP (fun _=>True) w y (⟨pA,pn,pc⟩,⟨qA,qn,qc⟩,⟨rA,rn,rc⟩))∧sb+1≤w.heap.size) 2 ⟨0,0,_,_,_,_,_,_,_,_,_,_,_,_,ds,rfl,rfl,rfl,HMK5,by simpa using HJ5,HF5,HYB5,HTY5,hz5⟩ ?_;clear HMK5 HJ5 HF5 HYB5 HTY5 HSB5 hz5;rintro g2 a w5 ⟨k,kI,u6,u24,u25,u26,u27,u28,u29,u30,u31,u32,u33,u34,ds5,hg2,rfl,hkI,HMK,HJ5,HF,HYB,HTY,hz5⟩ JJ2 K2 hJJ2 hK2;obtain⟨cs5,hcs5⟩:=HJC.out _ _ (HJB.out _ _ _ HJ5.out (lB _ _));rcases(by omega:k=0∨k=1∨k=2)with rfl | rfl | rfl
    ·have hjk:J (m+yE (L.take j)+(1+kC y.exprs)) w5:=by simpa using HJ5.out
     obtain rfl:kI=0:=Yo;clear hkI;have HJK:=Ph hjk;clear hjk HJ5;have ix:∀ w,(Instr.index 188 (.agg #[.slice qA qn qc,.slice rA rn rc]) (uI 0)).run Tryz.prog w=.ok (.slice qA qn qc) w:=fun _=>Yk;go_upto_region 8 with fail
     clear ix;go_wp2_with fail
     refine(qO3 qA qn qc w5).mono ?_;rintro e W6 ⟨rfl,rfl⟩;go_wp2_with fail
     have heb:=Ph (Bk.new w5 34 #[.slice qA qn qc]);have hBb:Below w5.heap.size w5 (w5.alloc (.cells #[.slice qA qn qc] 34)):=zG (lB _ _) _;have hzb:(w5.alloc (.cells #[.slice qA qn qc] 34)).heap.size=w5.heap.size+1:=lO _ _;generalize (w5.alloc _)=W6 at heb hBb hzb ⊢;have HTZ:Hid (StsP (fun _=>True) W6 y.thn ⟨qA,qn,qc⟩):=Ph (HTY.out.th.stay (Stays.below hBb));have HTY6:=Ph (itS.stay _ _ _ _ _ (Stays.below hBb) HTY.out);have HYB6:=Ph (zD HYB.out hBb);have HJ6:Hid (J (m+yE (L.take j)+(1+kC y.exprs)) W6):=Ph (HJB.out _ _ _ HJK.out (hBb.mono Yo));have HF6:Hid (FrC c W1 W6):=Ph (HF.out.trans (Fr.of_below hBb));have HBB:=Ph hBb;obtain⟨eb,heb'⟩:∃ b,w5.heap.size=b:=⟨_,rfl⟩;rw [heb']at heb hzb hz5 ⊢;have hN5:yE y.thn<N:=Yo;have hm6:m+yE (L.take j)+(1+kC y.exprs)+yE y.thn≤M:=Yo;clear hBb;refine(wpIn_wide (n:=6)).1 ?_;refine zF9 (α:=Sx×(SV×SV×SV)) (encs:=fun p=>#[.agg (qD3 p.1 p.2)]) rfl rfl Yo rfl trivial (enters_of Tryz.func115 Yk rfl) (fun _=>rfl) (fun q=>q=c) (fun k hk=>Yo) (fun p=>1+kC p.1.exprs) (fun p W=>SxP (fun _=>True) W p.1 p.2) M (m+yE (L.take j)+(1+kC y.exprs)) (yE y.thn) (fun k W=>J k W∧Bk W yb 187 #[.func (.yield l) #[] #[]]) ?hI ⟨HJ6.out,HYB6.out⟩ ?hseq ?hround ?hdone
     case hI=>exact fun k W W' h hb=>⟨HJB.out _ _ _ h.1 (hb.mono Yo),(hb.block _ Yo).trans h.2⟩
     case hseq =>
      intro l' J' W' hW hb hJI hJb hY' h0;exact IH.out _ hN5 y.thn ⟨qA,qn,qc⟩ 5 l' eb c _ M W'.heap.size J' W' (lF _) Yo (Ph (HTZ.out.stay (Stays.below' hb))) (Ph ((hb.block _ Yo).trans heb.out)) Yo (lF _) hm6 hM6 (Ph fun k W hj=>HJC.out k W (hJI k W hj).1) (Ph hJb) (Ph fun k z V W hj hs hk ht q=>hY' k (z,V) W q hj hs ht hk) (Ph h0)
     case hround =>
      intro l' k p W hi hl hr hg hk;obtain⟨z,⟨zpA,zpn,zpc⟩,⟨zqA,zqn,zqc⟩,⟨zrA,zrn,zrc⟩⟩:=p;obtain⟨hj,hyb⟩:=hi;obtain⟨r0,hr0⟩:=hr;have hlW:l'<W.heap.size:=zO hr0;simp only [qD3];gi_wp2
      refine⟨Fr.of_below (zG (lB _ _) _),fun rr=>?_⟩;have hal:Below W.heap.size W (W.alloc (.cells #[uB z.kind,uR z.name,.slice zpA zpn zpc,uI z.bound,.slice zqA zqn zqc,.slice zrA zrn zrc] 108)):=zG (lB _ _) _;have hr6:(W.alloc (.cells #[uB z.kind,uR z.name,.slice zpA zpn zpc,uI z.bound,.slice zqA zqn zqc,.slice zrA zrn zrc] 108)).heap[l']?=some (.loop r0):=(hal.block l' hlW).trans hr0;have hsz6:((W.alloc (.cells #[uB z.kind,uR z.name,.slice zpA zpn zpc,uI z.bound,.slice zqA zqn zqc,.slice zrA zrn zrc] 108)).putObj l' (.loop rr)).heap.size=W.heap.size+1:=by simp [World.putObj]
      have HZ:Hid (Bk ((W.alloc (.cells #[uB z.kind,uR z.name,.slice zpA zpn zpc,uI z.bound,.slice zqA zqn zqc,.slice zrA zrn zrc] 108)).putObj l' (.loop rr)) W.heap.size 108 #[uB z.kind,uR z.name,.slice zpA zpn zpc,uI z.bound,.slice zqA zqn zqc,.slice zrA zrn zrc]):=Ph (xJ (Bk.new _ _ _) Yo);have HYB7:Hid (Bk ((W.alloc (.cells #[uB z.kind,uR z.name,.slice zpA zpn zpc,uI z.bound,.slice zqA zqn zqc,.slice zrA zrn zrc] 108)).putObj l' (.loop rr)) yb 187 #[.func (.yield l) #[] #[]]):=Ph (xJ (zD hyb hal) Yo);have hj6:J k ((W.alloc (.cells #[uB z.kind,uR z.name,.slice zpA zpn zpc,uI z.bound,.slice zqA zqn zqc,.slice zrA zrn zrc] 108)).putObj l' (.loop rr)):=HJB.out _ _ _ hj ((hal.mono Yo).trans (yL Yo));have ht6:SxP (fun _=>True) ((W.alloc (.cells #[uB z.kind,uR z.name,.slice zpA zpn zpc,uI z.bound,.slice zqA zqn zqc,.slice zrA zrn zrc] 108)).putObj l' (.loop rr)) z (⟨zpA,zpn,zpc⟩,⟨zqA,zqn,zqc⟩,⟨zrA,zrn,zrc⟩):=itS.stay _ _ _ _ _ (xN hr6) (itS.stay _ _ _ _ _ (Stays.below hal) hg);obtain⟨fn,tmps,assign,body,hy,hRn⟩:=HY.out k z (⟨zpA,zpn,zpc⟩,⟨zqA,zqn,zqc⟩,⟨zrA,zrn,zrc⟩) _ hj6 Yo hk ht6 3;have HRn:=Ph hRn;dsimp only [qD3]at hy;clear hRn hal hr6 hr0 hyb hj6 ht6 hj hg;generalize ((W.alloc (.cells #[uB z.kind,uR z.name,.slice zpA zpn zpc,uI z.bound,.slice zqA zqn zqc,.slice zrA zrn zrc] 108)).putObj l' (.loop rr))=U at *;generalize W.heap.size=zb at *;have z0:U.cell? ⟨zb,0,none⟩=some (uB z.kind):=HZ.out.cell 0;have z1:U.cell? ⟨zb,1,none⟩=some (uR z.name):=HZ.out.cell 1;have z2:U.cell? ⟨zb,2,none⟩=some (.slice zpA zpn zpc):=HZ.out.cell 2;have z3:U.cell? ⟨zb,3,none⟩=some (uI z.bound):=HZ.out.cell 3;have z4:U.cell? ⟨zb,4,none⟩=some (.slice zqA zqn zqc):=HZ.out.cell 4;have z5:U.cell? ⟨zb,5,none⟩=some (.slice zrA zrn zrc):=HZ.out.cell 5;have y0:U.cell? ⟨yb,0,none⟩=some (.func (.yield l) #[] #[]):=HYB7.out.cell 0;gi_wp2
      refine RoundIn.mono (show RoundIn (Fence.wide.inRound l') 3 _ _ _ _ _ _ _ _ from HRn.out) ?_;clear hy HRn;rintro e W3 ⟨rfl,hJ3,hF3⟩;have HJ3:=Ph hJ3;have HF3:=Ph hF3;clear hJ3 hF3 z0 z1 z2 z3 z4 z5 y0;gi_wp2
      exact⟨⟨HJ3.out,HYB7.out.fr HF3.out Yo⟩,HF3.out⟩
     case hdone =>
      intro D W hD hi hf hd;obtain⟨hj,hyb⟩:=hi;have HJ3:=Ph hj;have HYB3:=Ph hyb;have hC6:=zD hcs5 HBB.out;have HF3:Hid (FrC c W1 W):=Ph (HF6.out.trans hf);have HTY3:=Ph (itS.stay _ _ _ _ _ (FrC.stays hf hC6) HTY6.out);have HMK3:Hid (Marks W1.heap.size ({ target:=.collected D,args:=#[] } :: ds5) W):=Ph (Marks.cons HMK.out (by have:=HF.out.size;omega) Yo hd (fun k o hk ho=>FrC.others hf hC6 k o ((HBB.out.block k (zO hk)).trans hk) ho));have hws3:=hf.size;clear hj hyb hf hd hC6;gi_wp2
      go_wp2
      refine Handed.intro 1 Yo (hJJ2 _ _ _ ⟨1,1,_,_,_,_,_,_,_,_,_,_,_,_,_,Yo,rfl,rfl,HMK3,?_,HF3,HYB3,HTY3,Yo⟩);simpa using HJ3
    ·have hjk:J (m+yE (L.take j)+(1+kC y.exprs)+yE y.thn) w5:=by simpa using HJ5.out
     obtain rfl:kI=1:=Yo;clear hkI;have HJK:=Ph hjk;clear hjk HJ5;have ix:∀ w,(Instr.index 188 (.agg #[.slice qA qn qc,.slice rA rn rc]) (uI 1)).run Tryz.prog w=.ok (.slice rA rn rc) w:=fun _=>Yk;go_upto_region 8 with fail
     clear ix;go_wp2_with fail
     refine(qO3 rA rn rc w5).mono ?_;rintro e W6 ⟨rfl,rfl⟩;go_wp2_with fail
     have heb:=Ph (Bk.new w5 34 #[.slice rA rn rc]);have hBb:Below w5.heap.size w5 (w5.alloc (.cells #[.slice rA rn rc] 34)):=zG (lB _ _) _;have hzb:(w5.alloc (.cells #[.slice rA rn rc] 34)).heap.size=w5.heap.size+1:=lO _ _;generalize (w5.alloc _)=W6 at heb hBb hzb ⊢;have HTZ:Hid (StsP (fun _=>True) W6 y.els ⟨rA,rn,rc⟩):=Ph (HTY.out.el.stay (Stays.below hBb));have HTY6:=Ph (itS.stay _ _ _ _ _ (Stays.below hBb) HTY.out);have HYB6:=Ph (zD HYB.out hBb);have HJ6:Hid (J (m+yE (L.take j)+(1+kC y.exprs)+yE y.thn) W6):=Ph (HJB.out _ _ _ HJK.out (hBb.mono Yo));have HF6:Hid (FrC c W1 W6):=Ph (HF.out.trans (Fr.of_below hBb));have HBB:=Ph hBb;obtain⟨eb,heb'⟩:∃ b,w5.heap.size=b:=⟨_,rfl⟩;rw [heb']at heb hzb hz5 ⊢;have hN5:yE y.els<N:=Yo;have hm6:m+yE (L.take j)+(1+kC y.exprs)+yE y.thn+yE y.els≤M:=Yo;clear hBb;refine(wpIn_wide (n:=6)).1 ?_;refine zF9 (α:=Sx×(SV×SV×SV)) (encs:=fun p=>#[.agg (qD3 p.1 p.2)]) rfl rfl Yo rfl trivial (enters_of Tryz.func115 Yk rfl) (fun _=>rfl) (fun q=>q=c) (fun k hk=>Yo) (fun p=>1+kC p.1.exprs) (fun p W=>SxP (fun _=>True) W p.1 p.2) M (m+yE (L.take j)+(1+kC y.exprs)+yE y.thn) (yE y.els) (fun k W=>J k W∧Bk W yb 187 #[.func (.yield l) #[] #[]]) ?hI ⟨HJ6.out,HYB6.out⟩ ?hseq ?hround ?hdone
     case hI=>exact fun k W W' h hb=>⟨HJB.out _ _ _ h.1 (hb.mono Yo),(hb.block _ Yo).trans h.2⟩
     case hseq =>
      intro l' J' W' hW hb hJI hJb hY' h0;exact IH.out _ hN5 y.els ⟨rA,rn,rc⟩ 5 l' eb c _ M W'.heap.size J' W' (lF _) Yo (Ph (HTZ.out.stay (Stays.below' hb))) (Ph ((hb.block _ Yo).trans heb.out)) Yo (lF _) hm6 hM6 (Ph fun k W hj=>HJC.out k W (hJI k W hj).1) (Ph hJb) (Ph fun k z V W hj hs hk ht q=>hY' k (z,V) W q hj hs ht hk) (Ph h0)
     case hround =>
      intro l' k p W hi hl hr hg hk;obtain⟨z,⟨zpA,zpn,zpc⟩,⟨zqA,zqn,zqc⟩,⟨zrA,zrn,zrc⟩⟩:=p;obtain⟨hj,hyb⟩:=hi;obtain⟨r0,hr0⟩:=hr;have hlW:l'<W.heap.size:=zO hr0;simp only [qD3];gi_wp2
      refine⟨Fr.of_below (zG (lB _ _) _),fun rr=>?_⟩;have hal:Below W.heap.size W (W.alloc (.cells #[uB z.kind,uR z.name,.slice zpA zpn zpc,uI z.bound,.slice zqA zqn zqc,.slice zrA zrn zrc] 108)):=zG (lB _ _) _;have hr6:(W.alloc (.cells #[uB z.kind,uR z.name,.slice zpA zpn zpc,uI z.bound,.slice zqA zqn zqc,.slice zrA zrn zrc] 108)).heap[l']?=some (.loop r0):=(hal.block l' hlW).trans hr0;have hsz6:((W.alloc (.cells #[uB z.kind,uR z.name,.slice zpA zpn zpc,uI z.bound,.slice zqA zqn zqc,.slice zrA zrn zrc] 108)).putObj l' (.loop rr)).heap.size=W.heap.size+1:=by simp [World.putObj]
      have HZ:Hid (Bk ((W.alloc (.cells #[uB z.kind,uR z.name,.slice zpA zpn zpc,uI z.bound,.slice zqA zqn zqc,.slice zrA zrn zrc] 108)).putObj l' (.loop rr)) W.heap.size 108 #[uB z.kind,uR z.name,.slice zpA zpn zpc,uI z.bound,.slice zqA zqn zqc,.slice zrA zrn zrc]):=Ph (xJ (Bk.new _ _ _) Yo);have HYB7:Hid (Bk ((W.alloc (.cells #[uB z.kind,uR z.name,.slice zpA zpn zpc,uI z.bound,.slice zqA zqn zqc,.slice zrA zrn zrc] 108)).putObj l' (.loop rr)) yb 187 #[.func (.yield l) #[] #[]]):=Ph (xJ (zD hyb hal) Yo);have hj6:J k ((W.alloc (.cells #[uB z.kind,uR z.name,.slice zpA zpn zpc,uI z.bound,.slice zqA zqn zqc,.slice zrA zrn zrc] 108)).putObj l' (.loop rr)):=HJB.out _ _ _ hj ((hal.mono Yo).trans (yL Yo));have ht6:SxP (fun _=>True) ((W.alloc (.cells #[uB z.kind,uR z.name,.slice zpA zpn zpc,uI z.bound,.slice zqA zqn zqc,.slice zrA zrn zrc] 108)).putObj l' (.loop rr)) z (⟨zpA,zpn,zpc⟩,⟨zqA,zqn,zqc⟩,⟨zrA,zrn,zrc⟩):=itS.stay _ _ _ _ _ (xN hr6) (itS.stay _ _ _ _ _ (Stays.below hal) hg);obtain⟨fn,tmps,assign,body,hy,hRn⟩:=HY.out k z (⟨zpA,zpn,zpc⟩,⟨zqA,zqn,zqc⟩,⟨zrA,zrn,zrc⟩) _ hj6 Yo hk ht6 3;have HRn:=Ph hRn;dsimp only [qD3]at hy;clear hRn hal hr6 hr0 hyb hj6 ht6 hj hg;generalize ((W.alloc (.cells #[uB z.kind,uR z.name,.slice zpA zpn zpc,uI z.bound,.slice zqA zqn zqc,.slice zrA zrn zrc] 108)).putObj l' (.loop rr))=U at *;generalize W.heap.size=zb at *;have z0:U.cell? ⟨zb,0,none⟩=some (uB z.kind):=HZ.out.cell 0;have z1:U.cell? ⟨zb,1,none⟩=some (uR z.name):=HZ.out.cell 1;have z2:U.cell? ⟨zb,2,none⟩=some (.slice zpA zpn zpc):=HZ.out.cell 2;have z3:U.cell? ⟨zb,3,none⟩=some (uI z.bound):=HZ.out.cell 3;have z4:U.cell? ⟨zb,4,none⟩=some (.slice zqA zqn zqc):=HZ.out.cell 4;have z5:U.cell? ⟨zb,5,none⟩=some (.slice zrA zrn zrc):=HZ.out.cell 5;have y0:U.cell? ⟨yb,0,none⟩=some (.func (.yield l) #[] #[]):=HYB7.out.cell 0;gi_wp2
      refine RoundIn.mono (show RoundIn (Fence.wide.inRound l') 3 _ _ _ _ _ _ _ _ from HRn.out) ?_;clear hy HRn;rintro e W3 ⟨rfl,hJ3,hF3⟩;have HJ3:=Ph hJ3;have HF3:=Ph hF3;clear hJ3 hF3 z0 z1 z2 z3 z4 z5 y0;gi_wp2
      exact⟨⟨HJ3.out,HYB7.out.fr HF3.out Yo⟩,HF3.out⟩
     case hdone =>
      intro D W hD hi hf hd;obtain⟨hj,hyb⟩:=hi;have HJ3:=Ph hj;have HYB3:=Ph hyb;have hC6:=zD hcs5 HBB.out;have HF3:Hid (FrC c W1 W):=Ph (HF6.out.trans hf);have HTY3:=Ph (itS.stay _ _ _ _ _ (FrC.stays hf hC6) HTY6.out);have HMK3:Hid (Marks W1.heap.size ({ target:=.collected D,args:=#[] } :: ds5) W):=Ph (Marks.cons HMK.out (by have:=HF.out.size;omega) Yo hd (fun k o hk ho=>FrC.others hf hC6 k o ((HBB.out.block k (zO hk)).trans hk) ho));have hws3:=hf.size;clear hj hyb hf hd hC6;gi_wp2
      go_wp2
      refine Handed.intro 0 Yo (hJJ2 _ _ _ ⟨2,2,_,_,_,_,_,_,_,_,_,_,_,_,_,Yo,rfl,rfl,HMK3,?_,HF3,HYB3,HTY3,Yo⟩);simpa using HJ3
    ·have hjk:J (m+yE (L.take j)+(1+kC y.exprs)+yE y.thn+yE y.els) w5:=by simpa using HJ5.out
     obtain rfl:kI=2:=Yo;clear hkI;have HJ3:Hid (J (m+yE (L.take (j+1))) w5):=Ph (by rw [(qO4 L j y HX.out).2,qJ7];have e:m+(yE (L.take j)+(1+kC y.exprs+yE y.thn+yE y.els))=m+yE (L.take j)+(1+kC y.exprs)+yE y.thn+yE y.els:=Yo;rw [e];exact hjk);have hwj:IntKind.i64.wrap ((j:Int)+1)=((j+1:Nat):Int):=by rw [lL];omega
     clear hjk HJ5;go_wp2
     refine Handed.intro (g-1) Yo (hJJ _ _ _ ⟨j+1,_,_,_,_,_,_,_,_,_,_,_,_,_,_,_,_,_,_,_,_,_,_,_,_,_,_,_,_,Yo,rfl,HMK,HJ3,HF,HYB⟩)
   ·obtain rfl:j=Sn:=by omega
    have e1:decide ((j:Int)<(j:Int))=false:=Ym;go_wp2
    obtain⟨Ds,rfl,hn,ha⟩:=HMK.out;refine zB9 (b0:=W1.heap.size) Ds w hn ha fun w' hb=>⟨_,results_none rfl _ _ _,⟨_,rfl⟩,?_,HF.out.then (G:=fun k=>W1.heap.size≤k) ⟨hb.os,hb.tape,hb.output,hb.size,fun i _ hi=>hb.block i Yo⟩ fun i h1 h2=>Yo⟩;have h1:=HJB.out _ _ _ HJ.out (hb.mono hb0);have h2:=HL.out;rw [cJ Yo]at h1;exact h1
 termination_by N=>N
end
section
open Go.RowKit Go.PlainAid Go.Shelf
attribute [local go_sem] Oper.semAt_some
theorem RowX.get {P:Nat→Prop} {w:World} {l:List Ex} {S:SV} (h:RowX P w l S) {i:Nat} (hi:i<S.n) :
 ∃ b off y v,S.A=some ⟨b,off,none⟩∧l[i]?=some y∧TX P w y v∧b<w.heap.size∧∀ j u,j<6→(qX y v)[j]?=some u→w.cell? ⟨b,off+(i*6+j),none⟩=some u:=by
 cases h with
 | mk vs hl hn hP rd all =>
   obtain⟨b,off,p,hA,hp,hb,hcl⟩:=rd.rd.flat (f:=fun p:Ex×SV=>qX p.1 p.2) (m:=6) (fun p=>rfl) Yo (L:=l.zip vs) (i:=i) (by rw [List.length_zip,hl,Nat.min_self,←hn];exact hi);obtain⟨y,v⟩:=p;obtain⟨h1,h2⟩:=List.getElem?_zip_eq_some.1 hp;exact⟨b,off,y,v,hA,h1,all i y v h1 h2,hb,hcl⟩
theorem jK3 (k:Nat) (h:k≤20000) (w:World):Calls Tryz.prog 44 #[uI k] w fun e w'=>e=.returned (.bool true)∧w=w':=by
 have e1:decide ((k:Int)≤20000)=true:=Yp;go_enter Tryz.func44,Tryz.ntmps44
 go_wp2
 go_ret;exact⟨rfl,rfl⟩
theorem zW2 (L:List Sx) (S:SV) (k:Nat) (w:World) (HT:Hid (StsP (fun _=>True) w L S)) (hk:k+yE L≤20000) :
 Calls Tryz.prog 45 #[.slice S.A S.n S.c,uI k] w fun e w'=>e=.returned (uI ((k+yE L:Nat):Int))∧Below w.heap.size w w':=by
 refine(callsIn_wide (n:=6)).1 ?_;refine callsIn_of_wp_marks Tryz.func45 rfl trivial ?_ rfl;simp only [Tryz.ntmps45,List.size_toArray,Yc,Yn,Nat.reduceAdd,Nat.reduceSub,Array.replicate_succ,Array.replicate_zero,List.push_toArray,List.append_toArray,cF,lR];refine wpIn_wide.2 ?_;go_wp2
 have HK1:Hid (Bk (w.alloc (.cells #[uI k] 3)) w.heap.size 3 #[uI k]):=Ph (Bk.new _ _ _);have HB1:Hid (Below w.heap.size w (w.alloc (.cells #[uI k] 3))):=Ph (zG (lB _ _) _);have hz1:(w.alloc (.cells #[uI k] 3)).heap.size=w.heap.size+1:=by rw [lO]
 generalize (w.alloc _)=W1 at *;obtain⟨cb,heb⟩:∃ b,w.heap.size=b:=⟨_,rfl⟩;rw [heb]at HK1 HB1 hz1 ⊢;have HT1:Hid (StsP (fun _=>True) W1 L S):=Ph (HT.out.stay (Stays.below (heb▸HB1.out)));go_step3
 go_wp2
 go_step3
 go_wp2_with fail
 refine(qO3 S.A S.n S.c W1).mono ?_;rintro e W2 ⟨rfl,rfl⟩;go_wp2_with fail
 have hBb:Below W1.heap.size W1 (W1.alloc (.cells #[.slice S.A S.n S.c] 34)):=zG (lB _ _) _;have HE2:Hid (Bk (W1.alloc (.cells #[.slice S.A S.n S.c] 34)) W1.heap.size 34 #[.slice S.A S.n S.c]):=Ph (Bk.new _ _ _);have hz2:(W1.alloc (.cells #[.slice S.A S.n S.c] 34)).heap.size=cb+2:=by rw [lO,hz1]
 generalize (W1.alloc _)=W2 at *;rw [hz1]at HE2 hBb;have HK2:=Ph (HK1.out.below hBb Yo);have HT2:Hid (StsP (fun _=>True) W2 L S):=Ph (HT1.out.stay (Stays.below' hBb));have HB2:Hid (Below cb w W2):=Ph (HB1.out.trans (hBb.mono Yo));clear hBb HK1 HT1 HB1;refine(wpIn_wide (n:=6)).1 ?_;refine zF9 (α:=Sx×(SV×SV×SV)) (encs:=fun p=>#[.agg (qD3 p.1 p.2)]) rfl rfl Yo rfl trivial (enters_of Tryz.func115 Yk rfl) (fun _=>rfl) (fun q=>q=cb) (fun k hk=>Yo) (fun p=>1+kC p.1.exprs) (fun p W=>SxP (fun _=>True) W p.1 p.2) (k+yE L) k (yE L) (fun m W=>Bk W cb 3 #[uI m]) ?hI HK2.out ?hseq ?hround ?hdone
 case hI=>exact fun m W W' h hb=>h.below hb Yo
 case hseq =>
  intro l' J' W' hW hb hJI hJb hY' h0;exact qZ4 (yE L) L S 5 l' (cb+1) cb k (k+yE L) W'.heap.size J' W' (lF _) Yo (Ph (HT2.out.stay (Stays.below' hb))) (Ph (HE2.out.below hb Yo)) Yo (lF _) (lF _) Yo (Ph fun k W hj=>⟨_,hJI k W hj⟩) (Ph hJb) (Ph fun k z V W hj hs hk ht q=>hY' k (z,V) W q hj hs ht hk) (Ph h0)
 case hround =>
  intro l' m p W hi hl hr hg hm;obtain⟨z,⟨zpA,zpn,zpc⟩,⟨zqA,zqn,zqc⟩,⟨zrA,zrn,zrc⟩⟩:=p;obtain⟨r0,hr0⟩:=hr;have hlW:l'<W.heap.size:=zO hr0;have hel:cb<l':=Yo;clear HT2 HK2 HE2 HB2;simp only [qD3];gi_wp2
  refine⟨Fr.of_below (zG (lB _ _) _),fun rr=>?_⟩;have hal:Below W.heap.size W (W.alloc (.cells #[uB z.kind,uR z.name,.slice zpA zpn zpc,uI z.bound,.slice zqA zqn zqc,.slice zrA zrn zrc] 108)):=zG (lB _ _) _;have hr6:(W.alloc (.cells #[uB z.kind,uR z.name,.slice zpA zpn zpc,uI z.bound,.slice zqA zqn zqc,.slice zrA zrn zrc] 108)).heap[l']?=some (.loop r0):=(hal.block l' hlW).trans hr0;have hsz6:((W.alloc (.cells #[uB z.kind,uR z.name,.slice zpA zpn zpc,uI z.bound,.slice zqA zqn zqc,.slice zrA zrn zrc] 108)).putObj l' (.loop rr)).heap.size=W.heap.size+1:=by simp [World.putObj]
  have HZ:Hid (Bk ((W.alloc (.cells #[uB z.kind,uR z.name,.slice zpA zpn zpc,uI z.bound,.slice zqA zqn zqc,.slice zrA zrn zrc] 108)).putObj l' (.loop rr)) W.heap.size 108 #[uB z.kind,uR z.name,.slice zpA zpn zpc,uI z.bound,.slice zqA zqn zqc,.slice zrA zrn zrc]):=Ph (xJ (Bk.new _ _ _) Yo);have HU:Hid (Bk ((W.alloc (.cells #[uB z.kind,uR z.name,.slice zpA zpn zpc,uI z.bound,.slice zqA zqn zqc,.slice zrA zrn zrc] 108)).putObj l' (.loop rr)) cb 3 #[uI m]):=Ph (xJ (zD hi hal) Yo);have HTZ:Hid (RowX (fun _=>True) ((W.alloc (.cells #[uB z.kind,uR z.name,.slice zpA zpn zpc,uI z.bound,.slice zqA zqn zqc,.slice zrA zrn zrc] 108)).putObj l' (.loop rr)) z.exprs ⟨zpA,zpn,zpc⟩):=Ph (itS.stay _ _ _ _ _ (xN hr6) (itS.stay _ _ _ _ _ (Stays.below hal) hg)).ex;clear hal hr6 hr0 hg hi;generalize ((W.alloc (.cells #[uB z.kind,uR z.name,.slice zpA zpn zpc,uI z.bound,.slice zqA zqn zqc,.slice zrA zrn zrc] 108)).putObj l' (.loop rr))=U at *;generalize W.heap.size=zb at *;have x0:U.cell? ⟨cb,0,none⟩=some (uI m):=HU.out.cell 0;have f0:U.frozen? ⟨cb,0,none⟩=false:=HU.out.frozen 0;have hwj:IntKind.i64.wrap ((m:Int)+1)=((m+1:Nat):Int):=by rw [lL];omega
  have z2:U.cell? ⟨zb,2,none⟩=some (.slice zpA zpn zpc):=HZ.out.cell 2;have hne:zb≠cb:=Yo;have hlU:cb<U.heap.size:=HU.out.lt;have HU1:Hid (Bk (U.setCell ⟨cb,0,none⟩ (uI ((m:Int)+1))) cb 3 #[uI ((m+1:Nat):Int)]):=Ph (HU.out.put 0 _);have HF1:Hid (FrC cb U (U.setCell ⟨cb,0,none⟩ (uI ((m:Int)+1)))):=Ph (Fr.setCell (F:=fun q=>q=cb) (p:=⟨cb,0,none⟩) (Fr.refl _ U) (.inl rfl) _);have hszX:zpn≤20000:=by have h1:=HTZ.out.len;have h2:=zO8 z.exprs;(try dsimp only at h1);omega
  gi_wp2
  clear x0 f0 z2 hwj;gi_loopg [16] zpn (fun g v16 wr=>∃ i:Nat,g+i=zpn∧v16=uI i∧Hid (Bk wr cb 3 #[uI ((m+1+kC (z.exprs.take i):Nat):Int)])∧Hid (FrC cb U wr))
  case atStart=>exact⟨0,Yo,rfl,by simpa [kC]using HU1,HF1⟩
  case round =>
   obtain⟨i,hgi,rfl,HK,HF⟩:=hrel;have hFs:cb<wr.heap.size:=HK.out.lt;have HTw:Hid (RowX (fun _=>True) wr z.exprs ⟨zpA,zpn,zpc⟩):=Ph (HTZ.out.stay itX qW (FrC.stays HF.out HU.out));by_cases hlt:i<zpn
   ·have e1:decide ((i:Int)<(zpn:Int))=true:=by simp;omega
    have hji:(i:Int)<(zpn:Int):=Yo;obtain⟨b,off,y,v,hA,hx,hty,hb,hc⟩:=RowX.get HTw.out (i:=i) hlt;obtain⟨vA,vn,vc⟩:=v;(try dsimp only at hA);subst hA;have c0:wr.cell? ⟨b,off+i*6,none⟩=some (uB y.kind):=hc 0 _ Yo rfl;have c1:wr.cell? ⟨b,off+i*6+1,none⟩=some (uB y.op):=hc 1 _ Yo rfl;have c2:wr.cell? ⟨b,off+i*6+2,none⟩=some (uW y.value):=hc 2 _ Yo rfl;have c3:wr.cell? ⟨b,off+i*6+3,none⟩=some (uI y.width):=hc 3 _ Yo rfl;have c4:wr.cell? ⟨b,off+i*6+4,none⟩=some (uR y.name):=hc 4 _ Yo rfl;have c5:wr.cell? ⟨b,off+i*6+5,none⟩=some (.slice vA vn vc):=hc 5 _ Yo rfl;have hsm:=vE z.exprs i y hx;have HTY:=Ph hty;clear hx hc hty;gi_upto_region 7 with fail
    have hyn:=Ph (Bk.new wr 31 #[uB y.kind,uB y.op,uW y.value,uI y.width,uR y.name,.slice vA vn vc]);have hBa:Below wr.heap.size wr (wr.alloc (.cells #[uB y.kind,uB y.op,uW y.value,uI y.width,uR y.name,.slice vA vn vc] 31)):=zG (lB _ _) _;have hza:(wr.alloc (.cells #[uB y.kind,uB y.op,uW y.value,uI y.width,uR y.name,.slice vA vn vc] 31)).heap.size=wr.heap.size+1:=lO _ _;generalize (wr.alloc _)=W4 at hyn hBa hza ⊢;obtain⟨xb,hxb⟩:∃ b,wr.heap.size=b:=⟨_,rfl⟩;rw [hxb]at hyn ⊢;have HK4:=Ph (zD HK.out hBa);have HC:=Ph (qU3 y ⟨vA,vn,vc⟩ (m+1+kC (z.exprs.take i)) W4 (Ph (HTY.out.bel hBa)) Yo);dsimp only [qD5]at HC;have HF4:Hid (FrC cb U W4):=Ph (HF.out.trans (Fr.of_below hBa));have x0:W4.cell? ⟨xb,0,none⟩=some (uB y.kind):=hyn.out.cell 0;have x1:W4.cell? ⟨xb,1,none⟩=some (uB y.op):=hyn.out.cell 1;have x2:W4.cell? ⟨xb,2,none⟩=some (uW y.value):=hyn.out.cell 2;have x3:W4.cell? ⟨xb,3,none⟩=some (uI y.width):=hyn.out.cell 3;have x4:W4.cell? ⟨xb,4,none⟩=some (uR y.name):=hyn.out.cell 4;have x5:W4.cell? ⟨xb,5,none⟩=some (.slice vA vn vc):=hyn.out.cell 5;have k0:W4.cell? ⟨cb,0,none⟩=some (uI ((m+1+kC (z.exprs.take i):Nat):Int)):=HK4.out.cell 0;generalize hq:m+1+kC (z.exprs.take i)=q at *;clear c0 c1 c2 c3 c4 c5;have hwj:IntKind.i64.wrap ((i:Int)+1)=((i+1:Nat):Int):=by rw [lL];omega
    gi_wp2_with (refine⟨trivial,?_⟩;gi_at_call 52;refine(CallsIn.inRound l' (callsIn_wide.2 HC.out)).mono ?_;rintro e W5 ⟨rfl,hb5⟩;have HB5:=Ph hb5;have HK5:=Ph (zD HK4.out hb5);clear hb5 k0;have f5:W5.frozen? ⟨cb,0,none⟩=false:=HK5.out.frozen 0;have k5:W5.cell? ⟨cb,0,none⟩=some (uI q):=HK5.out.cell 0)
    have HKp:=Ph (HK5.out.put 0 (uI ((q:Int)+(szX y:Int))));have HFp:Hid (FrC cb U (W5.setCell ⟨cb,0,none⟩ (uI ((q:Int)+(szX y:Int))))):=Ph (Fr.setCell (F:=fun q=>q=cb) (p:=⟨cb,0,none⟩) (HF4.out.trans (Fr.of_below HB5.out)) (.inl rfl) _);clear x0 x1 x2 x3 x4 x5 k5 f5;have hz4:((q+szX y:Nat):Int)=(q:Int)+(szX y:Int):=Yo;gi_roundg (gk-1)
    case measure=>omega
    case rel =>
     refine⟨i+1,Yo,rfl,?_,HFp⟩;rw [hsm.2,←Nat.add_assoc,hq,hz4];exact HKp
   ·obtain rfl:i=zpn:=by omega
    have e1:decide ((i:Int)<(i:Int))=false:=Ym;have hl:z.exprs.take i=z.exprs:=cJ (by have:=HTw.out.len;(try dsimp only at this);omega);rw [hl]at HK;have k0:wr.cell? ⟨cb,0,none⟩=some (uI ((m+1+kC z.exprs:Nat):Int)):=HK.out.cell 0;have e2:decide ((20000:Int)<((m+1+kC z.exprs:Nat):Int))=false:=Yp;have e:((m+1+kC z.exprs:Nat):Int)=(m:Int)+(1+(kC z.exprs:Int)):=Yo;have HK9:=HK;rw [e]at HK9;gi_wp2
    exact⟨HK9.out,HF.out⟩
 case hdone =>
  intro D W hD hi hf hd;have HI:=Ph hi;have HD:=Ph hd;have HBW:Hid (Below w.heap.size w W):=Ph (by rw [heb];exact HB2.out.trans (hf.below cb Yo (fun q hq e=>Yo)));have x0:W.cell? ⟨cb,0,none⟩=some (uI ((k+yE L:Nat):Int)):=hi.cell 0;clear hi hf hd HT2 HK2 HE2 HB2;gi_wp2
  go_wp2
  rw [Exit.noGoto_ret];exact⟨Ym,.inl ⟨D,_,rfl,run_takeDeferred HD.out,⟨_,results_tmp rfl _ _ _,rfl,HBW.out.trans (yL Yo)⟩⟩⟩
end
section
open Go.RowKit Go.PlainAid
def kG3 (w:World) (k:Nat):Prop:=∃ cs fr,w.heap[k]?=some (.cells cs 3 fr)
def FrQ (B p:Nat) (w w':World):Prop:=Fr (fun k=>k=p∨(B≤k∧kG3 w k)) w w'
section
variable {B p:Nat} {w w1 w':World}
theorem FrQ.refl (p:Nat) (w:World):FrQ B p w w:=Fr.refl _ w
theorem FrQ.trans (h:FrQ B p w w1) (k:FrQ B p w1 w'):FrQ B p w w':=by
 refine⟨k.os.trans h.os,k.tape.trans h.tape,k.output.trans h.output,lE h.size k.size,fun i hi hf=>?_⟩;have e:=h.block i hi hf;refine(k.block i (lX hi h.size) fun hk=>?_).trans e;rcases hk with rfl | ⟨hB,cs,fr,hk⟩
 ·exact hf (.inl rfl)
 ·exact hf (.inr ⟨hB,cs,fr,e.symm.trans hk⟩)
theorem FrQ.of_below (h:Below w.heap.size w w'):FrQ B p w w':=Fr.of_below h
theorem FrQ.of_p (h:Fr (fun k=>k=p) w w'):FrQ B p w w':=h.mono fun k _ e=>.inl e
theorem FrQ.then (h:FrQ B p w w1) (hb:Below w1.heap.size w1 w'):FrQ B p w w':=h.trans (.of_below hb)
theorem FrQ.bk {r:Nat} {t:TypeId} {cs:Array Value} (h:FrQ B p w w') (hb:Bk w r t cs) (ht:t≠3) (hr:r≠p):Bk w' r t cs:=hb.fr h fun e=>by
 rcases e with e | ⟨_,cs2,fr,e⟩
 ·exact hr e
 ·unfold Bk at hb;rw [hb]at e;injection e with e;injection e with _ e;exact ht e
theorem FrQ.stays {P:Nat→Prop} {cs:Array Value} (h:FrQ B p w w') (hp:Bk w p 152 cs):Stays P w w':=by
 intro b cs2 t fr hb ht _;refine h.block b (zO hb) fun e=>?_;rcases e with rfl | ⟨_,cs3,fr3,e⟩
 ·unfold Bk at hp;rw [hp]at hb;injection hb with hb;injection hb with _ hb;exact zX8 (hb▸ht)
 ·rw [e]at hb;injection hb with hb;injection hb with _ hb;exact zS5 (hb▸ht)
theorem FrQ.box {r:Nat} (h:FrQ B p w w1) (hf:Fr (fun k=>k=r) w1 w') (hr:w.heap.size≤r):FrQ B p w w' :=
 Fr.then h hf fun i hi e=>Yo
end
structure Pq (B:Nat) (w:World) (p:Nat) (E:Env) (T:TV) (q:QSt):Prop where
 ex:∃ Q:SV,Ps w p E T Q q.s∧AtO B w Q q.l∧Q.n=q.l.length
 g0:0<B
 g1:3<B
 b:B≤w.heap.size
structure PQ (B:Nat) (w:World) (p:Nat) (E:Env) (T:TV) (q:QSt) (w':World):Prop where
 pq:Pq B w' p E T q
 fr:FrQ B p w w'
section
variable {B:Nat} {w w1 w':World} {p:Nat} {E:Env} {T:TV} {q q1:QSt} {s:PSt}
theorem Pq.below (h:Pq B w p E T q) (hb:Below w.heap.size w w'):Pq B w' p E T q:=by obtain⟨Q,h1,h2,h3⟩:=h.ex;exact⟨⟨Q,h1.below hb,jP h2 (Fr.of_below (F:=fun _=>False) hb) (fun _ _ h=>h),h3⟩,h.g0,h.g1,lE h.b hb.size⟩
theorem Pq.lt (h:Pq B w p E T q):p<w.heap.size:=by obtain⟨Q,h1,_⟩:=h.ex;exact h1.lt
theorem Pq.bk (h:Pq B w p E T q):∃ cs,Bk w p 152 cs:=by obtain⟨Q,h1,_⟩:=h.ex;exact⟨_,h1.bk⟩
theorem Pq.vr (h:Pq B w p E T q):Vars w:=by obtain⟨Q,h1,_⟩:=h.ex;exact h1.vr
theorem Pq.stays {P:Nat→Prop} (h:Pq B w p E T q) (hf:FrQ B p w w'):Stays P w w':=by obtain⟨cs,hb⟩:=h.bk;exact hf.stays hb
theorem Pq.box {r:Nat} {t:TypeId} {cs:Array Value} (h:Pq B w p E T q) (hr:Bk w r t cs) (ht:t≠44) (hti:t≠3) (hrp:p≠r) (hB:B≤r) (hf:Fr (fun k=>k=r) w w'):Pq B w' p E T q:=by obtain⟨Q,h1,h2,h3⟩:=h.ex;have:=h.g0;have:=h.g1;exact⟨⟨Q,h1.box hr ht hrp Yo Yo hf,jP h2 hf (fun k hk e=>yR h2 hr (cX hti) (by rw [hk,e])),h3⟩,h.g0,h.g1,lE h.b hf.size⟩
theorem Pq.pp {Q:SV} (h:Pq B w p E T q) (h1:Ps w p E T Q q.s) (h2:AtO B w Q q.l) (h3:Q.n=q.l.length) (hp:PP w p E T Q s w'):PQ B w p E T (q.on s) w' :=
 ⟨⟨⟨Q,hp.ps,h2.fr h1 hp.fr,h3⟩,h.g0,h.g1,lE h.b hp.fr.size⟩,.of_p hp.fr⟩
theorem PQ.below (h:Pq B w p E T q) (hb:Below w.heap.size w w'):PQ B w p E T q w':=⟨h.below hb,.of_below hb⟩
theorem PQ.trans (h:PQ B w p E T q1 w1) (k:PQ B w1 p E T q w'):PQ B w p E T q w':=⟨k.pq,h.fr.trans k.fr⟩
theorem PQ.then (h:PQ B w p E T q w1) (hb:Below w1.heap.size w1 w'):PQ B w p E T q w':=⟨h.pq.below hb,h.fr.then hb⟩
theorem PQ.after (hb:Below w.heap.size w w1) (h:PQ B w1 p E T q w'):PQ B w p E T q w':=⟨h.pq,(FrQ.of_below hb).trans h.fr⟩
theorem PQ.bk {r:Nat} {t:TypeId} {cs:Array Value} (h:PQ B w p E T q w') (hb:Bk w r t cs) (ht:t≠3) (hr:r≠p):Bk w' r t cs:=h.fr.bk hb ht hr
theorem PQ.box {r:Nat} {t:TypeId} {cs:Array Value} (h:PQ B w p E T q w1) (hr:Bk w1 r t cs) (ht:t≠44) (hti:t≠3) (hrp:p≠r) (hB:B≤r) (hwr:w.heap.size≤r) (hf:Fr (fun k=>k=r) w1 w'):PQ B w p E T q w':=⟨h.pq.box hr ht hti hrp hB hf,h.fr.box hf hwr⟩
theorem PQ.stays {P:Nat→Prop} (h0:Pq B w p E T q1) (h:PQ B w p E T q w'):Stays P w w':=h0.stays h.fr
theorem zI6 (q:QSt) (w:World) (h:Hid (Pq B w p E T q)):Calls Tryz.prog 83 #[uQ p 0] w fun e w'=>e=.returned (nxV (zC E q.s))∧Below w.heap.size w w':=by obtain⟨Q,h1,h2,h3⟩:=h.out.ex;exact zC5 p E T Q q.s w (Ph h1)
theorem isQ (q:QSt) (u:List UInt8) (w:World) (h:Hid (Pq B w p E T q)):Calls Tryz.prog 87 #[uQ p 0,uR u] w fun x w'=>x=.returned (.bool (isP E q.s u))∧PQ B w p E T (q.on (isS E q.s u)) w':=by obtain⟨Q,h1,h2,h3⟩:=h.out.ex;exact(isC p E T Q q.s u w (Ph h1)).mono fun x w' hx=>⟨hx.1,h.out.pp h1 h2 h3 hx.2⟩
theorem zM9 (q:QSt) (u:List UInt8) (w:World) (h:Hid (Pq B w p E T q)):Calls Tryz.prog 84 #[uQ p 0,uR u] w fun x w'=>(∃ v,x=.returned v)∧PQ B w p E T (q.on (zI E q.s u)) w':=by obtain⟨Q,h1,h2,h3⟩:=h.out.ex;exact(jX5 p E T Q q.s u w (Ph h1)).mono fun x w' hx=>⟨hx.1,h.out.pp h1 h2 h3 hx.2⟩
theorem jD1 (q:QSt) (w:World) (h:Hid (Pq B w p E T q)):Calls Tryz.prog 111 #[uQ p 0] w fun x w'=>x=.returned (.string (str (jA E q.s)))∧PQ B w p E T (q.on (zL E q.s)) w':=by obtain⟨Q,h1,h2,h3⟩:=h.out.ex;exact(jX6 p E T Q q.s w (Ph h1)).mono fun x w' hx=>⟨hx.1,h.out.pp h1 h2 h3 hx.2⟩
theorem jT8 (q:QSt) (w:World) (h:Hid (Pq B w p E T q)):Calls Tryz.prog 85 #[uQ p 0] w fun x w'=>x=.returned (uI ((jB E q.s).1:Int))∧PQ B w p E T (q.on (jB E q.s).2) w':=by obtain⟨Q,h1,h2,h3⟩:=h.out.ex;exact(kQ1 p E T Q q.s w (Ph h1)).mono fun x w' hx=>⟨hx.1,h.out.pp h1 h2 h3 hx.2⟩
theorem qW3 {q q':QSt} {u:List UInt8} (h:kN E q u=some q'):okP q.s=true∧q'=q.on (kV E q.s u):=by
 unfold kN at h;split at h
 ·rename_i h0;injection h with h;exact⟨h0,h.symm⟩
 ·cases h
theorem qW4 {q q':QSt} {u:List UInt8} (h:jX E q u=some q'):okP q.s=true∧q'=q.on (wN E q.s u):=by
 unfold jX at h;split at h
 ·rename_i h0;injection h with h;exact⟨h0,h.symm⟩
 ·cases h
theorem qF3 (q:QSt) (u:List UInt8) (q':QSt) (hq:kN E q u=some q') (w:World) (h:Hid (Pq B w p E T q)):Calls Tryz.prog 112 #[uQ p 0,uR u] w fun x w'=>(∃ v,x=.returned v)∧PQ B w p E T q' w':=by obtain⟨Q,h1,h2,h3⟩:=h.out.ex;obtain⟨h0,rfl⟩:=qW3 hq;exact(jX7 p E T Q q.s u w (Ph h1) h0).mono fun x w' hx=>⟨hx.1,h.out.pp h1 h2 h3 hx.2⟩
theorem zI7 (q:QSt) (u:List UInt8) (q':QSt) (hq:jX E q u=some q') (w:World) (h:Hid (Pq B w p E T q)):Calls Tryz.prog 113 #[uQ p 0,uR u] w fun x w'=>(∃ v,x=.returned v)∧PQ B w p E T q' w':=by obtain⟨Q,h1,h2,h3⟩:=h.out.ex;obtain⟨h0,rfl⟩:=qW4 hq;exact(kF1 p E T Q q.s u w (Ph h1) h0).mono fun x w' hx=>⟨hx.1,h.out.pp h1 h2 h3 hx.2⟩
theorem zC3 (f:Nat) (q:QSt) (X:Ex) (q':QSt) (hx:qS E f q=some (X,q')) (w:World) (h:Hid (Pq B w p E T q)) :
 Calls Tryz.prog 54 #[uQ p 0] w fun e w'=>∃ S,e=.returned (.agg (qX X S).toArray)∧TX (fun k=>w.heap.size≤k) w' X S∧PQ B w p E T q' w':=by
 obtain⟨Q,h1,h2,h3⟩:=h.out.ex;unfold qS at hx;cases hc:zM E f q.s with
 | none=>rw [hc]at hx;cases hx
 | some r =>
   obtain⟨x,s⟩:=r;rw [hc]at hx;(try dsimp only at hx);split at hx
   ·rename_i hn;injection hx with hx;injection hx with e1 e2;subst e1 e2;have hi:∀ (w':World),Ps w p E T Q q.s→AtO B w Q q.l→Fr (FrA p Q) w w'→FrQ B p w w':=fun w' a b hf=>Fr.mono hf fun k hk e=>by
     rcases e with e | e
     ·exact .inl e
     ·refine .inr ?_;rcases b.2 with⟨h0,_⟩ | ⟨g',cap,cur,h0,hbs,hh,_⟩
      ·injection h0 with h0;rw [h0]at e;cases e
      ·injection h0 with h0;rw [h0]at e;injection e with e;have e':g'=k:=e;exact⟨e'▸hbs,cur,_,e'▸hh⟩
    exact(kF8 B q.l f q.s x s w hc (Ph h1) (Ph h2) h.out.g0 h.out.g1 h.out.b Yo).mono fun e w' ⟨S,Q',he,ht,hp,ho,hf,hq⟩ =>
     ⟨S,he,ht.toP,⟨⟨⟨Q',hp,ho,by rw [hq,h3];simp⟩,h.out.g0,h.out.g1,lE h.out.b hf.size⟩,hi w' h1 h2 hf⟩⟩
   ·cases hx
theorem Pq.name_len (h:Pq B w p E T q):(jA E q.s).length≤1000000:=by
 obtain⟨Q,h1,_⟩:=h.ex;have:=h1.nextLe.2.2;unfold jA;split
 ·omega
 ·simp
end
end
section
section
variable {E:Env}
theorem zA7 (s:PSt) (e:Nat):(qH E s e).n=s.n:=by unfold qH;split <;> rfl
theorem xK (s:PSt) (u:List UInt8):s.n≤(zI E s u).n:=by
 unfold zI;split
 ·simp [zE]
 ·rw [zA7];exact lF _
theorem zN1 (s:PSt):s.n≤(zL E s).n:=by
 unfold zL;split
 ·simp [zE]
 ·rw [zA7];exact lF _
theorem zP3 (s:PSt):s.n≤(jB E s).2.n:=by
 unfold jB;split
 ·split
  ·simp [zE]
  ·dsimp only;rw [zA7];exact lF _
 ·dsimp only;rw [zA7];exact lF _
theorem jT9 (s:PSt) (u:List UInt8):s.n≤(zI4 E s u).n:=by
 unfold zI4;split
 ·split
  ·rw [zA7];exact lF _
  ·simp [zE,yH]
 ·exact lF _
theorem qL6 (s:PSt) (u:List UInt8):s.n≤(kV E s u).n:=by
 unfold kV;split
 ·exact jT9 s u
 ·show s.n≤(qH E s 300).n;rw [zA7];exact lF _
theorem jD2 (s:PSt) (u:List UInt8):s.n≤(wN E s u).n:=xK s u
structure GrX (E:Env) (f:Nat):Prop where
 choice:∀ s x s',zM E f s=some (x,s')→s.n≤s'.n
 chain:∀ k s x s',qN E f k s=some (x,s')→s.n≤s'.n
 links:∀ k y s x s',qR E f k y s=some (x,s')→s.n≤s'.n
 operand:∀ s x s',zR E f s=some (x,s')→s.n≤s'.n
 casts:∀ y s x s',jI E f y s=some (x,s')→s.n≤s'.n
 within:∀ s a b x s',zX E f s a b=some (x,s')→s.n≤s'.n
 basis:∀ s x s',qJ E f s=some (x,s')→s.n≤s'.n
theorem grX (E:Env):∀ f,GrX E f
 | 0=>⟨fun s x s' h=>by simp [zM]at h,fun k s x s' h=>by simp [qN]at h,fun k y s x s' h=>by simp [qR]at h,fun s x s' h=>by simp [zR]at h,fun y s x s' h=>by simp [jI]at h,fun s a b x s' h=>by simp [zX]at h,fun s x s' h=>by simp [qJ]at h⟩
 | f+1=>by
   have ih:=grX E f;refine⟨?_,?_,?_,?_,?_,?_,?_⟩
   ·intro s z s' h;rw [zM]at h;cases hc:qN E f 1 s with
    | none=>rw [hc]at h;cases h
    | some q =>
      obtain⟨x,s1⟩:=q;have g1:=ih.chain _ _ _ _ hc;rw [hc]at h;(try dsimp only at h);cases ho:okP s1 with
      | false=>rw [ho]at h;cases h
      | true =>
        rw [ho]at h;(try dsimp only at h);cases hb:zC7 E s1 [63]with
        | false=>rw [hb]at h;injection h with h;injection h with _ h;exact h▸g1
        | true =>
          rw [hb]at h;(try dsimp only at h);cases h1:zM E f (zI4 E s1 [63])with
          | none=>rw [h1]at h;cases h
          | some q =>
            obtain⟨y,s3⟩:=q;have g2:=ih.choice _ _ _ h1;have g3:=jT9 (E:=E) s1 [63];rw [h1]at h;(try dsimp only at h);cases h2:zM E f (zI E s3 [58])with
            | none=>rw [h2]at h;cases h
            | some q =>
              obtain⟨z,s5⟩:=q;have g4:=ih.choice _ _ _ h2;have g5:=xK (E:=E) s3 [58];rw [h2]at h;(try dsimp only at h);split at h
              ·cases h
              ·injection h with h;injection h with _ h;subst h;show s.n≤s5.n;omega
   ·intro k s z s' h;rw [qN]at h;cases h1:zR E f s with
    | none=>rw [h1]at h;cases h
    | some q =>
      obtain⟨x,s1⟩:=q;have g1:=ih.operand _ _ _ h1;rw [h1]at h;exact lE g1 (ih.links _ _ _ _ _ h)
   ·intro k x s z s' h;rw [qR]at h;cases h0:decide (s.e=0)with
    | false=>rw [h0]at h;injection h with h;injection h with _ h;exact h▸lF _
    | true =>
      rw [h0]at h;(try dsimp only at h);cases h1:(if (zC E s).kind=4 then jY (zC E s).text true else none)with
      | none=>rw [h1]at h;injection h with h;injection h with _ h;exact h▸lF _
      | some op =>
        rw [h1]at h;(try dsimp only at h);cases h2:decide (kD op<k)with
        | true=>rw [h2]at h;injection h with h;injection h with _ h;exact h▸lF _
        | false =>
          rw [h2]at h;(try dsimp only at h);cases h3:qN E f (kD op+1) (zE s)with
          | none=>rw [h3]at h;cases h
          | some q =>
            obtain⟨y,s2⟩:=q;have g1:=ih.chain _ _ _ _ h3;have g2:s.n+1≤s2.n:=g1;rw [h3]at h;(try dsimp only at h);split at h
            ·cases h
            ·have g3:=ih.links _ _ _ _ _ h;omega
   ·intro s z s' h;rw [zR]at h;cases h1:(if (zC E s).kind=4 then jY (zC E s).text false else none)with
    | some op =>
      rw [h1]at h;(try dsimp only at h);cases ho:okP s with
      | false=>rw [ho]at h;cases h
      | true =>
        rw [ho]at h;(try dsimp only at h);cases h2:zR E f (kV E s (zC E s).text)with
        | none=>rw [h2]at h;cases h
        | some q =>
          obtain⟨x,s2⟩:=q;have g1:=ih.operand _ _ _ h2;have g2:=qL6 (E:=E) s (zC E s).text;rw [h2]at h;(try dsimp only at h);split at h
          ·cases h
          ·injection h with h;injection h with _ h;subst h;show s.n≤s2.n;omega
    | none =>
      rw [h1]at h;(try dsimp only at h);cases h2:qJ E f s with
      | none=>rw [h2]at h;cases h
      | some q =>
        obtain⟨x,s1⟩:=q;have g1:=ih.basis _ _ _ h2;rw [h2]at h;exact lE g1 (ih.casts _ _ _ _ h)
   ·intro x s z s' h;rw [jI]at h;cases h1:isP E s [64]with
    | false=>rw [h1]at h;injection h with h;injection h with _ h;exact h▸lF _
    | true =>
      rw [h1]at h;(try dsimp only at h);split at h
      ·cases h
      ·have g1:=ih.casts _ _ _ _ h;have g2:=zP3 (E:=E) (zE s);have g3:(zE s).n=s.n+1:=rfl;omega
   ·intro s a b z s' h;rw [zX]at h;cases ho:okP s with
    | false=>rw [ho]at h;cases h
    | true =>
      rw [ho]at h;(try dsimp only at h);cases h1:zM E f (kV E s a)with
      | none=>rw [h1]at h;cases h
      | some q =>
        obtain⟨x,s2⟩:=q;have g1:=ih.choice _ _ _ h1;have g2:=qL6 (E:=E) s a;rw [h1]at h;(try dsimp only at h);split at h
        ·cases h
        ·injection h with h;injection h with _ h;subst h;have g3:=jD2 (E:=E) s2 b;omega
   ·intro s z s' h;rw [qJ]at h;have gn:=zN1 (E:=E) s;cases h0:decide (s.e=0)with
    | false=>rw [h0]at h;injection h with h;injection h with _ h;exact h▸lF _
    | true =>
      rw [h0]at h;(try dsimp only at h);cases h1:decide ((zC E s).kind=3)with
      | true =>
        rw [h1]at h;(try dsimp only at h);split at h
        ·injection h with h;injection h with _ h;subst h;rw [zA7];exact lF _
        ·injection h with h;injection h with _ h;subst h;exact Nat.le_succ _
      | false =>
        rw [h1]at h;(try dsimp only at h);cases h2:decide ((zC E s).text=[40])with
        | true=>rw [h2]at h;exact ih.within _ _ _ _ _ h
        | false =>
          rw [h2]at h;(try dsimp only at h);cases h3:decide ((zC E s).text=[100,105,115,107])with
          | true =>
            rw [h3]at h;(try dsimp only at h);cases h4:zX E f (zE s) [91] [93]with
            | none=>rw [h4]at h;cases h
            | some q =>
              obtain⟨x,s2⟩:=q;have g1:s.n+1≤s2.n:=ih.within _ _ _ _ _ h4;rw [h4]at h;(try dsimp only at h);split at h
              ·cases h
              ·injection h with h;injection h with _ h;subst h;omega
          | false =>
            rw [h3]at h;(try dsimp only at h);cases h5:decide ((zC E (zL E s)).text=[91])with
            | false=>rw [h5]at h;injection h with h;injection h with _ h;subst h;exact gn
            | true =>
              rw [h5]at h;(try dsimp only at h);cases h4:zX E f (zL E s) [91] [93]with
              | none=>rw [h4]at h;cases h
              | some q =>
                obtain⟨x,s2⟩:=q;have g1:=ih.within _ _ _ _ _ h4;rw [h4]at h;(try dsimp only at h);split at h
                ·cases h
                ·injection h with h;injection h with _ h;subst h;omega
theorem yY {f:Nat} {q q':QSt} {x:Ex} (h:qS E f q=some (x,q')):q.s.n≤q'.s.n:=by
 unfold qS at h;cases hc:zM E f q.s with
 | none=>rw [hc]at h;cases h
 | some r =>
   obtain⟨y,s⟩:=r;rw [hc]at h;(try dsimp only at h);split at h
   ·injection h with h;injection h with _ h;subst h;exact(grX E f).choice _ _ _ hc
   ·cases h
theorem zN2 {q q':QSt} {u:List UInt8} (h:kN E q u=some q'):q.s.n≤q'.s.n:=by
 unfold kN at h;split at h
 ·injection h with h;subst h;exact qL6 _ _
 ·cases h
theorem zH3 {q q':QSt} {u:List UInt8} (h:jX E q u=some q'):q.s.n≤q'.s.n:=by
 unfold jX at h;split at h
 ·injection h with h;subst h;exact jD2 _ _
 ·cases h
theorem jD3:∀ (f:Nat) (q q':QSt) (out l:List Ex),yA E f q out=some (l,q')→q.s.n≤q'.s.n
 | 0,q,q',out,l,h=>by simp [yA]at h
 | f+1,q,q',out,l,h=>by
   rw [yA]at h;split at h
   ·cases hx:qS E f (q.on (zE q.s))with
    | none=>rw [hx]at h;cases h
    | some r =>
      obtain⟨x,q2⟩:=r;rw [hx]at h;have g1:q.s.n+1≤q2.s.n:=yY hx;have g2:=jD3 f q2 q' _ _ h;omega
   ·injection h with h;injection h with _ h;subst h;exact lF _
theorem zE3 {f:Nat} {q q':QSt} {l:List Ex} (h:yC E f q=some (l,q')):∃ q1,kN E q [40]=some q1∧((¬((zC E q1.s).text≠[41]∧q1.s.e=0)∧l=[]∧jX E q1 [41]=some q')∨(((zC E q1.s).text≠[41]∧q1.s.e=0)∧∃ x q2 q3,qS E f q1=some (x,q2)∧yA E f q2 [x]=some (l,q3)∧jX E q3 [41]=some q')):=by
 unfold yC at h;simp only [cG]at h;cases h1:kN E q [40]with
 | none=>rw [h1]at h;cases h
 | some q1 =>
   rw [h1]at h;simp only [lP]at h;refine⟨q1,rfl,?_⟩;by_cases hc:(zC E q1.s).text≠[41]∧q1.s.e=0
   ·rw [lM hc]at h;cases h2:qS E f q1 with
    | none=>rw [h2]at h;cases h
    | some r =>
      obtain⟨x,q2⟩:=r;rw [h2]at h;simp only [lP]at h;cases h3:yA E f q2 [x]with
      | none=>rw [h3]at h;cases h
      | some r =>
        obtain⟨l2,q3⟩:=r;rw [h3]at h;simp only [lP]at h;cases h4:jX E q3 [41]with
        | none=>rw [h4]at h;cases h
        | some q4 =>
          rw [h4]at h;injection h with h;injection h with e1 e2;subst e1 e2;exact .inr ⟨hc,x,q2,q3,rfl,h3,h4⟩
   ·rw [lN hc]at h;cases h4:jX E q1 [41]with
    | none=>rw [h4]at h;cases h
    | some q4 =>
      rw [h4]at h;injection h with h;injection h with e1 e2;subst e1 e2;exact .inl ⟨hc,rfl,rfl⟩
theorem jO9 {f:Nat} {q q':QSt} {l:List Ex} (h:yC E f q=some (l,q')):q.s.n≤q'.s.n:=by
 obtain⟨q1,h1,h2⟩:=zE3 h;have g1:=zN2 h1;rcases h2 with⟨_,_,h2⟩ | ⟨_,x,q2,q3,h2,h3,h4⟩
 ·have:=zH3 h2;omega
 ·have g2:=yY h2;have g3:=jD3 _ _ _ _ _ h3;have g4:=zH3 h4;omega
theorem zS6 {f:Nat} {q:QSt} {out:List Ex} {r:List Ex×QSt} (h:yA E (f+1) q out=some r):(isP E q.s [44]=false∧r=(out,q))∨(isP E q.s [44]=true∧∃ x q2,qS E f (q.on (zE q.s))=some (x,q2)∧yA E f q2 (out++[x])=some r):=by
 rw [yA]at h;cases hi:isP E q.s [44]with
 | false=>rw [hi]at h;injection h with h;exact .inl ⟨rfl,h.symm⟩
 | true =>
   rw [hi,lM rfl]at h;cases hx:qS E f (q.on (zE q.s))with
   | none=>rw [hx]at h;cases h
   | some r2 =>
     obtain⟨x,q2⟩:=r2;rw [hx]at h;exact .inr ⟨rfl,x,q2,rfl,h⟩
end
end
end Go.Proofs.YtfdaebgllibphaaGreatDoor
