import Derived.Maps.Own
import Derived.Deep.CutRange
import Derived.Test.YtfdaebgllibphaaGreatDoorXas
set_option linter.unusedVariables false
set_option linter.unusedSimpArgs false
set_option maxRecDepth 100000
set_option maxHeartbeats 16000000
namespace Go.Proofs.YtfdaebgllibphaaGreatDoor
section
section
variable {E:Env} {wide:Bool}
theorem zL5 (hf:∀ i j,i≤j→plc E i≤plc E j):∀ (l:List Sx),(∀ y∈l,∀ n,Rg (plc E) n (n+(wS wide y).length) (plS E wide n y))→∀ n,Rg (plc E) n (n+(wSs wide l).length) (zL8 E wide n l)
 | [],_,n=>by simp only [zL8,wSs];exact Rg.nil
 | x :: l,h,n=>by have h1:=h x Ym n;have h2:=zL5 hf l (fun y hy=>h y (by simp [hy])) (n+(wS wide x).length);simp only [zL8,wSs,Ya];exact(Rg.app hf h1 h2 Yo Yo Yo).wk (lF _) Yo
theorem jK9 (hf:∀ i j,i≤j→plc E i≤plc E j) {x:Sx} (h:vP x):∀ n,Rg (plc E) n (n+(wS wide x).length) (plS E wide n x):=by
 induction h with
 | set nm x hn hx =>
   intro n;have e1:plS E wide n (.mk 1 nm [x] 0 [] [])=plc E n :: plX E wide (n+2) x:=by simp [plS]
   have e2:(wS wide (.mk 1 nm [x] 0 [] [])).length=(wX wide x).length+2:=by simp [wS]
   rw [e1,e2];exact Rg.cons hf ((zA4 hf hx (n+2)).wk (lF _) (show _≤n+((wX wide x).length+2) by omega)) Yo Yo
 | put nm i x hn hi hx =>
   intro n;have e1:plS E wide n (.mk 2 nm [i,x] 0 [] [])=plc E n :: (plX E wide (n+2) i++plX E wide (n+2+(wX wide i).length+2) x):=by simp [plS]
   have e2:(wS wide (.mk 2 nm [i,x] 0 [] [])).length=(wX wide i).length+((wX wide x).length+4):=by simp [wS];omega
   rw [e1,e2];exact Rg.cons hf ((Rg.app hf (zA4 hf hi (n+2)) (zA4 hf hx (n+2+(wX wide i).length+2)) Yo Yo Yo).wk (lF _) (show _≤n+((wX wide i).length+((wX wide x).length+4)) by omega)) Yo Yo
 | write b x hb hx =>
   intro n;have e1:plS E wide n (.mk 3 [] [b,x] 0 [] [])=plc E n :: (plX E wide (n+1) b++plX E wide (n+1+(wX wide b).length+1) x):=by simp [plS]
   have e2:(wS wide (.mk 3 [] [b,x] 0 [] [])).length=(wX wide b).length+((wX wide x).length+2):=by simp [wS];omega
   rw [e1,e2];exact Rg.cons hf ((Rg.app hf (zA4 hf hb (n+1)) (zA4 hf hx (n+1+(wX wide b).length+1)) Yo Yo Yo).wk (lF _) (show _≤n+((wX wide b).length+((wX wide x).length+2)) by omega)) Yo Yo
 | flush=>intro n;simp [plS,wS];exact Rg.one n
 | barrier=>intro n;simp [plS,wS];exact Rg.one n
 | ifs x t e hx ht he ih1 ih2 =>
   intro n;have e1:plS E wide n (.mk 6 [] [x] 0 t e)=plc E n :: (plX E wide (n+1) x++(zL8 E wide (n+1+(wX wide x).length+1) t++zL8 E wide (n+1+(wX wide x).length+1+(wSs wide t).length+1+2) e)):=by simp [plS]
   have ht2:=zL5 (wide:=wide) hf t ih1 (n+1+(wX wide x).length+1);have he2:=zL5 (wide:=wide) hf e ih2 (n+1+(wX wide x).length+1+(wSs wide t).length+1+2);have hx2:=zA4 (wide:=wide) hf hx (n+1);rw [e1];by_cases hc:e≠[]∨wide=true
   ·have e2:(wS wide (.mk 6 [] [x] 0 t e)).length=(wX wide x).length+(wSs wide t).length+(wSs wide e).length+6:=by simp only [wS];rw [lM hc];simp;omega
    rw [e2];exact Rg.cons hf ((Rg.app hf hx2 (Rg.app hf ht2 he2 Yo Yo Yo) Yo Yo Yo).wk (lF _) (show _≤n+((wX wide x).length+(wSs wide t).length+(wSs wide e).length+6) by omega)) Yo Yo
   ·have he0:e=[]:=by
     cases e with
     | nil=>rfl
     | cons a r=>exact absurd (.inl Ym) hc
    subst he0;have e2:(wS wide (.mk 6 [] [x] 0 t [])).length=(wX wide x).length+(wSs wide t).length+3:=by simp only [wS];rw [lN hc];simp;omega
    rw [e2];simp only [zL8,cT];exact Rg.cons hf ((Rg.app hf hx2 ht2 Yo Yo Yo).wk (lF _) (show _≤n+((wX wide x).length+(wSs wide t).length+3) by omega)) Yo Yo
 | loop x b t hx hb ht ih =>
   intro n;have e1:plS E wide n (.mk 7 [] [x] b t [])=plc E n :: (plX E wide (n+1) x++zL8 E wide (n+1+(wX wide x).length+2+1) t):=by simp [plS]
   have e2:(wS wide (.mk 7 [] [x] b t [])).length=(wX wide x).length+(wSs wide t).length+5:=by simp [wS];omega
   rw [e1,e2];exact Rg.cons hf ((Rg.app hf (zA4 hf hx (n+1)) (zL5 (wide:=wide) hf t ih (n+1+(wX wide x).length+2+1)) Yo Yo Yo).wk (lF _) (show _≤n+((wX wide x).length+(wSs wide t).length+5) by omega)) Yo Yo
 | call nm es hn hes =>
   intro n;have e1:plS E wide n (.mk 8 nm es 0 [] [])=plc E n :: plC E wide (n+3) es:=by simp [plS]
   have e2:(wS wide (.mk 8 nm es 0 [] [])).length=(kO (es.map (wX wide))).length+4:=by simp [wS]
   rw [e1,e2];exact Rg.cons hf ((kD3 hf es hes (n+3)).wk (lF _) (show _≤n+((kO (es.map (wX wide))).length+4) by omega)) Yo Yo
theorem qJ3 (hf:∀ i j,i≤j→plc E i≤plc E j) (k:Nat) (hk:1≤k):∀ (l:List Dx) n,Rg (plc E) n (n+l.length*k) (vD E k n l)
 | [],n=>Rg.nil
 | x :: l,n=>by
   have h:=qJ3 hf k hk l (n+k);have e:(x :: l).length*k=l.length*k+k:=by rw [Yc,Nat.succ_mul]
   rw [e];exact Rg.cons hf (h.wk (lF _) Yo) Yo Yo
theorem qJ4 (w:List UInt8) (arr:Bool):∀ l:List Dx,(l.flatMap (wD w arr)).length=l.length*wJ arr
 | []=>Ym
 | x :: l=>by rw [lQ,Ya,jU2,qJ4 w arr l,Yc,Nat.succ_mul];omega
theorem jJ8 (hf:∀ i j,i≤j→plc E i≤plc E j):∀ (l:List Dx) n,Rg (plc E) n (n+l.length*4) (zT7 E n l)
 | [],n=>Rg.nil
 | x :: l,n=>by
   have h:=jJ8 hf l (n+4);have e:(x :: l).length*4=l.length*4+4:=by rw [Yc,Nat.succ_mul]
   rw [e];exact Rg.cons hf (h.wk (lF _) Yo) Yo Yo
theorem jR9:∀ l:List Dx,l.length*4≤(zN9 l).length+1
 | []=>by simp [zN9]
 | x :: l=>by
   have key:∀ l:List Dx,(l.flatMap fun x=>(4,[44]) :: jF3 x).length=l.length*4:=by
    intro l;induction l with
    | nil=>rfl
    | cons y l ih=>rw [lQ,Ya,ih];simp [jF3];omega
   simp only [zN9,Ya,key,Yc];simp [jF3];omega
theorem kS4 (hf:∀ i j,i≤j→plc E i≤plc E j) {x:Rx} (h:qM7 x) (n:Nat):Rg (plc E) n (n+(wR wide x).length) (plR E wide n x):=by
 have h1:=jJ8 hf x.params (n+3);have h2:=jR9 x.params;have h3:=zL5 (wide:=wide) hf x.body (fun y hy=>jK9 hf (h.b y hy)) (n+3+(zN9 x.params).length+1+1);have e:(wR wide x).length=(zN9 x.params).length+(wSs wide x.body).length+6:=by simp [wR,wB];omega
 rw [e];unfold plR;exact Rg.cons hf ((Rg.app hf h1 h3 Yo Yo Yo).wk (lF _) (show _≤n+((zN9 x.params).length+(wSs wide x.body).length+6) by omega)) Yo Yo
theorem jL1 (hf:∀ i j,i≤j→plc E i≤plc E j):∀ (l:List Rx),(∀ x∈l,qM7 x)→∀ n,Rg (plc E) n (n+(l.flatMap (wR wide)).length) (jF6 E wide n l)
 | [],_,n=>Rg.nil
 | x :: l,h,n=>by have h1:=kS4 (wide:=wide) hf (h x Ym) n;have h2:=jL1 hf l (fun y hy=>h y (by simp [hy])) (n+(wR wide x).length);rw [lQ,Ya];exact(Rg.app hf h1 h2 Yo Yo Yo).wk (lF _) Yo
theorem jL7 (hf:∀ i j,i≤j→plc E i≤plc E j):∀ (l:List Ix),(∀ x∈l,jF8 x)→∀ n,Rg (plc E) n (n+(l.flatMap (wI wide)).length) (qZ8 E wide n l)
 | [],_,n=>Rg.nil
 | x :: l,h,n=>by
   have h1:=zA4 (wide:=wide) hf (h x Ym).v (n+3);have h2:=jL7 hf l (fun y hy=>h y (by simp [hy])) (n+(wI wide x).length);have e:(wI wide x).length=(wX wide x.value).length+3:=by simp [wI]
   rw [lQ,Ya];rw [e]at h2 ⊢;have h3:=Rg.app hf h1 h2 Yo Yo Yo;show Rg _ _ _ (plc E n :: (plX E wide (n+3) x.value++qZ8 E wide (n+(wI wide x).length) l));rw [e];exact(Rg.cons hf h3 Yo Yo).wk (lF _) Yo
def kK5 (wide:Bool) (p:Gx):Nat:=4+(p.inputs.flatMap (wD (bs "input") false)).length+(p.ghosts.flatMap (wD (bs "ghost") false)).length+(p.vars.flatMap (wD (bs "var") false)).length+(p.arrays.flatMap (wD (bs "array") true)).length+1+(wX wide p.require).length+(p.inits.flatMap (wI wide)).length+(p.procs.flatMap (wR wide)).length+1+1+(wSs wide p.work).length+1+1+1+(wSs wide p.recover).length+1+1
theorem kS5 (hf:∀ i j,i≤j→plc E i≤plc E j) {p:Gx} (h:zW8 p):Rg (plc E) 0 (kK5 wide p+(wX wide p.invariant).length) (plG E wide p)∧(∃ l,plG E wide p=plc E 0 :: l)∧∃ l,plG E wide p=l++plX E wide (kK5 wide p) p.invariant:=by have a1:=qJ3 hf (wJ false) Yd p.inputs 4;have a2:=qJ3 hf (wJ false) Yd p.ghosts (4+(p.inputs.flatMap (wD (bs "input") false)).length);have a3:=qJ3 hf (wJ false) Yd p.vars (4+(p.inputs.flatMap (wD (bs "input") false)).length+(p.ghosts.flatMap (wD (bs "ghost") false)).length);have a4:=qJ3 hf (wJ true) Yd p.arrays (4+(p.inputs.flatMap (wD (bs "input") false)).length+(p.ghosts.flatMap (wD (bs "ghost") false)).length+(p.vars.flatMap (wD (bs "var") false)).length);rw [←qJ4 (bs "input") false p.inputs]at a1;rw [←qJ4 (bs "ghost") false p.ghosts]at a2;rw [←qJ4 (bs "var") false p.vars]at a3;rw [←qJ4 (bs "array") true p.arrays]at a4;unfold plG kK5;dsimp only;generalize (p.inputs.flatMap (wD (bs "input") false)).length=k1 at *;generalize (p.ghosts.flatMap (wD (bs "ghost") false)).length=k2 at *;generalize (p.vars.flatMap (wD (bs "var") false)).length=k3 at *;generalize (p.arrays.flatMap (wD (bs "array") true)).length=k4 at *;have a5:=zA4 (wide:=wide) hf h.rq (4+k1+k2+k3+k4+1);generalize (wX wide p.require).length=k5 at *;have a6:=jL7 (wide:=wide) hf p.inits h.its (4+k1+k2+k3+k4+1+k5);generalize (p.inits.flatMap (wI wide)).length=k6 at *;have a7:=jL1 (wide:=wide) hf p.procs h.prs (4+k1+k2+k3+k4+1+k5+k6);generalize (p.procs.flatMap (wR wide)).length=k7 at *;have a8:=zL5 (wide:=wide) hf p.work (fun y hy=>jK9 hf (h.wk y hy)) (4+k1+k2+k3+k4+1+k5+k6+k7+1+1);generalize (wSs wide p.work).length=k8 at *;have a9:=zL5 (wide:=wide) hf p.recover (fun y hy=>jK9 hf (h.rc y hy)) (4+k1+k2+k3+k4+1+k5+k6+k7+1+1+k8+1+1+1);generalize (wSs wide p.recover).length=k9 at *;have a10:=zA4 (wide:=wide) hf h.iv (4+k1+k2+k3+k4+1+k5+k6+k7+1+1+k8+1+1+1+k9+1+1);generalize (wX wide p.invariant).length=k10 at *;have b1:=Rg.app hf (Rg.one (f:=plc E) 0) a1 Yo Yo Yo;have b2:=Rg.app hf b1 a2 Yo Yo Yo;have b3:=Rg.app hf b2 a3 Yo Yo Yo;have b4:=Rg.app hf b3 a4 Yo Yo Yo;have b5:=Rg.app hf b4 a5 Yo Yo Yo;have b6:=Rg.app hf b5 a6 Yo Yo Yo;have b7:=Rg.app hf b6 a7 Yo Yo Yo;have b8:=Rg.app hf b7 a8 Yo Yo Yo;have b9:=Rg.app hf b8 a9 Yo Yo Yo;have b10:=Rg.app hf b9 a10 Yo Yo Yo;exact⟨b10,⟨_,by simp only [lS];rfl⟩,⟨_,rfl⟩⟩
end
end
section
section
variable {E E':Env} {k a:Nat} {d:Int} {s:PSt} {w:List UInt8}
end
end
section
section
variable {E:Env}
end
end
section
section
variable {E E':Env} {k a:Nat}
end
end
section
section
variable {E E':Env} {k a:Nat} {d:Int} {q:QSt}
end
end
section
section
variable {E E':Env} {k a:Nat} {d:Int} {q q':QSt} {P P':Prop} {w:List UInt8}
end
end
section
section
variable {E E':Env} {k a:Nat} {d:Int} {q q':QSt} {P P':Prop} {w:List UInt8}
end
end
theorem qU2:∀ (l:List Pc) (o i:Nat) (p:Pc),l[i]?=some p→∃ t,(yI o l)[i]?=some t∧t.kind=p.kind∧t.text=p.tok
 | p :: r,o,0,q,h=>by injection h with h;subst h;exact⟨_,rfl,rfl,rfl⟩
 | p :: r,o,i+1,q,h=>by obtain⟨t,h1,h2⟩:=qU2 r (o+p.gap.length+p.tok.length) i q h;exact⟨t,by rw [yI];exact h1,h2⟩
section
def qY8 (E:Env) (v:Nat) (u:List UInt8):Prop:=∃ (i:Nat) (t:Tk),E.toks[i]?=some t∧t.at'=v∧t.text=u
theorem zZ1 {E:Env} {n k:Nat} {u:List UInt8} (h:nw E n=(k,u)) (hk:k≠0):qY8 E (plc E n) u:=by
 unfold nw at h;cases ht:E.toks[n]? with
 | none =>
   rw [ht]at h;injection h with h1 _;exact absurd h1.symm hk
 | some t =>
   rw [ht]at h;injection h with _ h2;refine⟨n,t,ht,?_,h2⟩;unfold plc;rw [ht]
structure HdW (E:Env) (x:Ex) (v:Nat):Prop where
 num:x.kind=1→qY8 E v (qZ x.value++58 :: qZ x.width.toNat)
 var:x.kind=2∨x.kind=3→qY8 E v x.name
 disk:x.kind=4→qY8 E v (bs "disk")
inductive WdX (E:Env):Ex→List Nat→Prop
 | mk (x:Ex) (v:Nat) (ls:List (List Nat)) (h:HdW E x v) (hl:ls.length=x.subs.length) (all:∀ (i:Nat) (y:Ex) (l:List Nat),x.subs[i]?=some y→ls[i]?=some l→WdX E y l):WdX E x (v :: ls.flatten)
section
variable {E:Env} {wide:Bool}
theorem HdW.no {x:Ex} {v:Nat} (h:5≤x.kind):HdW E x v:=⟨fun e=>Yo,fun e=>Yo,fun e=>Yo⟩
theorem WdX.zero {k o v w:Nat} {nm:List UInt8} {p:Nat} (h:HdW E (.mk k o v w nm []) p):WdX E (.mk k o v w nm []) [p] :=
 .mk (.mk k o v w nm []) p [] h rfl (fun i y l h1 _=>by simp [Ex.subs]at h1)
theorem WdX.one {k o v w:Nat} {nm:List UInt8} {y:Ex} {p:Nat} {l:List Nat} (h:HdW E (.mk k o v w nm [y]) p) (hy:WdX E y l):WdX E (.mk k o v w nm [y]) (p :: l):=by
 have:=WdX.mk (.mk k o v w nm [y]) p [l] h rfl (fun i z m h1 h2=>by
  cases i with
  | zero=>injection h1 with h1;injection h2 with h2;subst h1 h2;exact hy
  | succ i=>simp [Ex.subs]at h1)
 simpa using this
theorem WdX.two {k o v w:Nat} {nm:List UInt8} {y z:Ex} {p:Nat} {l m:List Nat} (h:HdW E (.mk k o v w nm [y,z]) p) (hy:WdX E y l) (hz:WdX E z m):WdX E (.mk k o v w nm [y,z]) (p :: (l++m)):=by
 have:=WdX.mk (.mk k o v w nm [y,z]) p [l,m] h rfl (fun i a b h1 h2=>by
  match i with
  | 0=>injection h1 with h1;injection h2 with h2;subst h1 h2;exact hy
  | 1=>injection h1 with h1;injection h2 with h2;subst h1 h2;exact hz
  | i+2=>simp [Ex.subs]at h1)
 simpa using this
theorem WdX.three {k o v w:Nat} {nm:List UInt8} {x y z:Ex} {p:Nat} {l m n:List Nat} (h:HdW E (.mk k o v w nm [x,y,z]) p) (hx:WdX E x l) (hy:WdX E y m) (hz:WdX E z n):WdX E (.mk k o v w nm [x,y,z]) (p :: (l++m++n)):=by
 have:=WdX.mk (.mk k o v w nm [x,y,z]) p [l,m,n] h rfl (fun i a b h1 h2=>by
  match i with
  | 0=>injection h1 with h1;injection h2 with h2;subst h1 h2;exact hx
  | 1=>injection h1 with h1;injection h2 with h2;subst h1 h2;exact hy
  | 2=>injection h1 with h1;injection h2 with h2;subst h1 h2;exact hz
  | i+3=>simp [Ex.subs]at h1)
 simpa using this
theorem qJ5 {y:Ex} (h:∀ n,AtW E n (wX wide y)→WdX E y (plX E wide n y)) (n:Nat) (ha:AtW E n (sW wide y)):WdX E y (sPl E wide n y):=by
 unfold sW jE2 at ha;unfold sPl;by_cases hp:qZ7 wide y=true
 ·rw [lM hp]at ha ⊢;exact h _ (AtW.app ha.2).1
 ·rw [lN hp]at ha ⊢;exact h _ ha
theorem kS7 {x:Ex} (h:kP x):∀ n,AtW E n (wX wide x)→WdX E x (plX E wide n x):=by
 induction h with
 | num v w hv hw =>
   intro n ha;have e1:plX E wide n (.mk 1 0 v w [] [])=[plc E n]:=by simp [plX]
   have e2:wX wide (.mk 1 0 v w [] [])=[(3,qZ v++58 :: qZ (w:Int).toNat)]:=by simp [wX]
   rw [e1];rw [e2]at ha;exact WdX.zero ⟨fun _=>zZ1 ha.1 Yd,fun e=>(by rcases e with e | e <;> cases e),fun e=>by cases e⟩
 | var nm hn =>
   intro n ha;have e1:plX E wide n (.mk 2 0 0 0 nm [])=[plc E n]:=by simp [plX]
   have e2:wX wide (.mk 2 0 0 0 nm [])=[(1,nm)]:=by simp [wX]
   rw [e1];rw [e2]at ha;exact WdX.zero (k:=2) (o:=0) (v:=0) (w:=0) ⟨fun e=>(by cases e),fun _=>zZ1 ha.1 Yd,fun e=>by cases e⟩
 | elem nm y hn hy ih =>
   intro n ha;have e1:plX E wide n (.mk 3 0 0 0 nm [y])=plc E n :: plX E wide (n+2) y:=by simp [plX,qQ5]
   have e2:wX wide (.mk 3 0 0 0 nm [y])=(1,nm) :: (4,[91]) :: (wX wide y++[(4,[93])]):=by simp [wX,wXs]
   rw [e1];rw [e2]at ha;exact WdX.one (k:=3) (o:=0) (v:=0) (w:=0) ⟨fun e=>(by cases e),fun _=>zZ1 ha.1 Yd,fun e=>by cases e⟩ (ih _ (AtW.app ha.2.2).1)
 | disk y hy ih =>
   intro n ha;have e1:plX E wide n (.mk 4 0 0 0 [] [y])=plc E n :: plX E wide (n+2) y:=by simp [plX,qQ5]
   have e2:wX wide (.mk 4 0 0 0 [] [y])=(1,bs "disk") :: (4,[91]) :: (wX wide y++[(4,[93])]):=by simp [wX,wXs]
   rw [e1];rw [e2]at ha;exact WdX.one (k:=4) (o:=0) (v:=0) (w:=0) ⟨fun e=>(by cases e),fun e=>(by rcases e with e | e <;> cases e),fun _=>zZ1 ha.1 Yd⟩ (ih _ (AtW.app ha.2.2).1)
 | un o y h1 h2 hy ih =>
   intro n ha;have e1:plX E wide n (.mk 5 o 0 0 [] [y])=plc E n :: sPl E wide (n+1) y:=by simp [plX,qQ5]
   have e2:wX wide (.mk 5 o 0 0 [] [y])=(4,kK o) :: sW wide y:=by simp [wX,wXs]
   rw [e1];rw [e2]at ha;exact WdX.one (k:=5) (v:=0) (w:=0) (HdW.no (lF _)) (qJ5 ih _ ha.2)
 | bin o x y h1 h2 hx hy ih1 ih2 =>
   intro n ha;have e1:plX E wide n (.mk 6 o 0 0 [] [x,y])=(sPl E wide n x).headD 0 :: (sPl E wide n x++sPl E wide (n+(sW wide x).length+1) y):=by simp [plX,qQ5]
   have e2:wX wide (.mk 6 o 0 0 [] [x,y])=sW wide x++(4,kK o) :: sW wide y:=by simp [wX,wXs]
   rw [e1];rw [e2]at ha;obtain⟨b1,b2⟩:=AtW.app ha;exact WdX.two (k:=6) (v:=0) (w:=0) (HdW.no (show 5≤6 by decide)) (qJ5 ih1 _ b1) (qJ5 ih2 _ b2.2)
 | mux x y z hx hy hz ih1 ih2 ih3 =>
   intro n ha;have e1:plX E wide n (.mk 7 0 0 0 [] [x,y,z])=(sPl E wide n x).headD 0 :: (sPl E wide n x++sPl E wide (n+(sW wide x).length+1) y++sPl E wide (n+(sW wide x).length+1+(sW wide y).length+1) z):=by simp [plX,qQ5]
   have e2:wX wide (.mk 7 0 0 0 [] [x,y,z])=sW wide x++(4,[63]) :: (sW wide y++(4,[58]) :: sW wide z):=by simp [wX,wXs]
   rw [e1];rw [e2]at ha;obtain⟨b1,b2⟩:=AtW.app ha;obtain⟨b3,b4⟩:=AtW.app b2.2;exact WdX.three (k:=7) (v:=0) (w:=0) (HdW.no (show 5≤7 by decide)) (qJ5 ih1 _ b1) (qJ5 ih2 _ b3) (qJ5 ih3 _ b4.2)
 | cast w y hw hy ih =>
   intro n ha;have e1:plX E wide n (.mk 8 0 0 w [] [y])=(sPl E wide n y).headD 0 :: sPl E wide n y:=by simp [plX,qQ5]
   have e2:wX wide (.mk 8 0 0 w [] [y])=sW wide y++[(4,[64]),(2,qZ (w:Int).toNat)]:=by simp [wX,wXs]
   rw [e1];rw [e2]at ha;exact WdX.one (k:=8) (o:=0) (v:=0) (HdW.no (show 5≤8 by decide)) (qJ5 ih _ (AtW.app ha).1)
theorem WdX.len {x:Ex} {l:List Nat} (h:WdX E x l):l≠[]:=by cases h;simp
end
theorem jJ9:∀ (l:List Pc) (o i:Nat) (t:Tk),(yI o l)[i]?=some t→o≤t.at'∧t.at'+t.text.length≤o+(jF l).length
 | [],o,i,t,h=>by simp [yI]at h
 | p :: l,o,0,t,h=>by injection h with h;subst h;rw [zF];simp only [Ya];exact⟨Yo,Yo⟩
 | p :: l,o,i+1,t,h=>by have:=jJ9 l (o+p.gap.length+p.tok.length) i t h;rw [zF];simp only [Ya];omega
theorem jP4:∀ (l:List Pc) (o i j:Nat) (s t:Tk),(∀ p∈l,p.tok≠[])→i<j→(yI o l)[i]?=some s→(yI o l)[j]?=some t→s.at'<t.at'
 | [],o,i,j,s,t,_,_,h,_=>by simp [yI]at h
 | p :: l,o,0,j+1,s,t,hn,_,h1,h2=>by injection h1 with h1;subst h1;have h3:=(jJ9 l (o+p.gap.length+p.tok.length) j t h2).1;have h4:0<p.tok.length:=List.length_pos_iff.2 (hn p Ym);show o+p.gap.length<t.at';omega
 | p :: l,o,i+1,j+1,s,t,hn,hij,h1,h2=>jP4 l (o+p.gap.length+p.tok.length) i j s t (fun q hq=>hn q (by simp [hq])) Yo h1 h2
theorem LexOk.ne:∀ {l:List Pc} {u:List UInt8},LexOk l u→∀ p∈l,p.tok≠[]
 | [],_,_,p,h=>by cases h
 | q :: l,u,h,p,hp=>by
   obtain⟨_,_,_,h4,h5⟩:=h;rcases lU.1 hp with rfl | hp
   ·exact h4
   ·exact h5.ne p hp
theorem jS1 (l:List Pc) (hn:∀ p∈l,p.tok≠[]) (i j:Nat) (hij:i≤j):plc ⟨jF l,yI 0 l⟩ i≤plc ⟨jF l,yI 0 l⟩ j:=by
 rcases Nat.eq_or_lt_of_le hij with rfl | hlt
 ·exact lF _
 ·unfold plc;dsimp only;cases hj:(yI 0 l)[j]? with
  | none =>
    cases hi:(yI 0 l)[i]? with
    | none=>exact lF _
    | some s =>
      have:=jJ9 l 0 i s hi;dsimp only;omega
  | some t =>
    cases hi:(yI 0 l)[i]? with
    | none =>
      have h1:=List.getElem?_eq_none_iff.1 hi;rw [cW Yo]at hj;cases hj
    | some s=>exact Nat.le_of_lt (jP4 l 0 i j s t hn hlt hi hj)
structure kT4 (p:Gx) (toks:List Tk) (l:List Nat):Prop where
 len:l.length=szG p
 ord:l.Pairwise (·≤·)
 zero:∃ r,l=0 :: r
 tok:∀ v∈l,∃ u,qY8 ⟨[],toks⟩ v u
 inv:∃ a b,l=a++b∧b.length=szX p.invariant∧WdX ⟨[],toks⟩ p.invariant b
 inc:∀ (i j:Nat) (s t:Tk),i<j→toks[i]?=some s→toks[j]?=some t→s.at'<t.at'
 ne:∀ t∈toks,t.text≠[]
theorem HdW.env {E E':Env} (he:E.toks=E'.toks) {x:Ex} {v:Nat} (h:HdW E x v):HdW E' x v:=by have key:∀ u,qY8 E v u→qY8 E' v u:=fun u ⟨i,t,h1,h2,h3⟩=>⟨i,t,he▸h1,h2,h3⟩;exact⟨fun e=>key _ (h.num e),fun e=>key _ (h.var e),fun e=>key _ (h.disk e)⟩
theorem WdX.env {E E':Env} (he:E.toks=E'.toks) {x:Ex} {l:List Nat} (h:WdX E x l):WdX E' x l:=by
 induction h with
 | mk x v ls h hl all ih=>exact .mk x v ls (h.env he) hl ih
end
theorem kS8 (wide:Bool) (p:Gx):∃ pre,wG wide p=pre++wX wide p.invariant∧pre.length=kK5 wide p:=by
 refine⟨(1,bs "device") :: (2,qZ p.blocks.toNat) :: (1,bs "width") :: (2,qZ p.width.toNat) :: (p.inputs.flatMap (wD (bs "input") false)++(p.ghosts.flatMap (wD (bs "ghost") false)++(p.vars.flatMap (wD (bs "var") false)++(p.arrays.flatMap (wD (bs "array") true)++((1,bs "require") :: (wX wide p.require++(p.inits.flatMap (wI wide)++(p.procs.flatMap (wR wide)++((1,bs "work") :: (wB wide p.work++(1,bs "recover") :: (wB wide p.recover++[(1,bs "invariant")]))))))))))),?_,?_⟩
 ·unfold wG wG6 wG5 wG4 wG3 wG2 wG1;simp only [lR,lS,cF]
 ·unfold kK5;simp only [Ya,Yc,Yn];omega
theorem jS3 {p:Gx} {wide:Bool} (hg:zW8 p) (hf:kE1 p):kT4 p (yI 0 (pcG wide p)) (plG ⟨zH2 wide p,yI 0 (pcG wide p)⟩ wide p):=by
 have hp:=qG6 (wide:=wide) hg;have hlex:=hp.lex [] Safe.nil;have hne:=hlex.ne;have hcat:=hp.cat;have hmono:=jS1 (pcG wide p) hne;rw [hcat]at hmono;obtain⟨h1,⟨r,h2⟩,⟨pre,h3⟩⟩:=kS5 (wide:=wide) hmono hg;have ha:AtW ⟨zH2 wide p,yI 0 (pcG wide p)⟩ 0 (wG wide p):=by rw [←hp.wd];exact qM8 _ 0 _ _ 0 fun i q hq=>by rw [Nat.zero_add];exact hq
 obtain⟨w1,w2,w3⟩:=kS8 wide p;have hlen:(pcG wide p).length=kK5 wide p+(wX wide p.invariant).length:=by rw [←w3,←Ya,←w2,←hp.wd,lW]
 rw [w2]at ha;have hai:=(AtW.app ha).2;rw [Nat.zero_add,w3]at hai;have hz:plc ⟨zH2 wide p,yI 0 (pcG wide p)⟩ 0=0:=by
  have:(pcG wide p)[0]?=some ⟨[],1,bs "device"⟩:=rfl;cases hq:pcG wide p with
  | nil=>rw [hq]at this;cases this
  | cons a l =>
    rw [hq]at this;injection this with this;subst this;rfl
 refine⟨kA3 _ _ hg,h1.1,⟨r,by rw [h2,hz]⟩,fun v hv=>?_,⟨pre,_,h3,jE _ _ hg.iv _,WdX.env (E:=⟨zH2 wide p,yI 0 (pcG wide p)⟩) (E':=⟨[],yI 0 (pcG wide p)⟩) rfl (kS7 hg.iv _ hai)⟩,fun i j s t hij hs ht=>jP4 _ 0 i j s t hne hij hs ht,fun t ht=>?_⟩
 ·obtain⟨i,_,i2,rfl⟩:=h1.2 v hv;rw [←hlen]at i2;have hi:i<(yI 0 (pcG wide p)).length:=by rw [xV];exact i2
  refine⟨_,i,_,cK hi,?_,rfl⟩;unfold plc;dsimp only;rw [cK hi]
 ·obtain⟨i,hi,rfl⟩:=List.getElem_of_mem ht;have hi':i<(pcG wide p).length:=by rw [xV]at hi;exact hi
  obtain⟨t,h4,_,h5⟩:=qU2 (pcG wide p) 0 i _ (cK hi');rw [cK hi]at h4;injection h4 with h4;rw [h4,h5];exact hne _ (List.getElem_mem hi')
theorem jR1 {p:Gx} {wide:Bool} (hg:zW8 p) (hf:kE1 p):∃ f,PgR f (zH2 wide p) p (plG ⟨zH2 wide p,yI 0 (pcG wide p)⟩ wide p) (zH2 wide p).length 0:=by obtain⟨h1,h2,h3⟩:=kI4 (wide:=wide) hg hf;obtain⟨f,h3⟩:=Ev.ex h3;rw [←h2]at h3 ⊢;exact⟨f,PgR.ok p _ h1 h3 rfl (by rw [h2,xV];exact lF _)⟩
section
open Go.RowKit
def kC7 (x:Nat×List UInt8):Value×Value:=(uI x.1,uR x.2)
def MapIS (w:World) (mb:Nat) (L:List (Nat×List UInt8)):Prop:=∃ es clock,w.heap[mb]?=some (.map es clock)∧es.toList.map (fun e=>(e.key,e.val))=L.map kC7
theorem MapIS.lt {w:World} {mb:Nat} {L:List (Nat×List UInt8)} (h:MapIS w mb L):mb<w.heap.size:=by obtain⟨es,clock,h,_⟩:=h;exact zO h
theorem MapIS.fr {w w':World} {mb:Nat} {L:List (Nat×List UInt8)} {F:Nat→Prop} (h:MapIS w mb L) (hf:Fr F w w') (hF:¬F mb):MapIS w' mb L:=by have:=h.lt;obtain⟨es,clock,h,h2⟩:=h;exact⟨es,clock,(hf.block mb this hF).trans h,h2⟩
theorem MapIS.bel {w w':World} {mb:Nat} {L:List (Nat×List UInt8)} (h:MapIS w mb L) (hb:Below w.heap.size w w'):MapIS w' mb L:=h.fr (Fr.of_below (F:=fun _=>False) hb) (fun e=>e)
theorem MapIS.new (w:World):MapIS (w.alloc (.map #[] 0)) w.heap.size []:=⟨#[],0,World.alloc_heap_new w _,rfl⟩
theorem MapIS.ne {w:World} {mb g:Nat} {L:List (Nat×List UInt8)} {t:TypeId} {cs:Array Value} (h:MapIS w mb L) (hb:Bk w g t cs):g≠mb:=by rintro rfl;obtain⟨es,clock,h,_⟩:=h;unfold Bk at hb;rw [h]at hb;cases hb
def xF (L:List (Nat×List UInt8)) (k:Nat):Option (List UInt8):=(L.find? fun x=>x.1 == k).map (·.2)
theorem qO1 (k:Nat):∀ (L:List (Nat×List UInt8)) (es:List MapEntry) (i:Nat),es.map (fun e=>(e.key,e.val))=L.map kC7 →
 ∃ r,Instr.findNow (.int .i64) (uI k) es i=some r∧r.map (·.2)=(xF L k).map (fun u=>uR u)
 | [],es,i,h=>by
   have:es=[]:=by simpa using h
   subst this;exact⟨none,rfl,rfl⟩
 | x :: L,es,i,h=>by
   cases es with
   | nil=>simp at h
   | cons e es =>
     simp only [lY,List.cons.injEq]at h;obtain⟨hx,hr⟩:=h;have hk:e.key=uI x.1:=congrArg Prod.fst hx;have hv:e.val=uR x.2:=congrArg Prod.snd hx;by_cases hc:x.1=k
     ·refine⟨some (i,e.val),?_,?_⟩
      ·simp [Instr.findNow,Instr.sameNow,hk,hc]
      ·simp [xF,List.find?_cons,hc,hv]
     ·obtain⟨r,h1,h2⟩:=qO1 k L es (i+1) hr;refine⟨r,?_,?_⟩
      ·have hne:((k:Int) == (x.1:Int))=false:=by simp;omega
       simp [Instr.findNow,Instr.sameNow,hk,hne,h1]
      ·have hne:(x.1 == k)=false:=by simpa using hc
       rw [h2];simp only [xF,List.find?_cons,hne]
theorem zL4 (k:Nat) (w:World) (L:List (Nat×List UInt8)) (es:List MapEntry) (h:es.map (fun e=>(e.key,e.val))=L.map kC7) :
 ∃ r,(Instr.findKey 3 (uI k) es).run Tryz.prog w=.ok r w∧r.map (·.2)=(xF L k).map (fun u=>uR u):=by
 obtain⟨r,h1,h2⟩:=qO1 k L es 0 h;exact⟨r,by simp [Instr.findKey,run_underlying Tryz.underlying3,h1],h2⟩
theorem zA5 (em:Bool) (a:Int) (w:World):(Instr.checkKey em 10000 3 (uI a)).run Tryz.prog w=.ok () w:=by
 have h0:∀ n c,(Instr.checkKey em (n+1) 3 (uI c)).run Tryz.prog w=.ok () w:=fun n c=>by simp [Instr.checkKey,run_underlying Tryz.underlying3]
 exact h0 9999 a
theorem zL6 (w:World) (mb:Nat) (L:List (Nat×List UInt8)) (h:MapIS w mb L) (k:Nat) :
 (Instr.lookup 55 (.map (some mb)) (uI k) false).run Tryz.prog w=.ok (.string (str ((xF L k).getD []))) w:=by
 obtain⟨es,clock,hb,hes⟩:=h;obtain⟨r,h1,h2⟩:=zL4 k w L es.toList hes;have hz:(zeroValue 9).run Tryz.prog w=.ok (.string (str [])) w:=Yk;have hg:=MapKept.run_getObj_map (P:=Tryz.prog) hb;simp only [Instr.lookup,run_underlying Tryz.underlying55,Sem.run_bind,Result.andThen_ok,Sem.run_pure,hg,zA5,h1];cases hl:xF L k with
 | none =>
   rw [hl]at h2;cases r with
   | none=>simp [hz]
   | some p=>simp at h2
 | some v =>
   rw [hl]at h2;cases r with
   | none=>simp at h2
   | some p =>
     simp at h2;simp [h2]
theorem qT2 (w:World) (mb:Nat) (L:List (Nat×List UInt8)) (h:MapIS w mb L) (k:Nat) (u:List UInt8) (hn:xF L k=none) :
 ∃ o,(Instr.mapUpdate 55 (.map (some mb)) (uI k) (uR u)).run Tryz.prog w=.ok () (ChangeMaps.setBlock w mb o) ∧
  MapIS (ChangeMaps.setBlock w mb o) mb (L++[(k,u)])∧Fr (fun q=>q=mb) w (ChangeMaps.setBlock w mb o):=by
 have hlt:=h.lt;obtain⟨es,clock,hb,hes⟩:=h;obtain⟨r,h1,h2⟩:=zL4 k w L es.toList hes;have hr:r=none:=by
  rw [hn]at h2;cases r with
  | none=>rfl
  | some p=>simp at h2
 subst hr;have hg:=MapKept.run_getObj_map (P:=Tryz.prog) hb;refine⟨.map (es.push { key:=uI k,val:=uR u,born:=clock }) (clock+1),?_,?_,?_⟩
 ·simp only [Instr.mapUpdate,run_underlying Tryz.underlying55,Sem.run_bind,Result.andThen_ok,Sem.run_pure,hg,zA5,h1];exact MapKept.run_setObj_map _ hb
 ·exact⟨es.push { key:=uI k,val:=uR u,born:=clock },clock+1,by simp [ChangeMaps.setBlock,hlt],by simp [hes,kC7]⟩
 ·exact⟨rfl,rfl,rfl,by simp [ChangeMaps.setBlock],fun i hi hf=>by have hne:mb≠i:=fun e=>hf e.symm;simp [ChangeMaps.setBlock,cP,hne]⟩
def wM (t:Tk):Nat×List UInt8:=(t.at',t.text)
theorem jR2 {toks:List Tk} {j:Nat} {t:Tk} (hi:∀ (i j:Nat) (s t:Tk),i<j→toks[i]?=some s→toks[j]?=some t→s.at'<t.at') (ht:toks[j]?=some t):xF ((toks.take j).map wM) t.at'=none:=by
 unfold xF;have:((toks.take j).map wM).find? (fun x=>x.1 == t.at')=none:=by
  rw [List.find?_eq_none];intro x hx;obtain⟨s,hs,rfl⟩:=List.mem_map.1 hx;obtain⟨i,hi1,rfl⟩:=List.getElem_of_mem hs;have hij:i<j:=by rw [cL]at hi1;omega
  have hs':toks[i]?=some (toks.take j)[i]:=by rw [List.getElem_take];exact cK (by rw [cL]at hi1;omega)
  have:=hi i j _ _ hij hs' ht;simp only [wM,beq_iff_eq];omega
 rw [this];rfl
theorem zW1 {toks:List Tk} {v:Nat} {u:List UInt8} (hi:∀ (i j:Nat) (s t:Tk),i<j→toks[i]?=some s→toks[j]?=some t→s.at'<t.at') (h:qY8 ⟨[],toks⟩ v u):xF (toks.map wM) v=some u:=by
 obtain⟨i,t,h1,h2,h3⟩:=h;have h1:toks[i]?=some t:=h1;have key:∀ (l:List Tk) (k:Nat),l=toks.drop k→k≤i→xF (l.map wM) v=some u:=by
  intro l;induction l with
  | nil =>
    intro k hk hki;have:i<toks.length:=by
     rcases Nat.lt_or_ge i toks.length with h | h
     ·exact h
     ·rw [cW h]at h1;cases h1
    have h4:=List.drop_eq_nil_iff.1 hk.symm;omega
  | cons s l ih =>
    intro k hk hki;have hs:toks[k]?=some s:=by have:=congrArg (fun l=>l[0]?) hk;simpa using this.symm
    have hl:l=toks.drop (k+1):=by have:=congrArg List.tail hk;simpa using this
    rcases Nat.eq_or_lt_of_le hki with rfl | hlt
    ·rw [hs]at h1;injection h1 with h1;subst h1;simp [xF,wM,h2,h3]
    ·have hne:=hi k i s t hlt hs h1;have hb:(s.at' == v)=false:=Yp;have:=ih (k+1) hl Yo;unfold xF at this ⊢;simp only [lY,List.find?_cons,wM,hb];exact this
 exact key toks 0 Ym (lV _)
end
section
open Go.RowKit Go.PlainAid
theorem xY {P:Nat→Prop} {W:World} {A:Option Addr} {c:Nat} (L:List (Ex×SV)) (hrd:RdT W A 31 (L.flatMap fun q=>qX q.1 q.2)) (hA:∀ b off,A=some ⟨b,off,none⟩→P b) (hL:∀ q∈L,TX P W q.1 q.2):RowX P W (L.map fun q=>q.1) ⟨A,L.length,c⟩:=by
 have hz:∀ L:List (Ex×SV),((L.map fun q=>q.1).zip (L.map fun q=>q.2)).flatMap (fun p=>qX p.1 p.2)=L.flatMap fun q=>qX q.1 q.2:=fun L=>by
  induction L with
  | nil=>rfl
  | cons x P ih=>rw [lY,lY,List.zip_cons_cons,lQ,lQ,ih]
 refine .mk _ _ (L.map fun q=>q.2) (by rw [lW,lW]) (by rw [lW]) hA (by rw [hz];exact hrd) ?_;intro i y v hy hv;rw [cS]at hy;rw [cS]at hv;cases hq:L[i]? with
 | none=>rw [hq]at hy;cases hy
 | some q =>
   rw [hq]at hy hv;injection hy with hy;injection hv with hv;subst hy hv;exact hL q (cD hq)
theorem jH5 {a b c:World} (h:Below a.heap.size a b) (k:Below b.heap.size b c):Below a.heap.size a c:=h.trans (k.mono h.size)
theorem kO6:NameOk [118]:=⟨⟨118,[],rfl,Yd,Ym⟩,Yd⟩
theorem jH6:NameOk [99]:=⟨⟨99,[],rfl,Yd,Ym⟩,Yd⟩
theorem kJ3:NameOk [103]:=⟨⟨103,[],rfl,Yd,Ym⟩,Yd⟩
theorem kJ4:NameOk [104]:=⟨⟨104,[],rfl,Yd,Ym⟩,Yd⟩
theorem kJ5:NameOk [112]:=⟨⟨112,[],rfl,Yd,Ym⟩,Yd⟩
theorem kJ6 (d:Nat) (hd9:d≤9) (IH:∀ d',d'<d→kO5 d'):kO5 d:=by
 intro dp hdp m D most hmo W1 w h;have W3:D.W≤3:=h.out.w3;have HDP:=Ph hdp;have hd9':dp≤9:=Yo;clear hdp;have c3:w.cell? ⟨m,3,none⟩=some (uI D.W):=(MQ.refl h.out).cells.1;have wm:IntKind.i64.wrap ((most:Int)+1)=((most+1:Nat):Int):=by rw [lL];omega
 obtain⟨mo,hmo1⟩:∃ mo,mo=most+1:=⟨_,rfl⟩;rw [←hmo1]at wm;have hmo2:1≤mo:=Yo;have hmo3:mo≤6:=Yo;have HMO:=Ph hmo1;clear hmo1;go_enter Tryz.func39,Tryz.ntmps39
 go_wp2_with fail
 refine(vR m D mo hmo2 Yo _ h).mono ?_;rintro e w1 ⟨n,hn,rfl,hq1⟩;have HQ1:=Ph hq1;have hn5:n≤most:=by have:=HMO.out;omega
 have hn6:n≤5:=Yo;clear hq1 c3 hn wm;go_wp2_with fail
 go_loopw [7,22] (fun v7 v22 wr=>∃ (j:Nat) (l:List Sx) (S:SV),j≤n∧v22=uI j∧v7=.slice S.A S.n S.c∧Hid (MdL dp j l)∧Hid (jC7 w.heap.size wr l S)∧Hid (MQ w m D wr)) (fun _ v22 _=>n-(intOf v22).toNat)
 case atStart=>exact⟨0,[],zK,lV _,rfl,rfl,Ph ⟨lF _,fun y hy=>by cases hy⟩,Ph OwnG.nil,HQ1⟩
 case round =>
  obtain⟨j,l,S,hj,rfl,rfl,HL,HO,HQ⟩:=hrel;clear HQ1;by_cases hlt:j<n
  ·have e1:decide ((j:Int)<(n:Int))=true:=by simp;omega
   have wj:IntKind.i64.wrap ((j:Int)+1)=((j+1:Nat):Int):=by rw [lL];omega
   have HSn:Hid (S.n<1000000000):=Ph (by have h1:=HO.out.len;have h2:=HL.out.n;omega);have HWR:=Ph HQ.out.k;have X0:=Ph (⟨(MQ.refl HQ.out.k).then HQ.out.k zB,Bk.new wr 108 uS,rfl⟩:Rm wr m D wr.heap.size (wr.alloc (.cells uS 108)));go_upto_region 6 with fail
   generalize (wr.alloc _)=W0 at X0 ⊢;obtain⟨sb,hsb⟩:∃ s,wr.heap.size=s:=⟨_,rfl⟩;rw [hsb]at X0 ⊢;have HSB:=Ph hsb;clear hsb;go_wp2_with fail
   refine(vR m D 16 Yo Yo _ (Ph X0.out.q.k)).mono ?_;rintro e w2 ⟨v,hv,rfl,hq⟩;have X2:=Ph (X0.out.to HWR.out hq);clear hq X0;go_upto_block 2 with fail
   go_cut [22] from 22 to 160 (fun v22 wx=>∃ (x:Sx) (u:SV×SV×SV),v22=uI j∧Hid (MdS dp x)∧Hid (Re wr m D sb x u wx))
   case first =>
    rename_i J1 K1 hR1 hM1;clear HL HO HQ e1 wj HSn;by_cases h5:v<5
    ·have e1:decide ((v:Int)<5)=true:=by simp;omega
     go_wp2_with fail
     refine(zX1 1 Yo 1 rfl m D 2 0 Yo Yo Yo W1 _ (Ph X2.out.q.k)).mono ?_;rintro e wa ⟨y0,S0,rfl,hmd0,ht0,hq⟩;have HMD0:=Ph hmd0;have Xa:=Ph (X2.out.to HWR.out hq);have HT0:=Ph (ht0.mono (P':=fun b=>sb+1≤b) fun b _ hb=>by have:=X2.out.b.lt;omega);clear hmd0 ht0 hq X2;go_wp2_with fail
     refine(zX1 2 Yo 2 rfl m D D.W 0 W1 W3 Yo W1 _ (Ph Xa.out.q.k)).mono ?_;rintro e wb ⟨y1,S1,rfl,hmd1,ht1,hq⟩;have HMD1:=Ph hmd1;have Xb:=Ph (Xa.out.to HWR.out hq);have HT1:=Ph (ht1.mono (P':=fun b=>sb+1≤b) fun b _ hb=>by have:=Xa.out.b.lt;omega);have HN:=Ph (HT0.out.stay (hq.staysP Xa.out.q.k));clear HT0;have HT0:=HN;clear HN;clear hmd1 ht1 hq Xa;have Xc:=Ph (Xb.out.below HWR.out (zB (o:=.cells #[uB y0.kind,uB y0.op,uW y0.value,uI y0.width,uR y0.name,.slice S0.A S0.n S0.c,uB y1.kind,uB y1.op,uW y1.value,uI y1.width,uR y1.name,.slice S1.A S1.n S1.c] 31)));have hrd:=RdT.new wb #[uB y0.kind,uB y0.op,uW y0.value,uI y0.width,uR y0.name,.slice S0.A S0.n S0.c,uB y1.kind,uB y1.op,uW y1.value,uI y1.width,uR y1.name,.slice S1.A S1.n S1.c] 31;have HR:=Ph (xY (P:=fun b=>sb+1≤b) (c:=2) [(y0,S0),(y1,S1)] hrd (fun b off e=>by injection e with e;injection e with e;have:=Xb.out.b.lt;omega) (fun q hq=>by
      simp only [lU,lT,or_false]at hq;rcases hq with rfl | rfl
      ·exact HT0.out.bel zB
      ·exact HT1.out.bel zB))
     clear hrd;obtain⟨f0,f1,f2,f3,f4,f5,_⟩:=zZ Xc.out.b;obtain⟨g0,g1,g2,g3,g4,g5⟩:=zH Xc.out.b;have HF:=Ph (fr6 (wb.alloc (.cells #[uB y0.kind,uB y0.op,uW y0.value,uI y0.width,uR y0.name,.slice S0.A S0.n S0.c,uB y1.kind,uB y1.op,uW y1.value,uI y1.width,uR y1.name,.slice S1.A S1.n S1.c] 31)) sb (uB 3) (uT) (.slice (some ⟨wb.heap.size,0,none⟩) 2 2) (uI 0) (uN) (uN));have HK:=Ph (put6 (v0:=uB 3) (v1:=uT) (v2:=.slice (some ⟨wb.heap.size,0,none⟩) 2 2) (v3:=uI 0) (v4:=uN) (v5:=uN) Xc.out.b);have HMS:Hid (MdS dp (.mk 3 [] [y0,y1] 0 [] [])):=Ph (.write (HMD0.out.up Yd Yo) HMD1.out (by have:=HMD0.out.sz;simp [szd]at this;omega));go_wp2_with fail
     generalize (World.setCell _ _ _)=WF at HF HK ⊢;go_meet
     exact⟨.mk 3 [] [y0,y1] 0 [] [],(⟨some ⟨wb.heap.size,0,none⟩,2,2⟩,zK,zK),rfl,HMS,Ph (Xc.out.fill HWR.out HF.out HK.out ⟨HMS.out.sh.sxOk,HR.out,StsP.nil,StsP.nil⟩)⟩
    have e5:decide ((v:Int)<5)=false:=Yp;by_cases h7:v<7
    ·have e1:decide ((v:Int)<7)=true:=by simp;omega
     obtain⟨g0,g1,g2,g3,g4,g5⟩:=zH X2.out.b;obtain⟨f0,f1,f2,f3,f4,f5,_⟩:=zZ X2.out.b;have HF:Hid (Fr (fun k=>k=sb) w2 (w2.setCell ⟨sb,0,none⟩ (uB 4))):=Ph ((Fr.refl (fun k=>k=sb) w2).setCell (p:=⟨sb,0,none⟩) (.inl rfl) _);have HK:Hid (Bk (w2.setCell ⟨sb,0,none⟩ (uB 4)) sb 108 #[uB 4,uT,uN,uI 0,uN,uN]):=Ph (X2.out.b.put 0 _);have HMS:Hid (MdS dp (.mk 4 [] [] 0 [] [])):=Ph MdS.flush;go_wp2_with fail
     generalize w2.setCell ⟨sb,0,none⟩ (uB 4)=WF at HF HK ⊢;go_meet
     exact⟨.mk 4 [] [] 0 [] [],(zK,zK,zK),rfl,HMS,Ph (X2.out.fill HWR.out HF.out HK.out ⟨HMS.out.sh.sxOk,RowG.nil,StsP.nil,StsP.nil⟩)⟩
    have e7:decide ((v:Int)<7)=false:=Yp;by_cases h77:v=7
    ·have e1:((v:Int) == 7)=true:=by simp;omega
     clear h77;obtain⟨g0,g1,g2,g3,g4,g5⟩:=zH X2.out.b;obtain⟨f0,f1,f2,f3,f4,f5,_⟩:=zZ X2.out.b;have HF:Hid (Fr (fun k=>k=sb) w2 (w2.setCell ⟨sb,0,none⟩ (uB 5))):=Ph ((Fr.refl (fun k=>k=sb) w2).setCell (p:=⟨sb,0,none⟩) (.inl rfl) _);have HK:Hid (Bk (w2.setCell ⟨sb,0,none⟩ (uB 5)) sb 108 #[uB 5,uT,uN,uI 0,uN,uN]):=Ph (X2.out.b.put 0 _);have HMS:Hid (MdS dp (.mk 5 [] [] 0 [] [])):=Ph MdS.barrier;go_wp2_with fail
     generalize w2.setCell ⟨sb,0,none⟩ (uB 5)=WF at HF HK ⊢;go_meet
     exact⟨.mk 5 [] [] 0 [] [],(zK,zK,zK),rfl,HMS,Ph (X2.out.fill HWR.out HF.out HK.out ⟨HMS.out.sh.sxOk,RowG.nil,StsP.nil,StsP.nil⟩)⟩
    have e77:((v:Int) == 7)=false:=Yp;by_cases h10:v<10
    ·have e1:decide ((v:Int)<10)=true:=by simp;omega
     have X3:=Ph (X2.out.below HWR.out (zB (o:=.cells #[.string ⟨#[118]⟩,uI D.W,uI 0,.string ⟨#[99]⟩,uI 2,uI 0,.string ⟨#[103]⟩,uI D.W,uI 0,.string ⟨#[104]⟩,uI 1,uI 0] 87)));have hrow:=Bk.new w2 87 #[.string ⟨#[118]⟩,uI D.W,uI 0,.string ⟨#[99]⟩,uI 2,uI 0,.string ⟨#[103]⟩,uI D.W,uI 0,.string ⟨#[104]⟩,uI 1,uI 0];have hm2:m<w2.heap.size:=X2.out.q.k.lt;obtain⟨aw,haw⟩:∃ a,w2.heap.size=a:=⟨_,rfl⟩;rw [haw]at hrow;have HROW:=Ph hrow;have ham:aw≠m:=Yo;have HAM:=Ph ham;clear hrow ham hm2 X2;go_wp2_with fail
     clear haw;generalize (w2.alloc _)=w3 at X3 HROW ⊢;refine(vR m D 4 Yo Yo _ (Ph X3.out.q.k)).mono ?_;rintro e w4 ⟨u,hu,rfl,hq⟩;have X4:=Ph (X3.out.to HWR.out hq);have HROW4:=Ph (hq.bk X3.out.q.k HROW.out HAM.out);clear hq X3 HROW;obtain⟨nm,dw,hnm,hl,hd1,hd3,k0,k1,k2⟩:∃ (nm:List UInt8) (dw:Nat),NameOk nm∧nm.length=1∧1≤dw∧dw≤3∧w4.cell? ⟨aw,u*3,none⟩=some (uR nm)∧w4.cell? ⟨aw,u*3+1,none⟩=some (uI dw)∧w4.cell? ⟨aw,u*3+2,none⟩=some (uI 0):=by
      have c:=HROW4.out.cell;match u,hu with
      | 0,_=>exact⟨[118],D.W,kO6,rfl,W1,W3,c 0,c 1,c 2⟩
      | 1,_=>exact⟨[99],2,jH6,rfl,Yo,Yo,c 3,c 4,c 5⟩
      | 2,_=>exact⟨[103],D.W,kJ3,rfl,W1,W3,c 6,c 7,c 8⟩
      | 3,_=>exact⟨[104],1,kJ4,rfl,Yo,Yo,c 9,c 10,c 11⟩
     have HNM:=Ph hnm;have HNL:=Ph hl;have X5:=Ph (X4.out.below HWR.out (zB (o:=.cells #[uR nm,uI dw,uI 0] 87)));have hdb:=Bk.new w4 87 #[uR nm,uI dw,uI 0];have hm4:m<w4.heap.size:=X4.out.q.k.lt;obtain⟨bd,hbd⟩:∃ a,w4.heap.size=a:=⟨_,rfl⟩;rw [hbd]at hdb;have HDB:=Ph hdb;have HBM:=Ph (show bd≠m by omega);have hu4:u<4:=hu;clear hdb hm4 hnm hl HROW4 X4;have hui:(u:Int)<4:=Yo;go_upto_region 16 with fail
     clear hbd k0 k1 k2;generalize (w4.alloc _)=w5 at X5 HDB ⊢;have X6:=Ph (X5.out.below HWR.out (lB _ _).drew);have hdd:Bk w5.drew bd 87 #[uR nm,uI dw,uI 0]:=zD HDB.out (lB _ _).drew;have HDD:=Ph hdd;have d0:w5.drew.cell? ⟨bd,0,none⟩=some (uR nm):=hdd.cell 0;have d1:w5.drew.cell? ⟨bd,1,none⟩=some (uI dw):=hdd.cell 1;have HC:Hid (Calls Tryz.prog 38 #[uQ m 0,uI dw,uI 0,uI 2] w5.drew _):=Ph (zX1 2 Yo 2 rfl m D dw 0 hd1 hd3 Yo W1 _ (Ph X6.out.q.k));clear hdd X5 HDB
     go_region_law (first
      | (go_simp;go_at_call 38
         with_reducible refine HC.out.mono ?_
         rintro e w6 ⟨y0,S0,rfl,hmd0,ht0,hq⟩;have HMD0:=Ph hmd0;have X7:=Ph (X6.out.to HWR.out hq);have HT0:=Ph (ht0.mono (P':=fun b=>sb+1≤b) fun b _ hb=>by have:=X6.out.b.lt;omega);have HD7:=Ph (hq.bk X6.out.q.k HDD.out HBM.out);clear hmd0 ht0 hq d0 d1;have d0:w6.cell? ⟨bd,0,none⟩=some (uR nm):=HD7.out.cell 0;have xa:∀ o,(w6.alloc o).cell? ⟨bd,0,none⟩=some (uR nm):=fun o=>(HD7.out.alloc o).cell 0;have fa:∀ o,(w6.alloc o).frozen? ⟨sb,0,none⟩=false∧(w6.alloc o).frozen? ⟨sb,1,none⟩=false∧(w6.alloc o).frozen? ⟨sb,2,none⟩=false∧(w6.alloc o).frozen? ⟨sb,3,none⟩=false∧(w6.alloc o).frozen? ⟨sb,4,none⟩=false∧(w6.alloc o).frozen? ⟨sb,5,none⟩=false:=fun o=>by obtain⟨f0,f1,f2,f3,f4,f5,_⟩:=zZ (X7.out.b.alloc o);exact⟨f0,f1,f2,f3,f4,f5⟩
         have ga:∀ o,(w6.alloc o).cell? ⟨sb,0,none⟩=some (uB 0)∧(w6.alloc o).cell? ⟨sb,1,none⟩=some (uT)∧(w6.alloc o).cell? ⟨sb,2,none⟩=some (uN)∧(w6.alloc o).cell? ⟨sb,3,none⟩=some (uI 0)∧(w6.alloc o).cell? ⟨sb,4,none⟩=some (uN)∧(w6.alloc o).cell? ⟨sb,5,none⟩=some (uN):=fun o=>zH (X7.out.b.alloc o)))
     all_goals
      clear d0 xa fa ga;have Xc:=Ph (X7.out.below HWR.out (zB (o:=.cells (uE y0 S0) 31)));have hrd:=RdT.new w6 (uE y0 S0) 31;have hR:=xY (P:=fun b=>sb+1≤b) (c:=1) [(y0,S0)] hrd (fun b off e=>by injection e with e;injection e with e;have:=X7.out.b.lt;omega) (fun q hq=>by simp only [lU,lT,or_false]at hq;rcases hq with rfl;exact HT0.out.bel zB);have HR:=Ph hR;clear hrd hR;have HF:=Ph (fr6 (w6.alloc (.cells (uE y0 S0) 31)) sb (uB 1) (uR nm) (.slice (some ⟨w6.heap.size,0,none⟩) 1 1) (uI 0) (uN) (uN));have HK:=Ph (put6 (v0:=uB 1) (v1:=uR nm) (v2:=.slice (some ⟨w6.heap.size,0,none⟩) 1 1) (v3:=uI 0) (v4:=uN) (v5:=uN) Xc.out.b);have HMS:Hid (MdS dp (.mk 1 nm [y0] 0 [] [])):=Ph (.set HNM.out HNL.out HMD0.out);generalize (World.setCell _ _ _)=WF at HF HK ⊢;go_wp2_with fail
      go_meet
      exact⟨.mk 1 nm [y0] 0 [] [],(⟨some ⟨w6.heap.size,0,none⟩,1,1⟩,zK,zK),rfl,HMS,Ph (Xc.out.fill HWR.out HF.out HK.out ⟨HMS.out.sh.sxOk,HR.out,StsP.nil,StsP.nil⟩)⟩
    have e10:decide ((v:Int)<10)=false:=Yp;by_cases h110:v=10
    ·have e1:((v:Int) == 10)=true:=by simp;omega
     clear h110;go_wp2_with fail
     refine(zX1 1 Yo 1 rfl m D 2 0 Yo Yo Yo W1 _ (Ph X2.out.q.k)).mono ?_;rintro e wa ⟨y0,S0,rfl,hmd0,ht0,hq⟩;have HMD0:=Ph hmd0;have Xa:=Ph (X2.out.to HWR.out hq);have HT0:=Ph (ht0.mono (P':=fun b=>sb+1≤b) fun b _ hb=>by have:=X2.out.b.lt;omega);clear hmd0 ht0 hq X2;go_wp2_with fail
     refine(zX1 1 Yo 1 rfl m D D.W 0 W1 W3 Yo W1 _ (Ph Xa.out.q.k)).mono ?_;rintro e wb ⟨y1,S1,rfl,hmd1,ht1,hq⟩;have HMD1:=Ph hmd1;have Xb:=Ph (Xa.out.to HWR.out hq);have HT1:=Ph (ht1.mono (P':=fun b=>sb+1≤b) fun b _ hb=>by have:=Xa.out.b.lt;omega);have HN:=Ph (HT0.out.stay (hq.staysP Xa.out.q.k));clear HT0;have HT0:=HN;clear HN;clear hmd1 ht1 hq Xa;have Xc:=Ph (Xb.out.below HWR.out (zB (o:=.cells #[uB y0.kind,uB y0.op,uW y0.value,uI y0.width,uR y0.name,.slice S0.A S0.n S0.c,uB y1.kind,uB y1.op,uW y1.value,uI y1.width,uR y1.name,.slice S1.A S1.n S1.c] 31)));have hrd:=RdT.new wb #[uB y0.kind,uB y0.op,uW y0.value,uI y0.width,uR y0.name,.slice S0.A S0.n S0.c,uB y1.kind,uB y1.op,uW y1.value,uI y1.width,uR y1.name,.slice S1.A S1.n S1.c] 31;have HR:=Ph (xY (P:=fun b=>sb+1≤b) (c:=2) [(y0,S0),(y1,S1)] hrd (fun b off e=>by injection e with e;injection e with e;have:=Xb.out.b.lt;omega) (fun q hq=>by
      simp only [lU,lT,or_false]at hq;rcases hq with rfl | rfl
      ·exact HT0.out.bel zB
      ·exact HT1.out.bel zB))
     clear hrd;obtain⟨f0,f1,f2,f3,f4,f5,_⟩:=zZ Xc.out.b;obtain⟨g0,g1,g2,g3,g4,g5⟩:=zH Xc.out.b;have HF:=Ph (fr6 (wb.alloc (.cells #[uB y0.kind,uB y0.op,uW y0.value,uI y0.width,uR y0.name,.slice S0.A S0.n S0.c,uB y1.kind,uB y1.op,uW y1.value,uI y1.width,uR y1.name,.slice S1.A S1.n S1.c] 31)) sb (uB 2) (.string ⟨#[97]⟩) (.slice (some ⟨wb.heap.size,0,none⟩) 2 2) (uI 0) (uN) (uN));have HK:=Ph (put6 (v0:=uB 2) (v1:=.string ⟨#[97]⟩) (v2:=.slice (some ⟨wb.heap.size,0,none⟩) 2 2) (v3:=uI 0) (v4:=uN) (v5:=uN) Xc.out.b);have HMS:Hid (MdS dp (.mk 2 [97] [y0,y1] 0 [] [])):=Ph (.put kJ2 rfl HMD0.out HMD1.out);go_wp2_with fail
     generalize (World.setCell _ _ _)=WF at HF HK ⊢;go_meet
     exact⟨.mk 2 [97] [y0,y1] 0 [] [],(⟨some ⟨wb.heap.size,0,none⟩,2,2⟩,zK,zK),rfl,HMS,Ph (Xc.out.fill HWR.out HF.out HK.out ⟨HMS.out.sh.sxOk,HR.out,StsP.nil,StsP.nil⟩)⟩
    have e110:((v:Int) == 10)=false:=Yp;by_cases h13:v<13
    ·have e1:decide ((v:Int)<13)=true:=by simp;omega
     have e113:((v:Int) == 13)=false:=Yp;have e114:((v:Int) == 14)=false:=Yp;by_cases hdp:0<dp
     ·have ed:decide ((dp:Int)>0)=true:=by simp;omega
      go_wp2_with fail
      refine(zX1 2 Yo 2 rfl m D 1 0 Yo Yo Yo W1 _ (Ph X2.out.q.k)).mono ?_;rintro e wa ⟨y0,S0,rfl,hmd0,ht0,hq⟩;have HMD0:=Ph hmd0;have Xa:=Ph (X2.out.to HWR.out hq);have HT0:=Ph (ht0.mono (P':=fun b=>sb+1≤b) fun b _ hb=>by have:=X2.out.b.lt;omega);clear hmd0 ht0 hq X2;have Xc:=Ph (Xa.out.below HWR.out (zB (o:=.cells (uE y0 S0) 31)));have hrd:=RdT.new wa (uE y0 S0) 31;have hR:=xY (P:=fun b=>sb+1≤b) (c:=1) [(y0,S0)] hrd (fun b off e=>by injection e with e;injection e with e;have:=Xa.out.b.lt;omega) (fun q hq=>by simp only [lU,lT,or_false]at hq;rcases hq with rfl;exact HT0.out.bel zB);have HR:=Ph hR;clear hrd hR;obtain⟨d1,hd1⟩:∃ d1,dp=d1+1:=⟨dp-1,Yo⟩;have wd:IntKind.i64.wrap ((dp:Int)-1)=(d1:Int):=by rw [lL];omega
      have IHd:=Ph (IH d1 (by have:=HDP.out;omega) d1 rfl);have HD1:=Ph hd1;clear hd1;obtain⟨aw,haw⟩:∃ a,wa.heap.size=a:=⟨_,rfl⟩;go_wp2_with fail
      generalize (wa.alloc _)=wx at Xc HR ⊢;rw [haw]at HR;clear haw;refine(IHd.out m D 2 Yo W1 _ (Ph Xc.out.q.k)).mono ?_;rintro e wb ⟨l1,T1,rfl,hm1,ho1,hq⟩;have HM1:=Ph hm1;have Xd:=Ph (Xc.out.to HWR.out hq);have HR1:=Ph (HR.out.stay itX qW (hq.staysP Xc.out.q.k));have HT1:=Ph (ho1.sts.mono (P':=fun b=>sb+1≤b) fun b _ hb=>by have:=Xc.out.b.lt;omega);clear hm1 ho1 hq Xc HR;go_wp2_with fail
      refine(IHd.out m D 1 Yo W1 _ (Ph Xd.out.q.k)).mono ?_;rintro e wc ⟨l2,T2,rfl,hm2,ho2,hq⟩;have HM2:=Ph hm2;have Xe:=Ph (Xd.out.to HWR.out hq);have HR2:=Ph (HR1.out.stay itX qW (hq.staysP Xd.out.q.k));have HT1b:=Ph (HT1.out.stay (hq.staysP Xd.out.q.k));have HT2:=Ph (ho2.sts.mono (P':=fun b=>sb+1≤b) fun b _ hb=>by have:=Xd.out.b.lt;omega);clear hm2 ho2 hq Xd HR1 HT1;obtain⟨f0,f1,f2,f3,f4,f5,_⟩:=zZ Xe.out.b;obtain⟨g0,g1,g2,g3,g4,g5⟩:=zH Xe.out.b;have HF:=Ph (fr6 wc sb (uB 6) (uT) (.slice (some ⟨aw,0,none⟩) 1 1) (uI 0) (.slice T1.A T1.n T1.c) (.slice T2.A T2.n T2.c));have HK:=Ph (put6 (v0:=uB 6) (v1:=uT) (v2:=.slice (some ⟨aw,0,none⟩) 1 1) (v3:=uI 0) (v4:=.slice T1.A T1.n T1.c) (v5:=.slice T2.A T2.n T2.c) Xe.out.b);have HMS:Hid (MdS dp (.mk 6 [] [y0] 0 l1 l2)):=Ph (by rw [HD1.out];exact .ifs HMD0.out HM1.out HM2.out);go_wp2_with fail
      generalize (World.setCell _ _ _)=WF at HF HK ⊢;go_meet
      exact⟨.mk 6 [] [y0] 0 l1 l2,(⟨some ⟨aw,0,none⟩,1,1⟩,T1,T2),rfl,HMS,Ph (Xe.out.fill HWR.out HF.out HK.out ⟨HMS.out.sh.sxOk,HR2.out,HT1b.out,HT2.out⟩)⟩
     ·have ed:decide ((dp:Int)>0)=false:=by simp;omega
      go_wp2_with fail
      refine(wA m D 1 0 Yo Yo Yo W1 _ (Ph X2.out.q.k)).mono ?_;rintro e wa ⟨y0,S0,rfl,hmd0,ht0,hq⟩;have HMD0:=Ph hmd0;have Xa:=Ph (X2.out.to HWR.out hq);have HT0:=Ph (ht0.mono (P':=fun b=>sb+1≤b) fun b _ hb=>by have:=X2.out.b.lt;omega);clear hmd0 ht0 hq X2;go_wp2_with fail
      refine(wA m D D.W 0 W1 W3 Yo W1 _ (Ph Xa.out.q.k)).mono ?_;rintro e wb ⟨y1,S1,rfl,hmd1,ht1,hq⟩;have HMD1:=Ph hmd1;have Xb:=Ph (Xa.out.to HWR.out hq);have HT1:=Ph (ht1.mono (P':=fun b=>sb+1≤b) fun b _ hb=>by have:=Xa.out.b.lt;omega);have HN:=Ph (HT0.out.stay (hq.staysP Xa.out.q.k));clear HT0;have HT0:=HN;clear HN;clear hmd1 ht1 hq Xa;have Xc:=Ph (Xb.out.below HWR.out (zB (o:=.cells #[uB y0.kind,uB y0.op,uW y0.value,uI y0.width,uR y0.name,.slice S0.A S0.n S0.c,uB y1.kind,uB y1.op,uW y1.value,uI y1.width,uR y1.name,.slice S1.A S1.n S1.c] 31)));have hrd:=RdT.new wb #[uB y0.kind,uB y0.op,uW y0.value,uI y0.width,uR y0.name,.slice S0.A S0.n S0.c,uB y1.kind,uB y1.op,uW y1.value,uI y1.width,uR y1.name,.slice S1.A S1.n S1.c] 31;have HR:=Ph (xY (P:=fun b=>sb+1≤b) (c:=2) [(y0,S0),(y1,S1)] hrd (fun b off e=>by injection e with e;injection e with e;have:=Xb.out.b.lt;omega) (fun q hq=>by
       simp only [lU,lT,or_false]at hq;rcases hq with rfl | rfl
       ·exact HT0.out.bel zB
       ·exact HT1.out.bel zB))
      clear hrd;obtain⟨f0,f1,f2,f3,f4,f5,_⟩:=zZ Xc.out.b;obtain⟨g0,g1,g2,g3,g4,g5⟩:=zH Xc.out.b;have HF:=Ph (fr6 (wb.alloc (.cells #[uB y0.kind,uB y0.op,uW y0.value,uI y0.width,uR y0.name,.slice S0.A S0.n S0.c,uB y1.kind,uB y1.op,uW y1.value,uI y1.width,uR y1.name,.slice S1.A S1.n S1.c] 31)) sb (uB 3) (uT) (.slice (some ⟨wb.heap.size,0,none⟩) 2 2) (uI 0) (uN) (uN));have HK:=Ph (put6 (v0:=uB 3) (v1:=uT) (v2:=.slice (some ⟨wb.heap.size,0,none⟩) 2 2) (v3:=uI 0) (v4:=uN) (v5:=uN) Xc.out.b);have HMS:Hid (MdS dp (.mk 3 [] [y0,y1] 0 [] [])):=Ph (.write (HMD0.out.up Yd Yo) (HMD1.out.up Yd Yo) (by have:=HMD0.out.sz;omega));go_wp2_with fail
      generalize (World.setCell _ _ _)=WF at HF HK ⊢;go_meet
      exact⟨.mk 3 [] [y0,y1] 0 [] [],(⟨some ⟨wb.heap.size,0,none⟩,2,2⟩,zK,zK),rfl,HMS,Ph (Xc.out.fill HWR.out HF.out HK.out ⟨HMS.out.sh.sxOk,HR.out,StsP.nil,StsP.nil⟩)⟩
    have e13:decide ((v:Int)<13)=false:=Yp;by_cases h113:v=13
    ·have e113:((v:Int) == 13)=true:=by simp;omega
     have e114:((v:Int) == 14)=false:=Yp;clear h113;by_cases hdp:0<dp
     ·have ed:decide ((dp:Int)>0)=true:=by simp;omega
      obtain⟨d1,hd1⟩:∃ d1,dp=d1+1:=⟨dp-1,Yo⟩;have HD1:=Ph hd1;clear hd1;have IH0:=Ph (IH 0 (by have:=HDP.out;omega) 0 rfl);have hc0:ShX (.mk 2 0 0 0 [99] []):=.var [99] jH6 rfl;have hn1:ShX (.mk 1 0 1 2 [] []):=.num 1 2 Yo Yo;have HC0:Hid (MdX 1 1 (.mk 2 0 0 0 [99] [])):=Ph ⟨hc0,by simp [szX,kC],by simp [htX,vJ]⟩;have HN1:Hid (MdX 1 1 (.mk 1 0 1 2 [] [])):=Ph ⟨hn1,by simp [szX,kC],by simp [htX,vJ]⟩;have HB1:Hid (ShX (.mk 6 3 0 0 [] [.mk 2 0 0 0 [99] [],.mk 1 0 1 2 [] []])):=Ph (.bin 3 _ _ Yo Yo hc0 hn1);have HM2:Hid (MdS 0 (.mk 1 [99] [.mk 6 3 0 0 [] [.mk 2 0 0 0 [99] [],.mk 1 0 1 2 [] []]] 0 [] [])):=Ph (.set jH6 rfl ((HC0.out.two HN1.out Yo Yo).up Yd Yo));clear hc0 hn1;go_wp2_with fail
      refine(IH0.out m D 2 Yo W1 _ (Ph X2.out.q.k)).mono ?_;rintro e wa ⟨l1,T1,rfl,hm1,ho1,hq⟩;have HM1:=Ph hm1;have HO1:=Ph ho1;have HQ1:=Ph hq;have Xa:=Ph (X2.out.to HWR.out hq);clear hm1 ho1 hq;go_wp2_with fail
      refine(nmM _ _).mono ?_;rintro e wb ⟨rfl,hb1⟩;have HBb:=Ph hb1;have Xb:=Ph (Xa.out.below HWR.out hb1);clear hb1 Xa;go_wp2_with fail
      refine(nuM _ _ _).mono ?_;rintro e wc ⟨rfl,hb1⟩;have HBc:=Ph (jH5 HBb.out hb1);have Xc:=Ph (Xb.out.below HWR.out hb1);clear hb1 Xb HBb;go_wp2_with fail
      refine(biM wa.heap.size 3 (.mk 2 0 0 0 [99] []) (.mk 1 0 1 2 [] []) zK zK HB1.out wc HBc.out.size (Ph (TX.leaf HC0.out.sh.exOk rfl)) (Ph (TX.leaf HN1.out.sh.exOk rfl))).mono ?_;rintro e wd ⟨U1,rfl,ht,hb1⟩;have HBd:=Ph (jH5 HBc.out hb1);have Xd:=Ph (Xc.out.below HWR.out hb1);have HU1:=Ph ht;clear hb1 ht Xc HBc;have hrd:=RdT.new wd #[uB 6,uB 3,uW 0,uI 0,uT,.slice U1.A U1.n U1.c] 31;have Xe:=Ph (Xd.out.below HWR.out (zB (o:=.cells #[uB 6,uB 3,uW 0,uI 0,uT,.slice U1.A U1.n U1.c] 31)));have HBe:=Ph (jH5 HBd.out (zB (o:=.cells #[uB 6,uB 3,uW 0,uI 0,uT,.slice U1.A U1.n U1.c] 31)));have hR:=xY (P:=fun b=>wa.heap.size≤b) (c:=1) [((.mk 6 3 0 0 [] [.mk 2 0 0 0 [99] [],.mk 1 0 1 2 [] []]:Ex),U1)] hrd (fun b off e=>by injection e with e;injection e with e;have:=HBd.out.size;omega) (fun q hq=>by simp only [lU,lT,or_false]at hq;rcases hq with rfl;exact HU1.out.bel zB);have HR:=Ph hR;clear hrd hR Xd HBd;obtain⟨we,hwe⟩:∃ W,wd.alloc (.cells #[uB 6,uB 3,uW 0,uI 0,uT,.slice U1.A U1.n U1.c] 31)=W:=⟨_,rfl⟩;obtain⟨aw,haw⟩:∃ a,wd.heap.size=a:=⟨_,rfl⟩;have hsz:we.heap.size=aw+1:=by rw [←hwe,←haw];exact lO _ _
      rw [hwe]at Xe HBe HR;rw [haw]at HR;obtain⟨A9,c9,w9,hrun,hown,hq9⟩:=jQ3 (x:=.mk 1 [99] [.mk 6 3 0 0 [] [.mk 2 0 0 0 [99] [],.mk 1 0 1 2 [] []]] 0 [] []) (v:=(⟨some ⟨aw,0,none⟩,1,1⟩,zK,zK)) (W:=we) X2.out.q.k HQ1.out HO1.out ((MQ.refl HQ1.out.k).then HQ1.out.k HBe.out) ⟨HM2.out.sh.sxOk,HR.out,StsP.nil,StsP.nil⟩ (by have:=HO1.out.len;have:=HM1.out.n;omega);have HRUN:Hid (∀ ty,(Builtin.append_ #[34,34] ty #[.slice T1.A T1.n T1.c,.slice (some ⟨wd.heap.size+1,0,none⟩) 1 1]).run Tryz.prog ((wd.alloc (.cells #[uB 6,uB 3,uW 0,uI 0,uT,.slice U1.A U1.n U1.c] 31)).alloc (.cells #[uB 1,.string ⟨#[99]⟩,.slice (some ⟨wd.heap.size,0,none⟩) 1 1,uI 0,uN,uN] 108))=.ok (.slice A9 (T1.n+1) c9) w9):=Ph (by rw [hwe,haw];exact hsz▸hrun);have HO9:=Ph hown;have X9:=Ph (X2.out.to HWR.out hq9);have HX2:=X2;have HM9:=Ph (HM1.out.snoc HM2.out);have HT9:=Ph (hown.sts.mono (P':=fun b=>sb+1≤b) fun b _ hb=>by have:=X2.out.b.lt;omega);clear hrun hown hq9 hwe haw hsz Xe;go_wp2_with (at_builtin;refine jL rfl (.tmp 111) (.tmp 117) rfl _ _ _ rfl rfl (HRUN.out _) ?_)
      clear HRUN HBe HR HO9 HM1 HQ1 HO1 HU1 X2 HX2 IH0 HB1;refine(vR m D 3 Yo Yo _ (Ph X9.out.q.k)).mono ?_;rintro e wf ⟨u1,hu1,rfl,hq⟩;have Xf:=Ph (X9.out.to HWR.out hq);have HTf:=Ph (HT9.out.stay (hq.staysP X9.out.q.k));clear hq X9 HT9;obtain⟨b1,hb1e⟩:∃ b1:Nat,b1=1+u1:=⟨_,rfl⟩;have hb19:b1≤9:=Yo;have hkk:IntKind.i64.wrap (1+(u1:Int))=(b1:Int):=by rw [lL];omega
      have hkk2:1+(u1:Int)=(b1:Int):=Yo;clear hb1e;go_wp2_with fail
      refine(nmM _ _).mono ?_;rintro e wg ⟨rfl,hb1⟩;have Xg:=Ph (Xf.out.below HWR.out hb1);have HTg:=Ph (HTf.out.stay (Stays.below hb1));clear hb1 Xf HTf;go_wp2_with fail
      refine(vR m D 3 Yo Yo _ (Ph Xg.out.q.k)).mono ?_;rintro e wh ⟨u2,hu2,rfl,hq⟩;have Xh:=Ph (Xg.out.to HWR.out hq);have HTh:=Ph (HTg.out.stay (hq.staysP Xg.out.q.k));clear hq Xg HTg;obtain⟨b2,hb2e⟩:∃ b2:Nat,b2=1+u2:=⟨_,rfl⟩;have hb29:b2≤9:=Yo;have hkk3:1+(u2:Int)=(b2:Int):=Yo;clear hb2e;go_wp2_with fail
      refine(nuM _ _ _).mono ?_;rintro e wi ⟨rfl,hb1⟩;have Xi:=Ph (Xh.out.below HWR.out hb1);have HTi:=Ph (HTh.out.stay (Stays.below hb1));clear hb1 Xh HTh;have hn2:ShX (.mk 1 0 b2 2 [] []):=.num b2 2 hb29 Yo;have HN2:Hid (MdX 1 1 (.mk 1 0 b2 2 [] [])):=Ph ⟨hn2,by simp [szX,kC],by simp [htX,vJ]⟩;have HB2:Hid (ShX (.mk 6 15 0 0 [] [.mk 2 0 0 0 [99] [],.mk 1 0 b2 2 [] []])):=Ph (.bin 15 _ _ Yo Yo HC0.out.sh hn2);clear hn2;obtain⟨y0,hy0⟩:∃ y:Ex,.mk 6 15 0 0 [] [.mk 2 0 0 0 [99] [],.mk 1 0 b2 2 [] []]=y:=⟨_,rfl⟩;have HY:Hid (y0.kind=6∧y0.op=15∧y0.value=0∧y0.width=0∧y0.name=[]):=Ph (by subst hy0;exact⟨rfl,rfl,rfl,rfl,rfl⟩);have HYM:Hid (ShX y0∧szX y0≤3∧htX y0≤3):=Ph (by subst hy0;exact⟨HB2.out,by simp [szX,kC],by simp [htX,vJ]⟩);go_wp2_with fail
      refine(biM (sb+1) 15 (.mk 2 0 0 0 [99] []) (.mk 1 0 b2 2 [] []) zK zK HB2.out wi Xi.out.b.lt (Ph (TX.leaf HC0.out.sh.exOk rfl)) (Ph (TX.leaf HN2.out.sh.exOk rfl))).mono ?_;rintro e wj ⟨U2,rfl,ht,hb1⟩;have Xj:=Ph (Xi.out.below HWR.out hb1);have HTj:=Ph (HTi.out.stay (Stays.below hb1));rw [hy0]at ht;have HU2:=Ph ht;clear hb1 ht Xi HTi HB2 hy0;have Xc:=Ph (Xj.out.below HWR.out (zB (o:=.cells #[uB 6,uB 15,uW 0,uI 0,uT,.slice U2.A U2.n U2.c] 31)));have hrd:=RdT.new wj #[uB 6,uB 15,uW 0,uI 0,uT,.slice U2.A U2.n U2.c] 31;have hR:=xY (P:=fun b=>sb+1≤b) (c:=1) [(y0,U2)] (by obtain⟨h1,h2,h3,h4,h5⟩:=HY.out;show RdT _ _ _ ([uB y0.kind,uB y0.op,uW y0.value,uI y0.width,uR y0.name,.slice U2.A U2.n U2.c]++[]);rw [h1,h2,h3,h4,h5];exact hrd) (fun b off e=>by injection e with e;injection e with e;have:=Xj.out.b.lt;omega) (fun q hq=>by simp only [lU,lT,or_false]at hq;rcases hq with rfl;exact HU2.out.bel zB);have HR:=Ph hR;have HTk:=Ph (HTj.out.stay (Stays.below (zB (o:=.cells #[uB 6,uB 15,uW 0,uI 0,uT,.slice U2.A U2.n U2.c] 31))));clear hrd hR;obtain⟨f0,f1,f2,f3,f4,f5,_⟩:=zZ Xc.out.b;obtain⟨g0,g1,g2,g3,g4,g5⟩:=zH Xc.out.b;have HF:=Ph (fr6 (wj.alloc (.cells #[uB 6,uB 15,uW 0,uI 0,uT,.slice U2.A U2.n U2.c] 31)) sb (uB 7) (uT) (.slice (some ⟨wj.heap.size,0,none⟩) 1 1) (uI b1) (.slice A9 (T1.n+1) c9) (uN));have HK:=Ph (put6 (v0:=uB 7) (v1:=uT) (v2:=.slice (some ⟨wj.heap.size,0,none⟩) 1 1) (v3:=uI b1) (v4:=.slice A9 (T1.n+1) c9) (v5:=uN) Xc.out.b);have HMS:Hid (MdS dp (.mk 7 [] [y0] b1 (l1++[Sx.mk 1 [99] [Ex.mk 6 3 0 0 [] [Ex.mk 2 0 0 0 [99] [],Ex.mk 1 0 1 2 [] []]] 0 [] []]) [])):=Ph (by rw [HD1.out];exact .loop HYM.out.1 HYM.out.2.1 HYM.out.2.2 hb19 HM9.out);go_wp2_with fail
      generalize (World.setCell _ _ _)=WF at HF HK ⊢;go_meet
      exact⟨.mk 7 [] [y0] b1 (l1++[Sx.mk 1 [99] [Ex.mk 6 3 0 0 [] [Ex.mk 2 0 0 0 [99] [],Ex.mk 1 0 1 2 [] []]] 0 [] []]) [],(⟨some ⟨wj.heap.size,0,none⟩,1,1⟩,⟨A9,T1.n+1,c9⟩,zK),rfl,HMS,Ph (Xc.out.fill HWR.out HF.out HK.out ⟨HMS.out.sh.sxOk,HR.out,HTk.out,StsP.nil⟩)⟩
     ·have ed:decide ((dp:Int)>0)=false:=by simp;omega
      go_wp2_with fail
      refine(wA m D 1 0 Yo Yo Yo W1 _ (Ph X2.out.q.k)).mono ?_;rintro e wa ⟨y0,S0,rfl,hmd0,ht0,hq⟩;have HMD0:=Ph hmd0;have Xa:=Ph (X2.out.to HWR.out hq);have HT0:=Ph (ht0.mono (P':=fun b=>sb+1≤b) fun b _ hb=>by have:=X2.out.b.lt;omega);clear hmd0 ht0 hq X2;go_wp2_with fail
      refine(wA m D D.W 0 W1 W3 Yo W1 _ (Ph Xa.out.q.k)).mono ?_;rintro e wb ⟨y1,S1,rfl,hmd1,ht1,hq⟩;have HMD1:=Ph hmd1;have Xb:=Ph (Xa.out.to HWR.out hq);have HT1:=Ph (ht1.mono (P':=fun b=>sb+1≤b) fun b _ hb=>by have:=Xa.out.b.lt;omega);have HN:=Ph (HT0.out.stay (hq.staysP Xa.out.q.k));clear HT0;have HT0:=HN;clear HN;clear hmd1 ht1 hq Xa;have Xc:=Ph (Xb.out.below HWR.out (zB (o:=.cells #[uB y0.kind,uB y0.op,uW y0.value,uI y0.width,uR y0.name,.slice S0.A S0.n S0.c,uB y1.kind,uB y1.op,uW y1.value,uI y1.width,uR y1.name,.slice S1.A S1.n S1.c] 31)));have hrd:=RdT.new wb #[uB y0.kind,uB y0.op,uW y0.value,uI y0.width,uR y0.name,.slice S0.A S0.n S0.c,uB y1.kind,uB y1.op,uW y1.value,uI y1.width,uR y1.name,.slice S1.A S1.n S1.c] 31;have HR:=Ph (xY (P:=fun b=>sb+1≤b) (c:=2) [(y0,S0),(y1,S1)] hrd (fun b off e=>by injection e with e;injection e with e;have:=Xb.out.b.lt;omega) (fun q hq=>by
       simp only [lU,lT,or_false]at hq;rcases hq with rfl | rfl
       ·exact HT0.out.bel zB
       ·exact HT1.out.bel zB))
      clear hrd;obtain⟨f0,f1,f2,f3,f4,f5,_⟩:=zZ Xc.out.b;obtain⟨g0,g1,g2,g3,g4,g5⟩:=zH Xc.out.b;have HF:=Ph (fr6 (wb.alloc (.cells #[uB y0.kind,uB y0.op,uW y0.value,uI y0.width,uR y0.name,.slice S0.A S0.n S0.c,uB y1.kind,uB y1.op,uW y1.value,uI y1.width,uR y1.name,.slice S1.A S1.n S1.c] 31)) sb (uB 3) (uT) (.slice (some ⟨wb.heap.size,0,none⟩) 2 2) (uI 0) (uN) (uN));have HK:=Ph (put6 (v0:=uB 3) (v1:=uT) (v2:=.slice (some ⟨wb.heap.size,0,none⟩) 2 2) (v3:=uI 0) (v4:=uN) (v5:=uN) Xc.out.b);have HMS:Hid (MdS dp (.mk 3 [] [y0,y1] 0 [] [])):=Ph (.write (HMD0.out.up Yd Yo) (HMD1.out.up Yd Yo) (by have:=HMD0.out.sz;omega));go_wp2_with fail
      generalize (World.setCell _ _ _)=WF at HF HK ⊢;go_meet
      exact⟨.mk 3 [] [y0,y1] 0 [] [],(⟨some ⟨wb.heap.size,0,none⟩,2,2⟩,zK,zK),rfl,HMS,Ph (Xc.out.fill HWR.out HF.out HK.out ⟨HMS.out.sh.sxOk,HR.out,StsP.nil,StsP.nil⟩)⟩
    have e113:((v:Int) == 13)=false:=Yp;by_cases h114:v=14
    ·have e114:((v:Int) == 14)=true:=by simp;omega
     clear h114;obtain⟨_,_,_,_,c24,Ap,cp,c15⟩:=X2.out.q.cells;rcases Bool.eq_false_or_eq_true D.par with hpp | hpp
     ·rw [hpp]at c24;clear c15 hpp;go_wp2_with fail
      refine(wA m D 1 0 Yo Yo Yo W1 _ (Ph X2.out.q.k)).mono ?_;rintro e wa ⟨y0,S0,rfl,hmd0,ht0,hq⟩;have HMD0:=Ph hmd0;have Xa:=Ph (X2.out.to HWR.out hq);have HT0:=Ph (ht0.mono (P':=fun b=>sb+1≤b) fun b _ hb=>by have:=X2.out.b.lt;omega);clear hmd0 ht0 hq X2;go_wp2_with fail
      refine(wA m D D.W 0 W1 W3 Yo W1 _ (Ph Xa.out.q.k)).mono ?_;rintro e wb ⟨y1,S1,rfl,hmd1,ht1,hq⟩;have HMD1:=Ph hmd1;have Xb:=Ph (Xa.out.to HWR.out hq);have HT1:=Ph (ht1.mono (P':=fun b=>sb+1≤b) fun b _ hb=>by have:=Xa.out.b.lt;omega);have HN:=Ph (HT0.out.stay (hq.staysP Xa.out.q.k));clear HT0;have HT0:=HN;clear HN;clear hmd1 ht1 hq Xa;have Xc:=Ph (Xb.out.below HWR.out (zB (o:=.cells #[uB y0.kind,uB y0.op,uW y0.value,uI y0.width,uR y0.name,.slice S0.A S0.n S0.c,uB y1.kind,uB y1.op,uW y1.value,uI y1.width,uR y1.name,.slice S1.A S1.n S1.c] 31)));have hrd:=RdT.new wb #[uB y0.kind,uB y0.op,uW y0.value,uI y0.width,uR y0.name,.slice S0.A S0.n S0.c,uB y1.kind,uB y1.op,uW y1.value,uI y1.width,uR y1.name,.slice S1.A S1.n S1.c] 31;have HR:=Ph (xY (P:=fun b=>sb+1≤b) (c:=2) [(y0,S0),(y1,S1)] hrd (fun b off e=>by injection e with e;injection e with e;have:=Xb.out.b.lt;omega) (fun q hq=>by
       simp only [lU,lT,or_false]at hq;rcases hq with rfl | rfl
       ·exact HT0.out.bel zB
       ·exact HT1.out.bel zB))
      clear hrd;obtain⟨f0,f1,f2,f3,f4,f5,_⟩:=zZ Xc.out.b;obtain⟨g0,g1,g2,g3,g4,g5⟩:=zH Xc.out.b;have HF:=Ph (fr6 (wb.alloc (.cells #[uB y0.kind,uB y0.op,uW y0.value,uI y0.width,uR y0.name,.slice S0.A S0.n S0.c,uB y1.kind,uB y1.op,uW y1.value,uI y1.width,uR y1.name,.slice S1.A S1.n S1.c] 31)) sb (uB 3) (uT) (.slice (some ⟨wb.heap.size,0,none⟩) 2 2) (uI 0) (uN) (uN));have HK:=Ph (put6 (v0:=uB 3) (v1:=uT) (v2:=.slice (some ⟨wb.heap.size,0,none⟩) 2 2) (v3:=uI 0) (v4:=uN) (v5:=uN) Xc.out.b);have HMS:Hid (MdS dp (.mk 3 [] [y0,y1] 0 [] [])):=Ph (.write (HMD0.out.up Yd Yo) (HMD1.out.up Yd Yo) (by have:=HMD0.out.sz;omega));go_wp2_with fail
      generalize (World.setCell _ _ _)=WF at HF HK ⊢;go_meet
      exact⟨.mk 3 [] [y0,y1] 0 [] [],(⟨some ⟨wb.heap.size,0,none⟩,2,2⟩,zK,zK),rfl,HMS,Ph (Xc.out.fill HWR.out HF.out HK.out ⟨HMS.out.sh.sxOk,HR.out,StsP.nil,StsP.nil⟩)⟩
     ·rw [hpp]at c24;by_cases hnp:0<D.np
      ·have ed:decide ((D.np:Int)>0)=true:=by simp;omega
       clear hpp;go_wp2_with fail
       refine(zX1 1 Yo 1 rfl m D D.W 0 W1 W3 Yo W1 _ (Ph X2.out.q.k)).mono ?_;rintro e wa ⟨y0,S0,rfl,hmd0,ht0,hq⟩;have HMD0:=Ph hmd0;have Xa:=Ph (X2.out.to HWR.out hq);have HT0:=Ph (ht0.mono (P':=fun b=>sb+1≤b) fun b _ hb=>by have:=X2.out.b.lt;omega);clear hmd0 ht0 hq X2;have Xc:=Ph (Xa.out.below HWR.out (zB (o:=.cells (uE y0 S0) 31)));have hrd:=RdT.new wa (uE y0 S0) 31;have HR:=Ph (xY (P:=fun b=>sb+1≤b) (c:=1) [(y0,S0)] hrd (fun b off e=>by injection e with e;injection e with e;have:=Xa.out.b.lt;omega) (fun q hq=>by
        simp only [lU,lT,or_false]at hq;rcases hq with rfl
        ·exact HT0.out.bel zB))
       clear hrd;obtain⟨f0,f1,f2,f3,f4,f5,_⟩:=zZ Xc.out.b;obtain⟨g0,g1,g2,g3,g4,g5⟩:=zH Xc.out.b;have HF:=Ph (fr6 (wa.alloc (.cells (uE y0 S0) 31)) sb (uB 8) (.string ⟨#[112]⟩) (.slice (some ⟨wa.heap.size,0,none⟩) 1 1) (uI 0) (uN) (uN));have HK:=Ph (put6 (v0:=uB 8) (v1:=.string ⟨#[112]⟩) (v2:=.slice (some ⟨wa.heap.size,0,none⟩) 1 1) (v3:=uI 0) (v4:=uN) (v5:=uN) Xc.out.b);have HMS:Hid (MdS dp (.mk 8 [112] [y0] 0 [] [])):=Ph (.call kJ5 rfl HMD0.out);go_wp2_with fail
       generalize (World.setCell _ _ _)=WF at HF HK ⊢;go_meet
       exact⟨.mk 8 [112] [y0] 0 [] [],(⟨some ⟨wa.heap.size,0,none⟩,1,1⟩,zK,zK),rfl,HMS,Ph (Xc.out.fill HWR.out HF.out HK.out ⟨HMS.out.sh.sxOk,HR.out,StsP.nil,StsP.nil⟩)⟩
      ·have ed:decide ((D.np:Int)>0)=false:=by simp;omega
       clear hpp;go_wp2_with fail
       refine(wA m D 1 0 Yo Yo Yo W1 _ (Ph X2.out.q.k)).mono ?_;rintro e wa ⟨y0,S0,rfl,hmd0,ht0,hq⟩;have HMD0:=Ph hmd0;have Xa:=Ph (X2.out.to HWR.out hq);have HT0:=Ph (ht0.mono (P':=fun b=>sb+1≤b) fun b _ hb=>by have:=X2.out.b.lt;omega);clear hmd0 ht0 hq X2;go_wp2_with fail
       refine(wA m D D.W 0 W1 W3 Yo W1 _ (Ph Xa.out.q.k)).mono ?_;rintro e wb ⟨y1,S1,rfl,hmd1,ht1,hq⟩;have HMD1:=Ph hmd1;have Xb:=Ph (Xa.out.to HWR.out hq);have HT1:=Ph (ht1.mono (P':=fun b=>sb+1≤b) fun b _ hb=>by have:=Xa.out.b.lt;omega);have HN:=Ph (HT0.out.stay (hq.staysP Xa.out.q.k));clear HT0;have HT0:=HN;clear HN;clear hmd1 ht1 hq Xa;have Xc:=Ph (Xb.out.below HWR.out (zB (o:=.cells #[uB y0.kind,uB y0.op,uW y0.value,uI y0.width,uR y0.name,.slice S0.A S0.n S0.c,uB y1.kind,uB y1.op,uW y1.value,uI y1.width,uR y1.name,.slice S1.A S1.n S1.c] 31)));have hrd:=RdT.new wb #[uB y0.kind,uB y0.op,uW y0.value,uI y0.width,uR y0.name,.slice S0.A S0.n S0.c,uB y1.kind,uB y1.op,uW y1.value,uI y1.width,uR y1.name,.slice S1.A S1.n S1.c] 31;have HR:=Ph (xY (P:=fun b=>sb+1≤b) (c:=2) [(y0,S0),(y1,S1)] hrd (fun b off e=>by injection e with e;injection e with e;have:=Xb.out.b.lt;omega) (fun q hq=>by
        simp only [lU,lT,or_false]at hq;rcases hq with rfl | rfl
        ·exact HT0.out.bel zB
        ·exact HT1.out.bel zB))
       clear hrd;obtain⟨f0,f1,f2,f3,f4,f5,_⟩:=zZ Xc.out.b;obtain⟨g0,g1,g2,g3,g4,g5⟩:=zH Xc.out.b;have HF:=Ph (fr6 (wb.alloc (.cells #[uB y0.kind,uB y0.op,uW y0.value,uI y0.width,uR y0.name,.slice S0.A S0.n S0.c,uB y1.kind,uB y1.op,uW y1.value,uI y1.width,uR y1.name,.slice S1.A S1.n S1.c] 31)) sb (uB 3) (uT) (.slice (some ⟨wb.heap.size,0,none⟩) 2 2) (uI 0) (uN) (uN));have HK:=Ph (put6 (v0:=uB 3) (v1:=uT) (v2:=.slice (some ⟨wb.heap.size,0,none⟩) 2 2) (v3:=uI 0) (v4:=uN) (v5:=uN) Xc.out.b);have HMS:Hid (MdS dp (.mk 3 [] [y0,y1] 0 [] [])):=Ph (.write (HMD0.out.up Yd Yo) (HMD1.out.up Yd Yo) (by have:=HMD0.out.sz;omega));go_wp2_with fail
       generalize (World.setCell _ _ _)=WF at HF HK ⊢;go_meet
       exact⟨.mk 3 [] [y0,y1] 0 [] [],(⟨some ⟨wb.heap.size,0,none⟩,2,2⟩,zK,zK),rfl,HMS,Ph (Xc.out.fill HWR.out HF.out HK.out ⟨HMS.out.sh.sxOk,HR.out,StsP.nil,StsP.nil⟩)⟩
    have e114:((v:Int) == 14)=false:=Yp;go_wp2_with fail
    refine(wA m D 1 0 Yo Yo Yo W1 _ (Ph X2.out.q.k)).mono ?_;rintro e wa ⟨y0,S0,rfl,hmd0,ht0,hq⟩;have HMD0:=Ph hmd0;have Xa:=Ph (X2.out.to HWR.out hq);have HT0:=Ph (ht0.mono (P':=fun b=>sb+1≤b) fun b _ hb=>by have:=X2.out.b.lt;omega);clear hmd0 ht0 hq X2;go_wp2_with fail
    refine(wA m D D.W 0 W1 W3 Yo W1 _ (Ph Xa.out.q.k)).mono ?_;rintro e wb ⟨y1,S1,rfl,hmd1,ht1,hq⟩;have HMD1:=Ph hmd1;have Xb:=Ph (Xa.out.to HWR.out hq);have HT1:=Ph (ht1.mono (P':=fun b=>sb+1≤b) fun b _ hb=>by have:=Xa.out.b.lt;omega);have HN:=Ph (HT0.out.stay (hq.staysP Xa.out.q.k));clear HT0;have HT0:=HN;clear HN;clear hmd1 ht1 hq Xa;have Xc:=Ph (Xb.out.below HWR.out (zB (o:=.cells #[uB y0.kind,uB y0.op,uW y0.value,uI y0.width,uR y0.name,.slice S0.A S0.n S0.c,uB y1.kind,uB y1.op,uW y1.value,uI y1.width,uR y1.name,.slice S1.A S1.n S1.c] 31)));have hrd:=RdT.new wb #[uB y0.kind,uB y0.op,uW y0.value,uI y0.width,uR y0.name,.slice S0.A S0.n S0.c,uB y1.kind,uB y1.op,uW y1.value,uI y1.width,uR y1.name,.slice S1.A S1.n S1.c] 31;have HR:=Ph (xY (P:=fun b=>sb+1≤b) (c:=2) [(y0,S0),(y1,S1)] hrd (fun b off e=>by injection e with e;injection e with e;have:=Xb.out.b.lt;omega) (fun q hq=>by
     simp only [lU,lT,or_false]at hq;rcases hq with rfl | rfl
     ·exact HT0.out.bel zB
     ·exact HT1.out.bel zB))
    clear hrd;obtain⟨f0,f1,f2,f3,f4,f5,_⟩:=zZ Xc.out.b;obtain⟨g0,g1,g2,g3,g4,g5⟩:=zH Xc.out.b;have HF:=Ph (fr6 (wb.alloc (.cells #[uB y0.kind,uB y0.op,uW y0.value,uI y0.width,uR y0.name,.slice S0.A S0.n S0.c,uB y1.kind,uB y1.op,uW y1.value,uI y1.width,uR y1.name,.slice S1.A S1.n S1.c] 31)) sb (uB 3) (uT) (.slice (some ⟨wb.heap.size,0,none⟩) 2 2) (uI 0) (uN) (uN));have HK:=Ph (put6 (v0:=uB 3) (v1:=uT) (v2:=.slice (some ⟨wb.heap.size,0,none⟩) 2 2) (v3:=uI 0) (v4:=uN) (v5:=uN) Xc.out.b);have HMS:Hid (MdS dp (.mk 3 [] [y0,y1] 0 [] [])):=Ph (.write (HMD0.out.up Yd Yo) (HMD1.out.up Yd Yo) (by have:=HMD0.out.sz;omega));go_wp2_with fail
    generalize (World.setCell _ _ _)=WF at HF HK ⊢;go_meet
    exact⟨.mk 3 [] [y0,y1] 0 [] [],(⟨some ⟨wb.heap.size,0,none⟩,2,2⟩,zK,zK),rfl,HMS,Ph (Xc.out.fill HWR.out HF.out HK.out ⟨HMS.out.sh.sxOk,HR.out,StsP.nil,StsP.nil⟩)⟩
   case rest =>
   obtain⟨x,u,rfl,HMS,HE⟩:=hcut;clear X2;obtain⟨A',c',w9,hrun,hown,hq9⟩:=Re.push h.out HQ.out HO.out HE.out HSn.out;have HRUN:=Ph hrun;have HO9:=Ph hown;have HQ9:=Ph hq9;clear hrun hown hq9;obtain⟨g0,g1,g2,g3,g4,g5⟩:=zH HE.out.b;go_wp2_with (at_builtin;refine jL rfl (.tmp 156) (.tmp 158) rfl _ _ _ rfl rfl (HRUN.out _) ?_)
   go_roundw
   case rel=>exact⟨j+1,_,_,Yo,by go_num,rfl,Ph (HL.out.snoc HMS.out),HO9,HQ9⟩
   case measure=>simp [intOf];omega
  ·obtain rfl:j=n:=by omega
   have e1:decide ((j:Int)<(j:Int))=false:=Ym;go_wp2_with fail
   go_ret;exact⟨l,S,rfl,⟨lE HL.out.n hn5,HL.out.all⟩,HO.out,HQ.out⟩
theorem jH7 (d:Nat) (hd:d≤9):kO5 d:=by
 induction d using Nat.strongRecOn with
 | ind d ih=>exact kJ6 d hd fun d' h=>ih d' h Yo
end
end Go.Proofs.YtfdaebgllibphaaGreatDoor
