import Derived.Test.YtfdaebgllibphaaGreatDoorYav
set_option linter.unusedVariables false
set_option linter.unusedSimpArgs false
set_option maxRecDepth 100000
set_option maxHeartbeats 16000000
namespace Go.Proofs.YtfdaebgllibphaaGreatDoor
section
section
variable {E:Env}
theorem qI7 {f:Nat} {s s':PSt} {X:Nd} (h:zM E (f+1) s=some (X,s')):∃ x s1,qN E f 1 s=some (x,s1)∧okP s1=true∧((zC7 E s1 [63]=false∧X=x∧s'=s1)∨(zC7 E s1 [63]=true∧∃ y s3 z s5,zM E f (zI4 E s1 [63])=some (y,s3)∧zM E f (zI E s3 [58])=some (z,s5)∧okP s5=true∧okW [x,y,z]=true∧X=qI 7 0 0 0 [] (yK x) [x,y,z]∧s'=yH s5 (-1))):=by
 unfold zM at h;cases h1:qN E f 1 s with
 | none=>rw [h1]at h;cases h
 | some q =>
   obtain⟨x,s1⟩:=q;rw [h1]at h;(try dsimp only at h);cases h2:okP s1 with
   | false=>rw [h2]at h;cases h
   | true =>
     rw [h2]at h;(try dsimp only at h);refine⟨x,s1,rfl,h2,?_⟩;cases h3:zC7 E s1 [63]with
     | false =>
       rw [h3]at h;(try dsimp only at h);injection h with h;injection h with h4 h5;exact .inl ⟨rfl,h4.symm,h5.symm⟩
     | true =>
       rw [h3]at h;(try dsimp only at h);cases h4:zM E f (zI4 E s1 [63])with
       | none=>rw [h4]at h;cases h
       | some q =>
         obtain⟨y,s3⟩:=q;rw [h4]at h;(try dsimp only at h);cases h5:zM E f (zI E s3 [58])with
         | none=>rw [h5]at h;cases h
         | some q =>
           obtain⟨z,s5⟩:=q;rw [h5]at h;(try dsimp only at h);cases h6:(okP s5 && okW [x,y,z])with
           | false=>rw [h6]at h;cases h
           | true =>
             rw [h6]at h;(try dsimp only at h);injection h with h;injection h with h7 h8;rw [lZ]at h6;exact .inr ⟨rfl,y,s3,z,s5,rfl,h5,h6.1,h6.2,h7.symm,h8.symm⟩
theorem qS6 {f r:Nat} {s s':PSt} {X:Nd} (h:qN E (f+1) r s=some (X,s')):∃ x s1,zR E f s=some (x,s1)∧qR E f r x s1=some (X,s'):=by
 unfold qN at h;cases h3:zR E f s with
 | none=>rw [h3]at h;cases h
 | some q =>
   obtain⟨x,s1⟩:=q;rw [h3]at h;exact⟨x,s1,rfl,h⟩
inductive LkK (E:Env) (f r:Nat) (x:Nd) (s:PSt) (X:Nd) (s':PSt):Prop where
 | err:s.e≠0→X=x→s'=s→LkK E f r x s X s'
 | sign:s.e=0→(zC E s).kind≠4→X=x→s'=s→LkK E f r x s X s'
 | find:s.e=0→jY (zC E s).text true=none→X=x→s'=s→LkK E f r x s X s'
 | low (op:Nat):s.e=0→(zC E s).kind=4→jY (zC E s).text true=some op→kD op<r→X=x→s'=s→LkK E f r x s X s'
 | go (op:Nat) (y:Nd) (s2:PSt):s.e=0→(zC E s).kind=4→jY (zC E s).text true=some op→¬kD op<r→qN E f (kD op+1) (zE s)=some (y,s2)→okW [x,y]=true →
    qR E f r (qI 6 op 0 0 [] (yK x) [x,y]) s2=some (X,s')→LkK E f r x s X s'
theorem qC5 {f r:Nat} {x:Nd} {s s':PSt} {X:Nd} (h:qR E (f+1) r x s=some (X,s')):LkK E f r x s X s':=by
 unfold qR at h;by_cases h1:s.e=0
 ·rw [lH h1]at h;(try dsimp only at h);by_cases h2:(zC E s).kind=4
  ·rw [lM h2]at h;cases h3:jY (zC E s).text true with
   | none =>
     rw [h3]at h;injection h with h;injection h with h7 h8;exact .find h1 h3 h7.symm h8.symm
   | some op =>
     rw [h3]at h;(try dsimp only at h);by_cases h4:kD op<r
     ·rw [lH h4]at h;injection h with h;injection h with h7 h8;exact .low op h1 h2 h3 h4 h7.symm h8.symm
     ·rw [lG h4]at h;(try dsimp only at h);cases h5:qN E f (kD op+1) (zE s)with
      | none=>rw [h5]at h;cases h
      | some q =>
        obtain⟨y,s2⟩:=q;rw [h5]at h;(try dsimp only at h);cases h6:okW [x,y]with
        | false=>rw [h6]at h;cases h
        | true =>
          rw [h6]at h;exact .go op y s2 h1 h2 h3 h4 h5 h6 h
  ·rw [lN h2]at h;injection h with h;injection h with h7 h8;exact .sign h1 h2 h7.symm h8.symm
 ·rw [lG h1]at h;injection h with h;injection h with h7 h8;exact .err h1 h7.symm h8.symm
theorem qY2 {f:Nat} {s s':PSt} {X:Nd} (h:zR E (f+1) s=some (X,s')) :
 (∃ op,(zC E s).kind=4∧jY (zC E s).text false=some op∧okP s=true∧∃ x s2,zR E f (kV E s (zC E s).text)=some (x,s2)∧okP s2=true∧okW [x]=true∧X=qI 5 op 0 0 [] (zC E s).at' [x]∧s'=yH s2 (-1)) ∨
 (((zC E s).kind≠4∨jY (zC E s).text false=none)∧∃ x s1,qJ E f s=some (x,s1)∧jI E f x s1=some (X,s')):=by
 unfold zR at h;by_cases h1:(zC E s).kind=4
 ·rw [lM h1]at h;cases h2:jY (zC E s).text false with
  | none =>
    rw [h2]at h;(try dsimp only at h);refine .inr ⟨.inr rfl,?_⟩;cases h3:qJ E f s with
    | none=>rw [h3]at h;cases h
    | some q =>
      obtain⟨x,s1⟩:=q;rw [h3]at h;exact⟨x,s1,rfl,h⟩
  | some op =>
    rw [h2]at h;(try dsimp only at h);refine .inl ⟨op,h1,rfl,?_⟩;cases h3:okP s with
    | false=>rw [h3]at h;cases h
    | true =>
      rw [h3]at h;(try dsimp only at h);refine⟨rfl,?_⟩;cases h4:zR E f (kV E s (zC E s).text)with
      | none=>rw [h4]at h;cases h
      | some q =>
        obtain⟨x,s2⟩:=q;rw [h4]at h;(try dsimp only at h);cases h5:(okP s2 && okW [x])with
        | false=>rw [h5]at h;cases h
        | true =>
          rw [h5]at h;injection h with h;injection h with h7 h8;rw [lZ]at h5;exact⟨x,s2,rfl,h5.1,h5.2,h7.symm,h8.symm⟩
 ·rw [lN h1]at h;(try dsimp only at h);refine .inr ⟨.inl h1,?_⟩;cases h3:qJ E f s with
  | none=>rw [h3]at h;cases h
  | some q =>
    obtain⟨x,s1⟩:=q;rw [h3]at h;exact⟨x,s1,rfl,h⟩
theorem qS7 {f:Nat} {x X:Nd} {s s':PSt} (h:jI E (f+1) x s=some (X,s')):(isP E s [64]=false∧X=x∧s'=s)∨(isP E s [64]=true∧okW [x]=true∧jI E f (qI 8 0 0 (jB E (zE s)).1 [] (yK x) [x]) (jB E (zE s)).2=some (X,s')):=by
 unfold jI at h;cases h1:isP E s [64]with
 | false =>
   rw [h1]at h;injection h with h;injection h with h7 h8;exact .inl ⟨rfl,h7.symm,h8.symm⟩
 | true =>
   rw [h1]at h;(try dsimp only at h);cases h2:okW [x]with
   | false=>rw [h2]at h;cases h
   | true =>
     rw [h2]at h;exact .inr ⟨rfl,rfl,h⟩
theorem qI8 {f:Nat} {s s':PSt} {a b:List UInt8} {x:Nd} (h:zX E (f+1) s a b=some (x,s')):okP s=true∧∃ s2,zM E f (kV E s a)=some (x,s2)∧okP s2=true∧s'=wN E s2 b:=by
 unfold zX at h;cases h1:okP s with
 | false=>rw [h1]at h;cases h
 | true =>
   rw [h1]at h;(try dsimp only at h);cases h2:zM E f (kV E s a)with
   | none=>rw [h2]at h;cases h
   | some q =>
     obtain⟨y,s2⟩:=q;rw [h2]at h;(try dsimp only at h);cases h3:okP s2 with
     | false=>rw [h3]at h;cases h
     | true =>
       rw [h3]at h;(try dsimp only at h);injection h with h;injection h with h4 h5;subst h4 h5;exact⟨rfl,s2,rfl,h3,rfl⟩
inductive zP9 (E:Env) (f:Nat) (s:PSt):Nd→PSt→Prop where
 | err:s.e≠0→zP9 E f s nd0 s
 | lit0:s.e=0→(zC E s).kind=3→(zH8 (zC E s).text).2.2≠0→zP9 E f s nd0 (qH E s 302)
 | lit:s.e=0→(zC E s).kind=3→(zH8 (zC E s).text).2.2=0→zP9 E f s (qI 1 0 (zH8 (zC E s).text).1 (zH8 (zC E s).text).2.1 [] (zC E s).at' []) (zE s)
 | paren (X s'):s.e=0→(zC E s).kind≠3→(zC E s).text=[40]→zX E f s [40] [41]=some (X,s')→zP9 E f s X s'
 | disk (x s2):s.e=0→(zC E s).kind≠3→(zC E s).text≠[40]→(zC E s).text=[100,105,115,107]→zX E f (zE s) [91] [93]=some (x,s2)→okW [x]=true→zP9 E f s (qI 4 0 0 0 [] (zC E s).at' [x]) s2
 | elem (x s2):s.e=0→(zC E s).kind≠3→(zC E s).text≠[40]→(zC E s).text≠[100,105,115,107]→(zC E (zL E s)).text=[91]→zX E f (zL E s) [91] [93]=some (x,s2)→okW [x]=true→zP9 E f s (qI 3 0 0 0 (jA E s) (zC E s).at' [x]) s2
 | var:s.e=0→(zC E s).kind≠3→(zC E s).text≠[40]→(zC E s).text≠[100,105,115,107]→(zC E (zL E s)).text≠[91]→zP9 E f s (qI 2 0 0 0 (jA E s) (zC E s).at' []) (zL E s)
theorem qS8 {f:Nat} {s s':PSt} {X:Nd} (h:qJ E (f+1) s=some (X,s')):zP9 E f s X s':=by
 unfold qJ at h;by_cases h1:s.e=0;rotate_left
 ·rw [lG h1]at h;injection h with h;injection h with h7 h8;subst h7 h8;exact .err h1
 rw [lH h1]at h;(try dsimp only at h);by_cases h2:(zC E s).kind=3
 ·rw [lH h2]at h;(try dsimp only at h);by_cases h3:(zH8 (zC E s).text).2.2=0
  ·rw [lH h3]at h;injection h with h;injection h with h7 h8;subst h7 h8;exact .lit h1 h2 h3
  ·rw [lG h3]at h;injection h with h;injection h with h7 h8;subst h7 h8;exact .lit0 h1 h2 h3
 rw [lG h2]at h;(try dsimp only at h);by_cases h3:(zC E s).text=[40]
 ·rw [lH h3]at h;exact .paren _ _ h1 h2 h3 h
 rw [lG h3]at h;(try dsimp only at h);by_cases h4:(zC E s).text=[100,105,115,107]
 ·rw [lH h4]at h;(try dsimp only at h);cases h5:zX E f (zE s) [91] [93]with
  | none=>rw [h5]at h;cases h
  | some q =>
    obtain⟨x,s2⟩:=q;rw [h5]at h;(try dsimp only at h);cases h6:okW [x]with
    | false=>rw [h6]at h;cases h
    | true =>
      rw [h6]at h;injection h with h;injection h with h7 h8;subst h7 h8;exact .disk x s2 h1 h2 h3 h4 h5 h6
 rw [lG h4]at h;(try dsimp only at h);by_cases h9:(zC E (zL E s)).text=[91]
 ·rw [lH h9]at h;(try dsimp only at h);cases h5:zX E f (zL E s) [91] [93]with
  | none=>rw [h5]at h;cases h
  | some q =>
    obtain⟨x,s2⟩:=q;rw [h5]at h;(try dsimp only at h);cases h6:okW [x]with
    | false=>rw [h6]at h;cases h
    | true =>
      rw [h6]at h;injection h with h;injection h with h7 h8;subst h7 h8;exact .elem x s2 h1 h2 h3 h4 h9 h5 h6
 ·rw [lG h9]at h;injection h with h;injection h with h7 h8;subst h7 h8;exact .var h1 h2 h3 h4 h9
theorem qS9 {q q':QSt} {u:List UInt8} (h:kN E q u=some q'):okP q.s=true∧q'=q.on (kV E q.s u):=by
 unfold kN at h;split at h
 ·rename_i h0;injection h with h;exact⟨h0,h.symm⟩
 ·cases h
theorem qT1 {q q':QSt} {u:List UInt8} (h:jX E q u=some q'):okP q.s=true∧q'=q.on (wN E q.s u):=by
 unfold jX at h;split at h
 ·rename_i h0;injection h with h;exact⟨h0,h.symm⟩
 ·cases h
theorem qT2 {u:List UInt8} {arr:Bool} {f:Nat} {q:QSt} {out:List Dx} {r:List Dx×QSt} (h:jK E u arr (f+1) q out=some r):(isP E q.s u=false∧r=(out,q))∨(isP E q.s u=true∧q.l.length≤800000000 ∧
 ((arr=true∧∃ r1 u1,kN E ⟨zL E (zE q.s),q.l++[(zC E q.s).at']⟩ [91]=some r1∧jX E (r1.on (jB E r1.s).2) [93]=some u1∧jK E u arr f (u1.on (jB E (zI E u1.s [58])).2) (out++[⟨jA E (zE q.s),(jB E (zI E u1.s [58])).1,(jB E r1.s).1⟩])=some r) ∨
  (arr=false∧jK E u arr f ⟨(jB E (zI E (zL E (zE q.s)) [58])).2,q.l++[(zC E q.s).at']⟩ (out++[⟨jA E (zE q.s),(jB E (zI E (zL E (zE q.s)) [58])).1,0⟩])=some r))):=by
 rw [jK]at h;cases hi:isP E q.s u with
 | false=>rw [hi]at h;injection h with h;exact .inl ⟨rfl,h.symm⟩
 | true =>
   rw [hi,lM rfl]at h;cases hl:okL q with
   | false=>rw [hl]at h;cases h
   | true =>
     rw [hl,lM rfl]at h;refine .inr ⟨rfl,cM hl,?_⟩;cases arr with
     | false=>exact .inr ⟨rfl,h⟩
     | true =>
       rw [lM rfl]at h;cases h1:kN E ⟨zL E (zE q.s),q.l++[(zC E q.s).at']⟩ [91]with
       | none=>rw [h1]at h;cases h
       | some r1 =>
         rw [h1]at h;(try dsimp only at h);cases h2:jX E (r1.on (jB E r1.s).2) [93]with
         | none=>rw [h2]at h;cases h
         | some u1 =>
           rw [h2]at h;exact .inl ⟨rfl,r1,u1,rfl,h2,h⟩
end
end
section
theorem zL2 (kd op v:Nat) (wd:Int) (n:List UInt8) (at':Nat) (l:List Nd):(qI kd op v wd n at' l).2.length=1+(l.flatMap (·.2)).length:=by unfold qI;simp;omega
theorem xI (kd op v:Nat) (wd:Int) (n:List UInt8) (at':Nat) (x:Nd):(qI kd op v wd n at' [x]).2.length=1+x.2.length:=by rw [zL2];simp
theorem zY8 (kd op v:Nat) (wd:Int) (n:List UInt8) (at':Nat) (x y:Nd):(qI kd op v wd n at' [x,y]).2.length=1+(x.2.length+y.2.length):=by rw [zL2];simp
theorem zV6 (kd op v:Nat) (wd:Int) (n:List UInt8) (at':Nat) (x y z:Nd):(qI kd op v wd n at' [x,y,z]).2.length=1+(x.2.length+(y.2.length+z.2.length)):=by rw [zL2];simp
theorem qN7 (kd op v:Nat) (wd:Int) (n:List UInt8) (at':Nat):(qI kd op v wd n at' []).2.length=1:=by rw [zL2];simp
theorem kP4 {x:Nd} (h:x.2.length≤1000000):okW [x]=true:=lH (by simpa using h)
theorem kS2 {x y:Nd} (h:x.2.length+y.2.length≤1000000):okW [x,y]=true:=lH (by simpa using h)
theorem kQ9 {x y z:Nd} (h:x.2.length+(y.2.length+z.2.length)≤1000000):okW [x,y,z]=true:=lH (by simpa using h)
def One (s:PSt) (r:Nd×PSt):Prop:=r.2.e=0→s.e=0∧r.2.deep=s.deep∧1≤r.1.2.length
structure kS3 (E:Env) (f:Nat):Prop where
 choice:∀ s r,zM E f s=some r→One s r
 chain:∀ j s r,qN E f j s=some r→One s r
 links:∀ j x s r,qR E f j x s=some r→r.2.e=0→1≤x.2.length→s.e=0∧r.2.deep=s.deep∧x.2.length≤r.1.2.length
 operand:∀ s r,zR E f s=some r→One s r
 casts:∀ x s r,jI E f x s=some r→r.2.e=0→s.e=0∧r.2.deep=s.deep∧x.2.length≤r.1.2.length
 within:∀ s u v r,zX E f s u v=some r→One s r
 basis:∀ s r,qJ E f s=some r→One s r
theorem zW6 (E:Env):∀ f,kS3 E f
 | 0=>⟨fun s r h=>by simp [zM]at h,fun k s r h=>by simp [qN]at h,fun k x s r h=>by simp [qR]at h,fun s r h=>by simp [zR]at h,fun x s r h=>by simp [jI]at h,fun s a b r h=>by simp [zX]at h,fun s r h=>by simp [qJ]at h⟩
 | f+1=>by
   have ih:=zW6 E f;refine⟨?_,?_,?_,?_,?_,?_,?_⟩
   ·intro s r h he;obtain⟨X,s'⟩:=r;obtain⟨x,s1,h1,ho,⟨hb,rfl,rfl⟩ | ⟨hb,y,s3,z,s5,h2,h3,ho5,hw,rfl,rfl⟩⟩:=qI7 h
    ·exact ih.chain _ _ _ h1 he
    ·obtain⟨e3,d3,l3⟩:=ih.choice _ _ h3 he;obtain⟨e2,_,m2⟩:=jU e3;obtain⟨e1,d2,l2⟩:=ih.choice _ _ h2 e2;obtain⟨e0,_,m1⟩:=qN5 hb e1;obtain⟨e,d1,l1⟩:=ih.chain _ _ _ h1 e0;rw [m2]at d3;rw [m1]at d2;refine⟨e,?_,by dsimp only;rw [zV6];omega⟩;have d3':s5.deep=s3.deep:=d3;have d2':s3.deep=s1.deep+1:=d2;have d1':s1.deep=s.deep:=d1;show s5.deep+-1=s.deep;omega
   ·intro j s r h he;obtain⟨X,s'⟩:=r;obtain⟨x,s1,h1,h2⟩:=qS6 h;have hx:∀ h:s1.e=0,s.e=0∧s1.deep=s.deep∧1≤x.2.length:=ih.operand _ _ h1;cases f with
    | zero=>simp [qR]at h2
    | succ f =>
      by_cases he1:s1.e=0
      ·obtain⟨a1,a2,a3⟩:=hx he1;obtain⟨b1,b2,b3⟩:=ih.links _ _ _ _ h2 he a3;exact⟨a1,b2.trans a2,Yo⟩
      ·rcases qC5 h2 with⟨_,rfl,rfl⟩ | ⟨h,_⟩ | ⟨h,_⟩ | ⟨_,h,_⟩ | ⟨_,_,_,h,_⟩
       ·exact absurd he he1
       ·exact absurd h he1
       ·exact absurd h he1
       ·exact absurd h he1
       ·exact absurd h he1
   ·intro j x s r h he hx;obtain⟨X,s'⟩:=r;rcases qC5 h with⟨h1,rfl,rfl⟩ | ⟨h1,_,rfl,rfl⟩ | ⟨h1,_,rfl,rfl⟩ | ⟨op,h1,_,_,_,rfl,rfl⟩ | ⟨op,y,s2,h1,_,_,_,h2,hw,h3⟩
    ·exact absurd he h1
    ·exact⟨h1,rfl,lF _⟩
    ·exact⟨h1,rfl,lF _⟩
    ·exact⟨h1,rfl,lF _⟩
    ·obtain⟨e2,d2,l2⟩:=ih.links _ _ _ _ h3 he (by rw [zY8];omega);obtain⟨e1,d1,l1⟩:=ih.chain _ _ _ h2 e2;rw [zY8]at l2;exact⟨h1,d2.trans d1,Yo⟩
   ·intro s r h he;obtain⟨X,s'⟩:=r;rcases qY2 h with⟨op,_,_,_,x,s2,h1,_,_,rfl,rfl⟩ | ⟨_,x,s1,h1,h2⟩
    ·obtain⟨e2,d2,l2⟩:=ih.operand _ _ h1 he;obtain⟨e1,_,m1⟩:=zV5 e2;rw [m1]at d2;have d2':s2.deep=s.deep+1:=d2;refine⟨e1,?_,by dsimp only;rw [xI];omega⟩;show s2.deep+-1=s.deep;omega
    ·obtain⟨e2,d2,l2⟩:=ih.casts _ _ _ h2 he;obtain⟨e1,d1,l1⟩:=ih.basis _ _ h1 e2;exact⟨e1,d2.trans d1,lE l1 l2⟩
   ·intro x s r h he;obtain⟨X,s'⟩:=r;rcases qS7 h with⟨_,rfl,rfl⟩ | ⟨_,_,h2⟩
    ·exact⟨he,rfl,lF _⟩
    ·obtain⟨e2,d2,l2⟩:=ih.casts _ _ _ h2 he;obtain⟨e1,m1⟩:=wC e2;rw [m1]at d2;rw [xI]at l2;exact⟨e1,d2,Yo⟩
   ·intro s u v r h he;obtain⟨X,s'⟩:=r;obtain⟨_,s2,h1,_,rfl⟩:=qI8 h;obtain⟨e2,_,m2⟩:=qN6 he;obtain⟨e1,d1,l1⟩:=ih.choice _ _ h1 e2;obtain⟨e0,_,m0⟩:=zV5 e1;rw [m0]at d1;have d1':s2.deep=s.deep+1:=d1;refine⟨e0,?_,l1⟩;dsimp only;rw [m2];show s2.deep+-1=s.deep;omega
   ·intro s r h he;obtain⟨X,s'⟩:=r;rcases qS8 h with h0 | ⟨h0,_,h1⟩ | ⟨h0,_,_⟩ | ⟨_,_,h0,_,_,h1⟩ | ⟨x,_,h0,_,_,_,h1,_⟩ | ⟨x,_,h0,_,_,_,_,h1,_⟩ | ⟨h0,_,_,_,_⟩
    ·exact absurd he h0
    ·exact absurd he (vN E s Yd)
    ·exact⟨h0,rfl,by dsimp only;rw [qN7];omega⟩
    ·exact ih.within _ _ _ _ h1 he
    ·obtain⟨a,b,c⟩:=ih.within _ _ _ _ h1 he;exact⟨h0,b,by dsimp only;rw [xI];omega⟩
    ·obtain⟨a,b,c⟩:=ih.within _ _ _ _ h1 he;obtain⟨a0,_,m0⟩:=kQ a;rw [m0]at b;exact⟨h0,b,by dsimp only;rw [xI];omega⟩
    ·obtain⟨a0,_,m0⟩:=kQ (E:=E) (s:=s) he;exact⟨h0,by dsimp only;rw [m0];rfl,by dsimp only;rw [qN7];omega⟩
def Out (k a:Nat) (d:Int) (r:Nd×PSt) (o:Option (Nd×PSt)):Prop:=∃ r',o=some r'∧((r'=r∧r.2.n<k)∨(Blk k a d r'.2∧r'.1.2.length+ze r'.2≤r.1.2.length+1))
def Sim (k a:Nat) (s:PSt) (r:Nd×PSt) (o:Option (Nd×PSt)):Prop:=r.2.e=0→r.1.2.length≤900000→0≤s.deep→s.deep≤200→s.n<k→Out k a s.deep r o
structure jV8 (E E':Env) (k a:Nat) (f:Nat):Prop where
 choice:∀ s r,zM E f s=some r→Sim k a s r (zM E' (f+8) s)
 chain:∀ j s r,qN E f j s=some r→Sim k a s r (qN E' (f+8) j s)
 links:∀ j x s r,qR E f j x s=some r→1≤x.2.length→Sim k a s r (qR E' (f+8) j x s)
 operand:∀ s r,zR E f s=some r→Sim k a s r (zR E' (f+8) s)
 casts:∀ x s r,jI E f x s=some r→1≤x.2.length→Sim k a s r (jI E' (f+8) x s)
 within:∀ s u v r,u≠wH→v≠wH→zX E f s u v=some r→Sim k a s r (zX E' (f+8) s u v)
 basis:∀ s r,qJ E f s=some r→Sim k a s r (qJ E' (f+8) s)
theorem Out.same {k a:Nat} {d:Int} {r:Nd×PSt} (h:r.2.n<k):Out k a d r (some r):=⟨r,rfl,.inl ⟨rfl,h⟩⟩
theorem Out.blk {k a:Nat} {d:Int} {r r':Nd×PSt} (h:Blk k a d r'.2) (hl:r'.1.2.length+ze r'.2≤r.1.2.length+1):Out k a d r (some r'):=⟨r',rfl,.inr ⟨h,hl⟩⟩
section
variable {E E':Env} {k a:Nat}
theorem qN8 (L:kT E E' k a) (f:Nat) (ih:jV8 E E' k a f) (s:PSt) (r:Nd×PSt) (h:zM E (f+1) s=some r):Sim k a s r (zM E' (f+1+8) s):=by
 intro he hl h0 h9 hn;rw [show f+1+8=(f+8)+1 from by omega];obtain⟨X,s'⟩:=r;obtain⟨x,s1,h1,ho,⟨hb,rfl,rfl⟩ | ⟨hb,y,s3,z,s5,h2,h3,ho5,hw,rfl,rfl⟩⟩:=qI7 h
 ·obtain⟨⟨x',s1'⟩,g1,⟨g2,g3⟩ | ⟨g2,g3⟩⟩:=ih.chain _ _ _ h1 he hl h0 h9 hn
  ·injection g2 with e1 e2;subst e1 e2;rw [zM,g1];(try dsimp only at he g3 ⊢);rw [ho,zR1 L he g3,hb];exact Out.same g3
  ·rw [zM,g1];(try dsimp only at g2 ⊢);rw [g2.okP h0 Yo,g2.ent L Yd];exact Out.blk g2 g3
 ·obtain⟨e3,d3,l3⟩:=(zW6 E _).choice _ _ h3 he;obtain⟨e2,i2,m2⟩:=jU e3;obtain⟨e1,d2,l2⟩:=(zW6 E _).choice _ _ h2 e2;obtain⟨e0,hd1,m1⟩:=qN5 hb e1;obtain⟨e,d1,l1⟩:=(zW6 E _).chain _ _ _ h1 e0;(try dsimp only at he hl d3 l3 d2 l2 d1 l1 e2 e0);rw [m2]at d3;rw [m1]at d2;have d3':s5.deep=s3.deep:=d3;have d2':s3.deep=s1.deep+1:=d2;have hd:s1.deep+1=s.deep+1:=Yo;rw [zV6]at hl;have hs5:s5.e=0:=he;obtain⟨⟨x',s1'⟩,g1,⟨g2,g3⟩ | ⟨g2,g3⟩⟩:=ih.chain _ _ _ h1 e0 (by dsimp only;omega) h0 h9 hn
  ·injection g2 with q1 q2;subst q1 q2;rw [zM,g1];(try dsimp only at g3 ⊢);rw [ho,zR1 L e0 g3,hb,qI5 L e0 g3,m1];dsimp only;have hy:∃ y' s3',zM E' (f+8) (yH (zE s1') 1)=some (y',s3')∧(((y',s3')=(y,s3)∧s3.n<k)∨(Blk k a (s.deep+1) s3'∧y'.2.length+ze s3'≤y.2.length+1)):=by
    rcases yQ (a:=a) e0 (rfl:s1'.deep=s1'.deep) g3 with hp | hp
    ·obtain⟨⟨y',s3'⟩,k1,k2⟩:=ih.choice _ _ h2 e2 (by dsimp only;omega) (by rw [m1];show 0≤s1'.deep+1;omega) (by rw [m1];show s1'.deep+1≤200;omega) (by rw [m1];exact hp);rw [m1]at k1 k2;refine⟨y',s3',k1,?_⟩;have e4:(yH (zE s1') 1).deep=s.deep+1:=hd;rw [e4]at k2;exact k2
    ·have hp2:=hp.deep 1;rw [hd]at hp2;obtain⟨⟨y',s3'⟩,k1,k2,k3⟩:=wK L hp2 (f+4) Yo Yo;exact⟨y',s3',k1,.inr ⟨k2,by have:=zD9 (yH (zE s1') 1);(try dsimp only at k3);omega⟩⟩
   obtain⟨y',s3',k1,⟨k2,k3⟩ | ⟨k2,k3⟩⟩:=hy
   ·injection k2 with q1 q2;subst q1 q2;rw [k1];dsimp only;rw [zL1 L e2 k3,m2];have hz:∃ z' s5',zM E' (f+8) (zE s3')=some (z',s5')∧(((z',s5')=(z,s5)∧s5.n<k)∨(Blk k a (s.deep+1) s5'∧z'.2.length+ze s5'≤z.2.length+1)):=by
     rcases yQ (a:=a) e2 (rfl:s3'.deep=s3'.deep) k3 with hp | hp
     ·obtain⟨⟨z',s5'⟩,j1,j2⟩:=ih.choice _ _ h3 he (by dsimp only;omega) (by rw [m2];show 0≤s3'.deep;omega) (by rw [m2];show s3'.deep≤200;omega) (by rw [m2];exact hp);rw [m2]at j1 j2;refine⟨z',s5',j1,?_⟩;have e4:(zE s3').deep=s.deep+1:=by show s3'.deep=s.deep+1;omega
      rw [e4]at j2;exact j2
     ·rw [show s3'.deep=s.deep+1 from by omega]at hp;obtain⟨⟨z',s5'⟩,j1,j2,j3⟩:=wK L hp (f+4) Yo Yo;exact⟨z',s5',j1,.inr ⟨j2,by have:=zD9 (zE s3');(try dsimp only at j3);omega⟩⟩
    obtain⟨z',s5',j1,⟨j2,j3⟩ | ⟨j2,j3⟩⟩:=hz
    ·injection j2 with q1 q2;subst q1 q2;rw [j1];dsimp only;rw [ho5,hw];exact Out.same j3
    ·rw [j1];dsimp only;rw [j2.okP Yo Yo,kQ9 Yo];refine Out.blk ?_ ?_
     ·have:=j2.deep (-1);rw [show s.deep+1+-1=s.deep from by omega]at this;exact this
     ·dsimp only;rw [zV6,zV6,qN4];omega
   ·rw [k1];dsimp only;obtain⟨k4,k5⟩:=k2.must L (w:=[58]) Yd;obtain⟨⟨z',s5'⟩,j1,j2,j3⟩:=wK L k4 (f+4) Yo Yo;rw [show f+8=f+4+4 from rfl,j1];(try dsimp only at j2 j3 ⊢);rw [j2.okP Yo Yo,kQ9 Yo];refine Out.blk ?_ ?_
    ·have:=j2.deep (-1);rw [show s.deep+1+-1=s.deep from by omega]at this;exact this
    ·dsimp only;rw [zV6,zV6,qN4];omega
  ·rw [zM,g1];(try dsimp only at g2 ⊢);rw [g2.okP h0 Yo,g2.ent L Yd];refine Out.blk g2 ?_;(try dsimp only at g3 ⊢);rw [zV6];omega
theorem qY3 (L:kT E E' k a) (f:Nat) (ih:jV8 E E' k a f) (j:Nat) (s:PSt) (r:Nd×PSt) (h:qN E (f+1) j s=some r):Sim k a s r (qN E' (f+1+8) j s):=by
 intro he hl h0 h9 hn;rw [show f+1+8=(f+8)+1 from by omega];obtain⟨X,s'⟩:=r;obtain⟨x,s1,h1,h2⟩:=qS6 h;have hone:=(zW6 E _).chain _ _ _ h he;have hs1:s1.e=0:=by
  cases f with
  | zero=>simp [qR]at h2
  | succ f =>
    by_cases h3:s1.e=0
    ·exact h3
    ·rcases qC5 h2 with⟨_,rfl,rfl⟩ | ⟨h,_⟩ | ⟨h,_⟩ | ⟨_,h,_⟩ | ⟨_,_,_,h,_⟩
     ·exact absurd he h3
     ·exact absurd h h3
     ·exact absurd h h3
     ·exact absurd h h3
     ·exact absurd h h3
 obtain⟨e0,d1,l1⟩:=(zW6 E _).operand _ _ h1 hs1;obtain⟨_,d2,l2⟩:=(zW6 E _).links _ _ _ _ h2 he l1;(try dsimp only at he hl d1 l1 d2 l2);rw [qN];obtain⟨⟨x',s1'⟩,g1,⟨g2,g3⟩ | ⟨g2,g3⟩⟩:=ih.operand _ _ h1 hs1 (by dsimp only;omega) h0 h9 hn
 ·injection g2 with q1 q2;subst q1 q2;rw [g1];have:=ih.links _ _ _ _ h2 l1 he hl Yo Yo g3;rw [d1]at this;exact this
 ·rw [g1];(try dsimp only at g2 g3 ⊢);rw [show f+8=(f+7)+1 from rfl,zV1 L g2];exact Out.blk g2 (by dsimp only;omega)
theorem qY4 (L:kT E E' k a) (f:Nat) (ih:jV8 E E' k a f) (j:Nat) (x:Nd) (s:PSt) (r:Nd×PSt) (h:qR E (f+1) j x s=some r) (hx:1≤x.2.length):Sim k a s r (qR E' (f+1+8) j x s):=by
 intro he hl h0 h9 hn;rw [show f+1+8=(f+8)+1 from by omega];have h':=h;obtain⟨X,s'⟩:=r;obtain⟨e0,_,_⟩:=(zW6 E _).links _ _ _ _ h he hx;have hns:=qO L e0 hn;rw [qR,hns];rw [qR]at h';rw [lH e0]at h' ⊢;(try dsimp only at h' ⊢);cases hf:(if (zC E s).kind=4 then jY (zC E s).text true else none)with
 | none =>
   rw [hf]at h';injection h' with h';rw [←h'];exact Out.same hn
 | some op =>
   rw [hf]at h';(try dsimp only at h' ⊢);cases hr:decide (kD op<j)with
   | true =>
     rw [hr]at h';injection h' with h';rw [←h'];exact Out.same hn
   | false =>
     rw [hr]at h';(try dsimp only at h' ⊢);cases h2:qN E f (kD op+1) (zE s)with
     | none=>rw [h2]at h';cases h'
     | some q =>
       obtain⟨y,s2⟩:=q;rw [h2]at h';(try dsimp only at h');cases hw:okW [x,y]with
       | false=>rw [hw]at h';cases h'
       | true =>
         rw [hw]at h';(try dsimp only at h');obtain⟨e2,d2,l2⟩:=(zW6 E _).links _ _ _ _ h' he (by rw [zY8];omega);obtain⟨e1,d1,l1⟩:=(zW6 E _).chain _ _ _ h2 e2;(try dsimp only at he hl d1 l1 d2 l2 e2);rw [zY8]at l2;have d1':s2.deep=s.deep:=d1;have hy:∃ y' s2',qN E' (f+8) (kD op+1) (zE s)=some (y',s2')∧(((y',s2')=(y,s2)∧s2.n<k)∨(Blk k a s.deep s2'∧y'.2.length+ze s2'≤y.2.length+1)):=by
          rcases yQ (a:=a) e0 (rfl:s.deep=s.deep) hn with hp | hp
          ·obtain⟨⟨y',s2'⟩,k1,k2⟩:=ih.chain _ _ _ h2 e2 (by dsimp only;omega) h0 h9 hp;exact⟨y',s2',k1,k2⟩
          ·obtain⟨⟨y',s2'⟩,k1,k2,k3⟩:=qI4 L hp (f+5) (kD op+1);exact⟨y',s2',k1,.inr ⟨k2,by have:=zD9 (zE s);(try dsimp only at k3);omega⟩⟩
         obtain⟨y',s2',k1,⟨k2,k3⟩ | ⟨k2,k3⟩⟩:=hy
         ·injection k2 with q1 q2;subst q1 q2;rw [k1];dsimp only;rw [hw];have:=ih.links _ _ _ _ h' (by rw [zY8];omega) he hl Yo Yo k3;rw [d1']at this;exact this
         ·rw [k1];dsimp only;rw [kS2 Yo];dsimp only;rw [show f+8=(f+7)+1 from rfl,zV1 L k2];refine Out.blk k2 ?_;dsimp only;rw [zY8];omega
theorem qI9 (L:kT E E' k a) (f:Nat) (ih:jV8 E E' k a f) (s:PSt) (r:Nd×PSt) (h:zR E (f+1) s=some r):Sim k a s r (zR E' (f+1+8) s):=by
 intro he hl h0 h9 hn;rw [show f+1+8=(f+8)+1 from by omega];have h':=h;obtain⟨X,s'⟩:=r;obtain⟨e0,_,_⟩:=(zW6 E _).operand _ _ h he;have hns:=qO L e0 hn;rw [zR,hns];rw [zR]at h';cases hf:(if (zC E s).kind=4 then jY (zC E s).text false else none)with
 | some op =>
   rw [hf]at h';(try dsimp only at h' ⊢);cases ho:okP s with
   | false=>rw [ho]at h';cases h'
   | true =>
     rw [ho]at h';(try dsimp only at h' ⊢);cases h2:zR E f (kV E s (zC E s).text)with
     | none=>rw [h2]at h';cases h'
     | some q =>
       obtain⟨x,s2⟩:=q;rw [h2]at h';(try dsimp only at h');cases ho2:okP s2 && okW [x]with
       | false=>rw [ho2]at h';cases h'
       | true =>
         rw [ho2]at h';injection h' with h';injection h' with q1 q2;subst q1 q2;obtain⟨e2,d2,l2⟩:=(zW6 E _).operand _ _ h2 he;obtain⟨e1,hd,m1⟩:=zV5 e2;(try dsimp only at he hl d2 l2);rw [xI]at hl;have he2:s2.e=0:=he;rw [m1]at d2;have d2':s2.deep=s.deep+1:=d2;rw [zV4 L e0 hn,m1];have hy:∃ x' s2',zR E' (f+8) (yH (zE s) 1)=some (x',s2')∧(((x',s2')=(x,s2)∧s2.n<k)∨(Blk k a (s.deep+1) s2'∧x'.2.length+ze s2'≤x.2.length+1)):=by
          rcases yQ (a:=a) e0 (rfl:s.deep=s.deep) hn with hp | hp
          ·rw [m1]at h2;obtain⟨⟨x',s2'⟩,k1,k2⟩:=ih.operand _ _ h2 he2 (by dsimp only;omega) (by show 0≤s.deep+1;omega) (by show s.deep+1≤200;omega) hp;exact⟨x',s2',k1,k2⟩
          ·obtain⟨⟨x',s2'⟩,k1,k2,k3⟩:=zV2 L (hp.deep 1) (f+6);exact⟨x',s2',k1,.inr ⟨k2,by have:=zD9 (yH (zE s) 1);(try dsimp only at k3);omega⟩⟩
         obtain⟨x',s2',k1,⟨k2,k3⟩ | ⟨k2,k3⟩⟩:=hy
         ·injection k2 with q1 q2;subst q1 q2;rw [k1];dsimp only;rw [ho2];exact Out.same k3
         ·rw [k1];dsimp only;rw [k2.okP Yo Yo,kP4 Yo];refine Out.blk ?_ ?_
          ·have:=k2.deep (-1);rw [show s.deep+1+-1=s.deep from by omega]at this;exact this
          ·dsimp only;rw [xI,xI,qN4];omega
 | none =>
   rw [hf]at h';(try dsimp only at h' ⊢);cases h2:qJ E f s with
   | none=>rw [h2]at h';cases h'
   | some q =>
     obtain⟨x,s1⟩:=q;rw [h2]at h';(try dsimp only at h');obtain⟨e2,d2,l2⟩:=(zW6 E _).casts _ _ _ h' he;obtain⟨e1,d1,l1⟩:=(zW6 E _).basis _ _ h2 e2;(try dsimp only at he hl d1 l1 d2 l2 e2);obtain⟨⟨x',s1'⟩,g1,⟨g2,g3⟩ | ⟨g2,g3⟩⟩:=ih.basis _ _ h2 e2 (by dsimp only;omega) h0 h9 hn
     ·injection g2 with q1 q2;subst q1 q2;rw [g1];(try dsimp only at g3 ⊢);have:=ih.casts _ _ _ h' l1 he hl Yo Yo g3;rw [d1]at this;exact this
     ·rw [g1];(try dsimp only at g2 g3 ⊢);rw [show f+8=(f+7)+1 from rfl,zK9 L g2];exact Out.blk g2 (by dsimp only;omega)
theorem qY5 (L:kT E E' k a) (f:Nat) (ih:jV8 E E' k a f) (x:Nd) (s:PSt) (r:Nd×PSt) (h:jI E (f+1) x s=some r) (hx:1≤x.2.length):Sim k a s r (jI E' (f+1+8) x s):=by
 intro he hl h0 h9 hn;rw [show f+1+8=(f+8)+1 from by omega];obtain⟨X,s'⟩:=r;obtain⟨e0,_,_⟩:=(zW6 E _).casts _ _ _ h he;rw [jI,vC L e0 hn];rcases qS7 h with⟨hi,rfl,rfl⟩ | ⟨hi,hw,h2⟩
 ·rw [hi];exact Out.same hn
 ·rw [hi];dsimp only;rw [hw];dsimp only;obtain⟨e2,d2,l2⟩:=(zW6 E _).casts _ _ _ h2 he;obtain⟨e1,m1⟩:=wC e2;(try dsimp only at he hl d2 l2);rw [xI]at l2;rw [m1]at d2;rcases yQ (a:=a) e0 (rfl:s.deep=s.deep) hn with hp | hp
  ·rw [qS5 L (s:=zE s) e0 hp];rw [m1]at h2 ⊢;rcases yQ (s:=zE s) (a:=a) e0 (rfl:s.deep=s.deep) hp with hq | hq
   ·exact ih.casts _ _ _ h2 (by rw [xI];omega) he hl h0 h9 hq
   ·rw [show f+8=(f+7)+1 from rfl,zK9 L hq];refine Out.blk hq ?_;have:=zD9 (zE (zE s));dsimp only;rw [xI];omega
  ·obtain⟨g1,g2⟩:=hp.num L;rw [show f+8=(f+7)+1 from rfl,zK9 L g1];refine Out.blk g1 ?_;dsimp only;rw [xI,g2];omega
theorem qN9 (L:kT E E' k a) (f:Nat) (ih:jV8 E E' k a f) (s:PSt) (u v:List UInt8) (r:Nd×PSt) (hu:u≠wH) (hv:v≠wH) (h:zX E (f+1) s u v=some r):Sim k a s r (zX E' (f+1+8) s u v):=by
 intro he hl h0 h9 hn;rw [show f+1+8=(f+8)+1 from by omega];obtain⟨X,s'⟩:=r;obtain⟨ho,s2,h1,ho2,rfl⟩:=qI8 h;obtain⟨e2,_,m2⟩:=qN6 he;obtain⟨e1,d1,l1⟩:=(zW6 E _).choice _ _ h1 e2;obtain⟨e0,hd,m0⟩:=zV5 e1;(try dsimp only at he hl d1 l1);rw [m0]at d1;have d1':s2.deep=s.deep+1:=d1;rw [zX,ho];dsimp only;rw [zV4 L e0 hn,m0];have hy:∃ x' s2',zM E' (f+8) (yH (zE s) 1)=some (x',s2')∧(((x',s2')=(X,s2)∧s2.n<k)∨(Blk k a (s.deep+1) s2'∧x'.2.length+ze s2'≤X.2.length+1)):=by
  rcases yQ (a:=a) e0 (rfl:s.deep=s.deep) hn with hp | hp
  ·rw [m0]at h1;obtain⟨⟨x',s2'⟩,k1,k2⟩:=ih.choice _ _ h1 e2 hl (by show 0≤s.deep+1;omega) (by show s.deep+1≤200;omega) hp;exact⟨x',s2',k1,k2⟩
  ·obtain⟨⟨x',s2'⟩,k1,k2,k3⟩:=wK L (hp.deep 1) (f+4) Yo Yo;exact⟨x',s2',k1,.inr ⟨k2,by have:=zD9 (yH (zE s) 1);(try dsimp only at k3);omega⟩⟩
 obtain⟨x',s2',k1,⟨k2,k3⟩ | ⟨k2,k3⟩⟩:=hy
 ·injection k2 with q1 q2;subst q1 q2;rw [k1];dsimp only;rw [ho2,qI6 L e2 k3,m2];rcases yQ (a:=a) e2 (rfl:s2'.deep=s2'.deep) k3 with hp | hp
  ·exact Out.same hp
  ·refine Out.blk ?_ ?_
   ·have:=hp.deep (-1);rw [show s2'.deep+-1=s.deep from by omega]at this;exact this
   ·have:=zD9 (yH (zE s2') (-1));dsimp only;omega
 ·rw [k1];dsimp only;rw [k2.okP Yo Yo];obtain⟨g1,g2⟩:=k2.shut L hv;refine Out.blk g1 ?_;dsimp only;rw [g2];omega
theorem qY6 (L:kT E E' k a) (f:Nat) (ih:jV8 E E' k a f) (s:PSt) (r:Nd×PSt) (h:qJ E (f+1) s=some r):Sim k a s r (qJ E' (f+1+8) s):=by
 intro he hl h0 h9 hn;rw [show f+1+8=(f+8)+1 from by omega];obtain⟨X,s'⟩:=r;obtain⟨e0,_,_⟩:=(zW6 E _).basis _ _ h he;have hns:=qO L e0 hn;rw [qJ,hns,lH e0];dsimp only;rcases qS8 h with h1 | ⟨h1,_,h2⟩ | ⟨h1,h2,h3⟩ | ⟨_,_,h1,h2,h3,h4⟩ | ⟨x,_,h1,h2,h3,h4,h5,h6⟩ | ⟨x,_,h1,h2,h3,h4,h5,h6,h7⟩ | ⟨h1,h2,h3,h4,h5⟩
 ·exact absurd e0 h1
 ·exact absurd he (vN E s Yd)
 ·rw [lH h2];dsimp only;rw [lH h3];dsimp only;rcases yQ (a:=a) e0 (rfl:s.deep=s.deep) hn with hp | hp
  ·exact Out.same hp
  ·refine Out.blk hp ?_;have:=zD9 (zE s);dsimp only;omega
 ·rw [lG h2];dsimp only;rw [lH h3];exact ih.within _ _ _ _ Yd Yd h4 he hl h0 h9 hn
 ·rw [lG h2];dsimp only;rw [lG h3];dsimp only;rw [lH h4];dsimp only;obtain⟨_,d1,l1⟩:=(zW6 E _).within _ _ _ _ h5 he;(try dsimp only at he hl d1 l1);rw [xI]at hl;have hy:∃ x' s2',zX E' (f+8) (zE s) [91] [93]=some (x',s2')∧(((x',s2')=(x,s')∧s'.n<k)∨(Blk k a s.deep s2'∧x'.2.length+ze s2'≤x.2.length+1)):=by
   rcases yQ (a:=a) e0 (rfl:s.deep=s.deep) hn with hp | hp
   ·obtain⟨⟨x',s2'⟩,k1,k2⟩:=ih.within _ _ _ _ Yd Yd h5 he (by dsimp only;omega) h0 h9 hp;exact⟨x',s2',k1,k2⟩
   ·obtain⟨⟨x',s2'⟩,k1,k2,k3⟩:=qY1 L hp (f+3) h0 Yo [91] [93] Yd Yd;exact⟨x',s2',k1,.inr ⟨k2,by (try dsimp only at k3);omega⟩⟩
  obtain⟨x',s2',k1,⟨k2,k3⟩ | ⟨k2,k3⟩⟩:=hy
  ·injection k2 with q1 q2;subst q1 q2;rw [k1];dsimp only;rw [h6];exact Out.same k3
  ·rw [k1];dsimp only;rw [kP4 Yo];refine Out.blk k2 ?_;dsimp only;rw [xI,xI];omega
 ·rw [lG h2];dsimp only;rw [lG h3];dsimp only;rw [lG h4];dsimp only;obtain⟨a1,d1,l1⟩:=(zW6 E _).within _ _ _ _ h6 he;obtain⟨_,_,m1⟩:=kQ a1;(try dsimp only at he hl d1 l1);rw [xI]at hl;rw [m1]at d1;rw [zV3 L e0 hn,m1,zO6 L e0 hn];rcases yQ (a:=a) e0 (rfl:s.deep=s.deep) hn with hp | hp
  ·rw [m1]at h5 h6;rw [qO L (s:=zE s) e0 hp,lH h5];dsimp only;obtain⟨⟨x',s2'⟩,k1,k2⟩:=ih.within _ _ _ _ Yd Yd h6 he (by dsimp only;omega) h0 h9 hp;rw [k1];rcases k2 with⟨k2,k3⟩ | ⟨k2,k3⟩
   ·injection k2 with q1 q2;subst q1 q2;dsimp only;rw [h7];exact Out.same k3
   ·(try dsimp only at k2 k3 ⊢);rw [kP4 Yo];refine Out.blk k2 ?_;dsimp only;rw [xI,xI];omega
  ·rw [lG (hp.text L (w:=[91]) Yd Yd)];refine Out.blk hp ?_;have:=zD9 (zE s);dsimp only;rw [qN7,xI];omega
 ·rw [lG h2];dsimp only;rw [lG h3];dsimp only;rw [lG h4];dsimp only;obtain⟨_,_,m1⟩:=kQ (E:=E) (s:=s) he;rw [zV3 L e0 hn,zO6 L e0 hn];rcases yQ (a:=a) e0 (rfl:s.deep=s.deep) hn with hp | hp
  ·rw [m1]at h5 ⊢;rw [qO L (s:=zE s) e0 hp,lG h5];exact Out.same hp
  ·rw [m1,lG (hp.text L (w:=[91]) Yd Yd)];refine Out.blk hp ?_;have:=zD9 (zE s);dsimp only;omega
theorem jV9 (L:kT E E' k a):∀ f,jV8 E E' k a f
 | 0=>⟨fun s r h=>by simp [zM]at h,fun k s r h=>by simp [qN]at h,fun k x s r h=>by simp [qR]at h,fun s r h=>by simp [zR]at h,fun x s r h=>by simp [jI]at h,fun s a b r _ _ h=>by simp [zX]at h,fun s r h=>by simp [qJ]at h⟩
 | f+1=>⟨qN8 L f (jV9 L f),qY3 L f (jV9 L f),qY4 L f (jV9 L f),qI9 L f (jV9 L f),qY5 L f (jV9 L f),fun s u v r hu hv h=>qN9 L f (jV9 L f) s u v r hu hv h,qY6 L f (jV9 L f)⟩
end
end
section
def jJ1 {α:Type} (q:QSt) (r:α×QSt):Prop:=r.2.s.e=0→q.s.e=0∧r.2.s.deep=q.s.deep∧q.l.length≤r.2.l.length
def OutQ {α:Type} (k a:Nat) (d:Int) (r:α×QSt) (o:Option (α×QSt)):Prop:=∃ r',o=some r'∧((r'=r∧r.2.s.n<k)∨(Blk k a d r'.2.s∧r'.2.l.length+ze r'.2.s≤r.2.l.length+1))
def kP5 {α:Type} (k a:Nat) (q:QSt) (r:α×QSt) (o:Option (α×QSt)):Prop:=r.2.s.e=0→r.2.l.length≤900000→0≤q.s.deep→q.s.deep≤200→q.s.n<k→OutQ k a q.s.deep r o
def kR1 {α:Type} (k a:Nat) (d:Int) (q:QSt) (o:Option (α×QSt)):Prop:=∃ r,o=some r∧Blk k a d r.2.s∧r.2.l.length+ze r.2.s≤q.l.length+ze q.s
theorem OutQ.same {α:Type} {k a:Nat} {d:Int} {r:α×QSt} (h:r.2.s.n<k):OutQ k a d r (some r):=⟨r,rfl,.inl ⟨rfl,h⟩⟩
theorem OutQ.blk {α:Type} {k a:Nat} {d:Int} {r r':α×QSt} (h:Blk k a d r'.2.s) (hl:r'.2.l.length+ze r'.2.s≤r.2.l.length+1):OutQ k a d r (some r'):=⟨r',rfl,.inr ⟨h,hl⟩⟩
theorem qC6 {E:Env} {f:Nat} {q:QSt} {r:Ex×QSt} (h:qS E f q=some r):∃ X s,zM E f q.s=some (X,s)∧q.l.length+X.2.length≤800000000∧r=(X.1,⟨s,q.l++X.2⟩):=by
 unfold qS at h;cases hc:zM E f q.s with
 | none=>rw [hc]at h;cases h
 | some y =>
   obtain⟨X,s⟩:=y;rw [hc]at h;(try dsimp only at h);split at h
   ·rename_i hn;injection h with h;exact⟨X,s,rfl,hn,h.symm⟩
   ·cases h
section
variable {E E':Env} {k a:Nat} {d:Int} {q:QSt}
theorem jD {f:Nat} {r:Ex×QSt} (h:qS E f q=some r):jJ1 q r:=by obtain⟨X,s,h1,h2,rfl⟩:=qC6 h;intro he;obtain⟨e0,d0,l0⟩:=(zW6 E f).choice _ _ h1 he;exact⟨e0,d0,Ym⟩
theorem zF7 (L:kT E E' k a) (h:Blk k a d q.s) (f:Nat) (h0:0≤d) (h9:d≤1000) (hl:q.l.length≤2000000):kR1 k a d q (qS E' (f+4) q):=by obtain⟨⟨X,s⟩,h1,h2,h3⟩:=wK L h f h0 h9;have:=zD9 q.s;(try dsimp only at h2 h3);unfold qS;rw [h1];dsimp only;rw [lM Yo];exact⟨_,rfl,h2,by dsimp only;rw [Ya];omega⟩
theorem qC7 (L:kT E E' k a) {f:Nat} {r:Ex×QSt} (h:qS E f q=some r):kP5 k a q r (qS E' (f+8) q):=by
 intro he hl h0 h9 hn;obtain⟨X,s,h1,h2,rfl⟩:=qC6 h;(try dsimp only at he hl);rw [Ya]at hl;obtain⟨⟨X',s'⟩,g1,g2⟩:=(jV9 L f).choice _ _ h1 he (by dsimp only;omega) h0 h9 hn;unfold qS;rw [g1];dsimp only;rcases g2 with⟨g2,g3⟩ | ⟨g2,g3⟩
 ·injection g2 with q1 q2;subst q1 q2;rw [lM h2];exact OutQ.same g3
 ·(try dsimp only at g3);rw [lM Yo];refine OutQ.blk g2 ?_;dsimp only;rw [Ya,Ya];omega
theorem qT3 {w:List UInt8} (h:okP q.s=true):kN E q w=some (q.on (kV E q.s w)):=by unfold kN;rw [lM h]
theorem qT4 {w:List UInt8} (h:okP q.s=true):jX E q w=some (q.on (wN E q.s w)):=by unfold jX;rw [lM h]
theorem kU {q1:QSt} {w:List UInt8} (h:kN E q w=some q1) (he:q1.s.e=0):q.s.e=0∧q.s.deep<200∧q1=⟨yH (zE q.s) 1,q.l⟩:=by obtain⟨_,rfl⟩:=qS9 h;obtain⟨e0,d0,m0⟩:=zV5 (E:=E) (s:=q.s) (w:=w) he;exact⟨e0,d0,by unfold QSt.on;rw [m0]⟩
theorem kJ {q1:QSt} {w:List UInt8} (h:jX E q w=some q1) (he:q1.s.e=0):q.s.e=0∧q1=⟨yH (zE q.s) (-1),q.l⟩:=by obtain⟨_,rfl⟩:=qT1 h;obtain⟨e0,_,m0⟩:=qN6 (E:=E) (s:=q.s) (w:=w) he;exact⟨e0,by unfold QSt.on;rw [m0]⟩
theorem qC8 (L:kT E E' k a) {q1:QSt} {w:List UInt8} (h:kN E q w=some q1) (he:q1.s.e=0) (hn:q.s.n<k):kN E' q w=some q1∧(q1.s.n<k∨Blk k a (q.s.deep+1) q1.s):=by
 obtain⟨e0,d0,m0⟩:=kU h he;obtain⟨ho,hq⟩:=qS9 h;refine⟨by rw [qT3 ho,zV4 L e0 hn];rw [←hq],?_⟩;rw [m0];rcases yQ (a:=a) e0 (rfl:q.s.deep=q.s.deep) hn with hp | hp
 ·exact .inl hp
 ·exact .inr (hp.deep 1)
theorem qC9 (L:kT E E' k a) {q1:QSt} {w:List UInt8} (h:jX E q w=some q1) (he:q1.s.e=0) (hd:q.s.deep=d+1) (hn:q.s.n<k):jX E' q w=some q1∧(q1.s.n<k∨Blk k a d q1.s):=by
 obtain⟨e0,m0⟩:=kJ h he;obtain⟨ho,hq⟩:=qT1 h;refine⟨by rw [qT4 ho,qI6 L e0 hn];rw [←hq],?_⟩;rw [m0];rcases yQ (a:=a) e0 (rfl:q.s.deep=q.s.deep) hn with hp | hp
 ·exact .inl hp
 ·have:=hp.deep (-1);rw [hd,show d+1+-1=d from by omega]at this;exact .inr this
theorem qT5 (L:kT E E' k a) (h:Blk k a d q.s) (h0:0≤d) (h9:d≤1000) {w:List UInt8} (hw:w≠wH):∃ q1,kN E' q w=some q1∧Blk k a (d+1) q1.s∧ze q1.s=0∧q1.l=q.l :=
 ⟨_,qT3 (h.okP h0 h9),(h.open L hw).1,(h.open L hw).2,rfl⟩
theorem zR2 (L:kT E E' k a) (h:Blk k a (d+1) q.s) (h0:0≤d) (h9:d≤900) {w:List UInt8} (hw:w≠wH):∃ q1,jX E' q w=some q1∧Blk k a d q1.s∧ze q1.s=0∧q1.l=q.l :=
 ⟨_,qT4 (h.okP Yo Yo),(h.shut L hw).1,(h.shut L hw).2,rfl⟩
theorem jQ9 {α:Type} (L:kT E E' k a) {q1:QSt} {w:List UInt8} (hw:w≠wH) (h:jX E q w=some q1) (he:q1.s.e=0) (hd:q.s.deep=d+1) (h0:0≤d) (h9:d≤900) {x x':α} {q':QSt} (hq:((x',q')=(x,q)∧q.s.n<k)∨(Blk k a (d+1) q'.s∧q'.l.length≤q.l.length+1)) :
 ∃ q1',jX E' q' w=some q1'∧(((x',q1')=(x,q1)∧q1.s.n<k)∨(Blk k a d q1'.s∧q1'.l.length+ze q1'.s≤q1.l.length+1)):=by
 have hl:q1.l=q.l:=by obtain⟨_,m⟩:=kJ h he;rw [m]
 rcases hq with⟨hq,hn⟩ | ⟨hb,hle⟩
 ·injection hq with e1 e2;subst e1 e2;obtain⟨g1,g2⟩:=qC9 L h he hd hn;refine⟨q1,g1,?_⟩;rcases g2 with g2 | g2
  ·exact .inl ⟨rfl,g2⟩
  ·exact .inr ⟨g2,by have:=zD9 q1.s;omega⟩
 ·obtain⟨q2,g1,g2,g3,g4⟩:=zR2 L hb h0 h9 hw;exact⟨q2,g1,.inr ⟨g2,by rw [g3,g4,hl];exact hle⟩⟩
theorem zL3:∀ (f:Nat) (q:QSt) (out:List Ex) (r:List Ex×QSt),yA E f q out=some r→jJ1 q r
 | 0,_,_,_,h=>by simp [yA]at h
 | f+1,q,out,r,h=>by
   intro he;rcases zS6 h with⟨_,rfl⟩ | ⟨_,x,q2,h1,h2⟩
   ·exact⟨he,rfl,lF _⟩
   ·obtain⟨e2,d2,l2⟩:=zL3 f _ _ _ h2 he;obtain⟨e1,d1,l1⟩:=jD h1 e2;exact⟨e1,d2.trans d1,lE l1 l2⟩
theorem qD1 (L:kT E E' k a) (h:Blk k a d q.s) (f:Nat) (out:List Ex):yA E' (f+1) q out=some (out,q):=by rw [yA,h.is L Yd];rfl
theorem kC6 {f:Nat} {out:List Ex} {x:Ex} {q2:QSt} (hi:isP E q.s [44]=true) (h1:qS E f (q.on (zE q.s))=some (x,q2)):yA E (f+1) q out=yA E f q2 (out++[x]):=by rw [yA,lM hi,h1];rfl
theorem qT6 (L:kT E E' k a):∀ (f:Nat) (q:QSt) (out:List Ex) (r:List Ex×QSt),yA E f q out=some r→kP5 k a q r (yA E' (f+8) q out)
 | 0,_,_,_,h=>by simp [yA]at h
 | f+1,q,out,r,h=>by
   intro he hl h0 h9 hn;obtain⟨e0,_,_⟩:=zL3 _ _ _ _ h he;rw [show f+1+8=(f+8)+1 from by omega];rcases zS6 h with⟨hi,rfl⟩ | ⟨hi,x,q2,h1,h2⟩
   ·rw [yA,vC L e0 hn,hi];exact OutQ.same hn
   ·obtain⟨e2,d2,l2⟩:=zL3 f _ _ _ h2 he;obtain⟨_,d1,l1⟩:=jD h1 e2;(try dsimp only at e2 d2 l2 d1 l1);have hi':isP E' q.s [44]=true:=by rw [vC L e0 hn,hi]
    have hx:OutQ k a q.s.deep (x,q2) (qS E' (f+8) (q.on (zE q.s))):=by
     rcases yQ (a:=a) e0 (rfl:q.s.deep=q.s.deep) hn with hp | hp
     ·exact qC7 L h1 e2 (by dsimp only;omega) h0 h9 hp
     ·obtain⟨r',g1,g2,g3⟩:=zF7 (q:=q.on (zE q.s)) L hp (f+4) h0 Yo (by show q.l.length≤2000000;have:q.l.length≤q2.l.length:=l1;omega);refine⟨r',g1,.inr ⟨g2,?_⟩⟩;have:=zD9 (zE q.s);have hq:(q.on (zE q.s)).l.length≤q2.l.length:=l1;have hz:ze (q.on (zE q.s)).s=ze (zE q.s):=rfl;dsimp only;omega
    obtain⟨⟨x',q2'⟩,g1,g2⟩:=hx;rw [kC6 hi' g1];rcases g2 with⟨g2,g3⟩ | ⟨g2,g3⟩
    ·injection g2 with q1 q3;subst q1 q3;have hd:q2'.s.deep=q.s.deep:=d1;have:=qT6 L f _ _ _ h2 he hl Yo Yo g3;rw [hd]at this;exact this
    ·(try dsimp only at g2 g3);rw [show f+8=(f+7)+1 from rfl,qD1 L g2];exact OutQ.blk g2 (by dsimp only;omega)
theorem qJ1 {f:Nat} {q1 q2:QSt} (h1:kN E q [40]=some q1) (hc:¬((zC E q1.s).text≠[41]∧q1.s.e=0)) (h2:jX E q1 [41]=some q2):yC E f q=some ([],q2):=by unfold yC;simp only [cG];rw [h1];simp only [lP];rw [lN hc,h2];rfl
theorem qJ2 {f:Nat} {q1 q2 q3 q4:QSt} {x:Ex} {l:List Ex} (h1:kN E q [40]=some q1) (hc:(zC E q1.s).text≠[41]∧q1.s.e=0) (h2:qS E f q1=some (x,q2)) (h3:yA E f q2 [x]=some (l,q3)) (h4:jX E q3 [41]=some q4):yC E f q=some (l,q4):=by unfold yC;simp only [cG];rw [h1];simp only [lP];rw [lM hc,h2];simp only [lP];rw [h3];simp only [lP];rw [h4];rfl
theorem zV7 {f:Nat} {r:List Ex×QSt} (h:yC E f q=some r):jJ1 q r:=by
 intro he;obtain⟨l,q'⟩:=r;obtain⟨q1,h1,⟨_,_,h2⟩ | ⟨_,x,q2,q3,h2,h3,h4⟩⟩:=zE3 h
 ·obtain⟨e1,m1⟩:=kJ h2 he;obtain⟨e0,_,m0⟩:=kU h1 e1;subst m0;dsimp only;rw [m1];exact⟨e0,by show q.s.deep+1+-1=q.s.deep;omega,lF _⟩
 ·obtain⟨e3,m3⟩:=kJ h4 he;obtain⟨e2,d2,l2⟩:=zL3 _ _ _ _ h3 e3;obtain⟨e1,d1,l1⟩:=jD h2 e2;obtain⟨e0,_,m0⟩:=kU h1 e1;subst m0;(try dsimp only at d1 d2 l1 l2 ⊢);rw [m3];have d1':q2.s.deep=q.s.deep+1:=d1;exact⟨e0,by show q3.s.deep+-1=q.s.deep;omega,by show q.l.length≤q3.l.length;omega⟩
theorem jJ2 (L:kT E E' k a) (h:Blk k a d q.s) (f:Nat) (h0:0≤d) (h9:d≤900):kR1 k a d q (yC E' f q):=by obtain⟨q1,g1,g2,g3,g4⟩:=qT5 L h h0 Yo (w:=[40]) Yd;obtain⟨q2,j1,j2,j3,j4⟩:=zR2 L g2 h0 h9 (w:=[41]) Yd;refine⟨([],q2),qJ1 g1 (fun hc=>?_) j1,j2,by dsimp only;rw [j3,j4,g4];omega⟩;have:=hc.2;unfold ze at g3;rw [lM this]at g3;cases g3
theorem jJ3 (L:kT E E' k a) {f:Nat} {r:List Ex×QSt} (h:yC E f q=some r):kP5 k a q r (yC E' (f+8) q):=by
 intro he hl h0 h9 hn;obtain⟨l,q'⟩:=r;(try dsimp only at he hl);obtain⟨q1,h1,⟨hc,rfl,h2⟩ | ⟨hc,x,q2,q3,h2,h3,h4⟩⟩:=zE3 h
 ·obtain⟨e1,m1⟩:=kJ h2 he;obtain⟨e0,hd,m0⟩:=kU h1 e1;obtain⟨g1,g2⟩:=qC8 L h1 e1 hn;have hd1:q1.s.deep=q.s.deep+1:=by rw [m0];rfl
  rcases g2 with g2 | g2
  ·obtain⟨j1,j2⟩:=qC9 L h2 he hd1 g2;refine⟨([],q'),qJ1 g1 (by rw [qO L e1 g2];exact hc) j1,?_⟩;rcases j2 with j2 | j2
   ·exact .inl ⟨rfl,j2⟩
   ·exact .inr ⟨j2,by have:=zD9 q'.s;dsimp only;omega⟩
  ·have hc':(zC E' q1.s).text≠[41]∧q1.s.e=0:=⟨g2.text L Yd Yd,e1⟩;have hlq:q'.l.length=q1.l.length:=by rw [m1]
   obtain⟨⟨x',q2'⟩,k1,k2,k3⟩:=zF7 L g2 (f+4) Yo Yo Yo;have k4:=qD1 L k2 (f+7) [x'];obtain⟨q4,j1,j2,j3,j4⟩:=zR2 L k2 h0 Yo (w:=[41]) Yd;refine⟨([x'],q4),qJ2 g1 hc' k1 k4 j1,.inr ⟨j2,?_⟩⟩;have:=zD9 q1.s;(try dsimp only at k3 j4 ⊢);rw [j3,j4];omega
 ·obtain⟨e3,m3⟩:=kJ h4 he;obtain⟨e2,d2,l2⟩:=zL3 _ _ _ _ h3 e3;obtain⟨e1,d1,l1⟩:=jD h2 e2;obtain⟨e0,hd,m0⟩:=kU h1 e1;obtain⟨g1,g2⟩:=qC8 L h1 e1 hn;have hd1:q1.s.deep=q.s.deep+1:=by rw [m0];rfl
  (try dsimp only at d1 d2 l1 l2 e2);have hlq:q'.l.length=q3.l.length:=by rw [m3]
  have hc':(zC E' q1.s).text≠[41]∧q1.s.e=0:=by
   rcases g2 with g2 | g2
   ·rw [qO L e1 g2];exact hc
   ·exact⟨g2.text L Yd Yd,e1⟩
  have hx:OutQ k a (q.s.deep+1) (x,q2) (qS E' (f+8) q1):=by
   rcases g2 with g2 | g2
   ·have:=qC7 L h2 e2 (by dsimp only;omega) Yo Yo g2;rw [hd1]at this;exact this
   ·obtain⟨r',k1,k2,k3⟩:=zF7 L g2 (f+4) Yo Yo Yo;exact⟨r',k1,.inr ⟨k2,by have:=zD9 q1.s;dsimp only;omega⟩⟩
  obtain⟨⟨x',q2'⟩,k1,k2⟩:=hx;have hm:∃ l' q3',yA E' (f+8) q2' [x']=some (l',q3')∧(((l',q3')=(l,q3)∧q3.s.n<k)∨(Blk k a (q.s.deep+1) q3'.s∧q3'.l.length≤q3.l.length+1)):=by
   rcases k2 with⟨k2,k3⟩ | ⟨k2,k3⟩
   ·injection k2 with v1 v2;subst v1 v2;obtain⟨⟨l',q3'⟩,j1,j2⟩:=qT6 L f _ _ _ h3 e3 (by dsimp only;omega) Yo Yo k3;refine⟨l',q3',j1,?_⟩;rcases j2 with j2 | ⟨j2,j3⟩
    ·exact .inl j2
    ·rw [d1,hd1]at j2;exact .inr ⟨j2,by (try dsimp only at j3);omega⟩
   ·exact⟨_,_,qD1 L k2 (f+7) [x'],.inr ⟨k2,by (try dsimp only at k3 ⊢);omega⟩⟩
  obtain⟨l',q3',j1,j2⟩:=hm;obtain⟨q4,i1,i2⟩:=jQ9 L Yd h4 he Yo h0 Yo j2;exact⟨(l',q4),qJ2 g1 hc' k1 j1 i1,i2⟩
end
end
section
def RQ (k a:Nat) (d:Int) (P:Prop) (q q':QSt):Prop:=(P∧q'=q∧q.s.n<k)∨(Blk k a d q'.s∧q'.l.length+ze q'.s≤q.l.length+1)
section
variable {E E':Env} {k a:Nat} {d:Int} {q q':QSt} {P P':Prop} {w:List UInt8}
theorem RQ.mono (h:RQ k a d P q q') (hp:P→P'):RQ k a d P' q q':=h.imp (fun h=>⟨hp h.1,h.2⟩) id
theorem RQ.of_out {α:Type} {r:α×QSt} {o:Option (α×QSt)} (h:OutQ k a d r o):∃ x' q1',o=some (x',q1')∧RQ k a d (x'=r.1) r.2 q1':=by
 obtain⟨⟨x',q1'⟩,h1,h2⟩:=h;refine⟨x',q1',h1,?_⟩;rcases h2 with⟨h2,h3⟩ | ⟨h2,h3⟩
 ·subst h2;exact .inl ⟨rfl,rfl,h3⟩
 ·exact .inr ⟨h2,h3⟩
theorem RQ.one (he:q.s.e=0) (hd:q.s.deep=d) (hn:q.s.n≤k) (hp:P):RQ k a d P q q:=by
 rcases Nat.lt_or_ge q.s.n k with h | h
 ·exact .inl ⟨hp,rfl,h⟩
 ·exact .inr ⟨⟨Yo,hd,.inl he⟩,by have:=zD9 q.s;omega⟩
theorem RQ.must (L:kT E E' k a) (hw:w≠wH) (h:RQ k a d P q q') (hd:q.s.deep=d) (ok:(zI E q.s w).e=0):RQ k a d P (q.on (zI E q.s w)) (q'.on (zI E' q'.s w)):=by
 obtain⟨e0,i0,m0⟩:=jU ok;rcases h with⟨hp,rfl,hn⟩ | ⟨hb,hl⟩
 ·rw [zL1 L e0 hn,m0];exact RQ.one e0 hd hn hp
 ·exact .inr ⟨(hb.must L hw).1,by have h:=(hb.must L hw).2;show q'.l.length+ze (zI E' q'.s w)≤q.l.length+1;omega⟩
theorem RQ.name (L:kT E E' k a) (h:RQ k a d P q q') (hd:q.s.deep=d) (ok:(zL E q.s).e=0):RQ k a d (P∧jA E' q'.s=jA E q.s) (q.on (zL E q.s)) (q'.on (zL E' q'.s)):=by
 obtain⟨e0,i0,m0⟩:=kQ ok;rcases h with⟨hp,rfl,hn⟩ | ⟨hb,hl⟩
 ·rw [zV3 L e0 hn,m0];exact RQ.one e0 hd hn ⟨hp,zO6 L e0 hn⟩
 ·exact .inr ⟨(hb.name L).1,by have h:=(hb.name L).2;show q'.l.length+ze (zL E' q'.s)≤q.l.length+1;omega⟩
theorem RQ.num (L:kT E E' k a) (h:RQ k a d P q q') (hd:q.s.deep=d) (ok:(jB E q.s).2.e=0):RQ k a d (P∧(jB E' q'.s).1=(jB E q.s).1) (q.on (jB E q.s).2) (q'.on (jB E' q'.s).2):=by
 obtain⟨e0,m0⟩:=wC ok;rcases h with⟨hp,rfl,hn⟩ | ⟨hb,hl⟩
 ·rw [qS5 L e0 hn,m0];exact RQ.one e0 hd hn ⟨hp,rfl⟩
 ·exact .inr ⟨(hb.num L).1,by have h:=(hb.num L).2;show q'.l.length+ze (jB E' q'.s).2≤q.l.length+1;omega⟩
theorem RQ.open (L:kT E E' k a) (hw:w≠wH) (h:RQ k a d P q q') (hd:q.s.deep=d) (h0:0≤d) {q1:QSt} (ho:kN E q w=some q1) (he:q1.s.e=0):∃ q1',kN E' q' w=some q1'∧RQ k a (d+1) P q1 q1':=by
 obtain⟨e0,hd0,m0⟩:=kU ho he;rcases h with⟨hp,rfl,hn⟩ | ⟨hb,hl⟩
 ·obtain⟨g1,g2⟩:=qC8 L ho he hn;exact⟨q1,g1,RQ.one he (by rw [m0];show q'.s.deep+1=d+1;omega) (by rw [m0];exact hn) hp⟩
 ·obtain⟨q2,g1,g2,g3,g4⟩:=qT5 L hb h0 Yo hw;exact⟨q2,g1,.inr ⟨g2,by rw [g3,g4,m0];show q'.l.length+0≤q.l.length+1;omega⟩⟩
theorem RQ.shut (L:kT E E' k a) (hw:w≠wH) (h:RQ k a (d+1) P q q') (hd:q.s.deep=d+1) (h0:0≤d) (h9:d≤900) {q1:QSt} (ho:jX E q w=some q1) (he:q1.s.e=0):∃ q1',jX E' q' w=some q1'∧RQ k a d P q1 q1':=by
 obtain⟨e0,m0⟩:=kJ ho he;rcases h with⟨hp,rfl,hn⟩ | ⟨hb,hl⟩
 ·obtain⟨g1,g2⟩:=qC9 L ho he hd hn;exact⟨q1,g1,RQ.one he (by rw [m0];show q'.s.deep+-1=d;omega) (by rw [m0];exact hn) hp⟩
 ·obtain⟨q2,g1,g2,g3,g4⟩:=zR2 L hb h0 h9 hw;exact⟨q2,g1,.inr ⟨g2,by rw [g3,g4,m0];show q'.l.length+0≤q.l.length+1;omega⟩⟩
def qY7 {α:Type} (k a:Nat) (d:Int) (P:Prop) (x:α) (q1:QSt) (o:Option (α×QSt)):Prop:=∃ x' q1',o=some (x',q1')∧RQ k a d (P∧x'=x) q1 q1'
theorem RQ.expr (L:kT E E' k a) (h:RQ k a d P q q') (hd:q.s.deep=d) (h0:0≤d) (h9:d≤200) {f:Nat} {x:Ex} {q1:QSt} (hx:qS E f q=some (x,q1)) (he:q1.s.e=0) (hl:q1.l.length≤900000):qY7 k a d P x q1 (qS E' (f+8) q'):=by
 obtain⟨_,_,l1⟩:=jD hx he;rcases h with⟨hp,rfl,hn⟩ | ⟨hb,hle⟩
 ·obtain⟨x',q1',g1,g2⟩:=RQ.of_out (qC7 L hx he hl Yo Yo hn);rw [hd]at g2;exact⟨x',q1',g1,g2.mono fun h=>⟨hp,h⟩⟩
 ·obtain⟨⟨x',q1'⟩,g1,g2,g3⟩:=zF7 L hb (f+4) h0 Yo (by (try dsimp only at l1);omega);exact⟨x',q1',g1,.inr ⟨g2,by (try dsimp only at g3 l1);omega⟩⟩
theorem RQ.exprs (L:kT E E' k a) (h:RQ k a d P q q') (hd:q.s.deep=d) (h0:0≤d) (h9:d≤200) {f:Nat} {x:List Ex} {q1:QSt} (hx:yC E f q=some (x,q1)) (he:q1.s.e=0) (hl:q1.l.length≤900000):qY7 k a d P x q1 (yC E' (f+8) q'):=by
 obtain⟨_,_,l1⟩:=zV7 hx he;rcases h with⟨hp,rfl,hn⟩ | ⟨hb,hle⟩
 ·obtain⟨x',q1',g1,g2⟩:=RQ.of_out (jJ3 L hx he hl Yo Yo hn);rw [hd]at g2;exact⟨x',q1',g1,g2.mono fun h=>⟨hp,h⟩⟩
 ·obtain⟨⟨x',q1'⟩,g1,g2,g3⟩:=jJ2 L hb (f+8) h0 Yo;exact⟨x',q1',g1,.inr ⟨g2,by (try dsimp only at g3 l1);omega⟩⟩
def kC7 (j:Nat):Prop:=j=0∨j=3∨j=4∨j=5∨j=6∨j=7∨j=8
structure kS4 (E:Env) (f:Nat):Prop where
 read:∀ j,kC7 j→∀ q r,qY E f j q=some r→jJ1 q r
 body:∀ q r,kE E f q=some r→jJ1 q r
 stmts:∀ q out r,jM E f q out=some r→jJ1 q r
theorem qO1 (E:Env):∀ f,kS4 E f
 | 0=>⟨fun k _ q r h=>by simp [qY]at h,fun q r h=>by simp [kE]at h,fun q out r h=>by simp [jM]at h⟩
 | f+1=>by
   have ih:=qO1 E f;refine⟨fun k hk q r h he=>?_,fun q r h he=>?_,fun q out r h he=>?_⟩
   ·obtain⟨x,q'⟩:=r;rcases hk with rfl | rfl | rfl | rfl | rfl | rfl | rfl
    ·rcases vW h with⟨_,r,i,q1,r2,y,h1,h2,h3,h4,_⟩ | ⟨_,y,h4,_⟩
     ·obtain⟨e4,d4,l4⟩:=jD h4 he;obtain⟨e5,_,m5⟩:=jU (E:=E) (s:=r2.s) (w:=[61]) e4;obtain⟨e3,m3⟩:=kJ h3 e5;obtain⟨e2,d2,l2⟩:=jD h2 e3;obtain⟨e1,_,m1⟩:=kU h1 e2;obtain⟨e0,_,m0⟩:=kQ (E:=E) (s:=q.s) e1;(try dsimp only at d4 l4 d2 l2 ⊢);have d4':q'.s.deep=(zI E r2.s [61]).deep:=d4;rw [m5,m3]at d4';have l4':r2.l.length≤q'.l.length:=l4;rw [m3]at l4';rw [m1]at d2 l2;have d2':q1.s.deep=(zL E q.s).deep+1:=d2;rw [m0]at d2';have d4'':q'.s.deep=q1.s.deep+-1:=d4';have d2'':q1.s.deep=q.s.deep+1:=d2';have l4'':q1.l.length≤q'.l.length:=l4';have l2':q.l.length≤q1.l.length:=l2;exact⟨e0,Yo,Yo⟩
     ·obtain⟨e4,d4,l4⟩:=jD h4 he;obtain⟨e5,_,m5⟩:=jU (E:=E) (s:=zL E q.s) (w:=[61]) e4;obtain⟨e0,_,m0⟩:=kQ (E:=E) (s:=q.s) e5;(try dsimp only at d4 l4 ⊢);have d4':q'.s.deep=(zI E (zL E q.s) [61]).deep:=d4;rw [m5,m0]at d4';exact⟨e0,d4',l4⟩
    ·obtain⟨b,y,q1,h1,h2,_⟩:=zE4 h;obtain⟨e2,d2,l2⟩:=jD h2 he;obtain⟨e3,_,m3⟩:=jU (E:=E) (s:=q1.s) (w:=[44]) e2;obtain⟨e1,d1,l1⟩:=jD h1 e3;(try dsimp only at d2 l2 d1 l1 ⊢);have d2':q'.s.deep=(zI E q1.s [44]).deep:=d2;rw [m3]at d2';have d2'':q'.s.deep=q1.s.deep:=d2';have l2':q1.l.length≤q'.l.length:=l2;exact⟨e1,Yo,Yo⟩
    ·obtain⟨_,rfl⟩:=zE5 h;exact⟨he,rfl,lF _⟩
    ·obtain⟨_,rfl⟩:=zE6 h;exact⟨he,rfl,lF _⟩
    ·obtain⟨y,q1,t,q2,h1,h2,h3⟩:=zE7 h;rcases h3 with⟨_,e,h3,_⟩ | ⟨_,_,rfl⟩
     ·obtain⟨e3,d3,l3⟩:=ih.body _ _ h3 he;obtain⟨e2,d2,l2⟩:=ih.body _ _ h2 e3;obtain⟨e1,d1,l1⟩:=jD h1 e2;(try dsimp only at d3 l3 d2 l2 d1 l1 ⊢);have d3':q'.s.deep=q2.s.deep:=d3;have l3':q2.l.length≤q'.l.length:=l3;exact⟨e1,Yo,Yo⟩
     ·obtain⟨e2,d2,l2⟩:=ih.body _ _ h2 he;obtain⟨e1,d1,l1⟩:=jD h1 e2;(try dsimp only at d2 l2 d1 l1 ⊢);exact⟨e1,Yo,Yo⟩
    ·obtain⟨y,q1,t,h1,h2,_⟩:=zE8 h;obtain⟨e2,d2,l2⟩:=ih.body _ _ h2 he;obtain⟨e3,m3⟩:=wC (E:=E) (s:=zI E q1.s (bs "bound")) e2;obtain⟨e4,_,m4⟩:=jU (E:=E) (s:=q1.s) (w:=bs "bound") e3;obtain⟨e1,d1,l1⟩:=jD h1 e4;(try dsimp only at d2 l2 d1 l1 ⊢);have d2':q'.s.deep=(jB E (zI E q1.s (bs "bound"))).2.deep:=d2;rw [m3,m4]at d2';have d2'':q'.s.deep=q1.s.deep:=d2';have l2':q1.l.length≤q'.l.length:=l2;exact⟨e1,Yo,Yo⟩
    ·obtain⟨l,h1,_⟩:=zE9 h;obtain⟨e1,d1,l1⟩:=zV7 h1 he;obtain⟨e0,_,m0⟩:=kQ (E:=E) (s:=q.s) e1;(try dsimp only at d1 l1 ⊢);have d1':q'.s.deep=(zL E q.s).deep:=d1;rw [m0]at d1';exact⟨e0,d1',l1⟩
   ·obtain⟨x,q'⟩:=r;obtain⟨q1,q2,h1,h2,h3⟩:=zI8 h;obtain⟨e3,m3⟩:=kJ h3 he;obtain⟨e2,d2,l2⟩:=ih.stmts _ _ _ h2 e3;obtain⟨e1,_,m1⟩:=kU h1 e2;(try dsimp only at d2 l2 ⊢);rw [m1]at d2 l2;rw [m3];have d2':q2.s.deep=q.s.deep+1:=d2;exact⟨e1,by show q2.s.deep+-1=q.s.deep;omega,l2⟩
   ·rcases zF1 h with⟨k,y,q1,_,_,hk,h1,h2⟩ | ⟨y,q1,_,_,_,_,_,h1,h2⟩ | ⟨_,h1⟩
    ·obtain⟨e2,d2,l2⟩:=ih.stmts _ _ _ h2 he;obtain⟨e1,d1,l1⟩:=ih.read k (.inr (zD2 hk)) _ _ h1 e2;(try dsimp only at d2 l2 d1 l1);rw [Ya]at l1;exact⟨e1,d2.trans d1,Yo⟩
    ·obtain⟨e2,d2,l2⟩:=ih.stmts _ _ _ h2 he;obtain⟨e1,d1,l1⟩:=ih.read 0 (.inl rfl) _ _ h1 e2;(try dsimp only at d2 l2 d1 l1);have l1':(q.l++[(zC E q.s).at']).length≤q1.l.length:=l1;rw [Ya]at l1';exact⟨e1,d2.trans d1,Yo⟩
    ·subst h1;exact⟨he,rfl,lF _⟩
structure kL6 (E E':Env) (k a:Nat) (f:Nat):Prop where
 read:∀ j,kC7 j→∀ q q' P d x q1,qY E f j q=some (x,q1)→q1.s.e=0→q1.l.length≤900000→q.s.deep=d→0≤d→d≤200→RQ k a d P q q'→qY7 k a d P x q1 (qY E' (f+8) j q')
 body:∀ q q' P d x q1,kE E f q=some (x,q1)→q1.s.e=0→q1.l.length≤900000→q.s.deep=d→0≤d→d≤200→RQ k a d P q q'→qY7 k a d P x q1 (kE E' (f+8) q')
 stmts:∀ q q' out out' P d x q1,(P→out'=out)→jM E f q out=some (x,q1)→q1.s.e=0→q1.l.length≤900000→q.s.deep=d→0≤d→d≤200→RQ k a d P q q'→qY7 k a d P x q1 (jM E' (f+8) q' out')
theorem qY8 (L:kT E E' k a) (f:Nat) (ih:kL6 E E' k a f) (q q':QSt) (out out':List Sx) (P:Prop) (d:Int) (x:List Sx) (q1:QSt) (ho:P→out'=out) (h:jM E (f+1) q out=some (x,q1)) (he:q1.s.e=0) (hl:q1.l.length≤900000) (hd:q.s.deep=d) (h0:0≤d) (h9:d≤200) (hr:RQ k a d P q q'):qY7 k a d P x q1 (jM E' (f+1+8) q' out'):=by
 rw [show f+1+8=(f+8)+1 from by omega];have hone:=(qO1 E _).stmts _ _ _ h he;obtain⟨e0,d1,l1⟩:=hone;(try dsimp only at d1 l1);rcases hr with⟨hp,rfl,hn⟩ | ⟨hb,hle⟩
 ·obtain rfl:=ho hp;have hnx:=qO L e0 hn;rw [jM,lM e0];rcases zF1 h with⟨j,y,q2,_,hll,hk,h1,h2⟩ | ⟨y,q2,_,hll,hk,hw1,hw2,h1,h2⟩ | ⟨hc,h1⟩
  ·obtain⟨e2,d2,l2⟩:=(qO1 E _).stmts _ _ _ h2 he;(try dsimp only at d2 l2 e2);have hok:okL q'=true:=lH hll;rw [hok,lM rfl,hnx,hk];dsimp only;obtain⟨_,dr,lr⟩:=(qO1 E _).read j (.inr (zD2 hk)) _ _ h1 e2;have dr':q2.s.deep=q'.s.deep:=dr;obtain⟨y',q2',g1,g2⟩:=ih.read j (.inr (zD2 hk)) _ _ True d _ _ h1 e2 Yo hd h0 h9 (RQ.one e0 hd hn trivial);rw [g1];dsimp only;obtain⟨x',q1',j1,j2⟩:=ih.stmts _ _ _ (out'++[y']) (True∧y'=y) d _ _ (fun h=>by rw [h.2]) h2 he hl Yo h0 h9 g2;exact⟨x',q1',j1,j2.mono fun h=>⟨hp,h.2⟩⟩
  ·obtain⟨e2,d2,l2⟩:=(qO1 E _).stmts _ _ _ h2 he;(try dsimp only at d2 l2 e2);have hok:okL q'=true:=lH hll;rw [hok,lM rfl,hnx,hk];dsimp only;rw [lM ⟨hw1,hw2⟩];have hat:q'.at E'=q'.at E:=by unfold QSt.at;rw [hnx]
   obtain⟨_,dr,lr⟩:=(qO1 E _).read 0 (.inl rfl) _ _ h1 e2;have dr':q2.s.deep=q'.s.deep:=dr;obtain⟨y',q2',g1,g2⟩:=ih.read 0 (.inl rfl) _ (q'.at E) True d _ _ h1 e2 Yo hd h0 h9 (.inl ⟨trivial,rfl,hn⟩);rw [hat,g1];dsimp only;obtain⟨x',q1',j1,j2⟩:=ih.stmts _ _ _ (out'++[y']) (True∧y'=y) d _ _ (fun h=>by rw [h.2]) h2 he hl Yo h0 h9 g2;exact⟨x',q1',j1,j2.mono fun h=>⟨hp,h.2⟩⟩
  ·injection h1 with v1 v2;subst v1 v2;rcases hc with hc | ⟨_,hk,hw⟩
   ·exact absurd e0 hc
   ·have hok:okL q1=true:=lH Yo;rw [hok,lM rfl,hnx,hk];dsimp only;rw [lN hw];exact⟨_,_,rfl,.inl ⟨⟨hp,rfl⟩,rfl,hn⟩⟩
 ·refine⟨out',q',?_,.inr ⟨hb,Yo⟩⟩;rw [jM];by_cases hz:q'.s.e=0
  ·have hok:okL q'=true:=lH Yo;rw [lM hz,hok,lM rfl];rcases(hb.next L).1 with⟨n1,n2⟩ | ⟨n1,n2⟩
   ·rw [n1,n2,show kM []=none from by decide];rfl
   ·rw [n1,n2,show kM wH=none from Yd,show vO wH=true from by decide];rfl
  ·rw [lN hz]
theorem jJ4 (L:kT E E' k a) (f:Nat) (ih:kL6 E E' k a f) (q q':QSt) (P:Prop) (d:Int) (x:List Sx) (q1:QSt) (h:kE E (f+1) q=some (x,q1)) (he:q1.s.e=0) (hl:q1.l.length≤900000) (hd:q.s.deep=d) (h0:0≤d) (h9:d≤200) (hr:RQ k a d P q q'):qY7 k a d P x q1 (kE E' (f+1+8) q'):=by
 rw [show f+1+8=(f+8)+1 from by omega];obtain⟨qa,qb,h1,h2,h3⟩:=zI8 h;obtain⟨e3,m3⟩:=kJ h3 he;obtain⟨e2,d2,l2⟩:=(qO1 E _).stmts _ _ _ h2 e3;obtain⟨e1,hd1,m1⟩:=kU h1 e2;(try dsimp only at d2 l2 e2);have hda:qa.s.deep=d+1:=by rw [m1];show q.s.deep+1=d+1;omega
 have hlb:qb.l.length=q1.l.length:=by rw [m3]
 obtain⟨qa',g1,g2⟩:=RQ.open L Yd hr hd h0 h1 e2;obtain⟨x',qb',j1,j2⟩:=ih.stmts _ _ [] [] P (d+1) _ _ (fun _=>rfl) h2 e3 Yo hda Yo Yo g2;obtain⟨q1',i1,i2⟩:=RQ.shut L Yd j2 Yo h0 Yo h3 he;refine⟨x',q1',?_,i2⟩;rw [kE,g1];dsimp only;rw [j1];dsimp only;rw [i1]
theorem jJ5 (L:kT E E' k a) (f:Nat) (ih:kL6 E E' k a f) (j:Nat) (hj:kC7 j) (q q':QSt) (P:Prop) (d:Int) (x:Sx) (q1:QSt) (h:qY E (f+1) j q=some (x,q1)) (he:q1.s.e=0) (hl:q1.l.length≤900000) (hd:q.s.deep=d) (h0:0≤d) (h9:d≤200) (hr:RQ k a d P q q'):qY7 k a d P x q1 (qY E' (f+1+8) j q'):=by
 rw [show f+1+8=(f+8)+1 from by omega];rcases hj with rfl | rfl | rfl | rfl | rfl | rfl | rfl
 ·rcases vW h with⟨ht,r,i,qi,r2,y,h1,h2,h3,h4,rfl⟩ | ⟨ht,y,h4,rfl⟩
  ·obtain⟨e4,d4,l4⟩:=jD h4 he;obtain⟨e5,_,m5⟩:=jU (E:=E) (s:=r2.s) (w:=[61]) e4;obtain⟨e3,m3⟩:=kJ h3 e5;obtain⟨e2,d2,l2⟩:=jD h2 e3;obtain⟨e1,hd1,m1⟩:=kU h1 e2;obtain⟨e0,_,m0⟩:=kQ (E:=E) (s:=q.s) e1;(try dsimp only at d4 l4 d2 l2 e4 e2);have l4':r2.l.length≤q1.l.length:=l4;have hl3:r2.l.length=qi.l.length:=by rw [m3]
   have hdn:(q.on (zL E q.s)).s.deep=d:=by show(zL E q.s).deep=d;rw [m0];exact hd
   have hdr:r.s.deep=d+1:=by rw [m1];show(q.on (zL E q.s)).s.deep+1=d+1;omega
   have hdi:qi.s.deep=d+1:=d2.trans hdr;have hd2:r2.s.deep=d:=by rw [m3];show qi.s.deep+-1=d;omega
   have hn:=RQ.name L hr hd e1;simp only [qY];by_cases ht':(zC E' (zL E' q'.s)).text=[91]
   ·rw [lM ht'];obtain⟨ra,g1,g2⟩:=RQ.open L Yd hn hdn h0 h1 e2;obtain⟨i',qi',j1,j2⟩:=RQ.expr L g2 hdr Yo (by have:(q.on (zL E q.s)).s.deep<200:=hd1;omega) h2 e3 Yo;obtain⟨rb,u1,u2⟩:=RQ.shut L Yd j2 hdi h0 Yo h3 e5;have u3:=RQ.must L (w:=[61]) Yd u2 hd2 e4;obtain⟨y',q1',v1,v2⟩:=RQ.expr L u3 (by show(zI E r2.s [61]).deep=d;rw [m5];exact hd2) h0 h9 h4 he hl;rw [g1];dsimp only;rw [j1];dsimp only;rw [u1];dsimp only;rw [v1];exact⟨_,_,rfl,v2.mono fun⟨⟨⟨b1,b2⟩,b3⟩,b4⟩=>⟨b1,by rw [b2,b3,b4]⟩⟩
   ·rw [lN ht'];have hb:Blk k a d (zL E' q'.s)∧q'.l.length+ze (zL E' q'.s)≤q.l.length+1:=by
     rcases hn with⟨_,hq,hnk⟩ | hb
     ·exfalso;have hs:zL E' q'.s=zL E q.s:=congrArg QSt.s hq;rw [hs,qO L (s:=zL E q.s) e1 hnk]at ht';exact ht' ht
     ·exact hb
    obtain⟨b1,b2⟩:=hb.1.must L (w:=[61]) Yd;have hll:q.l.length≤q1.l.length:=by rw [m1]at l2;have:q.l.length≤qi.l.length:=l2;omega
    obtain⟨⟨y',q1'⟩,c1,c2,c3⟩:=zF7 (q:=q'.on (zI E' (zL E' q'.s) [61])) L b1 (f+4) h0 Yo (by show q'.l.length≤2000000;omega);rw [c1];refine⟨_,_,rfl,.inr ⟨c2,?_⟩⟩;(try dsimp only at c3);have:ze (q'.on (zI E' (zL E' q'.s) [61])).s=0:=b2;rw [this]at c3;have:(q'.on (zI E' (zL E' q'.s) [61])).l=q'.l:=rfl;rw [this]at c3;omega
  ·obtain⟨e4,d4,l4⟩:=jD h4 he;obtain⟨e5,_,m5⟩:=jU (E:=E) (s:=zL E q.s) (w:=[61]) e4;obtain⟨e0,_,m0⟩:=kQ (E:=E) (s:=q.s) e5;have hdn:(q.on (zL E q.s)).s.deep=d:=by show(zL E q.s).deep=d;rw [m0];exact hd
   have hn:=RQ.name L hr hd e5;have hne:(zC E' (zL E' q'.s)).text≠[91]:=by
    rcases hn with⟨_,hq,hnk⟩ | ⟨hb,_⟩
    ·have hs:zL E' q'.s=zL E q.s:=congrArg QSt.s hq;rw [hs,qO L e5 hnk];exact ht
    ·exact hb.text L Yd Yd
   have u3:=RQ.must L (w:=[61]) Yd hn hdn e4;obtain⟨y',q1',v1,v2⟩:=RQ.expr L u3 (by show(zI E (zL E q.s) [61]).deep=d;rw [m5];exact hdn) h0 h9 h4 he hl;simp only [qY];rw [lN hne];have v1':qS E' (f+8) (q'.on (zI E' (zL E' q'.s) [61]))=some (y',q1'):=v1;rw [v1'];exact⟨_,_,rfl,v2.mono fun⟨⟨b1,b2⟩,b3⟩=>⟨b1,by rw [b2,b3]⟩⟩
 ·obtain⟨b,y,qa,h1,h2,rfl⟩:=zE4 h;obtain⟨e2,d2,l2⟩:=jD h2 he;obtain⟨e3,_,m3⟩:=jU (E:=E) (s:=qa.s) (w:=[44]) e2;obtain⟨e1,d1,l1⟩:=jD h1 e3;(try dsimp only at d1 e2);have l2':qa.l.length≤q1.l.length:=l2;obtain⟨b',qa',g1,g2⟩:=RQ.expr L hr hd h0 h9 h1 e3 Yo;have g3:=RQ.must L (w:=[44]) Yd g2 Yo e2;obtain⟨y',q1',v1,v2⟩:=RQ.expr L g3 (by show(zI E qa.s [44]).deep=d;rw [m3];show qa.s.deep=d;omega) h0 h9 h2 he hl;simp only [qY];rw [g1];dsimp only;rw [v1];exact⟨_,_,rfl,v2.mono fun⟨⟨b1,b2⟩,b3⟩=>⟨b1,by rw [b2,b3]⟩⟩
 ·obtain⟨rfl,rfl⟩:=zE5 h;simp only [qY];exact⟨_,_,rfl,hr.mono fun h=>⟨h,rfl⟩⟩
 ·obtain⟨rfl,rfl⟩:=zE6 h;simp only [qY];exact⟨_,_,rfl,hr.mono fun h=>⟨h,rfl⟩⟩
 ·obtain⟨y,qa,t,qb,h1,h2,h3⟩:=zE7 h;rcases h3 with⟨hi,e,h3,rfl⟩ | ⟨hi,rfl,rfl⟩
  ·obtain⟨e3,d3,l3⟩:=(qO1 E _).body _ _ h3 he;obtain⟨e2,d2,l2⟩:=(qO1 E _).body _ _ h2 e3;obtain⟨e1,d1,l1⟩:=jD h1 e2;(try dsimp only at d1 d2 l2 e2);have l3':qb.l.length≤q1.l.length:=l3;obtain⟨y',qa',g1,g2⟩:=RQ.expr L hr hd h0 h9 h1 e2 Yo;obtain⟨t',qb',j1,j2⟩:=ih.body _ _ _ d _ _ h2 e3 Yo Yo h0 h9 g2;simp only [qY];rw [g1];dsimp only;rw [j1];dsimp only;rcases j2 with⟨⟨⟨b1,rfl⟩,rfl⟩,rfl,hnk⟩ | ⟨hb,hble⟩
   ·rw [vC L (s:=qb'.s) e3 hnk,hi,lM rfl];obtain⟨e',q1',v1,v2⟩:=ih.body _ _ True d _ _ h3 he hl (by show qb'.s.deep=d;omega) h0 h9 (RQ.one (q:=qb'.on (zE qb'.s)) e3 (by show qb'.s.deep=d;omega) hnk trivial);rw [v1];exact⟨_,_,rfl,v2.mono fun⟨_,b3⟩=>⟨b1,by rw [b3]⟩⟩
   ·rw [hb.is L Yd];exact⟨_,_,rfl,.inr ⟨hb,Yo⟩⟩
  ·obtain⟨e2,d2,l2⟩:=(qO1 E _).body _ _ h2 he;obtain⟨e1,d1,l1⟩:=jD h1 e2;(try dsimp only at d1 d2 l2 e2);obtain⟨y',qa',g1,g2⟩:=RQ.expr L hr hd h0 h9 h1 e2 Yo;obtain⟨t',qb',j1,j2⟩:=ih.body _ _ _ d _ _ h2 he Yo Yo h0 h9 g2;simp only [qY];rw [g1];dsimp only;rw [j1];dsimp only;rcases j2 with⟨⟨⟨b1,rfl⟩,rfl⟩,rfl,hnk⟩ | ⟨hb,hble⟩
   ·rw [vC L he hnk,hi];exact⟨_,_,rfl,.inl ⟨⟨b1,rfl⟩,rfl,hnk⟩⟩
   ·rw [hb.is L Yd];exact⟨_,_,rfl,.inr ⟨hb,Yo⟩⟩
 ·obtain⟨y,qa,t,h1,h2,rfl⟩:=zE8 h;obtain⟨e2,d2,l2⟩:=(qO1 E _).body _ _ h2 he;obtain⟨e3,m3⟩:=wC (E:=E) (s:=zI E qa.s (bs "bound")) e2;obtain⟨e4,_,m4⟩:=jU (E:=E) (s:=qa.s) (w:=bs "bound") e3;obtain⟨e1,d1,l1⟩:=jD h1 e4;(try dsimp only at d1);have l2':qa.l.length≤q1.l.length:=l2;obtain⟨y',qa',g1,g2⟩:=RQ.expr L hr hd h0 h9 h1 e4 Yo;have g3:=RQ.must L (w:=bs "bound") Yd g2 Yo e3;have hdm:(zI E qa.s (bs "bound")).deep=d:=by rw [m4];show qa.s.deep=d;omega
  have g4:=RQ.num L g3 hdm e2;have hdn:(jB E (zI E qa.s (bs "bound"))).2.deep=d:=by rw [m3];exact hdm
  obtain⟨t',q1',v1,v2⟩:=ih.body _ _ _ d _ _ h2 he hl hdn h0 h9 g4;simp only [qY];rw [g1];dsimp only;have v1':kE E' (f+8) (qa'.on (jB E' (zI E' qa'.s (bs "bound"))).2)=some (t',q1'):=v1;rw [v1'];exact⟨_,_,rfl,v2.mono fun⟨⟨⟨b1,b2⟩,b3⟩,b4⟩=>⟨b1,by rw [b2,b4];have b5:(jB E' (zI E' qa'.s (bs "bound"))).1=(jB E (zI E qa.s (bs "bound"))).1:=b3;rw [b5]⟩⟩
 ·obtain⟨l,h1,rfl⟩:=zE9 h;obtain⟨e1,d1,l1⟩:=zV7 h1 he;obtain⟨e0,_,m0⟩:=kQ (E:=E) (s:=q.s) e1;have hn:=RQ.name L hr hd e1;have hdn:(q.on (zL E q.s)).s.deep=d:=by show(zL E q.s).deep=d;rw [m0];exact hd
  obtain⟨l',q1',v1,v2⟩:=RQ.exprs L hn hdn h0 h9 h1 he hl;simp only [qY];rw [v1];exact⟨_,_,rfl,v2.mono fun⟨⟨b1,b2⟩,b3⟩=>⟨b1,by rw [b2,b3]⟩⟩
theorem kE2 (L:kT E E' k a):∀ f,kL6 E E' k a f
 | 0=>⟨fun j _ q q' P d x q1 h=>by simp [qY]at h,fun q q' P d x q1 h=>by simp [kE]at h,fun q q' out out' P d x q1 _ h=>by simp [jM]at h⟩
 | f+1=>⟨jJ5 L f (kE2 L f),jJ4 L f (kE2 L f),qY8 L f (kE2 L f)⟩
end
end
end Go.Proofs.YtfdaebgllibphaaGreatDoor
