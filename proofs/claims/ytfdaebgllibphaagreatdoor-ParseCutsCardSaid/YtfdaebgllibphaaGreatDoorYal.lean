import Derived.Test.YtfdaebgllibphaaGreatDoorYaf
set_option linter.unusedVariables false
set_option linter.unusedSimpArgs false
set_option maxRecDepth 100000
set_option maxHeartbeats 16000000
namespace Go.Proofs.YtfdaebgllibphaaGreatDoor
structure kN3 (E:Env) (f:Nat):Prop where
 choice:∀ s r,zM E f s=some r→zM E (f+1) s=some r
 chain:∀ k s r,qN E f k s=some r→qN E (f+1) k s=some r
 links:∀ k x s r,qR E f k x s=some r→qR E (f+1) k x s=some r
 operand:∀ s r,zR E f s=some r→zR E (f+1) s=some r
 casts:∀ x s r,jI E f x s=some r→jI E (f+1) x s=some r
 within:∀ s a b r,zX E f s a b=some r→zX E (f+1) s a b=some r
 basis:∀ s r,qJ E f s=some r→qJ E (f+1) s=some r
theorem qM1 (E:Env):∀ f,kN3 E f
 | 0=>⟨fun s r h=>by simp [zM]at h,fun k s r h=>by simp [qN]at h,fun k x s r h=>by simp [qR]at h,fun s r h=>by simp [zR]at h,fun x s r h=>by simp [jI]at h,fun s a b r h=>by simp [zX]at h,fun s r h=>by simp [qJ]at h⟩
 | f+1=>by
   have ih:=qM1 E f;refine⟨?_,?_,?_,?_,?_,?_,?_⟩
   ·intro s r h;rw [zM]at h ⊢;cases hc:qN E f 1 s with
    | none=>rw [hc]at h;cases h
    | some q =>
      obtain⟨x,s1⟩:=q;rw [hc]at h;rw [ih.chain _ _ _ hc];(try dsimp only at h ⊢);cases ho:okP s1 with
      | false=>rw [ho]at h;cases h
      | true =>
        rw [ho]at h;(try dsimp only at h ⊢);cases hb:zC7 E s1 [63]with
        | false=>rw [hb]at h;exact h
        | true =>
          rw [hb]at h;(try dsimp only at h ⊢);cases h1:zM E f (zI4 E s1 [63])with
          | none=>rw [h1]at h;cases h
          | some q =>
            obtain⟨y,s3⟩:=q;rw [h1]at h;rw [ih.choice _ _ h1];(try dsimp only at h ⊢);cases h2:zM E f (zI E s3 [58])with
            | none=>rw [h2]at h;cases h
            | some q =>
              obtain⟨z,s5⟩:=q;rw [h2]at h;rw [ih.choice _ _ h2];exact h
   ·intro k s r h;rw [qN]at h ⊢;cases h1:zR E f s with
    | none=>rw [h1]at h;cases h
    | some q =>
      obtain⟨x,s1⟩:=q;rw [h1]at h;rw [ih.operand _ _ h1];exact ih.links _ _ _ _ h
   ·intro k x s r h;rw [qR]at h ⊢;cases h0:decide (s.e=0)with
    | false=>rw [h0]at h;exact h
    | true =>
      rw [h0]at h;(try dsimp only at h ⊢);cases h1:(if (zC E s).kind=4 then jY (zC E s).text true else none)with
      | none=>rw [h1]at h;exact h
      | some op =>
        rw [h1]at h;(try dsimp only at h ⊢);cases h2:decide (kD op<k)with
        | true=>rw [h2]at h;exact h
        | false =>
          rw [h2]at h;(try dsimp only at h ⊢);cases h3:qN E f (kD op+1) (zE s)with
          | none=>rw [h3]at h;cases h
          | some q =>
            obtain⟨y,s2⟩:=q;rw [h3]at h;rw [ih.chain _ _ _ h3];(try dsimp only at h ⊢);cases h4:okW [x,y]with
            | false=>rw [h4]at h;cases h
            | true=>rw [h4]at h;exact ih.links _ _ _ _ h
   ·intro s r h;rw [zR]at h ⊢;cases h1:(if (zC E s).kind=4 then jY (zC E s).text false else none)with
    | some op =>
      rw [h1]at h;(try dsimp only at h ⊢);cases ho:okP s with
      | false=>rw [ho]at h;cases h
      | true =>
        rw [ho]at h;(try dsimp only at h ⊢);cases h2:zR E f (kV E s (zC E s).text)with
        | none=>rw [h2]at h;cases h
        | some q=>rw [h2]at h;rw [ih.operand _ _ h2];exact h
    | none =>
      rw [h1]at h;(try dsimp only at h ⊢);cases h2:qJ E f s with
      | none=>rw [h2]at h;cases h
      | some q =>
        obtain⟨x,s1⟩:=q;rw [h2]at h;rw [ih.basis _ _ h2];exact ih.casts _ _ _ h
   ·intro x s r h;rw [jI]at h ⊢;cases h1:isP E s [64]with
    | false=>rw [h1]at h;exact h
    | true =>
      rw [h1]at h;(try dsimp only at h ⊢);cases h2:okW [x]with
      | false=>rw [h2]at h;cases h
      | true=>rw [h2]at h;exact ih.casts _ _ _ h
   ·intro s a b r h;rw [zX]at h ⊢;cases ho:okP s with
    | false=>rw [ho]at h;cases h
    | true =>
      rw [ho]at h;(try dsimp only at h ⊢);cases h1:zM E f (kV E s a)with
      | none=>rw [h1]at h;cases h
      | some q=>rw [h1]at h;rw [ih.choice _ _ h1];exact h
   ·intro s r h;rw [qJ]at h ⊢;cases h0:decide (s.e=0)with
    | false=>rw [h0]at h;exact h
    | true =>
      rw [h0]at h;(try dsimp only at h ⊢);cases h1:decide ((zC E s).kind=3)with
      | true=>rw [h1]at h;exact h
      | false =>
        rw [h1]at h;(try dsimp only at h ⊢);cases h2:decide ((zC E s).text=[40])with
        | true=>rw [h2]at h;exact ih.within _ _ _ _ h
        | false =>
          rw [h2]at h;(try dsimp only at h ⊢);cases h3:decide ((zC E s).text=[100,105,115,107])with
          | true =>
            rw [h3]at h;(try dsimp only at h ⊢);cases h4:zX E f (zE s) [91] [93]with
            | none=>rw [h4]at h;cases h
            | some q=>rw [h4]at h;rw [ih.within _ _ _ _ h4];exact h
          | false =>
            rw [h3]at h;(try dsimp only at h ⊢);cases h5:decide ((zC E (zL E s)).text=[91])with
            | false=>rw [h5]at h;exact h
            | true =>
              rw [h5]at h;(try dsimp only at h ⊢);cases h4:zX E f (zL E s) [91] [93]with
              | none=>rw [h4]at h;cases h
              | some q=>rw [h4]at h;rw [ih.within _ _ _ _ h4];exact h
theorem zA9 {E:Env} {f g:Nat} (h:f≤g) {s:PSt} {r} (hc:zM E f s=some r):zM E g s=some r:=by
 induction h with
 | refl=>exact hc
 | step _ ih=>exact(qM1 E _).choice _ _ ih
theorem zN6 {E:Env} {f g:Nat} (h:f≤g) {k:Nat} {s:PSt} {r} (hc:qN E f k s=some r):qN E g k s=some r:=by
 induction h with
 | refl=>exact hc
 | step _ ih=>exact(qM1 E _).chain _ _ _ ih
theorem zN7 {E:Env} {f g:Nat} (h:f≤g) {k:Nat} {x:Nd} {s:PSt} {r} (hc:qR E f k x s=some r):qR E g k x s=some r:=by
 induction h with
 | refl=>exact hc
 | step _ ih=>exact(qM1 E _).links _ _ _ _ ih
theorem qF8 {E:Env} {f g:Nat} (h:f≤g) {s:PSt} {r} (hc:zR E f s=some r):zR E g s=some r:=by
 induction h with
 | refl=>exact hc
 | step _ ih=>exact(qM1 E _).operand _ _ ih
theorem zX9 {E:Env} {f g:Nat} (h:f≤g) {x:Nd} {s:PSt} {r} (hc:jI E f x s=some r):jI E g x s=some r:=by
 induction h with
 | refl=>exact hc
 | step _ ih=>exact(qM1 E _).casts _ _ _ ih
theorem zY1 {E:Env} {f g:Nat} (h:f≤g) {s:PSt} {r} (hc:qJ E f s=some r):qJ E g s=some r:=by
 induction h with
 | refl=>exact hc
 | step _ ih=>exact(qM1 E _).basis _ _ ih
section
abbrev Wd:=Nat×List UInt8
def nw (E:Env) (n:Nat):Wd:=match E.toks[n]? with
 | some t=>(t.kind,t.text)
 | none=>(0,[])
def plc (E:Env) (n:Nat):Nat:=match E.toks[n]? with
 | some t=>t.at'
 | none=>E.text.length
abbrev St (n:Nat) (d:Int) (fl:Nat):PSt:=⟨n,d,fl,0⟩
section
variable {E:Env} {n:Nat} {d:Int} {fl:Nat}
theorem qU:(zC E (St n d fl)).kind=(nw E n).1:=by unfold zC nw;rw [lN Ym];cases E.toks[n]? <;> rfl
theorem zT:(zC E (St n d fl)).text=(nw E n).2:=by unfold zC nw;rw [lN Ym];cases E.toks[n]? <;> rfl
theorem yP:(zC E (St n d fl)).at'=plc E n:=by unfold zC plc;rw [lN Ym];cases E.toks[n]? <;> rfl
theorem zG4 {u:List UInt8} (h:(nw E n).2=u) (hk:(nw E n).1≠0):isP E (St n d fl) u=true:=by unfold isP;rw [qU,zT,lH hk,lH h];rfl
theorem qF9 {u:List UInt8} (h:(nw E n).2≠u):isP E (St n d fl) u=false:=by unfold isP;rw [zT,lG h,Bool.and_false]
theorem kI {u:List UInt8} (h:(nw E n).2=u) (hk:(nw E n).1≠0):zI E (St n d fl) u=St (n+1) d fl:=by unfold zI;rw [zG4 h hk];rfl
theorem qM2 {u:List UInt8} (h:(nw E n).2=u) (hu:u≠[]):zC7 E (St n d fl) u=true:=by unfold zC7;rw [zT,lH h,lH (by rw [h];exact hu)];rfl
theorem kH4 {u:List UInt8} (h:(nw E n).2≠u):zC7 E (St n d fl) u=false:=by unfold zC7;rw [zT,lG h,Bool.false_and]
theorem qQ3 {u:List UInt8} (h:(nw E n).2=u) (hu:u≠[]) (hd:d<200):zI4 E (St n d fl) u=St (n+1) (d+1) fl:=by unfold zI4;rw [qM2 h hu,lM rfl,lN (by show ¬(200:Int)≤d;omega)];rfl
theorem zQ6 {u:List UInt8} (h:(nw E n).2=u) (hu:u≠[]) (hd:d<200):kV E (St n d fl) u=St (n+1) (d+1) fl:=by unfold kV;rw [qM2 h hu,lM rfl,qQ3 h hu hd]
theorem qQ4 {u:List UInt8} (h:(nw E n).2=u) (hk:(nw E n).1≠0):wN E (St n d fl) u=St (n+1) (d-1) fl:=by unfold wN;rw [kI h hk];rfl
theorem wU (h0:-1000≤d) (h1:d≤1000):okP (St n d fl)=true:=by unfold okP;rw [lH (show(-1000000:Int)≤d by omega),lH (show d≤(1000000:Int) by omega)];rfl
theorem xU {u:List UInt8} (h:nw E n=(1,u)) (hr:vO u=false):jA E (St n d fl)=u∧zL E (St n d fl)=St (n+1) d fl:=by
 have hb:nameB E (St n d fl)=true:=by unfold nameB;rw [qU,zT,h,hr];rfl
 unfold jA zL;rw [hb,zT,h];exact⟨rfl,rfl⟩
theorem zB1 {u:List UInt8} {v:Nat} (h:nw E n=(2,u)) (hv:vS u=(v,0)):jB E (St n d fl)=(v,St (n+1) d fl):=by unfold jB;rw [qU,zT,h];simp only [hv,if_true];rfl
end
def AtW (E:Env):Nat→List Wd→Prop
 | _,[]=>True
 | n,w :: r=>nw E n=w∧AtW E (n+1) r
theorem AtW.app {E:Env}:∀ {n:Nat} {a b:List Wd},AtW E n (a++b)→AtW E n a∧AtW E (n+a.length) b
 | n,[],b,h=>⟨trivial,h⟩
 | n,w :: r,b,h=>by obtain⟨h1,h2⟩:=AtW.app (n:=n+1) (a:=r) (b:=b) h.2;refine⟨⟨h.1,h1⟩,?_⟩;have e:n+(w :: r).length=n+1+r.length:=Yp;rw [e];exact h2
theorem AtW.to {E:Env}:∀ {n:Nat} {a b:List Wd},AtW E n a→AtW E (n+a.length) b→AtW E n (a++b)
 | n,[],b,_,h=>h
 | n,w :: r,b,h,hb=>by have e:n+(w :: r).length=n+1+r.length:=Yp;rw [e]at hb;exact⟨h.1,AtW.to h.2 hb⟩
def qZ7 (wide:Bool) (y:Ex):Bool:=wide || (decide (zM6 y=6) || (decide (zM6 y=7) || decide (zM6 y=5)))
def jE2 (wide:Bool) (y:Ex) (t:List Wd):List Wd:=if qZ7 wide y then(4,[40]) :: (t++[(4,[41])]) else t
mutual
def wX (wide:Bool):Ex→List Wd
 | .mk k o v wd n l =>
   let r:=wXs wide l
   let s:Nat→List Wd:=fun i=>match l[i]? with
    | some y=>jE2 wide y (r.getD i [])
    | none=>[]
   if k=1 then [(3,qZ v++58 :: qZ wd.toNat)]
   else if k=2 then [(1,n)]
   else if k=3 then(1,n) :: (4,[91]) :: (r.getD 0 []++[(4,[93])])
   else if k=4 then(1,bs "disk") :: (4,[91]) :: (r.getD 0 []++[(4,[93])])
   else if k=5 then(4,kK o) :: s 0
   else if k=6 then s 0++(4,kK o) :: s 1
   else if k=7 then s 0++(4,[63]) :: (s 1++(4,[58]) :: s 2)
   else s 0++[(4,[64]),(2,qZ wd.toNat)]
def wXs (wide:Bool):List Ex→List (List Wd)
 | []=>[]
 | x :: l=>wX wide x :: wXs wide l
end
abbrev sW (wide:Bool) (y:Ex):List Wd:=jE2 wide y (wX wide y)
mutual
def plX (E:Env) (wide:Bool):Nat→Ex→List Nat
 | n,.mk k o v wd nm l =>
   let r:=qQ5 E wide l
   let s:Nat→Nat→List Nat:=fun i m=>match l[i]? with
    | some y=>r.getD i (fun _=>[]) (if qZ7 wide y then m+1 else m)
    | none=>[]
   let wl:Nat→Nat:=fun i=>match l[i]? with
    | some y=>(sW wide y).length
    | none=>0
   if k=1∨k=2 then [plc E n]
   else if k=3∨k=4 then plc E n :: r.getD 0 (fun _=>[]) (n+2)
   else if k=5 then plc E n :: s 0 (n+1)
   else if k=6 then(s 0 n).headD 0 :: (s 0 n++s 1 (n+wl 0+1))
   else if k=7 then(s 0 n).headD 0 :: (s 0 n++s 1 (n+wl 0+1)++s 2 (n+wl 0+1+wl 1+1))
   else(s 0 n).headD 0 :: s 0 n
def qQ5 (E:Env) (wide:Bool):List Ex→List (Nat→List Nat)
 | []=>[]
 | x :: l=>(fun n=>plX E wide n x) :: qQ5 E wide l
end
abbrev sPl (E:Env) (wide:Bool) (n:Nat) (y:Ex):List Nat:=plX E wide (if qZ7 wide y then n+1 else n) y
mutual
def szX:Ex→Nat
 | .mk _ _ _ _ _ l=>1+kC l
def kC:List Ex→Nat
 | []=>0
 | x :: l=>szX x+kC l
end
mutual
def htX:Ex→Nat
 | .mk _ _ _ _ _ l=>1+vJ l
def vJ:List Ex→Nat
 | []=>0
 | x :: l=>max (htX x) (vJ l)
end
structure NameOk (n:List UInt8):Prop where
 word:∃ c r,n=c :: r∧qM c=true∧∀ x∈r,yU x=true
 no:vO n=false
inductive kP:Ex→Prop
 | num (v w:Nat):v≤1000000000→w≤1000000000→kP (.mk 1 0 v w [] [])
 | var (n:List UInt8):NameOk n→kP (.mk 2 0 0 0 n [])
 | elem (n:List UInt8) (y:Ex):NameOk n→kP y→kP (.mk 3 0 0 0 n [y])
 | disk (y:Ex):kP y→kP (.mk 4 0 0 0 [] [y])
 | un (o:Nat) (y:Ex):1≤o→o≤2→kP y→kP (.mk 5 o 0 0 [] [y])
 | bin (o:Nat) (x y:Ex):3≤o→o≤16→kP x→kP y→kP (.mk 6 o 0 0 [] [x,y])
 | mux (x y z:Ex):kP x→kP y→kP z→kP (.mk 7 0 0 0 [] [x,y,z])
 | cast (w:Nat) (y:Ex):w≤1000000000→kP y→kP (.mk 8 0 0 w [] [y])
structure vX (w:Wd):Prop where
 b:w.2≠[91]
 a:w.2≠[64]
 q:w.2≠[63]
 o:w.1=4→jY w.2 true=none
theorem jE (E:Env) (wide:Bool) {x:Ex} (h:kP x):∀ n,(plX E wide n x).length=szX x:=by
 induction h with
 | num v w hv hw=>intro n;simp [plX,szX,kC]
 | var nm hn=>intro n;simp [plX,szX,kC]
 | elem nm y hn hy ih=>intro n;simp [plX,qQ5,szX,kC,ih];omega
 | disk y hy ih=>intro n;simp [plX,qQ5,szX,kC,ih];omega
 | un o y h1 h2 hy ih=>intro n;simp [plX,qQ5,szX,kC,ih];omega
 | bin o x y h1 h2 hx hy ih1 ih2=>intro n;simp [plX,qQ5,szX,kC,ih1,ih2];omega
 | mux x y z hx hy hz ih1 ih2 ih3=>intro n;simp [plX,qQ5,szX,kC,ih1,ih2,ih3];omega
 | cast w y hw hy ih=>intro n;simp [plX,qQ5,szX,kC,ih];omega
section
variable {E:Env} {n m:Nat} {d:Int} {fl:Nat}
theorem yB {x:Nd} (h:(nw E n).2≠[64]):∃ f,jI E f x (St n d fl)=some (x,St n d fl):=⟨1,by rw [jI,qF9 h]⟩
theorem yS {k:Nat} {x:Nd} (h:(nw E n).1=4→jY (nw E n).2 true=none):∃ f,qR E f k x (St n d fl)=some (x,St n d fl):=⟨1,by
 rw [qR,lH (show(St n d fl).e=0 from rfl),qU,zT];dsimp only;by_cases h4:(nw E n).1=4
 ·rw [lM h4,h h4]
 ·rw [lN h4]⟩
theorem yZ {k:Nat} {s s1:PSt} {x:Nd} {r} (h:∃ f,zR E f s=some (x,s1)) (hl:∃ f,qR E f k x s1=some r):∃ f,qN E f k s=some r:=by obtain⟨f,h⟩:=h;obtain⟨g,hl⟩:=hl;refine⟨max f g+1,?_⟩;rw [qN,qF8 (cO f g) h];exact zN7 (cN f g) hl
theorem xM {s:PSt} {x:Nd} (h:∃ f,qN E f 1 s=some (x,St m d fl)) (h0:0≤d) (h1:d≤200) (hq:(nw E m).2≠[63]):∃ f,zM E f s=some (x,St m d fl):=by obtain⟨f,h⟩:=h;refine⟨f+1,?_⟩;rw [zM,h];dsimp only;rw [wU Yo Yo,kH4 hq]
theorem kA {s s1:PSt} {x:Nd} {r} (hs:s=St n d fl) (ho:(nw E n).1=4→jY (nw E n).2 false=none) (h:∃ f,qJ E f s=some (x,s1)) (hc:∃ f,jI E f x s1=some r):∃ f,zR E f s=some r:=by
 subst hs;obtain⟨f,h⟩:=h;obtain⟨g,hc⟩:=hc;refine⟨max f g+1,?_⟩;rw [zR,qU,zT];have e:(if (nw E n).1=4 then jY (nw E n).2 false else none)=none:=by
  by_cases h4:(nw E n).1=4
  ·rw [lM h4,ho h4]
  ·rw [lN h4]
 rw [e];dsimp only;rw [zY1 (cO f g) h];exact zX9 (cN f g) hc
theorem zF3 {a b:List UInt8} {x:Nd} (h0:0≤d) (h1:d<200) (ha:(nw E n).2=a) (hne:a≠[]) (h:∃ f,zM E f (St (n+1) (d+1) fl)=some (x,St m (d+1) fl)) (hb:(nw E m).2=b) (hk:(nw E m).1≠0):∃ f,zX E f (St n d fl) a b=some (x,St (m+1) d fl):=by obtain⟨f,h⟩:=h;refine⟨f+1,?_⟩;rw [zX,wU Yo Yo];dsimp only;rw [zQ6 ha hne h1,h];dsimp only;rw [wU Yo Yo,qQ4 hb hk];dsimp only;rw [Int.add_sub_cancel]
end
def PX (E:Env) (wide:Bool) (x:Ex):Prop:=∀ (n:Nat) (d:Int) (fl:Nat),0≤d→d+2*(htX x:Int)≤200→szX x≤1000000→AtW E n (wX wide x)→vX (nw E (n+(wX wide x).length)) →
 ∃ f,zM E f (St n d fl)=some ((x,plX E wide n x),St (n+(wX wide x).length) d fl)
def OX (E:Env) (wide:Bool) (x:Ex):Prop:=∀ (n:Nat) (d:Int) (fl:Nat),0≤d→d+2*(htX x:Int)≤200→szX x≤1000000→AtW E n (wX wide x)→(nw E (n+(wX wide x).length)).2≠[91] →
 ∀ r,(∃ f,jI E f (x,plX E wide n x) (St (n+(wX wide x).length) d fl)=some r)→∃ f,zR E f (St n d fl)=some r
def SX (E:Env) (wide:Bool) (x:Ex):Prop:=∀ (n:Nat) (d:Int) (fl:Nat),0≤d→d+2*(htX x:Int)+1≤200→szX x≤1000000→AtW E n (sW wide x)→(nw E (n+(sW wide x).length)).2≠[91] →
 ∀ r,(∃ f,jI E f (x,sPl E wide n x) (St (n+(sW wide x).length) d fl)=some r)→∃ f,zR E f (St n d fl)=some r
section
variable {E:Env} {wide:Bool} {x y z:Ex}
theorem zB2:vX (4,[41]):=⟨Yd,Yd,Yd,fun _=>Yd⟩
theorem zH5:vX (4,[93]):=⟨Yd,Yd,Yd,fun _=>Yd⟩
theorem qM3:vX (4,[58]):=⟨Yd,Yd,Yd,fun _=>Yd⟩
theorem OX.p (h:OX E wide x):PX E wide x:=by intro n d fl h0 h1 hz ha hs;refine xM (yZ (h n d fl h0 h1 hz ha hs.b _ (yB hs.a)) (yS hs.o)) h0 (by have:=h1;omega) hs.q
theorem PX.par (h:PX E wide x) (hp:qZ7 wide x=true):SX E wide x:=by
 intro n d fl h0 h1 hz ha hb r hr;have e:sW wide x=(4,[40]) :: (wX wide x++[(4,[41])]):=by show jE2 _ _ _=_;unfold jE2;rw [lM hp]
 have e2:sPl E wide n x=plX E wide (n+1) x:=by show plX _ _ _ _=_;rw [lM hp]
 rw [e]at ha hr;rw [e2]at hr;obtain⟨a1,a2⟩:=ha;obtain⟨a2,a3,_⟩:=AtW.app a2;have hl:n+((4,[40]) :: (wX wide x++[(4,[41])])).length=n+1+(wX wide x).length+1:=Yp;rw [hl]at hr;have hc:=h (n+1) (d+1) fl Yo Yo hz a2 (by rw [a3];exact zB2);obtain⟨f,hw⟩:=zF3 (a:=[40]) (b:=[41]) h0 Yo (by rw [a1]) Yd hc (by rw [a3]) (by rw [a3];decide);refine kA rfl (fun _=>by rw [a1];decide) ⟨f+1,?_⟩ hr;rw [qJ,lH (show(St n d fl).e=0 from rfl),qU,zT,a1];exact hw
theorem OX.s (h:OX E wide x) (hp:qZ7 wide x=false):SX E wide x:=by
 intro n d fl h0 h1 hz ha hb r hr;have e:sW wide x=wX wide x:=by show jE2 _ _ _=_;unfold jE2;rw [lN (by rw [hp];decide)]
 have e2:sPl E wide n x=plX E wide n x:=by show plX _ _ _ _=_;rw [lN (by rw [hp];decide)]
 rw [e]at ha hr hb;rw [e2]at hr;exact h n d fl h0 Yo hz ha hb r hr
theorem OX.s' (h:OX E wide x):SX E wide x:=by
 cases hp:qZ7 wide x with
 | true=>exact h.p.par hp
 | false=>exact h.s hp
theorem SX.c (h:SX E wide x) {n:Nat} {d:Int} {fl:Nat} (h0:0≤d) (h1:d+2*(htX x:Int)+1≤200) (hz:szX x≤1000000) (ha:AtW E n (sW wide x)) (hs:vX (nw E (n+(sW wide x).length))):∃ f,zM E f (St n d fl)=some ((x,sPl E wide n x),St (n+(sW wide x).length) d fl) :=
 xM (yZ (h n d fl h0 h1 hz ha hs.b _ (yB hs.a)) (yS hs.o)) h0 Yo hs.q
end
end
structure Pc where
 gap:List UInt8
 kind:Nat
 tok:List UInt8
def jF (l:List Pc):List UInt8:=l.flatMap fun p=>p.gap++p.tok
theorem zF (p:Pc) (l:List Pc):jF (p :: l)=p.gap++p.tok++jF l:=by simp [jF]
theorem qD (l m:List Pc):jF (l++m)=jF l++jF m:=by simp [jF]
def yI:Nat→List Pc→List Tk
 | _,[]=>[]
 | o,p :: r=>⟨p.kind,p.tok,o+p.gap.length,o+p.gap.length+p.tok.length⟩ :: yI (o+p.gap.length+p.tok.length) r
def LexOk:List Pc→List UInt8→Prop
 | [],_=>True
 | p :: r,t=>jG false (p.gap++(p.tok++(jF r++t)))=p.gap.length∧zC1 (p.tok++(jF r++t))=(p.kind,p.tok.length)∧p.kind≠0∧p.tok≠[]∧LexOk r t
theorem LexOk.app:∀ (a b:List Pc) (t:List UInt8),LexOk a (jF b++t)→LexOk b t→LexOk (a++b) t
 | [],b,t,_,h=>h
 | p :: r,b,t,h,hb=>by
   obtain⟨h1,h2,h3,h4,h5⟩:=h;rw [lR];refine⟨?_,?_,h3,h4,LexOk.app r b t h5 hb⟩
   ·rw [qD,lS];exact h1
   ·rw [qD,lS];exact h2
theorem LexOk.left:∀ (a b:List Pc) (t:List UInt8),LexOk (a++b) t→LexOk a (jF b++t)
 | [],b,t,_=>trivial
 | p :: r,b,t,h=>by rw [lR]at h;obtain⟨h1,h2,h3,h4,h5⟩:=h;rw [qD,lS]at h1 h2;exact⟨h1,h2,h3,h4,LexOk.left r b t h5⟩
theorem LexOk.right:∀ (a b:List Pc) (t:List UInt8),LexOk (a++b) t→LexOk b t
 | [],b,t,h=>h
 | p :: r,b,t,h=>LexOk.right r b t h.2.2.2.2
theorem qM4 (pre gap tok rest:List UInt8) (k:Nat) (hg:jG false (gap++(tok++rest))=gap.length) (ht:zC1 (tok++rest)=(k,tok.length)) (hk:k≠0) (hn:tok≠[]) :
 kZ (pre++(gap++(tok++rest))) pre.length=(k,pre.length+gap.length,pre.length+gap.length+tok.length,false):=by
 have d1:(pre++(gap++(tok++rest))).drop pre.length=gap++(tok++rest):=List.drop_left;have d2:(pre++(gap++(tok++rest))).drop (pre.length+gap.length)=tok++rest:=by rw [←lS,←Ya];exact List.drop_left
 have hl:0<tok.length:=List.length_pos_iff.2 hn;unfold kZ;simp only [d1,hg,d2,ht,Ya];rw [lN Yo,lN hk]
def ysP (o:Nat) (l:List Pc):List Yt:=(yI o l).map fun t=>(t.kind,t.at',t.fin,false)
theorem zT2:∀ (l:List Pc) (pre tail:List UInt8) (f:Nat),LexOk l tail→ylT (pre++(jF l++tail)) (l.length+f) pre.length=ysP pre.length l++ylT (pre++(jF l++tail)) f (pre.length+(jF l).length)
 | [],pre,tail,f,_=>by simp [ysP,yI,jF]
 | p :: r,pre,tail,f,h=>by
   obtain⟨h1,h2,h3,h4,h5⟩:=h;have e:pre++(jF (p :: r)++tail)=pre++(p.gap++(p.tok++(jF r++tail))):=by rw [zF];simp only [lS]
   have hx:=qM4 pre p.gap p.tok (jF r++tail) p.kind h1 h2 h3 h4;have ih:=zT2 r (pre++p.gap++p.tok) tail f h5;have e2:pre++p.gap++p.tok++(jF r++tail)=pre++(jF (p :: r)++tail):=by rw [zF];simp only [lS]
   rw [e2,Ya,Ya]at ih;have hf:(p :: r).length+f=(r.length+f)+1:=Yp;rw [hf];conv=>lhs;unfold ylT
   rw [e,hx];dsimp only;rw [lN h3,←e,ih];have hl:pre.length+(jF (p :: r)).length=pre.length+p.gap.length+p.tok.length+(jF r).length:=by rw [zF];simp only [Ya];omega
   rw [hl];rfl
theorem jZ7 (pre m post:List UInt8) (a b:Nat) (ha:a=pre.length) (hb:b=a+m.length):jL6 (pre++(m++post)) a b=m:=by subst ha hb;unfold jL6;rw [List.drop_left,Nat.add_sub_cancel_left,List.take_left'];rfl
theorem jE3:∀ (l:List Pc) (pre tail:List UInt8),LexOk l tail→zY (pre++(jF l++tail)) (ysP pre.length l)=yI pre.length l
 | [],pre,tail,_=>rfl
 | p :: r,pre,tail,h=>by
   obtain⟨h1,h2,h3,h4,h5⟩:=h;have ih:=jE3 r (pre++p.gap++p.tok) tail h5;have e2:pre++p.gap++p.tok++(jF r++tail)=pre++(jF (p :: r)++tail):=by rw [zF];simp only [lS]
   rw [e2,Ya,Ya]at ih;have hc:jL6 (pre++(jF (p :: r)++tail)) (pre.length+p.gap.length) (pre.length+p.gap.length+p.tok.length)=p.tok:=by
    have e3:pre++(jF (p :: r)++tail)=(pre++p.gap)++(p.tok++(jF r++tail)):=by rw [zF];simp only [lS]
    rw [e3];exact jZ7 _ _ _ _ _ (by rw [Ya]) rfl
   show zY _ ((p.kind,pre.length+p.gap.length,pre.length+p.gap.length+p.tok.length,false) :: ysP (pre.length+p.gap.length+p.tok.length) r)=_;unfold zY at ih ⊢;rw [List.filter_cons_of_pos (by simpa using h3),lY,ih];show tkY _ _ :: _=_ :: _;congr 1;unfold tkY;dsimp only;rw [hc]
theorem zQ7:∀ (l:List Pc) (t:List UInt8),LexOk l t→l.length≤(jF l).length
 | [],_,_=>lV _
 | p :: r,t,h=>by obtain⟨_,_,_,h4,h5⟩:=h;have:=zQ7 r t h5;have:=List.length_pos_iff.2 h4;rw [zF];simp only [Ya,Yc];omega
theorem jE4 (t:List UInt8) (a b:List Yt):zY t (a++b)=zY t a++zY t b:=by unfold zY;rw [List.filter_append,cB]
theorem jE5 (o:Nat) (l:List Pc):(ysP o l).find? (fun y=>y.2.2.2)=none:=List.find?_eq_none.2 fun y hy=>by unfold ysP at hy;obtain⟨t,_,rfl⟩:=List.mem_map.1 hy;simp
theorem zJ2 (l:List Pc) (tail:List UInt8) (h:LexOk l tail) (ht:jG false tail=tail.length):zY (jF l++tail) (kG (jF l++tail))=yI 0 l∧zI3 (kG (jF l++tail))=none:=by
 have hl:=zQ7 l tail h;obtain⟨f,hf⟩:∃ f,(jF l++tail).length+2=l.length+(f+1):=⟨(jF l++tail).length+1-l.length,by rw [Ya];omega⟩;have h1:=zT2 l [] tail (f+1) h;have h2:=jE3 l [] tail h;simp only [cF,Yn,Nat.zero_add]at h1 h2;have h3:kZ (jF l++tail) (jF l).length=(0,(jF l++tail).length,(jF l++tail).length,false):=by unfold kZ;simp only [List.drop_left,ht,←Ya];rw [lM trivial]
 have h4:ylT (jF l++tail) (f+1) (jF l).length=[(0,(jF l++tail).length,(jF l++tail).length,false)]:=by unfold ylT;rw [h3];simp
 have h5:kG (jF l++tail)=ysP 0 l++[(0,(jF l++tail).length,(jF l++tail).length,false)]:=by unfold kG;rw [hf,h1,h4]
 rw [h5];refine⟨?_,?_⟩
 ·rw [jE4,h2];simp [zY]
 ·unfold zI3;rw [List.find?_append,jE5];rfl
def GapOk (g:List UInt8):Prop:=∀ x,jG false (g++x)=g.length+jG false x
theorem GapOk.nil:GapOk []:=fun x=>Ym
theorem GapOk.cons {c:UInt8} {g:List UInt8} (h:yJ c=true) (hg:GapOk g):GapOk (c :: g):=fun x=>by
 have hc:¬c.toNat=35:=by intro e;unfold yJ at h;simp [e]at h
 rw [lR];simp only [jG,lN hc,lM h,hg x,Yc];omega
theorem qQ6:∀ (l x:List UInt8),(∀ c∈l,c.toNat≠10)→jG true (l++(10 :: x))=l.length+1+jG false x
 | [],x,_=>by simp [jG]
 | c :: l,x,h=>by have h1:decide (c.toNat≠10)=true:=lH (h c Ym);have ih:=qQ6 l x fun d hd=>h d (by simp [hd]);rw [lR];simp only [jG,h1,ih,Yc];omega
theorem GapOk.rem {l g:List UInt8} (h:∀ c∈l,c.toNat≠10) (hg:GapOk g):GapOk (35 :: (l++(10 :: g))):=fun x=>by have e:(35 :: (l++(10 :: g)))++x=35 :: (l++(10 :: (g++x))):=Ym;rw [e];have h35:(35:UInt8).toNat=35:=rfl;simp only [jG,lM h35,qQ6 _ _ h,hg x,Yc,Ya];omega
theorem GapOk.app {g m:List UInt8} (hg:GapOk g) (hm:GapOk m):GapOk (g++m):=fun x=>by rw [lS,hg,hm,Ya,Nat.add_assoc]
theorem GapOk.one {c:UInt8} (h:yJ c=true):GapOk [c]:=.cons h .nil
theorem GapOk.end {g:List UInt8} (h:GapOk g):jG false g=g.length:=by have:=h [];simpa [jG]using this
theorem vY {c:UInt8} (r:List UInt8) (h:yJ c=false) (h1:c.toNat≠35):jG false (c :: r)=0:=by simp [jG,lN h1,h]
theorem zT3:∀ (r rest:List UInt8),(∀ x∈r,yU x=true)→(∀ d,rest.head?=some d→yU d=false)→vF (r++rest)=r.length
 | [],[],_,_=>rfl
 | [],d :: s,_,h=>by simp [vF,h d rfl]
 | c :: r,rest,h,h2=>by rw [lR];simp only [vF,h c Ym,if_true,Yc];rw [zT3 r rest (fun x hx=>h x (by simp [hx])) h2]
theorem vK:∀ (r rest:List UInt8),(∀ x∈r,zV x=true)→(∀ d,rest.head?=some d→zV d=false)→jT (r++rest)=r.length
 | [],[],_,_=>rfl
 | [],d :: s,_,h=>by simp [jT,h d rfl]
 | c :: r,rest,h,h2=>by rw [lR];simp only [jT,h c Ym,if_true,Yc];rw [vK r rest (fun x hx=>h x (by simp [hx])) h2]
theorem zD3 {c:UInt8} (h:zV c=true):qM c=false:=by unfold zV at h;unfold qM;simp only [lZ,cC]at h;have:¬97≤c.toNat:=Yo;simp [this]
theorem zJ3 (c:UInt8) (r rest:List UInt8) (hc:qM c=true) (hr:∀ x∈r,yU x=true) (hs:∀ d,rest.head?=some d→yU d=false):zC1 ((c :: r)++rest)=(1,(c :: r).length):=by rw [lR];simp only [zC1,hc,if_true,zT3 r rest hr hs,Yc];congr 1;omega
theorem jP5 (c:UInt8) (r rest:List UInt8) (hr:∀ x∈c :: r,zV x=true) (hs:∀ d,rest.head?=some d→zV d=false∧d.toNat≠58):zC1 ((c :: r)++rest)=(2,(c :: r).length):=by
 have hc:=hr c Ym;have hd:jT (c :: (r++rest))=(c :: r).length:=vK (c :: r) rest hr fun d h=>(hs d h).1;have hdr:(c :: (r++rest)).drop (c :: r).length=rest:=by rw [←lR];exact List.drop_left
 rw [lR];simp only [zC1,zD3 hc,hc,if_true,hd,hdr,Bool.false_eq_true,if_false];cases rest with
 | nil=>rfl
 | cons d s =>
   cases s with
   | nil=>rfl
   | cons e s=>dsimp only;rw [lN fun h=>(hs d rfl).2 h.1]
theorem qQ7 (c:UInt8) (r:List UInt8) (d:UInt8) (s rest:List UInt8) (hr:∀ x∈c :: r,zV x=true) (hd:∀ x∈d :: s,zV x=true) (hs:∀ d,rest.head?=some d→zV d=false):zC1 (((c :: r)++(58 :: (d :: s)))++rest)=(3,((c :: r)++(58 :: (d :: s))).length):=by
 have hc:=hr c Ym;have h1:jT (c :: (r++(58 :: (d :: (s++rest)))))=(c :: r).length:=vK (c :: r) (58 :: (d :: (s++rest))) hr (fun x h=>by simp at h;subst h;rfl);have hdr:(c :: (r++(58 :: (d :: (s++rest))))).drop (c :: r).length=58 :: (d :: (s++rest)):=by rw [←lR];exact List.drop_left
 have h2:jT (d :: (s++rest))=(d :: s).length:=vK (d :: s) rest hd hs;have e:((c :: r)++(58 :: (d :: s)))++rest=c :: (r++(58 :: (d :: (s++rest)))):=Ym;rw [e];simp only [zC1,zD3 hc,hc,if_true,h1,hdr,Bool.false_eq_true,if_false];rw [lM ⟨rfl,hd d Ym⟩,h2];simp only [Ya,Yc];congr 1;omega
def wV (c d:UInt8):Bool:=(c == 60 && d == 60) || ((c == 62 && d == 62) || ((c == 61 && d == 61) || ((c == 33 && d == 61) || (c == 60 && d == 61))))
theorem wW (c d:UInt8) (r:List UInt8):xG (c :: d :: r)=if wV c d then 2 else if yF.contains c then 1 else 0:=by
 have e:∀ a b:UInt8,([a,b]:List UInt8).isPrefixOf (c :: d :: r)=((c == a) && (d == b)):=by intro a b;simp only [List.isPrefixOf,Bool.and_true];rw [Bool.beq_comm (a:=a),Bool.beq_comm (a:=b)]
 unfold xG yG yG yG yG yG yG wV;simp only [vT,e];cases (c == 60 && d == 60) <;> cases (c == 62 && d == 62) <;> cases (c == 61 && d == 61) <;> cases (c == 33 && d == 61) <;> cases (c == 60 && d == 61) <;> rfl
theorem zT4 (c:UInt8):xG [c]=if yF.contains c then 1 else 0:=by
 have e:∀ a b:UInt8,([a,b]:List UInt8).isPrefixOf [c]=false:=by intro a b;simp [List.isPrefixOf]
 unfold xG yG yG yG yG yG yG;simp only [vT,e];rfl
theorem jE6 (c d:UInt8) (rest:List UInt8) (h:wV c d=true) (h1:qM c=false) (h2:zV c=false):zC1 ([c,d]++rest)=(4,2):=by show zC1 (c :: d :: rest)=_;simp only [zC1,h1,h2,wW,h,if_true,Bool.false_eq_true,if_false];rfl
theorem zT5 (c:UInt8) (rest:List UInt8) (h:yF.contains c=true) (h1:qM c=false) (h2:zV c=false) (hs:∀ d,rest.head?=some d→wV c d=false):zC1 ([c]++rest)=(4,1):=by
 show zC1 (c :: rest)=_;cases rest with
 | nil=>simp only [zC1,h1,h2,zT4,h,if_true,Bool.false_eq_true,if_false];rfl
 | cons d s=>simp only [zC1,h1,h2,wW,hs d rfl,h,if_true,Bool.false_eq_true,if_false];rfl
section
theorem qQ8:∀ (l m:List UInt8) (v:Nat),zL7 v (l++m)=if (zL7 v l).2=0 then zL7 (zL7 v l).1 m else zL7 v l
 | [],m,v=>by simp [zL7]
 | c :: l,m,v=>by
   by_cases h:1000000000<10*v+(c.toNat-48)
   ·have e1:zL7 v (c :: (l++m))=(0,281):=by simp only [zL7,lM h]
    have e2:zL7 v (c :: l)=(0,281):=by simp only [zL7,lM h]
    rw [lR,e1,e2];rfl
   ·have e1:zL7 v (c :: (l++m))=zL7 (10*v+(c.toNat-48)) (l++m):=by simp only [zL7,lN h]
    have e2:zL7 v (c :: l)=zL7 (10*v+(c.toNat-48)) l:=by simp only [zL7,lN h]
    rw [lR,e1,e2];exact qQ8 l m _
theorem jE7 {k:Nat} (h:k<10):(UInt8.ofNat (48+k)).toNat=48+k∧zV (UInt8.ofNat (48+k))=true:=by
 have e:(UInt8.ofNat (48+k)).toNat=48+k:=by rw [UInt8.toNat_ofNat'];omega
 refine⟨e,?_⟩;unfold zV;rw [e,lH Yo,lH Yo];rfl
theorem jE8:∀ (f n:Nat),n<10 ^ f→1≤f→(∀ c∈kD9 f n,zV c=true)∧kD9 f n≠[]∧(n≤1000000000→zL7 0 (kD9 f n)=(n,0))
 | 0,n,_,h=>absurd h Yd
 | f+1,n,h,_=>by
   unfold kD9;by_cases hn:n<10
   ·rw [lM hn];obtain⟨h1,h2⟩:=jE7 hn;refine⟨fun c hc=>by rw [cQ.1 hc];exact h2,Ym,fun _=>?_⟩;simp only [zL7,h1];rw [lN Yo];congr 1;omega
   ·rw [lN hn];have h3:n / 10<10 ^ f:=by rw [Nat.div_lt_iff_lt_mul Yd];rwa [Nat.pow_succ]at h
    have h4:1≤f:=by
     rcases Nat.eq_zero_or_pos f with h0 | h0
     ·subst h0;simp at h3;omega
     ·exact h0
    obtain⟨i1,i2,i3⟩:=jE8 f (n / 10) h3 h4;obtain⟨g1,g2⟩:=jE7 (Nat.mod_lt n (show 0<10 by decide));refine⟨fun c hc=>?_,Ym,fun hN=>?_⟩
    ·rcases List.mem_append.1 hc with hc | hc
     ·exact i1 c hc
     ·rw [cQ.1 hc];exact g2
    ·rw [qQ8,i3 Yo];simp only [zL7,g1,if_true];rw [lN Yo];congr 1;omega
theorem jQ {n:Nat} (h:n≤1000000000):(∀ c∈qZ n,zV c=true)∧qZ n≠[]∧vS (qZ n)=(n,0):=by
 obtain⟨h1,h2,h3⟩:=jE8 20 n Yo Yd;refine⟨h1,h2,?_⟩;have hd:jT (qZ n)=(qZ n).length:=by have:=vK (qZ n) [] h1 (fun d h=>by cases h);rwa [cT]at this
 unfold vS;rw [lN (by rw [hd];intro h;rcases h with h | h;exact h2 h;omega)];exact h3 h
theorem qQ9:∀ (l r:List UInt8),(∀ c∈l,zV c=true)→zC2 58 (l++58 :: r)=(l,r,true)
 | [],r,_=>by simp [zC2]
 | c :: l,r,h=>by
   have hc:¬c=58:=by rintro rfl;exact absurd (h 58 Ym) Yd
   rw [lR];simp only [zC2,lN hc,qQ9 l r fun d hd=>h d (by simp [hd])]
theorem jP6 {v w:Nat} (hv:v≤1000000000) (hw:w≤1000000000):zH8 (qZ v++58 :: qZ w)=(v,w,0):=by obtain⟨h1,_,h3⟩:=jQ hv;obtain⟨_,_,g3⟩:=jQ hw;unfold zH8;rw [qQ9 _ _ h1];simp only [h3,g3];rw [lN Ym,lN Ym]
theorem kH5:∀ o,o<17→3≤o→jY (kK o) true=some o∧kK o≠[64]∧kK o≠[91]∧1≤kD o:=Yd
theorem kH6:∀ o,o<3→1≤o→jY (kK o) false=some o∧kK o≠[]:=Yd
theorem zQ8 {n:List UInt8} (h:NameOk n):n≠[40]∧n≠[100,105,115,107]:=by
 refine⟨?_,?_⟩
 ·rintro rfl;obtain⟨c,r,he,hc,_⟩:=h.word;injection he with he _;subst he;exact absurd hc Yd
 ·rintro rfl;exact absurd h.no Yd
theorem zB3 {l:List Nd} (h:(l.flatMap (·.2)).length≤1000000):okW l=true:=lH h
section
variable {E:Env} {n m:Nat} {d:Int} {fl:Nat} {wide:Bool}
theorem qW8 {k op:Nat} {x y:Nd} {s2:PSt} {r} (h4:(nw E n).1=4) (ho:jY (nw E n).2 true=some op) (hr:¬kD op<k) (hc:∃ f,qN E f (kD op+1) (St (n+1) d fl)=some (y,s2)) (hw:okW [x,y]=true)
 (hl:∃ f,qR E f k (qI 6 op 0 0 [] (yK x) [x,y]) s2=some r):∃ f,qR E f k x (St n d fl)=some r:=by
 obtain⟨f,hc⟩:=hc;obtain⟨g,hl⟩:=hl;refine⟨max f g+1,?_⟩;rw [qR,lH (show(St n d fl).e=0 from rfl),qU,zT];dsimp only;rw [lM h4,ho];dsimp only;rw [lG hr];dsimp only;rw [show zE (St n d fl)=St (n+1) d fl from rfl,zN6 (cO f g) hc];dsimp only;rw [hw];exact zN7 (cN f g) hl
theorem qB2 {x:Ex} (h:zM6 x=6∨zM6 x=7∨zM6 x=5):qZ7 wide x=true:=by unfold qZ7;rcases h with h | h | h <;> rw [h] <;> simp
theorem kR8 (E:Env) (wide:Bool) {x:Ex} (h:kP x):PX E wide x∧SX E wide x:=by
 induction h with
 | num v w hv hw =>
   have ho:OX E wide (.mk 1 0 v w [] []):=by
    intro n d fl h0 h1 hz ha hb r hr;have e:wX wide (.mk 1 0 v w [] [])=[(3,qZ v++58 :: qZ w)]:=by simp [wX]
    have e2:plX E wide n (.mk 1 0 v w [] [])=[plc E n]:=by simp [plX]
    rw [e]at ha hr;rw [e2]at hr;refine kA rfl (fun h=>by rw [ha.1]at h;cases h) ⟨1,?_⟩ hr;rw [qJ,lH (show(St n d fl).e=0 from rfl),qU,zT,yP,ha.1];dsimp only;rw [jP6 hv hw];rfl
   exact⟨ho.p,ho.s'⟩
 | var nm hn =>
   have ho:OX E wide (.mk 2 0 0 0 nm []):=by
    intro n d fl h0 h1 hz ha hb r hr;have e:wX wide (.mk 2 0 0 0 nm [])=[(1,nm)]:=by simp [wX]
    have e2:plX E wide n (.mk 2 0 0 0 nm [])=[plc E n]:=by simp [plX]
    rw [e]at ha hr hb;rw [e2]at hr;obtain⟨g1,g2⟩:=xU (d:=d) (fl:=fl) ha.1 hn.no;obtain⟨k1,k2⟩:=zQ8 hn;have hb:(nw E (n+1)).2≠[91]:=hb;refine kA rfl (fun h=>by rw [ha.1]at h;cases h) ⟨1,?_⟩ hr;rw [qJ,lH (show(St n d fl).e=0 from rfl),g1,g2,qU,zT,yP,zT,ha.1];dsimp only;rw [lG (show ¬1=3 by decide),lG k1,lG k2,lG hb];rfl
   exact⟨ho.p,ho.s'⟩
 | elem nm y hn hy ih =>
   have ho:OX E wide (.mk 3 0 0 0 nm [y]):=by
    intro n d fl h0 h1 hz ha hb r hr;have e:wX wide (.mk 3 0 0 0 nm [y])=(1,nm) :: (4,[91]) :: (wX wide y++[(4,[93])]):=by simp [wX,wXs]
    have e2:plX E wide n (.mk 3 0 0 0 nm [y])=plc E n :: plX E wide (n+2) y:=by simp [plX,qQ5]
    have e3:htX (.mk 3 0 0 0 nm [y])=1+htX y:=by simp [htX,vJ]
    have e4:szX (.mk 3 0 0 0 nm [y])=1+szX y:=by simp [szX,kC]
    rw [e]at ha hr hb;rw [e2]at hr;rw [e3]at h1;rw [e4]at hz;obtain⟨a1,a2,a3⟩:=ha;obtain⟨a3,a4,_⟩:=AtW.app a3;obtain⟨g1,g2⟩:=xU (d:=d) (fl:=fl) a1 hn.no;obtain⟨k1,k2⟩:=zQ8 hn;have hc:=ih.1 (n+2) (d+1) fl Yo Yo Yo a3 (by rw [a4];exact zH5);obtain⟨f,hw⟩:=zF3 (n:=n+1) (a:=[91]) (b:=[93]) h0 Yo (by rw [a2]) Yd hc (by rw [a4]) (by rw [a4];decide);have hl:n+((1,nm) :: (4,[91]) :: (wX wide y++[(4,[93])])).length=n+2+(wX wide y).length+1:=Yp;rw [hl]at hr;refine kA rfl (fun h=>by rw [a1]at h;cases h) ⟨f+1,?_⟩ hr;rw [qJ,lH (show(St n d fl).e=0 from rfl),g1,g2,qU,zT,yP,zT,a1,a2];dsimp only;rw [lG (show ¬1=3 by decide),lG k1,lG k2,lH rfl];dsimp only;rw [hw];dsimp only;rw [zB3 (by simp [jE E wide hy];omega)];simp [qI]
   exact⟨ho.p,ho.s'⟩
 | disk y hy ih =>
   have ho:OX E wide (.mk 4 0 0 0 [] [y]):=by
    intro n d fl h0 h1 hz ha hb r hr;have e:wX wide (.mk 4 0 0 0 [] [y])=(1,[100,105,115,107]) :: (4,[91]) :: (wX wide y++[(4,[93])]):=by have:bs "disk" = [100,105,115,107]:=Yd;simp [wX,wXs,this]
    have e2:plX E wide n (.mk 4 0 0 0 [] [y])=plc E n :: plX E wide (n+2) y:=by simp [plX,qQ5]
    have e3:htX (.mk 4 0 0 0 [] [y])=1+htX y:=by simp [htX,vJ]
    have e4:szX (.mk 4 0 0 0 [] [y])=1+szX y:=by simp [szX,kC]
    rw [e]at ha hr hb;rw [e2]at hr;rw [e3]at h1;rw [e4]at hz;obtain⟨a1,a2,a3⟩:=ha;obtain⟨a3,a4,_⟩:=AtW.app a3;have hc:=ih.1 (n+2) (d+1) fl Yo Yo Yo a3 (by rw [a4];exact zH5);obtain⟨f,hw⟩:=zF3 (n:=n+1) (a:=[91]) (b:=[93]) h0 Yo (by rw [a2]) Yd hc (by rw [a4]) (by rw [a4];decide);have hl:n+((1,[100,105,115,107]) :: (4,[91]) :: (wX wide y++[(4,[93])]):List Wd).length=n+2+(wX wide y).length+1:=Yp;rw [hl]at hr;refine kA rfl (fun h=>by rw [a1]at h;cases h) ⟨f+1,?_⟩ hr;rw [qJ,lH (show(St n d fl).e=0 from rfl),qU,zT,yP,a1];dsimp only;rw [lG (show ¬1=3 by decide),lG (show ¬([100,105,115,107]:List UInt8)=[40] by decide),lH rfl];dsimp only;rw [show zE (St n d fl)=St (n+1) d fl from rfl,hw];dsimp only;rw [zB3 (by simp [jE E wide hy];omega)];simp [qI]
   exact⟨ho.p,ho.s'⟩
 | un o y o1 o2 hy ih =>
   have hp:PX E wide (.mk 5 o 0 0 [] [y]):=by
    intro n d fl h0 h1 hz ha hs;have e:wX wide (.mk 5 o 0 0 [] [y])=(4,kK o) :: sW wide y:=by simp [wX,wXs]
    have e2:plX E wide n (.mk 5 o 0 0 [] [y])=plc E n :: sPl E wide (n+1) y:=by simp [plX,qQ5]
    have e3:htX (.mk 5 o 0 0 [] [y])=1+htX y:=by simp [htX,vJ]
    have e4:szX (.mk 5 o 0 0 [] [y])=1+szX y:=by simp [szX,kC]
    rw [e]at ha hs ⊢;rw [e2];rw [e3]at h1;rw [e4]at hz;obtain⟨a1,a2⟩:=ha;obtain⟨f1,f2⟩:=kH6 o Yo o1;have hl:n+((4,kK o) :: sW wide y).length=n+1+(sW wide y).length:=Yp;rw [hl]at hs ⊢;obtain⟨f,hx⟩:=ih.2 (n+1) (d+1) fl Yo Yo Yo a2 hs.b _ (yB hs.a);refine xM (yZ (x:=(.mk 5 o 0 0 [] [y],plc E n :: sPl E wide (n+1) y)) ⟨f+1,?_⟩ (yS hs.o)) h0 Yo hs.q;rw [zR,qU,zT,yP,a1];dsimp only;rw [lM rfl,f1];dsimp only;rw [wU Yo Yo,zQ6 (by rw [a1]) f2 Yo,hx];dsimp only;rw [wU Yo Yo,zB3 (by simp [jE E wide hy];omega)];simp [qI,yH,St];omega
   exact⟨hp,hp.par (qB2 (.inr (.inr rfl)))⟩
 | bin o x y o1 o2 hx hy ih1 ih2 =>
   have hp:PX E wide (.mk 6 o 0 0 [] [x,y]):=by
    intro n d fl h0 h1 hz ha hs;have e:wX wide (.mk 6 o 0 0 [] [x,y])=sW wide x++(4,kK o) :: sW wide y:=by simp [wX,wXs]
    have e2:plX E wide n (.mk 6 o 0 0 [] [x,y])=(sPl E wide n x).headD 0 :: (sPl E wide n x++sPl E wide (n+(sW wide x).length+1) y):=by simp [plX,qQ5]
    have e3:htX (.mk 6 o 0 0 [] [x,y])=1+max (htX x) (htX y):=by simp [htX,vJ]
    have e4:szX (.mk 6 o 0 0 [] [x,y])=1+(szX x+szX y):=by simp [szX,kC]
    rw [e]at ha hs ⊢;rw [e2];rw [e3]at h1;rw [e4]at hz;have hm1:=cO (htX x) (htX y);have hm2:=cN (htX x) (htX y);obtain⟨a1,a2,a3⟩:=AtW.app ha;obtain⟨f1,f2,f3,f4⟩:=kH5 o Yo o1;have hl:n+(sW wide x++(4,kK o) :: sW wide y).length=n+(sW wide x).length+1+(sW wide y).length:=Yp;rw [hl]at hs ⊢;have hc1:=ih1.2 n d fl h0 Yo Yo a1 (by rw [a2];exact f3) _ (yB (by rw [a2];exact f2));have hc2:=ih2.2 (n+(sW wide x).length+1) d fl h0 Yo Yo a3 hs.b _ (yB hs.a);refine xM (yZ hc1 (qW8 (by rw [a2]) (by rw [a2];exact f1) Yo (yZ hc2 (yS hs.o)) (zB3 (by simp [jE E wide hx,jE E wide hy];omega)) ?_)) h0 Yo hs.q;have e5:∀ a b:List Nat,qI 6 o 0 0 [] (yK (x,a)) [(x,a),(y,b)]=(.mk 6 o 0 0 [] [x,y],a.headD 0 :: (a++b)):=fun a b=>by simp [qI,yK]
    rw [e5];exact yS hs.o
   exact⟨hp,hp.par (qB2 (.inl rfl))⟩
 | mux x y z hx hy hz ih1 ih2 ih3 =>
   have hp:PX E wide (.mk 7 0 0 0 [] [x,y,z]):=by
    intro n d fl h0 h1 hsz ha hs;have e:wX wide (.mk 7 0 0 0 [] [x,y,z])=sW wide x++(4,[63]) :: (sW wide y++(4,[58]) :: sW wide z):=by simp [wX,wXs]
    have e2:plX E wide n (.mk 7 0 0 0 [] [x,y,z])=(sPl E wide n x).headD 0 :: (sPl E wide n x++sPl E wide (n+(sW wide x).length+1) y++sPl E wide (n+(sW wide x).length+1+(sW wide y).length+1) z):=by simp [plX,qQ5]
    have e3:htX (.mk 7 0 0 0 [] [x,y,z])=1+max (htX x) (max (htX y) (htX z)):=by simp [htX,vJ]
    have e4:szX (.mk 7 0 0 0 [] [x,y,z])=1+(szX x+(szX y+szX z)):=by simp [szX,kC]
    rw [e]at ha hs ⊢;rw [e2];rw [e3]at h1;rw [e4]at hsz;have hm1:=cO (htX x) (max (htX y) (htX z));have hm2:=cN (htX x) (max (htX y) (htX z));have hm3:=cO (htX y) (htX z);have hm4:=cN (htX y) (htX z);obtain⟨a1,a2,a3⟩:=AtW.app ha;obtain⟨a3,a4,a5⟩:=AtW.app a3;have hl:n+(sW wide x++(4,[63]) :: (sW wide y++(4,[58]) :: sW wide z)).length=n+(sW wide x).length+1+(sW wide y).length+1+(sW wide z).length:=Yp;rw [hl]at hs ⊢;have hc1:=ih1.2 n d fl h0 Yo Yo a1 (by rw [a2];decide) _ (yB (by rw [a2];decide));obtain⟨f1,k1⟩:=yZ hc1 (yS (k:=1) (by rw [a2];decide));obtain⟨f2,k2⟩:=ih2.2.c (n:=n+(sW wide x).length+1) (d:=d+1) (fl:=fl) Yo Yo Yo a3 (by rw [a4];exact qM3);obtain⟨f3,k3⟩:=ih3.2.c (n:=n+(sW wide x).length+1+(sW wide y).length+1) (d:=d+1) (fl:=fl) Yo Yo Yo a5 hs;refine⟨max f1 (max f2 f3)+1,?_⟩;rw [zM,zN6 (cO _ _) k1];dsimp only;rw [wU Yo Yo,qM2 (by rw [a2]) Yd,qQ3 (by rw [a2]) Yd Yo,zA9 (lE (cO f2 f3) (cN f1 _)) k2];dsimp only;rw [kI (by rw [a4]) (by rw [a4];decide),zA9 (lE (cN f2 f3) (cN f1 _)) k3];dsimp only;rw [wU Yo Yo,zB3 (by simp [jE E wide hx,jE E wide hy,jE E wide hz];omega)];simp [qI,yH,St,yK];omega
   exact⟨hp,hp.par (qB2 (.inr (.inl rfl)))⟩
 | cast w y hw hy ih =>
   have ho:OX E wide (.mk 8 0 0 w [] [y]):=by
    intro n d fl h0 h1 hz ha hb r hr;have e:wX wide (.mk 8 0 0 w [] [y])=sW wide y++[(4,[64]),(2,qZ w)]:=by simp [wX,wXs]
    have e2:plX E wide n (.mk 8 0 0 w [] [y])=(sPl E wide n y).headD 0 :: sPl E wide n y:=by simp [plX,qQ5]
    have e3:htX (.mk 8 0 0 w [] [y])=1+htX y:=by simp [htX,vJ]
    have e4:szX (.mk 8 0 0 w [] [y])=1+szX y:=by simp [szX,kC]
    rw [e]at ha hr hb;rw [e2]at hr;rw [e3]at h1;rw [e4]at hz;obtain⟨a1,a2,a3,_⟩:=AtW.app ha;have hl:n+(sW wide y++[(4,[64]),(2,qZ w)]).length=n+(sW wide y).length+1+1:=Yp;rw [hl]at hr;obtain⟨g,hr⟩:=hr;refine ih.2 n d fl h0 Yo Yo a1 (by rw [a2];decide) r ⟨g+1,?_⟩;rw [jI,zG4 (by rw [a2]) (by rw [a2];decide)];dsimp only;rw [zB3 (by simp [jE E wide hy];omega)];dsimp only;rw [show zE (St (n+(sW wide y).length) d fl)=St (n+(sW wide y).length+1) d fl from rfl,zB1 a3 (jQ hw).2.2];simpa [qI,yK]using hr
   exact⟨ho.p,ho.s'⟩
end
end
section
def Ev (P:Nat→Prop):Prop:=∃ F,∀ f,F≤f→P f
theorem Ev.step {P Q:Nat→Prop} (h:Ev P) (hs:∀ f,P f→Q (f+1)):Ev Q:=by obtain⟨F,h⟩:=h;refine⟨F+1,fun f hf=>?_⟩;obtain⟨g,rfl⟩:∃ g,f=g+1:=⟨f-1,Yo⟩;exact hs g (h g Yo)
theorem Ev.mono {P Q:Nat→Prop} (h:Ev P) (hs:∀ f,P f→Q f):Ev Q:=by obtain⟨F,h⟩:=h;exact⟨F,fun f hf=>hs f (h f hf)⟩
theorem Ev.and {P Q:Nat→Prop} (h:Ev P) (k:Ev Q):Ev fun f=>P f∧Q f:=by obtain⟨F,h⟩:=h;obtain⟨G,k⟩:=k;exact⟨max F G,fun f hf=>⟨h f (lE (cO F G) hf),k f (lE (cN F G) hf)⟩⟩
theorem Ev.of {P:Nat→Prop} (h:∀ f,P f):Ev P:=⟨0,fun f _=>h f⟩
theorem Ev.ex {P:Nat→Prop} (h:Ev P):∃ f,P f:=by obtain⟨F,h⟩:=h;exact⟨F,h F (lF _)⟩
abbrev Qt (n:Nat) (d:Int) (fl:Nat) (l:List Nat):QSt:=⟨St n d fl,l⟩
section
variable {E:Env} {n:Nat} {d:Int} {fl:Nat} {l:List Nat} {wide:Bool}
theorem xA {x:Ex} (hx:kP x) (h0:0≤d) (h1:d+2*(htX x:Int)≤200) (hz:szX x≤1000000) (ha:AtW E n (wX wide x)) (hs:vX (nw E (n+(wX wide x).length))) (hl:l.length+szX x≤800000000) :
 Ev fun f=>qS E f (Qt n d fl l)=some (x,Qt (n+(wX wide x).length) d fl (l++plX E wide n x)):=by
 obtain⟨F,h⟩:=(kR8 E wide hx).1 n d fl h0 h1 hz ha hs;refine⟨F,fun f hf=>?_⟩;show qS E f _=_;unfold qS;rw [show(Qt n d fl l).s=St n d fl from rfl,zA9 hf h];dsimp only;rw [jE E wide hx,lM hl]
theorem zY2 {u:List UInt8} (h:(nw E n).2=u) (hu:u≠[]) (h0:0≤d) (h1:d<200):kN E (Qt n d fl l) u=some (Qt (n+1) (d+1) fl l):=by unfold kN;rw [show(Qt n d fl l).s=St n d fl from rfl,wU Yo Yo,zQ6 h hu h1];rfl
theorem zT6 {u:List UInt8} (h:(nw E n).2=u) (hk:(nw E n).1≠0) (h0:0≤d) (h1:d≤200):jX E (Qt n (d+1) fl l) u=some (Qt (n+1) d fl l):=by unfold jX;rw [show(Qt n (d+1) fl l).s=St n (d+1) fl from rfl,wU Yo Yo,qQ4 h hk,Int.add_sub_cancel];rfl
end
def kO:List (List Wd)→List Wd
 | []=>[]
 | [x]=>x
 | x :: l=>x++(4,[44]) :: kO l
mutual
def wS (wide:Bool):Sx→List Wd
 | .mk k n es b t e =>
   let r:=es.map (wX wide)
   let tt:=(4,[123]) :: (wSs wide t++[(4,[125])])
   let te:=(4,[123]) :: (wSs wide e++[(4,[125])])
   if k=1 then(1,n) :: (4,[61]) :: r.getD 0 []
   else if k=2 then(1,n) :: (4,[91]) :: (r.getD 0 []++(4,[93]) :: (4,[61]) :: r.getD 1 [])
   else if k=3 then(1,bs "write") :: (r.getD 0 []++(4,[44]) :: r.getD 1 [])
   else if k=4 then [(1,bs "flush")]
   else if k=5 then [(1,bs "barrier")]
   else if k=6 then(1,bs "if") :: (r.getD 0 []++(tt++(if e≠[]∨wide then(1,bs "else") :: te else [])))
   else if k=7 then(1,bs "while") :: (r.getD 0 []++(1,bs "bound") :: (2,qZ b.toNat) :: tt)
   else(1,bs "call") :: (1,n) :: (4,[40]) :: (kO r++[(4,[41])])
def wSs (wide:Bool):List Sx→List Wd
 | []=>[]
 | x :: l=>wS wide x++wSs wide l
end
abbrev wB (wide:Bool) (l:List Sx):List Wd:=(4,[123]) :: (wSs wide l++[(4,[125])])
def plC (E:Env) (wide:Bool):Nat→List Ex→List Nat
 | _,[]=>[]
 | n,x :: l=>plX E wide n x++plC E wide (n+(wX wide x).length+1) l
mutual
def plS (E:Env) (wide:Bool):Nat→Sx→List Nat
 | n,.mk k nm es b t e =>
   let e0:=es.getD 0 ex0
   let e1:=es.getD 1 ex0
   let n0:=(wX wide e0).length
   plc E n :: (if k=1 then plX E wide (n+2) e0
   else if k=2 then plX E wide (n+2) e0++plX E wide (n+2+n0+2) e1
   else if k=3 then plX E wide (n+1) e0++plX E wide (n+1+n0+1) e1
   else if k=4∨k=5 then []
   else if k=6 then plX E wide (n+1) e0++(zL8 E wide (n+1+n0+1) t++zL8 E wide (n+1+n0+1+(wSs wide t).length+1+2) e)
   else if k=7 then plX E wide (n+1) e0++zL8 E wide (n+1+n0+2+1) t
   else plC E wide (n+3) es)
def zL8 (E:Env) (wide:Bool):Nat→List Sx→List Nat
 | _,[]=>[]
 | n,x :: l=>plS E wide n x++zL8 E wide (n+(wS wide x).length) l
end
mutual
def szS:Sx→Nat
 | .mk _ _ es _ t e=>1+kC es+yE t+yE e
def yE:List Sx→Nat
 | []=>0
 | x :: l=>szS x+yE l
end
mutual
def htS:Sx→Nat
 | .mk _ _ es _ t e=>1+max (vJ es) (max (vL t) (vL e))
def vL:List Sx→Nat
 | []=>0
 | x :: l=>max (htS x) (vL l)
end
inductive vP:Sx→Prop
 | set (n:List UInt8) (x:Ex):NameOk n→kP x→vP (.mk 1 n [x] 0 [] [])
 | put (n:List UInt8) (i x:Ex):NameOk n→kP i→kP x→vP (.mk 2 n [i,x] 0 [] [])
 | write (b x:Ex):kP b→kP x→vP (.mk 3 [] [b,x] 0 [] [])
 | flush:vP (.mk 4 [] [] 0 [] [])
 | barrier:vP (.mk 5 [] [] 0 [] [])
 | ifs (x:Ex) (t e:List Sx):kP x→(∀ y∈t,vP y)→(∀ y∈e,vP y)→vP (.mk 6 [] [x] 0 t e)
 | loop (x:Ex) (b:Nat) (t:List Sx):kP x→b≤1000000000→(∀ y∈t,vP y)→vP (.mk 7 [] [x] b t [])
 | call (n:List UInt8) (es:List Ex):NameOk n→(∀ x∈es,kP x)→vP (.mk 8 n es 0 [] [])
structure qM5 (w:Wd):Prop where
 x:vX w
 e:w.2≠bs "else"
theorem zD4 {w:Wd} (h:w.1=1) (h1:∃ c r,w.2=c :: r∧qM c=true):vX w:=by obtain⟨c,r,e,hc⟩:=h1;refine⟨?_,?_,?_,fun h4=>by rw [h]at h4;cases h4⟩ <;> (rw [e];intro e2;injection e2 with e2 _;subst e2;exact absurd hc Yd)
theorem NameOk.shut {n:List UInt8} (h:NameOk n):qM5 (1,n):=by obtain⟨c,r,e,hc,_⟩:=h.word;refine⟨zD4 rfl ⟨c,r,e,hc⟩,?_⟩;rintro rfl;exact absurd h.no Yd
theorem qM6 {n:List UInt8} (h:NameOk n):kM n=none:=by
 have key:∀ u:List UInt8,vO u=true→n≠u:=by rintro u hu rfl;rw [h.no]at hu;cases hu
 unfold kM;rw [lN (key _ Yd),lN (key _ Yd),lN (key _ Yd),lN (key _ Yd),lN (key _ Yd),lN (key _ Yd)]
theorem jZ8 {wide:Bool} {x:Sx} (h:vP x):∃ w r,wS wide x=w :: r∧qM5 w:=by
 have hw:∀ u:List UInt8,(∃ c r,u=c :: r∧qM c=true)→u≠bs "else"→qM5 (1,u):=fun u h1 h2=>⟨zD4 rfl h1,h2⟩;cases h with
 | set n x hn hx=>exact⟨_,_,by simp only [wS,if_true];rfl,hn.shut⟩
 | put n i x hn hi hx=>exact⟨_,_,by simp only [wS];rfl,hn.shut⟩
 | write b x hb hx=>exact⟨_,_,by simp only [wS];rfl,hw _ ⟨_,_,rfl,Yd⟩ Yd⟩
 | flush=>exact⟨_,_,by simp only [wS];rfl,hw _ ⟨_,_,rfl,Yd⟩ Yd⟩
 | barrier=>exact⟨_,_,by simp only [wS];rfl,hw _ ⟨_,_,rfl,Yd⟩ Yd⟩
 | ifs x t e hx ht he=>exact⟨_,_,by simp only [wS];rfl,hw _ ⟨_,_,rfl,Yd⟩ Yd⟩
 | loop x b t hx hb ht=>exact⟨_,_,by simp only [wS];rfl,hw _ ⟨_,_,rfl,Yd⟩ Yd⟩
 | call n es hn hes=>exact⟨_,_,by simp only [wS];rfl,hw _ ⟨_,_,rfl,Yd⟩ Yd⟩
end
section
section
variable {E:Env} {n:Nat} {d:Int} {fl:Nat} {l:List Nat} {wide:Bool}
theorem jE9:∀ (es:List Ex) (n:Nat) (l:List Nat) (out:List Ex),(∀ x∈es,kP x)→0≤d→d+2*(vJ es:Int)≤200→kC es≤1000000→es≠[]→AtW E n ((4,[44]) :: kO (es.map (wX wide)))→nw E (n+1+(kO (es.map (wX wide))).length)=(4,[41])→l.length+kC es≤800000000 →
 Ev fun f=>yA E f (Qt n d fl l) out=some (out++es,Qt (n+1+(kO (es.map (wX wide))).length) d fl (l++plC E wide (n+1) es))
 | [],n,l,out,_,_,_,_,hne,_,_,_=>absurd rfl hne
 | x :: es,n,l,out,hg,h0,h1,hz,_,ha,hs,hl=>by
   have hgx:=hg x Ym;have e1:vJ (x :: es)=max (htX x) (vJ es):=by simp [vJ]
   have e2:kC (x :: es)=szX x+kC es:=by simp [kC]
   rw [e1]at h1;rw [e2]at hz hl;have hm1:=cO (htX x) (vJ es);have hm2:=cN (htX x) (vJ es);obtain⟨a0,a1⟩:=ha;have hcs:vX (4,[44]):=⟨Yd,Yd,Yd,fun _=>Yd⟩;cases es with
   | nil =>
     have ec:kO ([x].map (wX wide))=wX wide x:=rfl;rw [ec]at a1 hs ⊢;have hx:=xA (E:=E) (wide:=wide) (fl:=fl) (l:=l) hgx h0 Yo Yo a1 (by rw [hs];exact zB2) (by simp [kC]at hl;omega);have e3:plC E wide (n+1) [x]=plX E wide (n+1) x:=by simp [plC]
     rw [e3];refine(Ev.step (hx.step (Q:=fun f=>qS E f (Qt (n+1) d fl l)=some (x,Qt (n+1+(wX wide x).length) d fl (l++plX E wide (n+1) x))∧1≤f) fun f h=>⟨?_,Yo⟩) fun f h=>?_)
     ·unfold qS at h ⊢;cases hc:zM E f (St (n+1) d fl)with
      | none=>rw [show(Qt (n+1) d fl l).s=St (n+1) d fl from rfl,hc]at h;cases h
      | some r =>
        rw [show(Qt (n+1) d fl l).s=St (n+1) d fl from rfl,hc]at h;rw [show(Qt (n+1) d fl l).s=St (n+1) d fl from rfl,zA9 (Nat.le_succ f) hc];exact h
     ·obtain⟨h,hf⟩:=h;obtain⟨g,rfl⟩:∃ g,f=g+1:=⟨f-1,Yo⟩;rw [yA,show(Qt n d fl l).s=St n d fl from rfl,zG4 (by rw [a0]) (by rw [a0];decide)];simp only [if_true];rw [show(Qt n d fl l).on (zE (St n d fl))=Qt (n+1) d fl l from rfl,h];show yA E (g+1) _ _=_;rw [yA,show(Qt (n+1+(wX wide x).length) d fl (l++plX E wide (n+1) x)).s=St (n+1+(wX wide x).length) d fl from rfl,qF9 (by rw [hs];decide)];simp
   | cons y es =>
     have ec:kO ((x :: y :: es).map (wX wide))=wX wide x++(4,[44]) :: kO ((y :: es).map (wX wide)):=rfl;rw [ec]at a1 hs ⊢;obtain⟨a1,a2⟩:=AtW.app a1;have hx:=xA (E:=E) (wide:=wide) (fl:=fl) (l:=l) hgx h0 Yo Yo a1 (by rw [a2.1];exact hcs) Yo;have hlen:n+1+(wX wide x++(4,[44]) :: kO ((y :: es).map (wX wide))).length=n+1+(wX wide x).length+1+(kO ((y :: es).map (wX wide))).length:=Yp;rw [hlen]at hs ⊢;have ih:=jE9 (y :: es) (n+1+(wX wide x).length) (l++plX E wide (n+1) x) (out++[x]) (fun z hz=>hg z (by simp at hz ⊢;exact .inr hz)) h0 Yo Yo Ym a2 hs (by rw [Ya,jE E wide hgx];omega);refine(hx.and ih).step fun f h=>?_;obtain⟨h,k⟩:=h;rw [yA,show(Qt n d fl l).s=St n d fl from rfl,zG4 (by rw [a0]) (by rw [a0];decide)];simp only [if_true];rw [show(Qt n d fl l).on (zE (St n d fl))=Qt (n+1) d fl l from rfl,h];show yA E f _ _=_;rw [k];have e3:plC E wide (n+1) (x :: y :: es)=plX E wide (n+1) x++plC E wide (n+1+(wX wide x).length+1) (y :: es):=by simp [plC]
     rw [e3];simp
end
theorem jZ9 {wide:Bool} {x:Ex} (h:kP x):∃ w r,wX wide x=w :: r∧w.2≠[41]:=by
 have hnm:∀ {n:List UInt8},NameOk n→n≠[41]:=by rintro n h rfl;obtain⟨c,r,e,hc,_⟩:=h.word;injection e with e _;subst e;exact absurd hc Yd
 have hsub:∀ {y:Ex},(∃ w r,wX wide y=w :: r∧w.2≠[41])→∃ w r,sW wide y=w :: r∧w.2≠[41]:=by
  rintro y ⟨w,r,e,hw⟩;show ∃ w r,jE2 wide y (wX wide y)=w :: r∧_;unfold jE2;split
  ·exact⟨_,_,rfl,Yd⟩
  ·exact⟨w,r,e,hw⟩
 induction h with
 | num v w hv hw =>
   refine⟨_,_,by simp only [wX,if_true];rfl,?_⟩;obtain⟨h1,h2,_⟩:=jQ hv;dsimp only;cases hd:qZ v with
   | nil=>exact absurd hd h2
   | cons c r =>
     rw [hd]at h1;intro e;injection e with e _;have:=h1 c Ym;rw [e]at this;exact absurd this Yd
 | var n hn=>exact⟨(1,n),[],by simp [wX],hnm hn⟩
 | elem n y hn hy ih=>exact⟨(1,n),_,by simp [wX];rfl,hnm hn⟩
 | disk y hy ih=>exact⟨(1,bs "disk"),_,by simp [wX];rfl,Yd⟩
 | un o y o1 o2 hy ih=>exact⟨(4,kK o),_,by simp [wX];rfl,by rcases(by omega:o=1∨o=2)with rfl | rfl <;> decide⟩
 | bin o x y o1 o2 hx hy ih1 ih2=>obtain⟨w,r,e,hw⟩:=hsub ih1;exact⟨w,_,by simp [wX,wXs];rw [show jE2 wide x (wX wide x)=w :: r from e];rfl,hw⟩
 | mux x y z hx hy hz ih1 ih2 ih3=>obtain⟨w,r,e,hw⟩:=hsub ih1;exact⟨w,_,by simp [wX,wXs];rw [show jE2 wide x (wX wide x)=w :: r from e];rfl,hw⟩
 | cast w y hw hy ih=>obtain⟨w,r,e,hw⟩:=hsub ih;exact⟨w,_,by simp [wX,wXs];rw [show jE2 wide y (wX wide y)=w :: r from e];rfl,hw⟩
section
variable {E:Env} {n:Nat} {d:Int} {fl:Nat} {l:List Nat} {wide:Bool}
theorem zD5 (h:l.length≤800000000):okL (Qt n d fl l)=true:=lH h
theorem xO {k:Nat} {x:Sx} {q':QSt} {out:List Sx} {r} (hl:l.length≤800000000) (hk:kM (nw E n).2=some k) (hr:Ev fun f=>qY E f k (Qt (n+1) d fl (l++[plc E n]))=some (x,q')) (hc:Ev fun f=>jM E f q' (out++[x])=some r):Ev fun f=>jM E f (Qt n d fl l) out=some r:=by refine(hr.and hc).step fun f h=>?_;obtain⟨h1,h2⟩:=h;rw [jM,lM (show(Qt n d fl l).s.e=0 from rfl),zD5 hl,lM rfl,show(Qt n d fl l).s=St n d fl from rfl,zT,yP,hk];dsimp only;rw [show zE (St n d fl)=St (n+1) d fl from rfl,h1];exact h2
theorem zY3 {x:Sx} {q':QSt} {out:List Sx} {nm:List UInt8} {r} (hl:l.length≤800000000) (hw:nw E n=(1,nm)) (hn:NameOk nm) (hr:Ev fun f=>qY E f 0 (Qt n d fl (l++[plc E n]))=some (x,q')) (hc:Ev fun f=>jM E f q' (out++[x])=some r):Ev fun f=>jM E f (Qt n d fl l) out=some r:=by
 refine(hr.and hc).step fun f h=>?_;obtain⟨h1,h2⟩:=h;have e:(Qt n d fl l).at E=Qt n d fl (l++[plc E n]):=by unfold QSt.at;rw [show(Qt n d fl l).s=St n d fl from rfl,yP]
 rw [jM,lM (show(Qt n d fl l).s.e=0 from rfl),zD5 hl,lM rfl,e,show(Qt n d fl l).s=St n d fl from rfl,zT,qU,hw,qM6 hn];dsimp only;rw [lM ⟨rfl,hn.no⟩,h1];exact h2
theorem jF1 {out:List Sx} (hl:l.length≤800000000) (h1:kM (nw E n).2=none) (h2:(nw E n).1=1→vO (nw E n).2=true):Ev fun f=>jM E f (Qt n d fl l) out=some (out,Qt n d fl l):=by refine Ev.step (Ev.of (P:=fun _=>True) fun _=>trivial) fun f _=>?_;rw [jM,lM (show(Qt n d fl l).s.e=0 from rfl),zD5 hl,lM rfl,show(Qt n d fl l).s=St n d fl from rfl,zT,qU,h1];dsimp only;rw [lN];intro h;rw [h2 h.1]at h;exact absurd h.2 Yd
def LS (E:Env) (wide:Bool) (x:Sx):Prop:=∀ (n:Nat) (d:Int) (fl:Nat) (l:List Nat) (out:List Sx) (r:List Sx×QSt),0≤d→d+2*(htS x:Int)≤200→szS x≤1000000→l.length+szS x≤800000000→AtW E n (wS wide x)→qM5 (nw E (n+(wS wide x).length)) →
 (Ev fun f=>jM E f (Qt (n+(wS wide x).length) d fl (l++plS E wide n x)) (out++[x])=some r)→Ev fun f=>jM E f (Qt n d fl l) out=some r
theorem xB (E:Env) (wide:Bool):∀ (xs:List Sx),(∀ y∈xs,∀ n,(plS E wide n y).length=szS y)→∀ n,(zL8 E wide n xs).length=yE xs
 | [],_,n=>by simp [zL8,yE]
 | x :: xs,h,n=>by simp only [zL8,yE,Ya];rw [h x Ym,xB E wide xs (fun y hy=>h y (by simp [hy]))]
theorem jF2 (E:Env) (wide:Bool):∀ (xs:List Ex),(∀ y∈xs,kP y)→∀ n,(plC E wide n xs).length=kC xs
 | [],_,n=>by simp [plC,kC]
 | x :: xs,h,n=>by simp only [plC,kC,Ya];rw [jE E wide (h x Ym),jF2 E wide xs (fun y hy=>h y (by simp [hy]))]
theorem zD6 (E:Env) (wide:Bool) {x:Sx} (h:vP x):∀ n,(plS E wide n x).length=szS x:=by
 induction h with
 | set n x hn hx=>intro m;simp [plS,szS,kC,yE,jE E wide hx];omega
 | put n i x hn hi hx=>intro m;simp [plS,szS,kC,yE,jE E wide hx,jE E wide hi];omega
 | write b x hb hx=>intro m;simp [plS,szS,kC,yE,jE E wide hx,jE E wide hb];omega
 | flush=>intro m;simp [plS,szS,kC,yE]
 | barrier=>intro m;simp [plS,szS,kC,yE]
 | ifs x t e hx ht he ih1 ih2=>intro m;simp [plS,szS,kC,yE,jE E wide hx,xB E wide t ih1,xB E wide e ih2];omega
 | loop x b t hx hb ht ih=>intro m;simp [plS,szS,kC,yE,jE E wide hx,xB E wide t ih];omega
 | call n es hn hes=>intro m;simp [plS,szS,yE,jF2 E wide es hes];omega
theorem kA1:∀ (xs:List Sx) (n:Nat) (l:List Nat) (out:List Sx) (r:List Sx×QSt),(∀ y∈xs,vP y∧LS E wide y)→0≤d→d+2*(vL xs:Int)≤200→yE xs≤1000000→l.length+yE xs≤800000000→AtW E n (wSs wide xs)→qM5 (nw E (n+(wSs wide xs).length)) →
 (Ev fun f=>jM E f (Qt (n+(wSs wide xs).length) d fl (l++zL8 E wide n xs)) (out++xs)=some r)→Ev fun f=>jM E f (Qt n d fl l) out=some r
 | [],n,l,out,r,_,_,_,_,_,_,_,h=>by simpa [wSs,zL8]using h
 | x :: xs,n,l,out,r,hg,h0,h1,hz,hl,ha,hs,h=>by
   have e0:wSs wide (x :: xs)=wS wide x++wSs wide xs:=by simp [wSs]
   have e1:vL (x :: xs)=max (htS x) (vL xs):=by simp [vL]
   have e2:yE (x :: xs)=szS x+yE xs:=by simp [yE]
   have e3:zL8 E wide n (x :: xs)=plS E wide n x++zL8 E wide (n+(wS wide x).length) xs:=by simp [zL8]
   rw [e0]at ha hs h;rw [e1]at h1;rw [e2]at hz hl;rw [e3]at h;have hm1:=cO (htS x) (vL xs);have hm2:=cN (htS x) (vL xs);obtain⟨a1,a2⟩:=AtW.app ha;have hlen:n+(wS wide x++wSs wide xs).length=n+(wS wide x).length+(wSs wide xs).length:=by rw [Ya];omega
   rw [hlen]at hs h;obtain⟨g1,g2⟩:=hg x Ym;have hsx:qM5 (nw E (n+(wS wide x).length)):=by
    cases xs with
    | nil=>simpa [wSs]using hs
    | cons y ys =>
      obtain⟨w,r,hw,hsw⟩:=jZ8 (wide:=wide) (hg y Ym).1;have e4:wSs wide (y :: ys)=w :: (r++wSs wide ys):=by simp [wSs,hw]
      rw [e4]at a2;rw [a2.1];exact hsw
   refine g2 n d fl l out r h0 Yo Yo Yo a1 hsx ?_;refine kA1 xs (n+(wS wide x).length) (l++plS E wide n x) (out++[x]) r (fun y hy=>hg y (by simp [hy])) h0 Yo Yo (by rw [Ya,zD6 E wide g1];omega) a2 hs ?_;simpa using h
theorem qW9:qM5 (4,[125]):=⟨⟨Yd,Yd,Yd,fun _=>Yd⟩,Yd⟩
theorem zN8 {xs:List Sx} (hg:∀ y∈xs,vP y∧LS E wide y) (h0:0≤d) (h1:d+1+2*(vL xs:Int)≤200) (hz:yE xs≤1000000) (hl:l.length+yE xs≤800000000) (ha:AtW E n (wB wide xs)) :
 Ev fun f=>kE E f (Qt n d fl l)=some (xs,Qt (n+1+(wSs wide xs).length+1) d fl (l++zL8 E wide (n+1) xs)):=by
 obtain⟨a1,a2⟩:=ha;obtain⟨a2,a3,_⟩:=AtW.app a2;have key:=kA1 (E:=E) (wide:=wide) (d:=d+1) (fl:=fl) xs (n+1) l [] _ hg Yo h1 hz hl a2 (by rw [a3];exact qW9) (jF1 (by simp only [Ya,xB E wide xs (fun y hy=>zD6 E wide (hg y hy).1)];exact hl) (by rw [a3];decide) (by rw [a3];decide));refine key.step fun f h=>?_;rw [kE,zY2 (by rw [a1]) Yd h0 Yo];dsimp only;rw [h];dsimp only;rw [zT6 (by rw [a3]) (by rw [a3];decide) h0 Yo];rfl
theorem qB3 (xs:List Sx):n+(wB wide xs).length=n+1+(wSs wide xs).length+1:=Yp
theorem kN4 (E:Env) (wide:Bool) {x:Sx} (h:vP x):LS E wide x:=by
 induction h with
 | set nm x hn hx =>
   intro n d fl l out r h0 h1 hz hl ha hs hc;have e:wS wide (.mk 1 nm [x] 0 [] [])=(1,nm) :: (4,[61]) :: wX wide x:=by simp [wS]
   have e2:plS E wide n (.mk 1 nm [x] 0 [] [])=plc E n :: plX E wide (n+2) x:=by simp [plS]
   have e3:htS (.mk 1 nm [x] 0 [] [])=1+htX x:=by simp [htS,vJ,vL]
   have e4:szS (.mk 1 nm [x] 0 [] [])=1+szX x:=by simp [szS,kC,yE]
   rw [e]at ha hs hc;rw [e2]at hc;rw [e3]at h1;rw [e4]at hz hl;obtain⟨a1,a2,a3⟩:=ha;have hlen:n+((1,nm) :: (4,[61]) :: wX wide x).length=n+2+(wX wide x).length:=Yp;rw [hlen]at hs hc;have hx:=xA (E:=E) (wide:=wide) (n:=n+2) (fl:=fl) (l:=l++[plc E n]) hx h0 Yo Yo a3 hs.x Yp;refine zY3 Yo a1 hn (hx.step (Q:=fun f=>qY E f 0 (Qt n d fl (l++[plc E n]))=some (.mk 1 nm [x] 0 [] [],Qt (n+2+(wX wide x).length) d fl (l++[plc E n]++plX E wide (n+2) x))) fun f h=>?_) (by simpa using hc);obtain⟨g1,g2⟩:=xU (d:=d) (fl:=fl) a1 hn.no;simp only [qY];rw [g1,g2,zT,lN (by rw [a2];decide),kI (by rw [a2]) (by rw [a2];decide)];rw [show(Qt n d fl (l++[plc E n])).on (St (n+1+1) d fl)=Qt (n+2) d fl (l++[plc E n]) from rfl,h]
 | put nm i x hn hi hx =>
   intro n d fl l out r h0 h1 hz hl ha hs hc;have e:wS wide (.mk 2 nm [i,x] 0 [] [])=(1,nm) :: (4,[91]) :: (wX wide i++(4,[93]) :: (4,[61]) :: wX wide x):=by simp [wS]
   have e2:plS E wide n (.mk 2 nm [i,x] 0 [] [])=plc E n :: (plX E wide (n+2) i++plX E wide (n+2+(wX wide i).length+2) x):=by simp [plS]
   have e3:htS (.mk 2 nm [i,x] 0 [] [])=1+max (htX i) (htX x):=by simp [htS,vJ,vL]
   have e4:szS (.mk 2 nm [i,x] 0 [] [])=1+(szX i+szX x):=by simp [szS,kC,yE]
   rw [e]at ha hs hc;rw [e2]at hc;rw [e3]at h1;rw [e4]at hz hl;have hm1:=cO (htX i) (htX x);have hm2:=cN (htX i) (htX x);obtain⟨a1,a2,a3⟩:=ha;obtain⟨a3,a4,a5,a6⟩:=AtW.app a3;have hlen:n+((1,nm) :: (4,[91]) :: (wX wide i++(4,[93]) :: (4,[61]) :: wX wide x)).length=n+2+(wX wide i).length+2+(wX wide x).length:=Yp;rw [hlen]at hs hc;have hxi:=xA (E:=E) (wide:=wide) (n:=n+2) (d:=d+1) (fl:=fl) (l:=l++[plc E n]) hi Yo Yo Yo a3 (by rw [a4];exact zH5) Yp;have hxx:=xA (E:=E) (wide:=wide) (n:=n+2+(wX wide i).length+2) (d:=d) (fl:=fl) (l:=l++[plc E n]++plX E wide (n+2) i) hx Yo Yo Yo a6 hs.x (by simp [jE E wide hi];omega);refine zY3 Yo a1 hn ((hxi.and hxx).step (Q:=fun f=>qY E f 0 (Qt n d fl (l++[plc E n]))=some (.mk 2 nm [i,x] 0 [] [],Qt (n+2+(wX wide i).length+2+(wX wide x).length) d fl (l++[plc E n]++plX E wide (n+2) i++plX E wide (n+2+(wX wide i).length+2) x))) fun f h=>?_) (by simpa using hc);obtain⟨k1,k2⟩:=h;obtain⟨g1,g2⟩:=xU (d:=d) (fl:=fl) a1 hn.no;simp only [qY];rw [g1,g2,zT,lM (by rw [a2])];rw [show(Qt n d fl (l++[plc E n])).on (St (n+1) d fl)=Qt (n+1) d fl (l++[plc E n]) from rfl,zY2 (by rw [a2]) Yd h0 Yo];dsimp only;rw [k1];dsimp only;rw [zT6 (by rw [a4]) (by rw [a4];decide) h0 Yo];dsimp only;rw [kI (by rw [a5]) (by rw [a5];decide)];rw [show(Qt (n+2+(wX wide i).length+1) d fl (l++[plc E n]++plX E wide (n+2) i)).on (St (n+2+(wX wide i).length+1+1) d fl)=Qt (n+2+(wX wide i).length+2) d fl (l++[plc E n]++plX E wide (n+2) i) from rfl,k2]
 | write b x hb hx =>
   intro n d fl l out r h0 h1 hz hl ha hs hc;have e:wS wide (.mk 3 [] [b,x] 0 [] [])=(1,bs "write") :: (wX wide b++(4,[44]) :: wX wide x):=by simp [wS]
   have e2:plS E wide n (.mk 3 [] [b,x] 0 [] [])=plc E n :: (plX E wide (n+1) b++plX E wide (n+1+(wX wide b).length+1) x):=by simp [plS]
   have e3:htS (.mk 3 [] [b,x] 0 [] [])=1+max (htX b) (htX x):=by simp [htS,vJ,vL]
   have e4:szS (.mk 3 [] [b,x] 0 [] [])=1+(szX b+szX x):=by simp [szS,kC,yE]
   rw [e]at ha hs hc;rw [e2]at hc;rw [e3]at h1;rw [e4]at hz hl;have hm1:=cO (htX b) (htX x);have hm2:=cN (htX b) (htX x);obtain⟨a1,a3⟩:=ha;obtain⟨a3,a4,a6⟩:=AtW.app a3;have hlen:n+((1,bs "write") :: (wX wide b++(4,[44]) :: wX wide x)).length=n+1+(wX wide b).length+1+(wX wide x).length:=Yp;rw [hlen]at hs hc;have hcs:vX (4,[44]):=⟨Yd,Yd,Yd,fun _=>Yd⟩;have hxi:=xA (E:=E) (wide:=wide) (n:=n+1) (d:=d) (fl:=fl) (l:=l++[plc E n]) hb Yo Yo Yo a3 (by rw [a4];exact hcs) Yp;have hxx:=xA (E:=E) (wide:=wide) (n:=n+1+(wX wide b).length+1) (d:=d) (fl:=fl) (l:=l++[plc E n]++plX E wide (n+1) b) hx Yo Yo Yo a6 hs.x (by simp [jE E wide hb];omega);refine xO (hl:=Yo) (by rw [a1];decide) ((hxi.and hxx).step (Q:=fun f=>qY E f 3 (Qt (n+1) d fl (l++[plc E n]))=some (.mk 3 [] [b,x] 0 [] [],Qt (n+1+(wX wide b).length+1+(wX wide x).length) d fl (l++[plc E n]++plX E wide (n+1) b++plX E wide (n+1+(wX wide b).length+1) x))) fun f h=>?_) (by simpa using hc);obtain⟨k1,k2⟩:=h;simp only [qY];rw [k1];dsimp only;rw [kI (by rw [a4]) (by rw [a4];decide)];rw [show(Qt (n+1+(wX wide b).length) d fl (l++[plc E n]++plX E wide (n+1) b)).on (St (n+1+(wX wide b).length+1) d fl)=Qt (n+1+(wX wide b).length+1) d fl (l++[plc E n]++plX E wide (n+1) b) from rfl,k2]
 | flush =>
   intro n d fl l out r h0 h1 hz hl ha hs hc;have e:wS wide (.mk 4 [] [] 0 [] [])=[(1,bs "flush")]:=by simp [wS]
   have e2:plS E wide n (.mk 4 [] [] 0 [] [])=[plc E n]:=by simp [plS]
   rw [e]at ha hs hc;rw [e2]at hc;obtain⟨a1,_⟩:=ha;refine xO (hl:=Yo) (k:=4) (x:=.mk 4 [] [] 0 [] []) (by rw [a1];decide) (Ev.step (Ev.of (P:=fun _=>True) fun _=>trivial) fun f _=>?_) hc;simp only [qY];rfl
 | barrier =>
   intro n d fl l out r h0 h1 hz hl ha hs hc;have e:wS wide (.mk 5 [] [] 0 [] [])=[(1,bs "barrier")]:=by simp [wS]
   have e2:plS E wide n (.mk 5 [] [] 0 [] [])=[plc E n]:=by simp [plS]
   rw [e]at ha hs hc;rw [e2]at hc;obtain⟨a1,_⟩:=ha;refine xO (hl:=Yo) (k:=5) (x:=.mk 5 [] [] 0 [] []) (by rw [a1];decide) (Ev.step (Ev.of (P:=fun _=>True) fun _=>trivial) fun f _=>?_) hc;simp only [qY];rfl
 | ifs x t e hx ht he ih1 ih2 =>
   intro n d fl l out r h0 h1 hz hl ha hs hc;have e0:wS wide (.mk 6 [] [x] 0 t e)=(1,bs "if") :: (wX wide x++(wB wide t++(if e≠[]∨wide then(1,bs "else") :: wB wide e else []))):=by simp [wS]
   have e2:plS E wide n (.mk 6 [] [x] 0 t e)=plc E n :: (plX E wide (n+1) x++(zL8 E wide (n+1+(wX wide x).length+1) t++zL8 E wide (n+1+(wX wide x).length+1+(wSs wide t).length+1+2) e)):=by simp [plS]
   have e3:htS (.mk 6 [] [x] 0 t e)=1+max (htX x) (max (vL t) (vL e)):=by simp [htS,vJ]
   have e4:szS (.mk 6 [] [x] 0 t e)=1+szX x+yE t+yE e:=by simp [szS,kC]
   rw [e0]at ha hs hc;rw [e2]at hc;rw [e3]at h1;rw [e4]at hz hl;have hm1:=cO (htX x) (max (vL t) (vL e));have hm2:=cN (htX x) (max (vL t) (vL e));have hm3:=cO (vL t) (vL e);have hm4:=cN (vL t) (vL e);obtain⟨a1,a3⟩:=ha;obtain⟨a3,a4⟩:=AtW.app a3;obtain⟨a4,a5⟩:=AtW.app a4;rw [qB3]at a5;have hxi:=xA (E:=E) (wide:=wide) (n:=n+1) (d:=d) (fl:=fl) (l:=l++[plc E n]) hx Yo Yo Yo a3 (by rw [a4.1];exact⟨Yd,Yd,Yd,fun _=>Yd⟩) Yp;have hbt:=zN8 (E:=E) (wide:=wide) (n:=n+1+(wX wide x).length) (d:=d) (fl:=fl) (l:=l++[plc E n]++plX E wide (n+1) x) (xs:=t) (fun y hy=>⟨ht y hy,ih1 y hy⟩) h0 Yo Yo (by simp [jE E wide hx];omega) a4;by_cases hel:e≠[]∨wide=true
   ·rw [lM hel]at a5 hs hc;obtain⟨a6,a7⟩:=a5;have hlen:n+((1,bs "if") :: (wX wide x++(wB wide t++(1,bs "else") :: wB wide e))).length=n+1+(wX wide x).length+1+(wSs wide t).length+1+1+1+(wSs wide e).length+1:=Yp;rw [hlen]at hs hc;have hbe:=zN8 (E:=E) (wide:=wide) (n:=n+1+(wX wide x).length+1+(wSs wide t).length+1+1) (d:=d) (fl:=fl) (l:=l++[plc E n]++plX E wide (n+1) x++zL8 E wide (n+1+(wX wide x).length+1) t) (xs:=e) (fun y hy=>⟨he y hy,ih2 y hy⟩) h0 Yo Yo (by simp [jE E wide hx,xB E wide t (fun y hy=>zD6 E wide (ht y hy))];omega) a7;refine xO (hl:=Yo) (k:=6) (x:=.mk 6 [] [x] 0 t e) (by rw [a1];decide) (((hxi.and hbt).and hbe).step fun f h=>?_) (by simpa using hc);obtain⟨⟨k1,k2⟩,k3⟩:=h;simp only [qY];rw [k1];dsimp only;rw [k2];dsimp only;rw [zG4 (by rw [a6]) (by rw [a6];decide),lM rfl];rw [show(Qt (n+1+(wX wide x).length+1+(wSs wide t).length+1) d fl (l++[plc E n]++plX E wide (n+1) x++zL8 E wide (n+1+(wX wide x).length+1) t)).on (zE (St (n+1+(wX wide x).length+1+(wSs wide t).length+1) d fl))=Qt (n+1+(wX wide x).length+1+(wSs wide t).length+1+1) d fl (l++[plc E n]++plX E wide (n+1) x++zL8 E wide (n+1+(wX wide x).length+1) t) from rfl,k3];simp
   ·rw [lN hel]at a5 hs hc;have he0:e=[]:=by
     cases e with
     | nil=>rfl
     | cons y ys=>exact absurd (.inl Ym) hel
    subst he0;have hlen:n+((1,bs "if") :: (wX wide x++(wB wide t++[]))).length=n+1+(wX wide x).length+1+(wSs wide t).length+1:=Yp;rw [hlen]at hs hc;refine xO (hl:=Yo) (k:=6) (x:=.mk 6 [] [x] 0 t []) (by rw [a1];decide) ((hxi.and hbt).step fun f h=>?_) (by simpa [zL8]using hc);obtain⟨k1,k2⟩:=h;simp only [qY];rw [k1];dsimp only;rw [k2];dsimp only;rw [qF9 hs.e];simp
 | loop x b t hx hb ht ih =>
   intro n d fl l out r h0 h1 hz hl ha hs hc;have e0:wS wide (.mk 7 [] [x] b t [])=(1,bs "while") :: (wX wide x++(1,bs "bound") :: (2,qZ b) :: wB wide t):=by simp [wS]
   have e2:plS E wide n (.mk 7 [] [x] b t [])=plc E n :: (plX E wide (n+1) x++zL8 E wide (n+1+(wX wide x).length+2+1) t):=by simp [plS]
   have e3:htS (.mk 7 [] [x] b t [])=1+max (htX x) (vL t):=by simp [htS,vJ,vL]
   have e4:szS (.mk 7 [] [x] b t [])=1+szX x+yE t:=by simp [szS,kC,yE]
   rw [e0]at ha hs hc;rw [e2]at hc;rw [e3]at h1;rw [e4]at hz hl;have hm1:=cO (htX x) (vL t);have hm2:=cN (htX x) (vL t);obtain⟨a1,a3⟩:=ha;obtain⟨a3,a4,a5,a6⟩:=AtW.app a3;have hlen:n+((1,bs "while") :: (wX wide x++(1,bs "bound") :: (2,qZ b) :: wB wide t)).length=n+1+(wX wide x).length+2+1+(wSs wide t).length+1:=Yp;rw [hlen]at hs hc;have hxi:=xA (E:=E) (wide:=wide) (n:=n+1) (d:=d) (fl:=fl) (l:=l++[plc E n]) hx Yo Yo Yo a3 (by rw [a4];exact zD4 rfl ⟨_,_,rfl,Yd⟩) Yp;have hbt:=zN8 (E:=E) (wide:=wide) (n:=n+1+(wX wide x).length+2) (d:=d) (fl:=fl) (l:=l++[plc E n]++plX E wide (n+1) x) (xs:=t) (fun y hy=>⟨ht y hy,ih y hy⟩) h0 Yo Yo (by simp [jE E wide hx];omega) a6;refine xO (hl:=Yo) (k:=7) (x:=.mk 7 [] [x] b t []) (by rw [a1];decide) ((hxi.and hbt).step fun f h=>?_) (by simpa using hc);obtain⟨k1,k2⟩:=h;simp only [qY];rw [k1];dsimp only;rw [kI (by rw [a4]) (by rw [a4];decide),zB1 a5 (jQ hb).2.2];dsimp only;rw [show(Qt (n+1+(wX wide x).length) d fl (l++[plc E n]++plX E wide (n+1) x)).on (St (n+1+(wX wide x).length+1+1) d fl)=Qt (n+1+(wX wide x).length+2) d fl (l++[plc E n]++plX E wide (n+1) x) from rfl,k2];simp
 | call nm es hn hes =>
   intro n d fl l out r h0 h1 hz hl ha hs hc;have e0:wS wide (.mk 8 nm es 0 [] [])=(1,bs "call") :: (1,nm) :: (4,[40]) :: (kO (es.map (wX wide))++[(4,[41])]):=by simp [wS]
   have e2:plS E wide n (.mk 8 nm es 0 [] [])=plc E n :: plC E wide (n+3) es:=by simp [plS]
   have e3:htS (.mk 8 nm es 0 [] [])=1+vJ es:=by simp [htS,vL]
   have e4:szS (.mk 8 nm es 0 [] [])=1+kC es:=by simp [szS,yE]
   rw [e0]at ha hs hc;rw [e2]at hc;rw [e3]at h1;rw [e4]at hz hl;obtain⟨a1,a2,a3,a4⟩:=ha;obtain⟨a4,a5,_⟩:=AtW.app a4;have hlen:n+((1,bs "call") :: (1,nm) :: (4,[40]) :: (kO (es.map (wX wide))++[(4,[41])])).length=n+3+(kO (es.map (wX wide))).length+1:=Yp;rw [hlen]at hs hc;obtain⟨g1',g2'⟩:=xU (d:=d) (fl:=fl) a2 hn.no;have key:Ev fun f=>yC E f (Qt (n+2) d fl (l++[plc E n]))=some (es,Qt (n+3+(kO (es.map (wX wide))).length+1) d fl (l++[plc E n]++plC E wide (n+3) es)):=by
    cases es with
    | nil =>
      have ec:kO (([]:List Ex).map (wX wide))=[]:=rfl;rw [ec]at a5;have a5:nw E (n+3)=(4,[41]):=a5;refine Ev.of fun f=>?_;unfold yC;rw [zY2 (by rw [a3]) Yd h0 Yo];simp only [cG,lP];rw [show St (n+2+1) (d+1) fl=St (n+3) (d+1) fl from rfl,zT,a5,lN Ym];rw [show Qt (n+2+1) (d+1) fl (l++[plc E n])=Qt (n+3) (d+1) fl (l++[plc E n]) from rfl,zT6 (by rw [a5]) (by rw [a5];decide) h0 Yo];simp [plC,kO]
    | cons x es =>
      have hgx:=hes x Ym;have f1:vJ (x :: es)=max (htX x) (vJ es):=by simp [vJ]
      have f2:kC (x :: es)=szX x+kC es:=by simp [kC]
      rw [f1]at h1;rw [f2]at hz hl;have hm1:=cO (htX x) (vJ es);have hm2:=cN (htX x) (vJ es);have hcs:vX (4,[44]):=⟨Yd,Yd,Yd,fun _=>Yd⟩;obtain⟨tl,htl⟩:∃ tl:List Wd,kO ((x :: es).map (wX wide))=wX wide x++tl∧((tl=[]∧es=[])∨(∃ y ys,es=y :: ys∧tl=(4,[44]) :: kO (es.map (wX wide)))):=by
       cases es with
       | nil=>exact⟨[],by simp [kO],.inl ⟨rfl,rfl⟩⟩
       | cons y ys=>exact⟨(4,[44]) :: kO ((y :: ys).map (wX wide)),rfl,.inr ⟨y,ys,rfl,rfl⟩⟩
      obtain⟨htl,hcase⟩:=htl;rw [htl]at a4 a5 ⊢;obtain⟨b1,b2⟩:=AtW.app a4;have hne:(nw E (n+3)).2≠[41]:=by obtain⟨w,r,e,hw⟩:=jZ9 (wide:=wide) hgx;rw [e]at b1;have b1:nw E (n+3)=w:=b1.1;rw [b1];exact hw
      have hstart:∀ f,yC E f (Qt (n+2) d fl (l++[plc E n]))=(match qS E f (Qt (n+3) (d+1) fl (l++[plc E n]))with
       | none=>none
       | some (x,q)=>match yA E f q [x]with
         | none=>none
         | some (l,q)=>match jX E q [41]with
           | none=>none
           | some q=>some (l,q)):=by
       intro f;unfold yC;rw [zY2 (by rw [a3]) Yd h0 Yo];simp only [cG,lP];rw [show St (n+2+1) (d+1) fl=St (n+3) (d+1) fl from rfl,zT,lM ⟨hne,trivial⟩];rw [show Qt (n+2+1) (d+1) fl (l++[plc E n])=Qt (n+3) (d+1) fl (l++[plc E n]) from rfl];cases qS E f (Qt (n+3) (d+1) fl (l++[plc E n]))with
       | none=>rfl
       | some q =>
         obtain⟨x,q⟩:=q;simp only [lP];cases yA E f q [x]with
         | none=>rfl
         | some q =>
           obtain⟨y,q⟩:=q;simp only [lP];cases jX E q [41] <;> rfl
      rcases hcase with⟨rfl,rfl⟩ | ⟨y,ys,rfl,rfl⟩
      ·rw [cT]at a5 ⊢;have hxi:=xA (E:=E) (wide:=wide) (n:=n+3) (d:=d+1) (fl:=fl) (l:=l++[plc E n]) hgx Yo Yo Yo b1 (by rw [show n+3+(wX wide x).length=n+1+1+1+(wX wide x).length from rfl,a5];exact zB2) Yp;refine(hxi.and (Ev.step (Ev.of (P:=fun _=>True) fun _=>trivial) (Q:=fun f=>1≤f) fun f _=>Yo)).mono fun f h=>?_;obtain⟨k1,hf⟩:=h;obtain⟨g,rfl⟩:∃ g,f=g+1:=⟨f-1,Yo⟩;rw [hstart,k1];dsimp only;rw [yA,show(Qt (n+3+(wX wide x).length) (d+1) fl (l++[plc E n]++plX E wide (n+3) x)).s=St (n+1+1+1+(wX wide x).length) (d+1) fl from rfl,qF9 (by rw [a5];decide)];dsimp only;rw [lN Yd];dsimp only;rw [zT6 (by rw [show n+3+(wX wide x).length=n+1+1+1+(wX wide x).length from rfl,a5]) (by rw [show n+3+(wX wide x).length=n+1+1+1+(wX wide x).length from rfl,a5];decide) h0 Yo];simp [plC]
      ·have hxi:=xA (E:=E) (wide:=wide) (n:=n+3) (d:=d+1) (fl:=fl) (l:=l++[plc E n]) hgx Yo Yo Yo b1 (by rw [show n+3+(wX wide x).length=n+1+1+1+(wX wide x).length from rfl,b2.1];exact hcs) Yp;have hend:nw E (n+3+(wX wide x).length+1+(kO ((y :: ys).map (wX wide))).length)=(4,[41]):=by rw [←a5];congr 1;simp;omega
       have hmr:=jE9 (E:=E) (wide:=wide) (d:=d+1) (fl:=fl) (y :: ys) (n+3+(wX wide x).length) (l++[plc E n]++plX E wide (n+3) x) [x] (fun z hz=>hes z (by simp at hz ⊢;exact .inr hz)) Yo Yo Yo Ym b2 hend (by simp [jE E wide hgx];omega);refine(hxi.and hmr).mono fun f h=>?_;obtain⟨k1,k2⟩:=h;rw [hstart,k1];dsimp only;rw [k2];dsimp only;rw [zT6 (by rw [hend]) (by rw [hend];decide) h0 Yo];simp [plC];omega
   refine xO (hl:=Yo) (k:=8) (x:=.mk 8 nm es 0 [] []) (by rw [a1];decide) (key.step fun f h=>?_) (by simpa using hc);simp only [qY];rw [g1',g2'];rw [show(Qt (n+1) d fl (l++[plc E n])).on (St (n+1+1) d fl)=Qt (n+2) d fl (l++[plc E n]) from rfl,h];simp
end
end
end Go.Proofs.YtfdaebgllibphaaGreatDoor
