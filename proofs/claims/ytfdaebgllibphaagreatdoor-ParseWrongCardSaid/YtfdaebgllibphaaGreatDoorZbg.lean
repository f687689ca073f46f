/- ParseWrong returns true, and its arguments read as before, for every list of bytes, every place and every number; the listed package variables start as the program's text lays them (the card ties them to it). -/
import Derived.Test.YtfdaebgllibphaaGreatDoorCards
import Derived.Test.YtfdaebgllibphaaGreatDoorTie
import Derived.ProofKit
import Derived.OpenShut
import Derived.Deep.DeepHandedRow
import Derived.Stop.LaidErr
import Derived.Shelf.Vars
import Derived.Deep.DeepWitnessRowRef
import Derived.ChangeSlices
import Derived.Deep.Slices
import Derived.ChangeMaps5
import Derived.ChangeSame
import Derived.JoinedOf
import Derived.JoinedAt
import Derived.JoinedStill
import Derived.RowKit
import Derived.Below
import Derived.Carry
import Derived.Deep.DeepLaidRun
import Derived.Test.YtfdaebgllibphaaGreatDoorZbb
import Derived.Test.YtfdaebgllibphaaGreatDoorZbf
set_option linter.unusedVariables false
set_option linter.unusedSimpArgs false
set_option maxRecDepth 100000
set_option maxHeartbeats 16000000
namespace Go.Proofs.YtfdaebgllibphaaGreatDoor
section
section
variable {E:Env} {n:Nat} {d:Int} {fl:Nat}
theorem qU5:NameOk [120]:=⟨⟨120,[],rfl,Yd,Ym⟩,Yd⟩
theorem qZ2 (h0:0≤d) (h1:d≤200) (ha:nw E n=(1,[120])) (hs:vX (nw E (n+1))):∃ f,zM E f (St n d fl)=some ((.mk 2 0 0 0 [120] [],[plc E n]),St (n+1) d fl):=by obtain⟨g1,g2⟩:=xU (d:=d) (fl:=fl) ha qU5.no;obtain⟨k1,k2⟩:=zQ8 qU5;refine xM (yZ (kA rfl (fun h=>by rw [ha]at h;cases h) ⟨1,?_⟩ (yB hs.a)) (yS hs.o)) h0 h1 hs.q;rw [qJ,lH (show(St n d fl).e=0 from rfl),g1,g2,qU,zT,yP,zT,ha];dsimp only;rw [lG (show ¬1=3 by decide),lG k1,lG k2,lG hs.b];rfl
theorem jJ9:∀ (j:Nat) (n:Nat) (d:Int),0≤d→d+(j:Int)≤200→(∀ i,i<j→nw E (n+i)=(4,[40]))→nw E (n+j)=(1,[120])→(∀ i,i<j→nw E (n+j+1+i)=(4,[41]))→vX (nw E (n+2*j+1)) →
 ∃ f x,zM E f (St n d fl)=some (x,St (n+2*j+1) d fl)
 | 0,n,d,h0,h1,_,hx,_,hs=>by obtain⟨f,h⟩:=qZ2 (fl:=fl) h0 Yo hx hs;exact⟨f,_,h⟩
 | j+1,n,d,h0,h1,ho,hx,hc,hs=>by
   have hlast:nw E (n+1+2*j+1)=(4,[41]):=by have:=hc j Yo;rw [show n+(j+1)+1+j=n+1+2*j+1 from by omega]at this;exact this
   obtain⟨f,x,h⟩:=jJ9 j (n+1) (d+1) Yo Yo (fun i hi=>by rw [show n+1+i=n+(i+1) from by omega];exact ho (i+1) Yo) (by rw [show n+1+j=n+(j+1) from by omega];exact hx) (fun i hi=>by rw [show n+1+j+1+i=n+(j+1)+1+i from by omega];exact hc i Yo) (by rw [hlast];exact zB2);have h00:=ho 0 Yo;rw [Nat.add_zero]at h00;obtain⟨g,hw⟩:=zF3 (a:=[40]) (b:=[41]) h0 Yo (by rw [h00]) Yd ⟨f,h⟩ (by rw [hlast]) (by rw [hlast];decide);have e:n+1+2*j+1+1=n+2*(j+1)+1:=Yo;rw [e]at hw;obtain⟨f2,h2⟩:=xM (yZ (k:=1) (kA rfl (fun _=>by rw [h00];decide) ⟨g+1,by rw [qJ,lH (show(St n d fl).e=0 from rfl),qU,zT,h00];exact hw⟩ (yB hs.a)) (yS hs.o)) h0 Yo hs.q;exact⟨f2,x,h2⟩
theorem qD3 {s:PSt} (h:s.e≠0):zC E s=⟨0,[],E.text.length,E.text.length⟩:=by unfold zC;rw [lM h]
theorem jK1 {s:PSt} {w:List UInt8} (h:s.e≠0):isP E s w=false:=by unfold isP;rw [qD3 h];rfl
theorem jK2 {s:PSt} {w:List UInt8} (h:s.e≠0):zC7 E s w=false:=by unfold zC7;rw [qD3 h];simp
theorem jK3 {s:PSt} {x:Nd} (h:s.e≠0):jI E 1 x s=some (x,s):=by rw [jI,jK1 h]
theorem zV9 {s:PSt} {x:Nd} {r:Nat} (h:s.e≠0):qR E 1 r x s=some (x,s):=by rw [qR,lG h]
theorem zB9 {s:PSt} {f:Nat} {x:Nd} (hs:(zC E s).kind=4→jY (zC E s).text false=none) {s1:PSt} (h:qJ E f s=some (x,s1)) (h1:s1.e≠0):∃ g,zR E g s=some (x,s1):=by
 refine⟨max f 1+1,?_⟩;rw [zR];have e:(if (zC E s).kind=4 then jY (zC E s).text false else none)=none:=by
  by_cases h4:(zC E s).kind=4
  ·rw [lM h4,hs h4]
  ·rw [lN h4]
 rw [e];dsimp only;rw [zY1 (cO f 1) h];exact zX9 (cN f 1) (jK3 h1)
theorem zO8 {s s1:PSt} {x:Nd} (h:∃ g,zR E g s=some (x,s1)) (h1:s1.e≠0) (ho:okP s1=true):∃ f,zM E f s=some (x,s1):=by obtain⟨f,h⟩:=yZ (k:=1) h ⟨1,zV9 h1⟩;refine⟨f+1,?_⟩;rw [zM,h];dsimp only;rw [ho,jK2 h1]
theorem qD4 {s:PSt} (h1:s.e≠0) (ho:okP s=true):∃ f,zM E f s=some (nd0,s):=by refine zO8 (zB9 (f:=1) (fun h=>by rw [qD3 h1]at h;cases h) ?_ h1) h1 ho;rw [qJ,lG h1]
structure DeepS (a:Nat) (s:PSt):Prop where
 e:s.e=301
 f:s.fail=a
 d0:-1000≤s.deep
 d1:s.deep≤200
theorem DeepS.ok {a:Nat} {s:PSt} (h:DeepS a s):okP s=true:=by unfold okP;have:=h.d0;have:=h.d1;rw [lH Yo,lH Yo];rfl
theorem DeepS.ne {a:Nat} {s:PSt} (h:DeepS a s):s.e≠0:=by rw [h.e];decide
theorem qU6:∀ (j:Nat) (n:Nat) (d:Int),0≤d→d+(j:Int)=200→(∀ i,i≤j→nw E (n+i)=(4,[40]))→∃ f x s,zM E f (St n d fl)=some (x,s)∧DeepS (plc E (n+j)) ⟨s.n,s.deep+(j:Int),s.fail,s.e⟩∧s.deep≤200
 | 0,n,d,h0,h1,ho=>by
   have h00:=ho 0 Yo;rw [Nat.add_zero]at h00;obtain rfl:d=200:=Yo;have hw:∃ s,zX E 2 (St n 200 fl) [40] [41]=none∨True:=⟨St n 200 fl,.inr trivial⟩;have he:zC7 E (St n 200 fl) [40]=true:=by unfold zC7;rw [zT,h00];decide
   have hop:kV E (St n 200 fl) [40]=⟨n,200,plc E n,301⟩:=by unfold kV zI4;rw [he,lM rfl,lM rfl,lM (by show(200:Int)≤200;omega)];unfold qH;rw [lM rfl,yP]
   obtain⟨f,hc⟩:=qD4 (E:=E) (s:=⟨n,200,plc E n,301⟩) (by show 301≠0;decide) (by unfold okP;rfl);have hwi:zX E (f+1) (St n 200 fl) [40] [41]=some (nd0,⟨n,199,plc E n,301⟩):=by rw [zX,wU Yo Yo];dsimp only;rw [hop,hc];dsimp only;rw [show okP ⟨n,200,plc E n,301⟩=true from by unfold okP;rfl];dsimp only;unfold wN zI;rw [jK1 (s:=⟨n,200,plc E n,301⟩) (by show 301≠0;decide)];rfl
   obtain⟨f2,h2⟩:=zO8 (E:=E) (s1:=⟨n,199,plc E n,301⟩) (zB9 (s:=St n 200 fl) (f:=f+2) (fun _=>by rw [zT,h00];decide) (by rw [qJ,lH (show(St n 200 fl).e=0 from rfl),qU,zT,h00];exact hwi) (by show 301≠0;decide)) (by show 301≠0;decide) (by unfold okP;rfl);exact⟨f2,nd0,_,h2,⟨rfl,rfl,by show(-1000:Int)≤199+0;omega,by show(199:Int)+0≤200;omega⟩,by show(199:Int)≤200;omega⟩
 | j+1,n,d,h0,h1,ho=>by
   have h00:=ho 0 Yo;rw [Nat.add_zero]at h00;obtain⟨f,x,s,hc,hs,hsd⟩:=qU6 j (n+1) (d+1) Yo Yo (fun i hi=>by rw [show n+1+i=n+(i+1) from by omega];exact ho (i+1) Yo);have hse:s.e=301:=hs.e;have hsf:s.fail=plc E (n+(j+1)):=by rw [show n+(j+1)=n+1+j from by omega];exact hs.f
   have hd0:(-1000:Int)≤s.deep+(j:Int):=hs.d0;have hd1:s.deep+(j:Int)≤200:=hs.d1;have hok:okP s=true:=by unfold okP;rw [lH Yo,lH Yo];rfl
   have hne:s.e≠0:=by rw [hse];decide
   have hwi:zX E (f+1) (St n d fl) [40] [41]=some (x,⟨s.n,s.deep+-1,s.fail,s.e⟩):=by rw [zX,wU Yo Yo];dsimp only;rw [zQ6 (by rw [h00]) Yd Yo,hc];dsimp only;rw [hok];dsimp only;unfold wN zI;rw [jK1 hne];unfold qH yH;rw [lN Yd,lN hne]
   have hok2:okP ⟨s.n,s.deep+-1,s.fail,s.e⟩=true:=by unfold okP;rw [lH (by show(-1000000:Int)≤s.deep+-1;omega),lH (by show s.deep+-1≤(1000000:Int);omega)];rfl
   obtain⟨f2,h2⟩:=zO8 (E:=E) (s1:=⟨s.n,s.deep+-1,s.fail,s.e⟩) (zB9 (s:=St n d fl) (f:=f+2) (fun _=>by rw [zT,h00];decide) (by rw [qJ,lH (show(St n d fl).e=0 from rfl),qU,zT,h00];exact hwi) hne) hne hok2;exact⟨f2,x,_,h2,⟨hse,hsf,by show(-1000:Int)≤s.deep+-1+((j+1:Nat):Int);omega,by show s.deep+-1+((j+1:Nat):Int)≤200;omega⟩,by show s.deep+-1≤200;omega⟩
end
def zF9 (m:Nat):List UInt8:=List.replicate m 40++[120]++List.replicate m 41
def opP (m:Nat):List Pc:=List.replicate m ⟨[],4,[40]⟩
def clP (m:Nat):List Pc:=List.replicate m ⟨[],4,[41]⟩
def vE (m:Nat):List Pc:=opP m++(⟨[],1,[120]⟩ :: clP m)
theorem qO3 (c:UInt8) (m:Nat):jF (List.replicate m ⟨[],4,[c]⟩)=List.replicate m c:=by
 induction m with
 | zero=>rfl
 | succ m ih=>rw [cV,zF,ih,cV];rfl
theorem jR6 (m:Nat):jF (vE m)=zF9 m:=by unfold vE zF9;rw [qD,zF];show jF (List.replicate m ⟨[],4,[40]⟩)++([]++[120]++jF (List.replicate m ⟨[],4,[41]⟩))=_;rw [qO3,qO3];simp
theorem qO4 (c:UInt8) (hs:yF.contains c=true) (h1:qM c=false) (h2:zV c=false) (h3:∀ d,wV c d=false) (h4:yJ c=false) (h5:c.toNat≠35):∀ (m:Nat) (t:List UInt8),LexOk (List.replicate m ⟨[],4,[c]⟩) t
 | 0,_=>trivial
 | m+1,t=>by rw [cV];exact⟨vY _ h4 h5,zT5 c _ hs h1 h2 fun d _=>h3 d,by show 4≠0;decide,by show [c]≠[];simp,qO4 c hs h1 h2 h3 h4 h5 m t⟩
theorem jR7 (m:Nat):LexOk (vE m) []:=by
 refine LexOk.app _ _ _ (qO4 40 Yd Yd Yd (fun d=>by simp [wV]) Yd Yd m _) ⟨?_,?_,by show 1≠0;decide,by show [120]≠[];simp,qO4 41 Yd Yd Yd (fun d=>by simp [wV]) Yd Yd m _⟩
 ·exact vY _ Yd Yd
 ·refine zJ3 120 [] _ Yd (fun x hx=>by cases hx) fun d hd=>?_;rw [cT]at hd;cases m with
  | zero=>cases hd
  | succ m =>
    have:d=41:=by unfold clP at hd;rw [qO3,cV]at hd;injection hd with hd;exact hd.symm
    subst this;decide
theorem qU7 (m:Nat):(vE m).length=2*m+1:=by simp [vE,opP,clP];omega
theorem zW1 (m:Nat):(zF9 m).length=2*m+1:=by simp [zF9];omega
theorem qJ7 (m:Nat):zY (zF9 m) (kG (zF9 m))=yI 0 (vE m)∧zI3 (kG (zF9 m))=none:=by have h:=zJ2 (vE m) [] (jR7 m) rfl;rw [cT,jR6]at h;exact h
theorem jK4 {m i:Nat} (hi:i<m) (t:List UInt8):nw ⟨t,yI 0 (vE m)⟩ i=(4,[40]):=by rw [zU3];unfold vE opP;rw [cI Yp,List.getElem?_replicate,lM hi];rfl
theorem jR8 (m:Nat) (t:List UInt8):nw ⟨t,yI 0 (vE m)⟩ m=(1,[120]):=by rw [zU3];unfold vE opP;rw [cH Ym,List.length_replicate,Nat.sub_self];rfl
theorem kD2 {m i:Nat} (hi:i<m) (t:List UInt8):nw ⟨t,yI 0 (vE m)⟩ (m+1+i)=(4,[41]):=by rw [zU3];unfold vE opP clP;rw [cH Yp,List.length_replicate,show m+1+i-m=i+1 from Yo,List.getElem?_cons_succ,List.getElem?_replicate,lM hi];rfl
theorem jR9 (m:Nat) (t:List UInt8):nw ⟨t,yI 0 (vE m)⟩ (2*m+1)=(0,[]):=by rw [zU3,cW (by rw [qU7];exact lF _)];rfl
theorem kD3 {m i:Nat} (hi:i<m) (t:List UInt8):plc ⟨t,yI 0 (vE m)⟩ i=i:=by
 have key:∀ (m o i:Nat) (B:List Pc),i<m→((yI o (List.replicate m ⟨[],4,[40]⟩++B))[i]?).map (fun t=>t.at')=some (o+i):=by
  intro m;induction m with
  | zero=>intro o i B h;omega
  | succ m ih =>
    intro o i B h;rw [cV,lR,yI];cases i with
    | zero=>rfl
    | succ i =>
      rw [List.getElem?_cons_succ,ih _ i B Yo];simp;omega
 have h:=key m 0 i (⟨[],1,[120]⟩ :: clP m) hi;unfold plc;show(match (yI 0 (vE m))[i]? with | some t=>t.at' | none=>_)=i;unfold vE opP;cases hq:(yI 0 (List.replicate m ⟨[],4,[40]⟩++(⟨[],1,[120]⟩ :: clP m)))[i]? with
 | none=>rw [hq]at h;cases h
 | some t =>
   rw [hq]at h;injection h with h;have h:t.at'=0+i:=h;show t.at'=i;omega
theorem zW2 {E:Env} {s:PSt} (h:¬(s.e=0∧s.n<E.toks.length)):zM1 E s=s:=lN h
theorem qJ8 {m:Nat} (hm:m≤200):∃ f x,xW f (zF9 m)=some (x,(zF9 m).length,0):=by
 obtain⟨h1,h2⟩:=qJ7 m;obtain⟨f,x,h⟩:=jJ9 (E:=⟨zF9 m,yI 0 (vE m)⟩) (fl:=0) m 0 0 Yo Yo (fun i hi=>by rw [Nat.zero_add];exact jK4 hi _) (by rw [Nat.zero_add];exact jR8 m _) (fun i hi=>by rw [Nat.zero_add];exact kD2 hi _) (by rw [Nat.zero_add,jR9];exact⟨Yd,Yd,Yd,fun h=>by cases h⟩);have hr:zM1 ⟨zF9 m,yI 0 (vE m)⟩ (St (0+2*m+1) 0 0)=St (0+2*m+1) 0 0:=zW2 (by rintro⟨_,h3⟩;have h4:0+2*m+1<(yI 0 (vE m)).length:=h3;rw [xV,qU7]at h4;omega);refine⟨f,x.1,?_⟩;unfold xW;rw [lN (by rw [zW1];omega),h2,h1];dsimp only;rw [show(⟨0,0,0,0⟩:PSt)=St 0 0 0 from rfl,h];dsimp only;rw [hr,lM rfl]
theorem qD5 {m:Nat} (hm:200<m) (hm2:m≤300):∃ f,xW f (zF9 m)=some (ex0,200,301):=by
 obtain⟨h1,h2⟩:=qJ7 m;obtain⟨j,hj⟩:∃ j,j=200:=⟨_,rfl⟩;obtain⟨f,x,s,h,hs,_⟩:=qU6 (E:=⟨zF9 m,yI 0 (vE m)⟩) (fl:=0) j 0 0 Yo Yo (fun i hi=>by rw [Nat.zero_add];exact jK4 Yo _);have hse:s.e=301:=hs.e;have hsf:s.fail=200:=by have e:=hs.f;rw [Nat.zero_add,kD3 Yo]at e;rw [←hj];exact e
 have hr:zM1 ⟨zF9 m,yI 0 (vE m)⟩ s=s:=zW2 (fun h=>by rw [hse]at h;exact absurd h.1 Yd);refine⟨f,?_⟩;unfold xW;rw [lN (by rw [zW1];omega),h2,h1];dsimp only;rw [show(⟨0,0,0,0⟩:PSt)=St 0 0 0 from rfl,h];dsimp only;rw [hr,lN (by rw [hse];decide),hse,hsf]
def yL (m:Nat):List UInt8:=[120,32,43,32]++List.replicate m 57++[58,49]
def xJ (m:Nat):List Pc:=[⟨[],1,[120]⟩,⟨[32],4,[43]⟩,⟨[32],3,List.replicate m 57++[58,49]⟩]
theorem jK5 (m:Nat):jF (xJ m)=yL m:=by simp [jF,xJ,yL]
theorem jK6 (m:Nat) (hm:0<m):LexOk (xJ m) []:=by
 obtain⟨k,rfl⟩:∃ k,m=k+1:=⟨m-1,Yo⟩;refine⟨vY _ Yd Yd,?_,by show 1≠0;decide,by show [120]≠[];simp,?_,?_,by show 4≠0;decide,by show [43]≠[];simp,?_,?_,by show 3≠0;decide,by show List.replicate (k+1) 57++[58,49]≠[];simp,trivial⟩
 ·exact zJ3 120 [] _ Yd (fun x hx=>by cases hx) fun d hd=>by
   have:d=32:=by injection hd with hd;exact hd.symm
   subst this;decide
 ·show jG false (32 :: 43 :: _)=1;simp only [jG];rw [lN Yd,lM Yd,lN Yd,lN Yd]
 ·exact zT5 43 _ Yd Yd Yd fun d _=>by simp [wV]
 ·show jG false (32 :: (List.replicate (k+1) 57++[58,49]++_))=1;rw [cV];simp only [jG,lR];rw [lN Yd,lM Yd,lN Yd,lN Yd]
 ·show zC1 ((List.replicate (k+1) 57++[58,49])++_)=_;have h:=qQ7 57 (List.replicate k 57) 49 [] (jF []++[]) (fun x hx=>by rw [←cV]at hx;obtain⟨_,rfl⟩:=List.mem_replicate.1 hx;decide) (fun x hx=>by simp at hx;subst hx;decide) (fun d hd=>by cases hd);rw [cV];exact h
theorem qZ3 (m:Nat) (hm:0<m):zY (yL m) (kG (yL m))=yI 0 (xJ m)∧zI3 (kG (yL m))=none:=by have h:=zJ2 (xJ m) [] (jK6 m hm) rfl;rw [cT,jK5]at h;exact h
theorem jK7 (m:Nat) (hm:10≤m):(zH8 (List.replicate m 57++[58,49])).2.2≠0:=by
 obtain⟨k,rfl⟩:∃ k,m=k+10:=⟨m-10,Yo⟩;have h1:∀ l:List UInt8,(∀ x∈l,x≠58)→zC2 58 (l++[58,49])=(l,[49],true):=by
  intro l;induction l with
  | nil=>intro _;rfl
  | cons c l ih =>
    intro h;have hc:c≠58:=h c Ym;rw [lR,zC2,ih fun x hx=>h x (by simp [hx])];simp [hc]
 have h2:=h1 (List.replicate (k+10) 57) fun x hx=>by obtain⟨_,rfl⟩:=List.mem_replicate.1 hx;decide
 have hd:∀ k,jT (List.replicate k 57)=k:=by
  intro k;induction k with
  | zero=>rfl
  | succ k ih=>rw [cV,jT,lM Yd,ih]
 have h3:vS (List.replicate (k+10) 57)=(0,281):=by
  unfold vS;rw [lN (by
   rintro(h | h)
   ·rw [cV]at h;cases h
   ·rw [hd,List.length_replicate]at h;omega)]
  rfl
 unfold zH8;rw [h2];dsimp only;rw [h3];have h4:(vS [49]).2=0:=Yr;rw [h4,lN Yd,lM Yd];decide
theorem qZ4 (m:Nat) (hm:10≤m) (hm2:m≤300):∃ f,xW f (yL m)=some (ex0,4,302):=by
 obtain⟨h1,h2⟩:=qZ3 m Yo;have w0:nw ⟨yL m,yI 0 (xJ m)⟩ 0=(1,[120]):=rfl;have w1:nw ⟨yL m,yI 0 (xJ m)⟩ 1=(4,[43]):=rfl;have w2:nw ⟨yL m,yI 0 (xJ m)⟩ 2=(3,List.replicate m 57++[58,49]):=rfl;obtain⟨g1,g2⟩:=xU (E:=⟨yL m,yI 0 (xJ m)⟩) (d:=0) (fl:=0) w0 qU5.no;obtain⟨k1,k2⟩:=zQ8 qU5;have hb:qJ ⟨yL m,yI 0 (xJ m)⟩ 1 (St 2 0 0)=some (nd0,⟨2,0,4,302⟩):=by rw [qJ,lH (show(St 2 0 0).e=0 from rfl),qU,zT,w2];dsimp only;rw [lH (show 3=3 from rfl),lG (jK7 m hm)];rfl
 have hne:(⟨2,0,4,302⟩:PSt).e≠0:=Yd;obtain⟨f1,ho⟩:=zB9 (s:=St 2 0 0) (f:=1) (fun h=>by rw [qU,w2]at h;cases h) hb hne;obtain⟨f2,hch⟩:=yZ (k:=6) ⟨f1,ho⟩ ⟨1,zV9 hne⟩;have hbv:qJ ⟨yL m,yI 0 (xJ m)⟩ 1 (St 0 0 0)=some ((.mk 2 0 0 0 [120] [],[plc ⟨yL m,yI 0 (xJ m)⟩ 0]),St 1 0 0):=by rw [qJ,lH (show(St 0 0 0).e=0 from rfl),g1,g2,qU,zT,yP,zT,w0,w1];dsimp only;rw [lG (show ¬1=3 by decide),lG k1,lG k2,lG (show ¬([43]:List UInt8)=[91] by decide)];rfl
 have hl:qR ⟨yL m,yI 0 (xJ m)⟩ (f2+2) 1 (.mk 2 0 0 0 [120] [],[plc ⟨yL m,yI 0 (xJ m)⟩ 0]) (St 1 0 0)=some (qI 6 3 0 0 [] (yK (.mk 2 0 0 0 [120] [],[plc ⟨yL m,yI 0 (xJ m)⟩ 0])) [(.mk 2 0 0 0 [120] [],[plc ⟨yL m,yI 0 (xJ m)⟩ 0]),nd0],⟨2,0,4,302⟩):=by rw [qR,lH (show(St 1 0 0).e=0 from rfl),qU,zT,w1];dsimp only;rw [lM rfl,show jY [43] true=some 3 from by decide];dsimp only;rw [lG (show ¬kD 3<1 by decide),show kD 3+1=6 from rfl,show zE (St 1 0 0)=St 2 0 0 from rfl,zN6 (Nat.le_succ f2) hch];dsimp only;rw [zB3 (by simp [nd0])];dsimp only;exact zN7 (Nat.le_add_left 1 f2) (zV9 hne)
 obtain⟨f3,hop⟩:=kA (E:=⟨yL m,yI 0 (xJ m)⟩) (s:=St 0 0 0) (n:=0) (d:=0) (fl:=0) rfl (fun h=>by rw [w0]at h;cases h) ⟨1,hbv⟩ (yB (by rw [w1];decide));obtain⟨f4,hc⟩:=yZ (k:=1) ⟨f3,hop⟩ ⟨f2+2,hl⟩;have hr:zM1 ⟨yL m,yI 0 (xJ m)⟩ ⟨2,0,4,302⟩=⟨2,0,4,302⟩:=zW2 (fun h=>absurd h.1 Yd);refine⟨f4+1,?_⟩;unfold xW;rw [lN (by unfold yL;simp;omega),h2,h1];dsimp only;rw [show(⟨0,0,0,0⟩:PSt)=St 0 0 0 from rfl,zM,hc];dsimp only;rw [show okP ⟨2,0,4,302⟩=true from Yd,jK2 hne];dsimp only;rw [hr];rfl
end
section
open Go.RowKit Go.PlainAid
theorem jK8 {x:Gx} (h:MadeG x) (wide:Bool):(zH2 wide x).length≤60000:=by
 obtain⟨nb,hnb,_,_⟩:=h.b;obtain⟨wd,hwd,_,_⟩:=h.w;have a1:=jO nb Yo;have a2:=jO wd Yo;have a3:=qS2 h 4;have a4:=jS h.rq.sh wide;have a5:=h.rq.sz;have a6:=jS h.iv.sh wide;have a7:=h.iv.sz;have b1:=xQ (fun y hy=>(h.wk.all y hy).sh) wide (l:=x.work);have b2:=h.wk.sz;have b3:=xQ (fun y hy=>(h.rc.all y hy).sh) wide (l:=x.recover);have b4:=h.rc.sz;simp only [pd]at b2 b4;have c1:=zA2 (f:=zK7 wide) (M:=64) x.inits fun i hi=>by obtain⟨⟨kb,h2,h3⟩,h4⟩:=h.ins.1 i hi;have h5:=jS h4.sh wide;have h6:=h4.sz;have h7:=jO kb h3;unfold zK7;rw [h2];have h8:(bs " init ").length=6:=Yd;simp only [Int.toNat_natCast,Ya,Yc,Yn];omega
 have c2:=h.ins.2;have c3:64*x.inits.length≤64*3:=Nat.mul_le_mul_left _ c2;have c4:=zA2 (f:=zH6 wide) (M:=6000) x.procs fun r hr=>qH8 (h.ps.1 r hr) wide;have c5:=h.ps.2;have c6:6000*x.procs.length≤6000*1:=Nat.mul_le_mul_left _ c5;have e1:(bs "device ").length=7:=Yd;have e2:(bs " width ").length=7:=Yd;have e3:(bs " require ").length=9:=Yd;have e4:(bs "\nwork").length=5:=Yd;have e5:(bs "recover").length=7:=Yd;have e6:(bs "invariant ").length=10:=Yd;rw [qH9,vB,vB,hnb,hwd];simp only [Int.toNat_natCast,Ya,Yc,Yn];omega
structure kD4 (T:List UInt8) (a:Nat) (p1 p2:List UInt8):Prop where
 cut:T=p1++p2
 len:p1.length=a
 dev:∃ f b,PgR f (p1++[32,100,101,118,105,99,101,32]++p2) gx0 [] b 300∧(0<a→b=a+1)
 dol:PgR 0 (p1++[36]++p2) gx0 [] a 280
theorem jS1 {x:Gx} (h:MadeG x) (wide:Bool) (k:Nat) (hk:k<(pcG wide x).length):∃ (t:Tk) (p1 p2:List UInt8),(yI 0 (pcG wide x))[k]?=some t∧kD4 (zH2 wide x) t.at' p1 p2:=by
 obtain⟨A,pc,B,e,hA,hT,ht⟩:=jR5 (wide:=wide) h.good k hk;obtain⟨f,b,hd,hb⟩:=jJ8 h.good h.fit (by have:=h.sz;omega) A pc B e;have hl:=qJ6 h.good A pc B e;refine⟨_,jF A++pc.gap,pc.tok++jF B,ht,⟨hT,Ym,⟨f,b,?_,fun ha=>?_⟩,?_⟩⟩
 ·have e2:(32 :: wH++[32]:List UInt8)=[32,100,101,118,105,99,101,32]:=by decide
  rw [e2]at hd;exact hd
 ·refine hb fun h0=>?_;have hf:(A++pc :: B)[0]?=some ⟨[],1,bs "device"⟩:=by rw [←e];rfl
  subst h0;have hp:pc=⟨[],1,bs "device"⟩:=by injection hf
  subst hp;simp [jF]at ha
 ·have e3:jF A++pc.gap++[36]++(pc.tok++jF B)=jF A++(pc.gap++(36 :: (pc.tok++jF B))):=by simp
  rw [e3];exact hl
theorem jK9 (c:UInt8):∀ m:Nat,Lib.repeatL ((⟨#[c]⟩:ByteArray).data.toList) m=List.replicate m c
 | 0=>rfl
 | m+1=>by rw [Lib.repeatL,jK9 c m];rfl
theorem jL1 (A0:Option Addr) (n c0:Nat) (Lb:List UInt8) (k16 n8:Nat) (h16:k16≤65535) (h8:n8≤255) (w:World) (hv:Hid (Vars w)) (hr:Hid (Rd w A0 (Lb.map fun b=>uB b.toNat))) (hl:Hid (Lb.length=n)) (hn:n≤9223372036854775807) (hc:n≤c0) :
 Calls Tryz.prog 5 #[.slice A0 n c0,.int .u16 k16,uB n8] w fun e w'=>e=.returned (.bool true)∧Below w.heap.size w w':=by
 have HAW:=Ph (kK3 w hv);go_enter Tryz.func5,Tryz.ntmps5
 go_wp2_with fail
 refine HAW.out.mono ?_;rintro e w1 ⟨rfl,hb1⟩;have HV1:Hid (Vars w1):=Ph (hv.out.below hb1);have HMC:=Ph (kO8 A0 n c0 Lb w1 (Ph (hr.out.below hb1)) (Ph fun hne b off e=>by obtain⟨b',off',e',hlt,_⟩:=(hr.out.below hb1).cells (by simpa using hne);rw [e]at e';injection e' with e';injection e' with e1;omega) hl hn hc);have HB1:=Ph hb1;clear hb1 HAW hv hr hl hn hc;go_wp2_with fail
 refine HMC.out.mono ?_;rintro e w2 ⟨x,v,rfl,hmg,hgx,hb2⟩;unfold zN5;have HMG:=Ph hmg;have HB2:Hid (Below w.heap.size w w2):=Ph (HB1.out.trans (hb2.mono HB1.out.size));have HV2:Hid (Vars w2):=Ph (HV1.out.below hb2);have HGX:=Ph hgx;clear hmg hgx hb2 HMC HB1 HV1;have H1G:Hid (((uG x v):Array Value).all (·.oneCell')=true):=Ph (all_oneCell_toArray (xD x v));go_upto_region 4 with(refine yN rfl 36 (.tmp 7) (.tmp 22) rfl w2 uP (uG x v) rfl rfl jR rfl H1G.out ?_)
 have HK3:=Ph (Bk.new w2 36 (uG x v));have HB3:Hid (Below w.heap.size w (w2.alloc (.cells (uG x v) 36))):=Ph (HB2.out.trans (zB.mono HB2.out.size));have HV3:Hid (Vars (w2.alloc (.cells (uG x v) 36))):=Ph (HV2.out.below zB);have HG3:Hid (GxP (fun b=>w1.heap.size≤b) (w2.alloc (.cells (uG x v) 36)) x v):=Ph (itG.stay _ _ _ _ _ (Stays.below zB) HGX.out);generalize (w2.alloc _)=W3 at HK3 HB3 HV3 HG3 ⊢;obtain⟨pb,hpb⟩:∃ b,w2.heap.size=b:=⟨_,rfl⟩;rw [hpb]at HK3 ⊢;clear hpb HB2 HV2 HGX H1G;have HRG:Hid (W3.rangeAt pb 0 [uI x.blocks,uI x.width,.slice v.is.A v.is.n v.is.c,.slice v.gs.A v.gs.n v.gs.c,.slice v.vs.A v.vs.n v.vs.c,.slice v.ar.A v.ar.n v.ar.c,uB x.require.kind,uB x.require.op,uW x.require.value,uI x.require.width,uR x.require.name,.slice v.rq.A v.rq.n v.rq.c,.slice v.ins.A v.ins.n v.ins.c,.slice v.ps.A v.ps.n v.ps.c,.slice v.wk.A v.wk.n v.wk.c,.slice v.rc.A v.rc.n v.rc.c,uB x.invariant.kind,uB x.invariant.op,uW x.invariant.value,uI x.invariant.width,uR x.invariant.name,.slice v.iv.A v.iv.n v.iv.c]):=Ph (yM HK3.out);have HTX:=Ph (kJ7 x HMG v (fun b=>w1.heap.size≤b) true W3 HG3);go_wp2_with (refine wpList_load_mid rfl 36 (.tmp 7) rfl pb 0 rfl [uI x.blocks,uI x.width,.slice v.is.A v.is.n v.is.c,.slice v.gs.A v.gs.n v.gs.c,.slice v.vs.A v.vs.n v.vs.c,.slice v.ar.A v.ar.n v.ar.c,uB x.require.kind,uB x.require.op,uW x.require.value,uI x.require.width,uR x.require.name,.slice v.rq.A v.rq.n v.rq.c,.slice v.ins.A v.ins.n v.ins.c,.slice v.ps.A v.ps.n v.ps.c,.slice v.wk.A v.wk.n v.wk.c,.slice v.rc.A v.rc.n v.rc.c,uB x.invariant.kind,uB x.invariant.op,uW x.invariant.value,uI x.invariant.width,uR x.invariant.name,.slice v.iv.A v.iv.n v.iv.c] _ HRG.out Tryz.underlying36 rfl jR ?_)
 refine HTX.out.mono ?_;rintro e w4 ⟨rfl,hb4⟩;have HB4:Hid (Below w.heap.size w w4):=Ph (HB3.out.trans (hb4.mono HB3.out.size));have HV4:Hid (Vars w4):=Ph (HV3.out.below hb4);have HTL:=Ph (jK8 HMG.out true);have HTG:=Ph (kI4 (wide:=true) HMG.out.good HMG.out.fit);have HWA:=Ph (jS1 HMG.out true);have HPL:Hid (2≤(pcG true x).length∧(pcG true x).length≤60000):=Ph ⟨by unfold pcG;simp,by have hp:=qG6 (wide:=true) HMG.out.good;have h1:=zQ7 (pcG true x) [] (hp.lex [] Safe.nil);rw [hp.cat]at h1;have:=HTL.out;omega⟩;clear hb4 HTX HRG HK3 HB3 HV3 HG3;obtain⟨T,hT⟩:∃ T,zH2 true x=T:=⟨_,rfl⟩;rw [hT]at HTL HTG HWA ⊢;have HTT:Hid (zY T (kG T)=yI 0 (pcG true x)∧zI3 (kG T)=none):=Ph ⟨HTG.out.2.1,HTG.out.1⟩;clear hT HTG HMG;obtain⟨pcs,hpcs⟩:∃ l,pcG true x=l:=⟨_,rfl⟩;rw [hpcs]at HWA HPL HTT;clear hpcs;have HSC:=Ph (jN4 (str T) w4 (by rw [jV];have:=HTL.out;omega));go_wp2_with fail
 refine HSC.out.mono ?_;rintro e w5 ⟨hb5,hsc⟩;have hsc':(∃ a,zI3 (kG T)=some a∧e=.returned (.tuple #[uN,uI a,uI 280]))∨(zI3 (kG T)=none∧∃ A c,e=.returned (.tuple #[.slice A (zY T (kG T)).length c,uI T.length,uI 0])∧RdT w5 A 44 ((zY T (kG T)).flatMap zQ1)):=hsc;clear hsc HSC;rw [HTT.out.1,HTT.out.2,xV]at hsc';rcases hsc' with⟨a,hbad,_⟩ | ⟨_,A,c,rfl,hrd⟩
 ·cases hbad
 have HB5:Hid (Below w.heap.size w w5):=Ph (HB4.out.trans (hb5.mono HB4.out.size));have HV5:Hid (Vars w5):=Ph (HV4.out.below hb5);have HRD:=Ph hrd;clear hb5 hrd HB4 HV4 HTT;obtain⟨N,hN⟩:∃ N,pcs.length=N:=⟨_,rfl⟩;rw [hN]at HPL HWA ⊢;obtain⟨hN2,hN6⟩:=HPL.out;obtain⟨kk,hkk⟩:∃ kk,k16 % N=kk:=⟨_,rfl⟩;have hkN:kk<N:=by rw [←hkk];exact Nat.mod_lt _ Yo
 obtain⟨t,p1,p2,htk,hwa⟩:=HWA.out kk hkN;obtain⟨bb,off,t',hAA,ht',hbb,hcs⟩:=Rd.flat (f:=zQ1) (m:=3) (fun _=>rfl) Yo (i:=kk) HRD.out.rd (by rw [xV,hN];exact hkN);obtain rfl:t=t':=by rw [htk]at ht';injection ht'
 subst hAA;have c0:w5.cell? ⟨bb,off+kk*3,none⟩=some (uB t.kind):=hcs 0 _ Yo rfl;have c1:w5.cell? ⟨bb,off+kk*3+1,none⟩=some (uI t.at'):=hcs 1 _ Yo rfl;have c2:w5.cell? ⟨bb,off+kk*3+2,none⟩=some (uI t.fin):=hcs 2 _ Yo rfl;have wk:IntKind.i64.wrap (k16:Int)=(k16:Int):=by rw [lL];omega
 have wm:(k16:Int).tmod (N:Int)=(kk:Int):=by rw [←Int.ofNat_tmod,hkk]
 have hN0:((N:Int) == 0)=false:=Yp;have hk0:(0:Int)≤(kk:Int):=Yo;have hkI:(kk:Int)<(N:Int):=Yo;have HW:=Ph hwa;have hTl:=HTL.out;have hal:t.at'≤T.length:=by rw [hwa.cut,Ya,hwa.len];omega
 have hz:(str T).size=T.length:=jV T;clear hcs htk hwa hkk hN HPL HWA HRD hbb;obtain⟨a,ha⟩:∃ a,t.at'=a:=⟨_,rfl⟩;obtain⟨tk,htk⟩:∃ a,t.kind=a:=⟨_,rfl⟩;obtain⟨tf,htf⟩:∃ a,t.fin=a:=⟨_,rfl⟩;rw [ha]at c1 HW hal;rw [htk]at c0;rw [htf]at c2;clear ha htk htf;go_upto_region 9 with fail
 have HK6:=Ph (Bk.new w5 44 #[uB tk,uI a,uI tf]);have HB6:Hid (Below w.heap.size w (w5.alloc (.cells #[uB tk,uI a,uI tf] 44))):=Ph (HB5.out.trans (zB.mono HB5.out.size));have HV6:Hid (Vars (w5.alloc (.cells #[uB tk,uI a,uI tf] 44))):=Ph (HV5.out.below zB);generalize (w5.alloc _)=W6 at HK6 HB6 HV6 ⊢;obtain⟨tb,htb⟩:∃ b,w5.heap.size=b:=⟨_,rfl⟩;rw [htb]at HK6 ⊢;clear htb HB5 HV5 c0 c1 c2;obtain⟨c0,c1,c2⟩:=zJ HK6.out;have ha0:(0:Int)≤(a:Int):=Yo;have e1:decide ((a:Int)<0)=false:=Ym;have e2:decide ((T.length:Int)<(a:Int))=false:=Yp;have haT:(a:Int)≤(T.length:Int):=Yo;have hp1l:p1.length=a:=HW.out.len;have hpl:p1.length+p2.length=T.length:=by rw [HW.out.cut,Ya]
 have x1:(str T).extract 0 a=str p1:=by rw [HW.out.cut,qK1,qE,List.drop_zero,Nat.sub_zero,←hp1l,List.take_left]
 have x2:(str T).extract a T.length=str p2:=by rw [HW.out.cut,qK1,qE,←hp1l,List.drop_left,cJ (by rw [Ya];omega)]
 have R1:∀ w,(Op.stringOp .add (str p1) (⟨#[32,100,101,118,105,99,101,32]⟩:ByteArray)).run Tryz.prog w=.ok (.string (str (p1++[32,100,101,118,105,99,101,32]))) w:=zQ p1 [32,100,101,118,105,99,101,32] (by show p1.length+8≤4000000;omega);have R2:∀ w,(Op.stringOp .add (str (p1++[32,100,101,118,105,99,101,32])) (str p2)).run Tryz.prog w=.ok (.string (str (p1++[32,100,101,118,105,99,101,32]++p2))) w:=zQ _ p2 (by rw [Ya];show p1.length+8+p2.length≤4000000;omega);have R3:∀ w,(Op.stringOp .add (str p1) (⟨#[36]⟩:ByteArray)).run Tryz.prog w=.ok (.string (str (p1++[36]))) w:=zQ p1 [36] (by show p1.length+1≤4000000;omega);have R4:∀ w,(Op.stringOp .add (str (p1++[36])) (str p2)).run Tryz.prog w=.ok (.string (str (p1++[36]++p2))) w:=zQ _ p2 (by rw [Ya];show p1.length+1+p2.length≤4000000;omega);obtain⟨f,b,hdev,hb0⟩:=HW.out.dev;have hdol:=HW.out.dol;have HD1:Hid (∀ W,Vars W→Calls Tryz.prog 11 #[.string (str (p1++[32,100,101,118,105,99,101,32]++p2))] W (qN1 W gx0 [] b 300)):=Ph fun W hW=>jU8 f _ gx0 [] b 300 hdev (by simp only [Ya,Yc,Yn];omega) W (Ph hW);have HD2:Hid (∀ W,Vars W→Calls Tryz.prog 11 #[.string (str (p1++[36]++p2))] W (qN1 W gx0 [] a 280)):=Ph fun W hW=>jU8 0 _ gx0 [] a 280 hdol (by simp only [Ya,Yc,Yn];omega) W (Ph hW);obtain⟨P0,hP0⟩:∃ P,p1++[32,100,101,118,105,99,101,32]=P:=⟨_,rfl⟩;rw [hP0]at R1 R2 HD1;obtain⟨P1,hP1⟩:∃ P,P0++p2=P:=⟨_,rfl⟩;rw [hP1]at R2 HD1;obtain⟨P2,hP2⟩:∃ P,p1++[36]=P:=⟨_,rfl⟩;rw [hP2]at R3 R4 HD2;obtain⟨P3,hP3⟩:∃ P,P2++p2=P:=⟨_,rfl⟩;rw [hP3]at R4 HD2;have HBA:=Ph hb0;have hz':(str T).size≤60000:=by rw [hz];exact hTl
 clear hP0 hP1 hP2 hP3 hdev hdol hb0 HW hp1l hpl;go_upto_region 11 with fail
 go_quiet (fail)
 have HBq:Hid (Below w.heap.size w (W6.drewN nq)):=Ph (HB6.out.trans (zP8 W6 nq HB6.out.size));have HVq:Hid (Vars (W6.drewN nq)):=Ph (HV6.out.below (zP8 W6 nq (lF _)));have HKq:Hid (Bk (W6.drewN nq) tb 44 #[uB tk,uI a,uI tf]):=Ph (zD HK6.out (zP8 W6 nq (lF _)));go_upto_region 12 with fail
 generalize W6.drewN nq=W7 at HBq HVq HKq ⊢;clear HB6 HV6 HK6 c0 c1 c2;go_wp2_with fail
 refine(HD1.out W7 HVq.out).mono ?_;rintro e w8 ⟨v2,Q2,rfl,hg8,_,_,hfr8,hv8⟩;have HB8:Hid (Below w.heap.size w w8):=Ph (HBq.out.trans (hfr8.below.mono HBq.out.size));have HK8:=Ph (zD HKq.out hfr8.below);have HV8:=Ph hv8;clear hg8 hfr8 hv8 HD1 HBq HVq HKq R1 R2;have H2G:Hid ((#[uI gx0.blocks,uI gx0.width,.slice v2.is.A v2.is.n v2.is.c,.slice v2.gs.A v2.gs.n v2.gs.c,.slice v2.vs.A v2.vs.n v2.vs.c,.slice v2.ar.A v2.ar.n v2.ar.c,uB gx0.require.kind,uB gx0.require.op,uW gx0.require.value,uI gx0.require.width,uR gx0.require.name,.slice v2.rq.A v2.rq.n v2.rq.c,.slice v2.ins.A v2.ins.n v2.ins.c,.slice v2.ps.A v2.ps.n v2.ps.c,.slice v2.wk.A v2.wk.n v2.wk.c,.slice v2.rc.A v2.rc.n v2.rc.c,uB gx0.invariant.kind,uB gx0.invariant.op,uW gx0.invariant.value,uI gx0.invariant.width,uR gx0.invariant.name,.slice v2.iv.A v2.iv.n v2.iv.c,.slice Q2.A 0 Q2.c]:Array Value).all (·.oneCell')=true):=Ph (all_oneCell_toArray (zY5 gx0 v2 ⟨Q2.A,0,Q2.c⟩));go_upto_region 13 with(refine yN rfl 47 (.tmp 14) (.tmp 69) rfl w8 #[uI 0,uI 0,uN,uN,uN,uN,uB 0,uB 0,uW 0,uI 0,uT,uN,uN,uN,uN,uN,uB 0,uB 0,uW 0,uI 0,uT,uN,uN] #[uI gx0.blocks,uI gx0.width,.slice v2.is.A v2.is.n v2.is.c,.slice v2.gs.A v2.gs.n v2.gs.c,.slice v2.vs.A v2.vs.n v2.vs.c,.slice v2.ar.A v2.ar.n v2.ar.c,uB gx0.require.kind,uB gx0.require.op,uW gx0.require.value,uI gx0.require.width,uR gx0.require.name,.slice v2.rq.A v2.rq.n v2.rq.c,.slice v2.ins.A v2.ins.n v2.ins.c,.slice v2.ps.A v2.ps.n v2.ps.c,.slice v2.wk.A v2.wk.n v2.wk.c,.slice v2.rc.A v2.rc.n v2.rc.c,uB gx0.invariant.kind,uB gx0.invariant.op,uW gx0.invariant.value,uI gx0.invariant.width,uR gx0.invariant.name,.slice v2.iv.A v2.iv.n v2.iv.c,.slice Q2.A 0 Q2.c] rfl rfl qB9 rfl H2G.out ?_)
 have HB9:Hid (Below w.heap.size w (w8.alloc (.cells #[uI gx0.blocks,uI gx0.width,.slice v2.is.A v2.is.n v2.is.c,.slice v2.gs.A v2.gs.n v2.gs.c,.slice v2.vs.A v2.vs.n v2.vs.c,.slice v2.ar.A v2.ar.n v2.ar.c,uB gx0.require.kind,uB gx0.require.op,uW gx0.require.value,uI gx0.require.width,uR gx0.require.name,.slice v2.rq.A v2.rq.n v2.rq.c,.slice v2.ins.A v2.ins.n v2.ins.c,.slice v2.ps.A v2.ps.n v2.ps.c,.slice v2.wk.A v2.wk.n v2.wk.c,.slice v2.rc.A v2.rc.n v2.rc.c,uB gx0.invariant.kind,uB gx0.invariant.op,uW gx0.invariant.value,uI gx0.invariant.width,uR gx0.invariant.name,.slice v2.iv.A v2.iv.n v2.iv.c,.slice Q2.A 0 Q2.c] 47))):=Ph (HB8.out.trans (zB.mono HB8.out.size));have HV9:Hid (Vars (w8.alloc (.cells #[uI gx0.blocks,uI gx0.width,.slice v2.is.A v2.is.n v2.is.c,.slice v2.gs.A v2.gs.n v2.gs.c,.slice v2.vs.A v2.vs.n v2.vs.c,.slice v2.ar.A v2.ar.n v2.ar.c,uB gx0.require.kind,uB gx0.require.op,uW gx0.require.value,uI gx0.require.width,uR gx0.require.name,.slice v2.rq.A v2.rq.n v2.rq.c,.slice v2.ins.A v2.ins.n v2.ins.c,.slice v2.ps.A v2.ps.n v2.ps.c,.slice v2.wk.A v2.wk.n v2.wk.c,.slice v2.rc.A v2.rc.n v2.rc.c,uB gx0.invariant.kind,uB gx0.invariant.op,uW gx0.invariant.value,uI gx0.invariant.width,uR gx0.invariant.name,.slice v2.iv.A v2.iv.n v2.iv.c,.slice Q2.A 0 Q2.c] 47))):=Ph (HV8.out.below zB);have HK9:Hid (Bk (w8.alloc (.cells #[uI gx0.blocks,uI gx0.width,.slice v2.is.A v2.is.n v2.is.c,.slice v2.gs.A v2.gs.n v2.gs.c,.slice v2.vs.A v2.vs.n v2.vs.c,.slice v2.ar.A v2.ar.n v2.ar.c,uB gx0.require.kind,uB gx0.require.op,uW gx0.require.value,uI gx0.require.width,uR gx0.require.name,.slice v2.rq.A v2.rq.n v2.rq.c,.slice v2.ins.A v2.ins.n v2.ins.c,.slice v2.ps.A v2.ps.n v2.ps.c,.slice v2.wk.A v2.wk.n v2.wk.c,.slice v2.rc.A v2.rc.n v2.rc.c,uB gx0.invariant.kind,uB gx0.invariant.op,uW gx0.invariant.value,uI gx0.invariant.width,uR gx0.invariant.name,.slice v2.iv.A v2.iv.n v2.iv.c,.slice Q2.A 0 Q2.c] 47)) tb 44 #[uB tk,uI a,uI tf]):=Ph (zD HK8.out zB);generalize (w8.alloc _)=W9 at HB9 HV9 HK9 ⊢;generalize w8.heap.size=g8;clear HB8 HV8 HK8 H2G;have HBc:=HB9;have HVc:=HV9;have HKc:=HK9;clear HB9 HV9 HK9;obtain⟨c0,c1,c2⟩:=zJ HKc.out;obtain⟨a1,ha1⟩:∃ k:Nat,(a:Int)+1=(k:Int)∧k=a+1:=⟨a+1,Yo,rfl⟩;have wa:IntKind.i64.wrap ((a:Int)+1)=(a1:Int):=by rw [lL];omega
 have HA1:Hid (0<a→b=a1):=Ph fun h=>by rw [HBA.out h,ha1.2]
 clear ha1 HBA;go_upto_region 14 with fail
 clear wa;go_cut [86] (fun v wx=>v=.bool false∧Hid (Below w.heap.size w wx)∧Hid (Vars wx)∧Hid (Bk wx tb 44 #[uB tk,uI a,uI tf]))
 case first =>
  rename_i J1 K1 hR1 hM1;revert hR1 hM1;repeat (rename ∀ (a':Act) (w':World),_→_=>hZ;clear hZ)
  intro hR1 hM1;by_cases hpos:0<a
  ·have hba:=HA1.out hpos;subst hba;have e3:decide ((0:Int)<(a:Int))=true:=Yp;have e4:((b:Int) != (b:Int))=false:=Ym;clear HA1;go_wp2_with fail
   all_goals first | exact absurd hpos (by assumption) | (go_meet;exact⟨rfl,HBc,HVc,HKc⟩)
  ·obtain rfl:a=0:=by omega
   clear hpos HA1;go_wp2_with fail
   go_meet
   exact⟨rfl,HBc,HVc,HKc⟩
 case rest =>
 obtain⟨rfl,HBn,HVn,HKn⟩:=hcut;clear HBc HVc HKc;have HBc:=HBn;have HVc:=HVn;have HKc:=HKn;clear HBn HVn HKn;generalize wc=W10 at *;clear HA1 c0 c1 c2;go_step
 go_upto_region 16 with fail
 obtain⟨c0,c1,c2⟩:=zJ HKc.out;have HC2:=Ph (HD2.out W10.drew (HVc.out.below (lB _ _).drew));refine xR 10 Yk Yk ?_;simp only [cR,List.take_zero,List.drop_succ_cons,List.drop_zero];repeat (go_big_quiet_step (fail))
 refine wpQuiet_nil ?_;refine wT rfl rfl (fun K hK=>?_);go_simp;go_at_call 11
 refine HC2.out.mono ?_;rintro e w11 ⟨v3,Q3,rfl,_,_,_,hfr,hvv⟩;have hb11:=zU (lB _ W10).drew hfr.below;have HBn:Hid (Below w.heap.size w w11):=Ph (HBc.out.trans (hb11.mono HBc.out.size));have HKn:=Ph (zD HKc.out hb11);have HVn:=Ph hvv;clear hfr hvv hb11 HBc HKc HVc HC2 HD2 c0 c1 c2 R3 R4 x1 x2;have HBc:=HBn;have HKc:=HKn;have HVc:=HVn;clear HBn HKn HVn;refine hK _ _ ?_;clear hK K;try go_frame
 repeat (go_big_quiet_step (fail))
 refine wpQuiet_nil ?_;obtain⟨c0,c1,c2⟩:=zJ HKc.out;have e5:((a:Int) != (a:Int))=false:=Ym;obtain⟨rr,hrr⟩:∃ r,n8 % 101=r:=⟨_,rfl⟩;have hr101:rr≤100:=Yo;have wr1:(n8:Int).tmod 101=(rr:Int):=by rw [Int.tmod_eq_emod_of_nonneg Yo];omega
 have wr2:IntKind.u8.wrap (rr:Int)=(rr:Int):=by rw [IntKind.wrap_u8];omega
 have wr3:IntKind.i64.wrap (rr:Int)=(rr:Int):=by rw [lL];omega
 obtain⟨mm,hmm⟩:∃ m:Nat,200+(rr:Int)=(m:Int)∧m=200+rr:=⟨200+rr,Yo,rfl⟩;have wr4:IntKind.i64.wrap (200+(rr:Int))=(mm:Int):=by rw [lL];omega
 have hmm2:200≤mm∧mm≤300:=Yo;have HMM:=Ph hmm2;clear hmm hrr hmm2;go_upto_region 20 with fail
 clear c0 c1 c2 e5 wr1 wr2 wr3 wr4 hr101;have HRP:Hid (∀ (c:UInt8) (W:World),Calls Tryz.prog 21 #[.string ⟨#[c]⟩,uI mm] W fun e w'=>e=.returned (.string (str (List.replicate mm c)))∧Below W.heap.size W w'):=Ph fun c W=>(Tryz.strings_Repeat ⟨#[c]⟩ mm W (by have:=HMM.out;omega) (by show 1*mm≤_;have:=HMM.out;omega)).mono fun e w' h=>⟨by rw [h.1,jK9];rfl,h.2⟩;have HXN:Hid (∃ f x a e,xW f (zF9 mm)=some (x,a,e)∧(mm=200→e=0)∧(200<mm→a=200∧e=301)):=Ph (by
  by_cases h:mm≤200
  ·obtain⟨f,x,hx⟩:=qJ8 h;exact⟨f,x,_,_,hx,fun _=>rfl,fun h2=>Yo⟩
  ·obtain⟨f,hx⟩:=qD5 (m:=mm) Yo HMM.out.2;exact⟨f,_,_,_,hx,fun h2=>Yo,fun _=>⟨rfl,rfl⟩⟩)
 obtain⟨fN,xN,aN,eN,hxN,hN1,hN2'⟩:=HXN.out;obtain⟨fG,hxG⟩:=qZ4 mm (by have:=HMM.out;omega) HMM.out.2;have HE1:Hid (∀ W,Vars W→Calls Tryz.prog 20 #[.string (str (List.replicate mm 40++[120]++List.replicate mm 41))] W (kP1 W xN aN eN)):=Ph fun W hW=>qC2 fN _ xN aN eN hxN (by have:=zW1 mm;have:=HMM.out;unfold zF9 at this;omega) W (Ph hW);have HE2:Hid (∀ W,Vars W→Calls Tryz.prog 20 #[.string (str ([120,32,43,32]++List.replicate mm 57++[58,49]))] W (kP1 W ex0 4 302)):=Ph fun W hW=>qC2 fG _ ex0 4 302 hxG (by have:=HMM.out;unfold yL;simp only [Ya,List.length_replicate,Yc,Yn];omega) W (Ph hW);have HN1:=Ph hN1;have HN2:=Ph hN2';have l1:(List.replicate mm (40:UInt8)).length=mm:=List.length_replicate;have l2:(List.replicate mm (41:UInt8)).length=mm:=List.length_replicate;have l3:(List.replicate mm (57:UInt8)).length=mm:=List.length_replicate;have hmb:=HMM.out.2;have HR40:=Ph (HRP.out 40);have HR41:=Ph (HRP.out 41);have HR57:=Ph (HRP.out 57);clear hxN hxG HXN hN1 hN2' HRP;obtain⟨r40,h40⟩:∃ l,List.replicate mm (40:UInt8)=l:=⟨_,rfl⟩;obtain⟨r41,h41⟩:∃ l,List.replicate mm (41:UInt8)=l:=⟨_,rfl⟩;obtain⟨r57,h57⟩:∃ l,List.replicate mm (57:UInt8)=l:=⟨_,rfl⟩;rw [h40]at l1 HR40 HE1;rw [h41]at l2 HR41 HE1;rw [h57]at l3 HR57 HE2;clear h40 h41 h57;have R5:∀ w,(Op.stringOp .add (str r40) (⟨#[120]⟩:ByteArray)).run Tryz.prog w=.ok (.string (str (r40++[120]))) w:=zQ r40 [120] (by show r40.length+1≤4000000;omega);have R6:∀ w,(Op.stringOp .add (str (r40++[120])) (str r41)).run Tryz.prog w=.ok (.string (str (r40++[120]++r41))) w:=zQ _ r41 (by rw [Ya];show r40.length+1+r41.length≤4000000;omega);have R7:∀ w,(Op.stringOp .add (⟨#[120,32,43,32]⟩:ByteArray) (str r57)).run Tryz.prog w=.ok (.string (str ([120,32,43,32]++r57))) w:=zQ [120,32,43,32] r57 (by show 4+r57.length≤4000000;omega);have R8:∀ w,(Op.stringOp .add (str ([120,32,43,32]++r57)) (⟨#[58,49]⟩:ByteArray)).run Tryz.prog w=.ok (.string (str ([120,32,43,32]++r57++[58,49]))) w:=zQ _ [58,49] (by rw [Ya];show 4+r57.length+2≤4000000;omega);obtain⟨s1,hs1⟩:∃ l,r40++[120]=l:=⟨_,rfl⟩;rw [hs1]at R5 R6 HE1;obtain⟨s2,hs2⟩:∃ l,s1++r41=l:=⟨_,rfl⟩;rw [hs2]at R6 HE1;obtain⟨s3,hs3⟩:∃ l,[120,32,43,32]++r57=l:=⟨_,rfl⟩;rw [hs3]at R7 R8 HE2;obtain⟨s4,hs4⟩:∃ l,s3++[58,49]=l:=⟨_,rfl⟩;rw [hs4]at R8 HE2;clear hs1 hs2 hs3 hs4 l1 l2 l3 hmb;go_wp2_with fail
 refine(HR40.out _).mono ?_;rintro e w12 ⟨rfl,hb⟩;have hb12:=hb;go_wp2_with fail
 refine(HR41.out _).mono ?_;rintro e w13 ⟨rfl,hb⟩;have hb13:=zU hb12 hb;clear hb12 hb;go_wp2_with fail
 refine(HE1.out _ (HVc.out.below hb13)).mono ?_;rintro e w14 ⟨S4,rfl,_,hb⟩;have hb14:=zU hb13 hb;have HBn:Hid (Below w.heap.size w w14):=Ph (HBc.out.trans (hb14.mono HBc.out.size));have HKn:=Ph (zD HKc.out hb14);have HVn:Hid (Vars w14):=Ph (HVc.out.below hb14);clear hb hb13 hb14 HBc HKc HVc HE1 HR40 HR41 R5 R6;have HBc:=HBn;have HKc:=HKn;have HVc:=HVn;clear HBn HKn HVn;unfold qX;go_upto_region 21 with fail
 go_cut [142] (fun v wx=>v=.bool false∧Hid (Below w.heap.size w wx)∧Hid (Vars wx)∧Hid (Bk wx tb 44 #[uB tk,uI a,uI tf]))
 case first =>
  rename_i J1 K1 hR1 hM1;revert hR1 hM1;repeat (rename ∀ (a':Act) (w':World),_→_=>hZ;clear hZ)
  intro hR1 hM1;have hm2:=HMM.out;by_cases hgt:200<mm
  ·obtain⟨h1,h2⟩:=HN2.out hgt;subst h1 h2;have e6:decide ((200:Int)<(mm:Int))=true:=Yp;have e7:((mm:Int) == 200)=false:=Yp;clear hm2 hgt HN1 HN2;go_wp2_with fail
   go_meet
   exact⟨rfl,HBc,HVc,HKc⟩
  ·obtain rfl:mm=200:=by omega
   obtain rfl:=HN1.out rfl;clear hm2 hgt HN1 HN2;go_wp2_with fail
   go_meet
   exact⟨rfl,HBc,HVc,HKc⟩
 case rest =>
 obtain⟨rfl,HBn,HVn,HKn⟩:=hcut;clear HBc HVc HKc;have HBc:=HBn;have HVc:=HVn;have HKc:=HKn;clear HBn HVn HKn;generalize wc=W15 at *;clear HN1 HN2;go_step
 go_wp2_with fail
 refine(HR57.out _).mono ?_;rintro e w16 ⟨rfl,hb16⟩;go_wp2_with fail
 refine(HE2.out _ (HVc.out.below hb16)).mono ?_;rintro e w17 ⟨S5,rfl,_,hb⟩;have hb17:=zU hb16 hb;have HBn:Hid (Below w.heap.size w w17):=Ph (HBc.out.trans (hb17.mono HBc.out.size));clear hb hb16 hb17 HE2 HR57 R7 R8;go_wp2_with fail
 go_ret;exact⟨rfl,HBn.out⟩
end
section
open Go.ChangeShapes Go.WideShapes Go.ChangeAt Go.RowKit
def qU8:List (String×DataW Unit):=[("unicode.White_Space",Rows.laid_unicode_White_Space),("strings.asciiSpace",Rows.laid_strings_asciiSpace)]
theorem jL2 {P:Program} {w:World} {x:String×DataW Unit} {r:List (String×DataW Unit)} (h:laidMet P (x :: r) w):laidMet P r w:=by obtain⟨n,d⟩:=x;obtain⟨ps,⟨g,t,cs,f,p,q,_,_,_,_,hq,e⟩,hn,hr⟩:=h;subst e;exact⟨q,hq,(List.nodup_append.1 hn).2.1,fun b off hb=>hr b off (List.mem_append_right _ hb)⟩
theorem kS6:ownKnob Tryz.prog.godebug=none:=Yk
theorem kK7:(Tryz.prog.globals[3]?).map (·.type)=some 208:=Yk
theorem jS2:Tryz.prog.cellsOf 208=256:=Yk
theorem kD5:Tryz.prog.cellsOf 5=1:=Yk
theorem kD6:(Rows.laid_strings_asciiSpace:DataW Unit)=Lib.tabData .u8 Lib.asciiSpaceTab:=Yk
theorem kD7 {n:Int} (h:(Lit.int .u8 n).wf=true):0≤n∧n≤255:=by simp only [Lit.wf,lZ,cC]at h;exact⟨h.1,h.2⟩
theorem jL3 {W:World} (h:laidMet Tryz.prog qU8 W) (hs:W.ShapedOpen Tryz.prog):Vars W:=by
 unfold qU8 at h;have h8:=jL2 h;rw [kD6]at h8
 exact⟨cell_of_shapedOpen_int (g:=0) (t:=3) (zero:=#[uI 0]) hs (by decide +kernel) Yk rfl Yk Yk Tryz.underlying3,
  Lib.tabIs_of_head (zs:=Lib.asciiSpaceTab) jA5 kK7 Tryz.underlying208 Tryz.underlying5 kD5 jS2 h8⟩
noncomputable def kR2:Nat:=(World.holding Tryz.prog default ⟨#[],#[],[]⟩).heap.size
def jW1 (cs:Array Value):Obj→Obj
 | .cells _ t frozen=>.cells cs t frozen
 | o=>o
noncomputable def zH7 (os:Os):World :=
 let w0:=World.holding Tryz.prog os ⟨#[.cells #[.int .u16 9,.int .u16 13,.int .u16 1,.int .u16 32,.int .u16 133,.int .u16 101,.int .u16 160,.int .u16 5760,.int .u16 5600,.int .u16 8192,.int .u16 8202,.int .u16 1,.int .u16 8232,.int .u16 8233,.int .u16 1,.int .u16 8239,.int .u16 8287,.int .u16 48,.int .u16 12288,.int .u16 12288,.int .u16 1] 241,.cells #[.slice (some ⟨kR2,0,none⟩) 7 7,uN,uI 2] 239],#[],[]⟩
 { w0 with heap:=((w0.heap.modify 3 (jW1 #[uB 0,uB 0,uB 0,uB 0,uB 0,uB 0,uB 0,uB 0,uB 0,uB 1,uB 1,uB 1,uB 1,uB 1,uB 0,uB 0,uB 0,uB 0,uB 0,uB 0,uB 0,uB 0,uB 0,uB 0,uB 0,uB 0,uB 0,uB 0,uB 0,uB 0,uB 0,uB 0,uB 1,uB 0,uB 0,uB 0,uB 0,uB 0,uB 0,uB 0,uB 0,uB 0,uB 0,uB 0,uB 0,uB 0,uB 0,uB 0,uB 0,uB 0,uB 0,uB 0,uB 0,uB 0,uB 0,uB 0,uB 0,uB 0,uB 0,uB 0,uB 0,uB 0,uB 0,uB 0,uB 0,uB 0,uB 0,uB 0,uB 0,uB 0,uB 0,uB 0,uB 0,uB 0,uB 0,uB 0,uB 0,uB 0,uB 0,uB 0,uB 0,uB 0,uB 0,uB 0,uB 0,uB 0,uB 0,uB 0,uB 0,uB 0,uB 0,uB 0,uB 0,uB 0,uB 0,uB 0,uB 0,uB 0,uB 0,uB 0,uB 0,uB 0,uB 0,uB 0,uB 0,uB 0,uB 0,uB 0,uB 0,uB 0,uB 0,uB 0,uB 0,uB 0,uB 0,uB 0,uB 0,uB 0,uB 0,uB 0,uB 0,uB 0,uB 0,uB 0,uB 0,uB 0,uB 0,uB 0,uB 0,uB 0,uB 0,uB 0,uB 0,uB 0,uB 0,uB 0,uB 0,uB 0,uB 0,uB 0,uB 0,uB 0,uB 0,uB 0,uB 0,uB 0,uB 0,uB 0,uB 0,uB 0,uB 0,uB 0,uB 0,uB 0,uB 0,uB 0,uB 0,uB 0,uB 0,uB 0,uB 0,uB 0,uB 0,uB 0,uB 0,uB 0,uB 0,uB 0,uB 0,uB 0,uB 0,uB 0,uB 0,uB 0,uB 0,uB 0,uB 0,uB 0,uB 0,uB 0,uB 0,uB 0,uB 0,uB 0,uB 0,uB 0,uB 0,uB 0,uB 0,uB 0,uB 0,uB 0,uB 0,uB 0,uB 0,uB 0,uB 0,uB 0,uB 0,uB 0,uB 0,uB 0,uB 0,uB 0,uB 0,uB 0,uB 0,uB 0,uB 0,uB 0,uB 0,uB 0,uB 0,uB 0,uB 0,uB 0,uB 0,uB 0,uB 0,uB 0,uB 0,uB 0,uB 0,uB 0,uB 0,uB 0,uB 0,uB 0,uB 0,uB 0,uB 0,uB 0,uB 0,uB 0,uB 0,uB 0,uB 0,uB 0,uB 0,uB 0,uB 0,uB 0,uB 0,uB 0,uB 0,uB 0,uB 0,uB 0,uB 0,uB 0,uB 0,uB 0,uB 0,uB 0,uB 0,uB 0])).modify 4 (jW1 #[.pointer (some ⟨kR2+1,0,none⟩)])) }
end
section
open Go.ChangeShapes Go.WideShapes Go.RowKit Go.Deep
def kL7 (l:List Nat):List Value:=l.map fun(m:Nat)=>uB m
theorem kP6 {w:World} {a:Addr} {xs:List Value} (h:∀ (i:Nat) (u:Value),xs[i]?=some u→w.cell? (a.add i)=some u):Rd w (some a) xs:=by
 intro hx;obtain⟨x,l,rfl⟩:=List.exists_cons_of_ne_nil hx;obtain⟨b,off,spot⟩:=a;have h0:=h 0 x rfl;have hs:spot=none:=by simpa [Addr.add]using World.cell?_spot h0
 subst hs;have ha:∀ i:Nat,(⟨b,off,none⟩:Addr).add i=⟨b,off+i,none⟩:=fun i=>by simp [Addr.add]
 cases hh:w.heap[b]? with
 | none=>rw [ha]at h0;simp [World.cell?,hh]at h0
 | some o =>
   cases o with
   | cells cs t fr =>
     refine⟨b,off,cs,t,fr,rfl,hh,fun j u hu=>?_⟩;have h1:=h j u hu;rw [ha]at h1;simpa [World.cell?,hh]using h1
   | _=>rw [ha]at h0;simp [World.cell?,hh]at h0
section
variable {H:Type} {enc:TypeId×Value→H} {w:World} {held:Bool}
theorem kK8 {n:Nat} {v:Value} {x:DataW H×List MemPlace} (h:DataW.trod enc Tryz.prog w 0 (fun _=>true) held n 22 [v]=some x):∃ (s:SV) (l:List Nat),v=.slice s.A s.n s.c∧Rd w s.A (kL7 l)∧l.length=s.n∧(∀ u∈l,u≤255)∧s.n≤maxLen∧s.n≤s.c:=by
 rcases open_ints Tryz.underlying22 Tryz.underlying5 Yk h with⟨hcs,_⟩ | ⟨a,len,cap,zs,hcs,_,hl,hm,hz,_,hcell,hwz⟩
 ·simp at hcs;exact⟨⟨none,0,0⟩,[],hcs,Rd.nil,rfl,fun u hu=>(by cases hu),lV _,lF _⟩
 ·simp at hcs;simp only [if_true]at hz;refine⟨⟨some a,len,cap⟩,(zs.take len).map Int.toNat,hcs,kP6 (fun i u hu=>?_),Yp,fun u hu=>?_,by dsimp only;omega,hl⟩
  ·unfold kL7 at hu;rw [List.map_map,cS,List.getElem?_take]at hu;split at hu
   ·rename_i hi;have hiz:i<zs.length:=Yo;rw [hcell i hiz,List.getD_eq_getElem?_getD,cK hiz];rw [cK hiz]at hu;have hb:=kD7 (hwz _ (List.getElem_mem hiz));have e:((zs[i].toNat:Nat):Int)=zs[i]:=Yo;simp [e]at hu;simpa using hu
   ·simp at hu
  ·obtain⟨z,hz',rfl⟩:=List.mem_map.1 hu;have:=kD7 (hwz z (List.mem_of_mem_take hz'));omega
end
theorem jL4 (l:List Nat) (h:∀ u∈l,u≤255):kL7 l=(l.map fun m=>UInt8.ofNat m).map fun b=>uB b.toNat:=by unfold kL7;rw [List.map_map];refine List.map_congr_left fun m hm=>?_;have:=h m hm;show uB m=uB ((UInt8.ofNat m).toNat:Int);rw [UInt8.toNat_ofNat_of_lt' (by show m<256;omega)]
theorem kK9 {n:Int} (h:(Lit.int .u16 n).wf=true):0≤n∧n≤65535:=by simp only [Lit.wf,lZ,cC]at h;exact⟨h.1,h.2⟩
end
section
open Go.ChangeShapes Go.WideShapes Go.ChangeAt Go.RowKit
open Go.ChangeMaps (open_string shut_string)
theorem qO5:laidOutB Tryz.prog=true:=Yk
theorem jS3 (os:Os):laidMet Tryz.prog qU8 ((zH7 os).forCall (fun _ _=>0) ⟨#[],#[uN,.int .u16 0,uB 0],[]⟩).memory :=
 laidMet_of_run3 10 Yk Yk Yk
theorem jL5 (os:Os) {H:Type} (enc:TypeId×Value→H):∃ places,DataW.whole enc Tryz.prog ((zH7 os).forCall (fun _ _=>0) ⟨#[],#[.slice none 0 0,.int .u16 0,.int .u8 0],[]⟩).memory Tryz.f5.params.toList Rows.parseWrongSpec.vars false #[Value.slice none 0 0,Value.int .u16 0,Value.int .u8 0].toList 8=some ([.nil,.lit (.int .u16 0),.lit (.int .u8 0)],[],places) :=
 ⟨[],Yk⟩
theorem qJ9 (os:Os) (started:os.Started) (H:Type) (enc:TypeId×Value→H) (F:Stop.Interp) :
 ReturnsInHanded {} Tryz.checked os 5 .any ((OpenSpec.ofChange Rows.parseWrongSpec).preRow enc Tryz.prog Tryz.f5 Rows.parseWrongRow.domain false Rows.parseWrongRow.laid) (((OpenSpec.ofChange Rows.parseWrongSpec).at F).post enc Tryz.prog Tryz.f5 false true false false):=by
 obtain⟨places,hx⟩:=jL5 os enc
 refine returnsInHanded_of_row (C:=Tryz.checked) (s:=OpenSpec.ofChange Rows.parseWrongSpec) kS6 started Yk Tryz.func5
  (witness_row_atRef (enc:=enc) (C:=Tryz.checked) false (zH7 os) #[uN,.int .u16 0,uB 0] rfl Yk Yk Yk
    (OpenSpec.preRow_of_cond 8 hx Yk (fun k hk=>by cases hk) Yk (jS3 os))) ?_
 intro W base args ds gs before hval hW _ _ _ hL hSh _;have hW':=hW;obtain⟨p,q,hA0,hV,rfl,hfz,hnd⟩:=hW;have hA:DataW.TrodAll enc Tryz.prog W 0 (fun _=>true) true Tryz.f5.params.toList args.toList ds p:=hA0;rw [Tryz.params5]at hA hval;obtain⟨v0,v1,v2,d0,d1,d2,p0,p1,p2,rfl,rfl,rfl,h0,h1,h2⟩:=trodAll_three hA;obtain⟨rfl,rfl⟩:=trodVars_none hV;clear hA0;simp only [cT,lS]at hW';have hlt:∀ x∈p0++(p1++p2),x.block<W.heap.size:=fun x hx=>by simpa using hW'.lt x hx
 have h0k:=h0;have h1k:=h1;have h2k:=h2;obtain⟨a0,len0,cap0,rfl⟩:=okWide_slice Tryz.underlying22 (hval 0 _ v0 rfl rfl);obtain⟨m1,rfl,_,_,hwf1⟩:=open_int Tryz.underlying23 (hval 1 23 v1 rfl rfl) h1;obtain⟨m2,rfl,_,_,hwf2⟩:=open_int Tryz.underlying5 (hval 2 5 v2 rfl rfl) h2;have hm1:=kK9 hwf1;have hm2:=kD7 hwf2;obtain⟨k1,rfl⟩:∃ n:Nat,m1=(n:Int):=⟨m1.toNat,Yo⟩;obtain⟨k2,rfl⟩:∃ n:Nat,m2=(n:Int):=⟨m2.toNat,Yo⟩;obtain⟨n0,hf0⟩:=h0;have hf0':DataW.trod enc Tryz.prog W 0 (fun _=>true) true n0 22 [.slice a0 len0 cap0]=some (d0,p0):=by simpa [Value.cells]using hf0
 obtain⟨su,U,hsu,hu1,hu2,hu3,hu4,hu5⟩:=kK8 hf0';rw [hsu]at hf0' h0k hW' ⊢;rw [jL4 U hu3]at hu1;have hL7:laidMet Tryz.prog qU8 W:=hL;refine(jL1 su.A su.n su.c (U.map fun m=>UInt8.ofNat m) k1 k2 Yo Yo W (Ph (jL3 hL7 hSh)) (Ph hu1) (Ph (by rw [lW];exact hu2)) (by unfold maxLen at hu4;omega) hu5).mono fun e W' ⟨he,hb⟩=>?_;subst he;have hb1:∀ x∈p1,x.block<W.heap.size:=fun x hx=>hlt x (List.mem_append_right _ (List.mem_append_left _ hx));have hb2:∀ x∈p2,x.block<W.heap.size:=fun x hx=>hlt x (List.mem_append_right _ (List.mem_append_right _ hx));exact⟨_,rfl,⟨_,_,_,[],_,[],hW',trodAll_mk1 (shut_bool Tryz.underlying4 _),trodAll_mk3 (Below.trod qO5 Yk (cM Yk) h0k hb (fun x hx=>hlt x (List.mem_append_left _ hx))) (Below.trod qO5 Yk (cM Yk) h1k hb hb1) (Below.trod qO5 Yk (cM Yk) h2k hb hb2),rfl,hb.frame _,fun h=>by cases h⟩⟩
theorem zW3:Rows.ParseWrongSaid :=
 OpenClaim.holds_of_cond 5 Tryz.f5 rfl rfl rfl rfl rfl rfl rfl ⟨rfl,rfl,rfl,rfl,rfl⟩ rfl rfl rfl rfl rfl Yk Tryz.func5 Yk
  (cM Yk) (by unfold Func.isWrapper;first | (rw [lM (by decide +kernel)];kernel_rfl) | (rw [lN (by decide +kernel)];exact⟨rfl,rfl⟩))
  (fun os started H enc _ F=>by rw [OpenClaim.pre_eq_preRow];exact qJ9 os started H enc F)
theorem qO6 (f:FuncId) (fn:Func) (hf:Tryz.pinned.checked.prog.funcNamed "salvor/salvorlaw30.ParseWrong" = some f) (hfn:Tryz.pinned.checked.prog.funcs[f]?=some fn) :
 false=Tryz.pinned.checked.prog.looks []∧∀ (j:Nat) t,fn.params[j]?=some t→Tryz.pinned.checked.prog.wantsStandIn t=false:=by
 obtain rfl:f=5:=Option.some.inj ((show Tryz.prog.funcNamed "salvor/salvorlaw30.ParseWrong" = some 5 by kernel_rfl).symm.trans hf) |>.symm;obtain rfl:fn=Tryz.f5:=(Option.some.inj (Tryz.func5.symm.trans hfn)).symm;refine⟨Yk,fun j t ht=>?_⟩;rw [Tryz.params5]at ht;have hm:=Array.mem_of_getElem? ht;have hor:t=22∨t=23∨t=5:=by simpa using hm
 rcases hor with rfl | rfl | rfl
 ·exact(show Tryz.prog.wantsStandIn 22=false by kernel_rfl)
 ·exact(show Tryz.prog.wantsStandIn 23=false by kernel_rfl)
 ·exact(show Tryz.prog.wantsStandIn 5=false by kernel_rfl)
theorem parseWrong_holds:Rows.ParseWrongCardSaid :=
 Claim7.holds_tied_plain_at .later [] _ _ _ _ zW3 (fun _ h=>by cases h) Yk (fun _ h=>by cases h) parseWrong_row_tie rfl ⟨rfl,rfl⟩ Yk rfl qO6 Yk
end
end Go.Proofs.YtfdaebgllibphaaGreatDoor
