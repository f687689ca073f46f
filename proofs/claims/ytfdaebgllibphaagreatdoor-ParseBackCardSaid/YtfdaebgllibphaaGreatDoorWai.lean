import Derived.Test.YtfdaebgllibphaaGreatDoorWah
set_option linter.unusedVariables false
set_option linter.unusedSimpArgs false
set_option maxRecDepth 100000
set_option maxHeartbeats 16000000
namespace Go.Proofs.YtfdaebgllibphaaGreatDoor
open Go.Proofs.Tryz
section
open Go.RowKit Go.PlainAid
theorem jK7 (L:List Sx) (S U:SV) (w:World) (hS:Ud (StsP (fun _=>True) w L S)) (hU:Ud (StsP (fun _=>True) w L U)) (hz:yE L≤20000) :
 Calls prog 12 #[.slice S.A S.n S.c,.slice U.A U.n U.c] w fun e w'=>e=.returned (.bool true)∧Below w.heap.size w w':=by
 have hz0:0+yE L≤20000:=Yo;have H1:=Ph (zW2 L S 0 w hS hz0);go_enter func12,ntmps12
 go_wp2_with fail
 refine H1.o.mono ?_;rintro e w1 ⟨rfl,hb1⟩;go_wp2_with fail
 refine(jK3 (yE L) hz w1).mono ?_;rintro e w1' ⟨rfl,rfl⟩;have H2:=Ph (zW2 L U 0 w1 (Ph (hU.o.stay (Stays.below hb1))) hz0);go_wp2_with fail
 refine H2.o.mono ?_;rintro e w2 ⟨rfl,hb2⟩;have hb:=zU hb1 hb2;go_wp2_with fail
 refine(jK3 (yE L) hz w2).mono ?_;rintro e w2' ⟨rfl,rfl⟩;have H3:=Ph (kV8 L S U w2 (Ph (hS.o.stay (Stays.below hb))) (Ph (hU.o.stay (Stays.below hb))) (by have:=zV9 L;omega) (Ph fun y hy V V' W h1 h2=>qS7 _ y V V' W (lF _) (by have:=vC hy;omega) h1 h2));have HB:=Ph hb;clear hb hb1 hb2 H1 H2;go_wp2_with fail
 refine H3.o.mono ?_;rintro e w3 ⟨rfl,hb3⟩;have HB3:=Ph (zU HB.o hb3);clear hb3;go_wp2_with fail
 go_ret;exact⟨rfl,HB3.o⟩
end
section
open Go.RowKit Go.PlainAid
def kG3 (w:World) (k:Nat):Prop:=∃ cs fr,w.heap[k]?=some (.cells cs 3 fr)
def FrQ (B p:Nat) (w w':World):Prop:=Fr (fun k=>k=p∨(B≤k∧kG3 w k)) w w'
section
variable {B p:Nat} {w w1 w':World}
theorem FrQ.refl (p:Nat) (w:World):FrQ B p w w:=Fr.refl _ w
theorem FrQ.trans (h:FrQ B p w w1) (k:FrQ B p w1 w'):FrQ B p w w':=by
 refine⟨k.os.trans h.os,k.tape.trans h.tape,k.output.trans h.output,lE h.size k.size,fun i hi hf=>?_⟩;have e:=h.block i hi hf;refine(k.block i (lX hi h.size) fun hk=>?_).trans e;rcases hk with rfl | ⟨hB,cs,fr,hk⟩
 ·exact hf (.inl rfl)
 ·exact hf (.inr ⟨hB,cs,fr,e.symm.trans hk⟩)
theorem FrQ.of_below (h:Below w.heap.size w w'):FrQ B p w w':=Fr.of_below h
theorem FrQ.of_p (h:Fr (fun k=>k=p) w w'):FrQ B p w w':=h.mono fun k _ e=>.inl e
theorem FrQ.then (h:FrQ B p w w1) (hb:Below w1.heap.size w1 w'):FrQ B p w w':=h.trans (.of_below hb)
theorem FrQ.bk {r:Nat} {t:TypeId} {cs:Array Value} (h:FrQ B p w w') (hb:Bk w r t cs) (ht:t≠3) (hr:r≠p):Bk w' r t cs:=hb.fr h fun e=>by
 rcases e with e | ⟨_,cs2,fr,e⟩
 ·exact hr e
 ·unfold Bk at hb;rw [hb]at e;injection e with e;injection e with _ e;exact ht e
theorem FrQ.stays {P:Nat→Prop} {cs:Array Value} (h:FrQ B p w w') (hp:Bk w p 152 cs):Stays P w w':=by
 intro b cs2 t fr hb ht _;refine h.block b (zO hb) fun e=>?_;rcases e with rfl | ⟨_,cs3,fr3,e⟩
 ·unfold Bk at hp;rw [hp]at hb;injection hb with hb;injection hb with _ hb;exact zX8 (hb▸ht)
 ·rw [e]at hb;injection hb with hb;injection hb with _ hb;exact zS5 (hb▸ht)
theorem FrQ.box {r:Nat} (h:FrQ B p w w1) (hf:Fr (fun k=>k=r) w1 w') (hr:w.heap.size≤r):FrQ B p w w' :=
 Fr.then h hf fun i hi e=>Yo
end
structure Pq (B:Nat) (w:World) (p:Nat) (E:Env) (T:TV) (q:QSt):Prop where
 ex:∃ Q:SV,Ps w p E T Q q.s∧AtO B w Q q.l∧Q.n=q.l.length
 g0:0<B
 g1:3<B
 b:B≤w.heap.size
structure PQ (B:Nat) (w:World) (p:Nat) (E:Env) (T:TV) (q:QSt) (w':World):Prop where
 pq:Pq B w' p E T q
 fr:FrQ B p w w'
section
variable {B:Nat} {w w1 w':World} {p:Nat} {E:Env} {T:TV} {q q1:QSt} {s:PSt}
theorem Pq.below (h:Pq B w p E T q) (hb:Below w.heap.size w w'):Pq B w' p E T q:=by obtain⟨Q,h1,h2,h3⟩:=h.ex;exact⟨⟨Q,h1.below hb,jP h2 (Fr.of_below (F:=fun _=>False) hb) (fun _ _ h=>h),h3⟩,h.g0,h.g1,lE h.b hb.size⟩
theorem Pq.lt (h:Pq B w p E T q):p<w.heap.size:=by obtain⟨Q,h1,_⟩:=h.ex;exact h1.lt
theorem Pq.bk (h:Pq B w p E T q):∃ cs,Bk w p 152 cs:=by obtain⟨Q,h1,_⟩:=h.ex;exact⟨_,h1.bk⟩
theorem Pq.vr (h:Pq B w p E T q):Vars w:=by obtain⟨Q,h1,_⟩:=h.ex;exact h1.vr
theorem Pq.stays {P:Nat→Prop} (h:Pq B w p E T q) (hf:FrQ B p w w'):Stays P w w':=by obtain⟨cs,hb⟩:=h.bk;exact hf.stays hb
theorem Pq.box {r:Nat} {t:TypeId} {cs:Array Value} (h:Pq B w p E T q) (hr:Bk w r t cs) (ht:t≠44) (hti:t≠3) (hrp:p≠r) (hB:B≤r) (hf:Fr (fun k=>k=r) w w'):Pq B w' p E T q:=by obtain⟨Q,h1,h2,h3⟩:=h.ex;have:=h.g0;have:=h.g1;exact⟨⟨Q,h1.box hr ht hrp Yo Yo hf,jP h2 hf (fun k hk e=>yR h2 hr (cX hti) (by rw [hk,e])),h3⟩,h.g0,h.g1,lE h.b hf.size⟩
theorem Pq.pp {Q:SV} (h:Pq B w p E T q) (h1:Ps w p E T Q q.s) (h2:AtO B w Q q.l) (h3:Q.n=q.l.length) (hp:PP w p E T Q s w'):PQ B w p E T (q.on s) w' :=
 ⟨⟨⟨Q,hp.ps,h2.fr h1 hp.fr,h3⟩,h.g0,h.g1,lE h.b hp.fr.size⟩,.of_p hp.fr⟩
theorem PQ.below (h:Pq B w p E T q) (hb:Below w.heap.size w w'):PQ B w p E T q w':=⟨h.below hb,.of_below hb⟩
theorem PQ.trans (h:PQ B w p E T q1 w1) (k:PQ B w1 p E T q w'):PQ B w p E T q w':=⟨k.pq,h.fr.trans k.fr⟩
theorem PQ.then (h:PQ B w p E T q w1) (hb:Below w1.heap.size w1 w'):PQ B w p E T q w':=⟨h.pq.below hb,h.fr.then hb⟩
theorem PQ.after (hb:Below w.heap.size w w1) (h:PQ B w1 p E T q w'):PQ B w p E T q w':=⟨h.pq,(FrQ.of_below hb).trans h.fr⟩
theorem PQ.bk {r:Nat} {t:TypeId} {cs:Array Value} (h:PQ B w p E T q w') (hb:Bk w r t cs) (ht:t≠3) (hr:r≠p):Bk w' r t cs:=h.fr.bk hb ht hr
theorem PQ.box {r:Nat} {t:TypeId} {cs:Array Value} (h:PQ B w p E T q w1) (hr:Bk w1 r t cs) (ht:t≠44) (hti:t≠3) (hrp:p≠r) (hB:B≤r) (hwr:w.heap.size≤r) (hf:Fr (fun k=>k=r) w1 w'):PQ B w p E T q w':=⟨h.pq.box hr ht hti hrp hB hf,h.fr.box hf hwr⟩
theorem PQ.stays {P:Nat→Prop} (h0:Pq B w p E T q1) (h:PQ B w p E T q w'):Stays P w w':=h0.stays h.fr
theorem zI6 (q:QSt) (w:World) (h:Ud (Pq B w p E T q)):Calls prog 83 #[uQ p 0] w fun e w'=>e=.returned (nxV (zC E q.s))∧Below w.heap.size w w':=by obtain⟨Q,h1,h2,h3⟩:=h.o.ex;exact zC5 p E T Q q.s w (Ph h1)
theorem isQ (q:QSt) (u:List UInt8) (w:World) (h:Ud (Pq B w p E T q)):Calls prog 87 #[uQ p 0,uR u] w fun x w'=>x=.returned (.bool (isP E q.s u))∧PQ B w p E T (q.on (isS E q.s u)) w':=by obtain⟨Q,h1,h2,h3⟩:=h.o.ex;exact(isC p E T Q q.s u w (Ph h1)).mono fun x w' hx=>⟨hx.1,h.o.pp h1 h2 h3 hx.2⟩
theorem zM9 (q:QSt) (u:List UInt8) (w:World) (h:Ud (Pq B w p E T q)):Calls prog 84 #[uQ p 0,uR u] w fun x w'=>(∃ v,x=.returned v)∧PQ B w p E T (q.on (zI E q.s u)) w':=by obtain⟨Q,h1,h2,h3⟩:=h.o.ex;exact(jX5 p E T Q q.s u w (Ph h1)).mono fun x w' hx=>⟨hx.1,h.o.pp h1 h2 h3 hx.2⟩
theorem jD1 (q:QSt) (w:World) (h:Ud (Pq B w p E T q)):Calls prog 111 #[uQ p 0] w fun x w'=>x=.returned (.string (str (jA E q.s)))∧PQ B w p E T (q.on (zL E q.s)) w':=by obtain⟨Q,h1,h2,h3⟩:=h.o.ex;exact(jX6 p E T Q q.s w (Ph h1)).mono fun x w' hx=>⟨hx.1,h.o.pp h1 h2 h3 hx.2⟩
theorem jT8 (q:QSt) (w:World) (h:Ud (Pq B w p E T q)):Calls prog 85 #[uQ p 0] w fun x w'=>x=.returned (uI ((jB E q.s).1:Int))∧PQ B w p E T (q.on (jB E q.s).2) w':=by obtain⟨Q,h1,h2,h3⟩:=h.o.ex;exact(kQ1 p E T Q q.s w (Ph h1)).mono fun x w' hx=>⟨hx.1,h.o.pp h1 h2 h3 hx.2⟩
theorem qW3 {q q':QSt} {u:List UInt8} (h:kN E q u=some q'):okP q.s=true∧q'=q.on (kV E q.s u):=by
 unfold kN at h;split at h
 ·rename_i h0;injection h with h;exact⟨h0,h.symm⟩
 ·cases h
theorem qW4 {q q':QSt} {u:List UInt8} (h:jX E q u=some q'):okP q.s=true∧q'=q.on (wN E q.s u):=by
 unfold jX at h;split at h
 ·rename_i h0;injection h with h;exact⟨h0,h.symm⟩
 ·cases h
theorem qF3 (q:QSt) (u:List UInt8) (q':QSt) (hq:kN E q u=some q') (w:World) (h:Ud (Pq B w p E T q)):Calls prog 112 #[uQ p 0,uR u] w fun x w'=>(∃ v,x=.returned v)∧PQ B w p E T q' w':=by obtain⟨Q,h1,h2,h3⟩:=h.o.ex;obtain⟨h0,rfl⟩:=qW3 hq;exact(jX7 p E T Q q.s u w (Ph h1) h0).mono fun x w' hx=>⟨hx.1,h.o.pp h1 h2 h3 hx.2⟩
theorem zI7 (q:QSt) (u:List UInt8) (q':QSt) (hq:jX E q u=some q') (w:World) (h:Ud (Pq B w p E T q)):Calls prog 113 #[uQ p 0,uR u] w fun x w'=>(∃ v,x=.returned v)∧PQ B w p E T q' w':=by obtain⟨Q,h1,h2,h3⟩:=h.o.ex;obtain⟨h0,rfl⟩:=qW4 hq;exact(kF1 p E T Q q.s u w (Ph h1) h0).mono fun x w' hx=>⟨hx.1,h.o.pp h1 h2 h3 hx.2⟩
theorem zC3 (f:Nat) (q:QSt) (X:Ex) (q':QSt) (hx:qS E f q=some (X,q')) (w:World) (h:Ud (Pq B w p E T q)) :
 Calls prog 54 #[uQ p 0] w fun e w'=>∃ S,e=.returned (.agg (qX X S).toArray)∧TX (fun k=>w.heap.size≤k) w' X S∧PQ B w p E T q' w':=by
 obtain⟨Q,h1,h2,h3⟩:=h.o.ex;unfold qS at hx;cases hc:zM E f q.s with
 | none=>rw [hc]at hx;cases hx
 | some r =>
   obtain⟨x,s⟩:=r;rw [hc]at hx;(try dsimp only at hx);split at hx
   ·rename_i hn;injection hx with hx;injection hx with e1 e2;subst e1 e2;have hi:∀ (w':World),Ps w p E T Q q.s→AtO B w Q q.l→Fr (FrA p Q) w w'→FrQ B p w w':=fun w' a b hf=>Fr.mono hf fun k hk e=>by
     rcases e with e | e
     ·exact .inl e
     ·refine .inr ?_;rcases b.2 with⟨h0,_⟩ | ⟨g',cap,cur,h0,hbs,hh,_⟩
      ·injection h0 with h0;rw [h0]at e;cases e
      ·injection h0 with h0;rw [h0]at e;injection e with e;have e':g'=k:=e;exact⟨e'▸hbs,cur,_,e'▸hh⟩
    exact(kF8 B q.l f q.s x s w hc (Ph h1) (Ph h2) h.o.g0 h.o.g1 h.o.b Yo).mono fun e w' ⟨S,Q',he,ht,hp,ho,hf,hq⟩ =>
     ⟨S,he,ht.toP,⟨⟨⟨Q',hp,ho,by rw [hq,h3];simp⟩,h.o.g0,h.o.g1,lE h.o.b hf.size⟩,hi w' h1 h2 hf⟩⟩
   ·cases hx
theorem Pq.name_len (h:Pq B w p E T q):(jA E q.s).length≤1000000:=by
 obtain⟨Q,h1,_⟩:=h.ex;have:=h1.nextLe.2.2;unfold jA;split
 ·omega
 ·simp
end
end
section
section
variable {E:Env}
theorem zA7 (s:PSt) (e:Nat):(qH E s e).n=s.n:=by unfold qH;split <;> rfl
theorem xK (s:PSt) (u:List UInt8):s.n≤(zI E s u).n:=by
 unfold zI;split
 ·simp [zE]
 ·rw [zA7];exact lF _
theorem zN1 (s:PSt):s.n≤(zL E s).n:=by
 unfold zL;split
 ·simp [zE]
 ·rw [zA7];exact lF _
theorem zP3 (s:PSt):s.n≤(jB E s).2.n:=by
 unfold jB;split
 ·split
  ·simp [zE]
  ·dsimp only;rw [zA7];exact lF _
 ·dsimp only;rw [zA7];exact lF _
theorem jT9 (s:PSt) (u:List UInt8):s.n≤(zI4 E s u).n:=by
 unfold zI4;split
 ·split
  ·rw [zA7];exact lF _
  ·simp [zE,yH]
 ·exact lF _
theorem qL6 (s:PSt) (u:List UInt8):s.n≤(kV E s u).n:=by
 unfold kV;split
 ·exact jT9 s u
 ·show s.n≤(qH E s 300).n;rw [zA7];exact lF _
theorem jD2 (s:PSt) (u:List UInt8):s.n≤(wN E s u).n:=xK s u
structure GrX (E:Env) (f:Nat):Prop where
 choice:∀ s x s',zM E f s=some (x,s')→s.n≤s'.n
 chain:∀ k s x s',qN E f k s=some (x,s')→s.n≤s'.n
 links:∀ k y s x s',qR E f k y s=some (x,s')→s.n≤s'.n
 operand:∀ s x s',zR E f s=some (x,s')→s.n≤s'.n
 casts:∀ y s x s',jI E f y s=some (x,s')→s.n≤s'.n
 within:∀ s a b x s',zX E f s a b=some (x,s')→s.n≤s'.n
 basis:∀ s x s',qJ E f s=some (x,s')→s.n≤s'.n
theorem grX (E:Env):∀ f,GrX E f
 | 0=>⟨fun s x s' h=>by simp [zM]at h,fun k s x s' h=>by simp [qN]at h,fun k y s x s' h=>by simp [qR]at h,fun s x s' h=>by simp [zR]at h,fun y s x s' h=>by simp [jI]at h,fun s a b x s' h=>by simp [zX]at h,fun s x s' h=>by simp [qJ]at h⟩
 | f+1=>by
   have ih:=grX E f;refine⟨?_,?_,?_,?_,?_,?_,?_⟩
   ·intro s z s' h;rw [zM]at h;cases hc:qN E f 1 s with
    | none=>rw [hc]at h;cases h
    | some q =>
      obtain⟨x,s1⟩:=q;have g1:=ih.chain _ _ _ _ hc;rw [hc]at h;(try dsimp only at h);cases ho:okP s1 with
      | false=>rw [ho]at h;cases h
      | true =>
        rw [ho]at h;(try dsimp only at h);cases hb:zC7 E s1 [63]with
        | false=>rw [hb]at h;injection h with h;injection h with _ h;exact h▸g1
        | true =>
          rw [hb]at h;(try dsimp only at h);cases h1:zM E f (zI4 E s1 [63])with
          | none=>rw [h1]at h;cases h
          | some q =>
            obtain⟨y,s3⟩:=q;have g2:=ih.choice _ _ _ h1;have g3:=jT9 (E:=E) s1 [63];rw [h1]at h;(try dsimp only at h);cases h2:zM E f (zI E s3 [58])with
            | none=>rw [h2]at h;cases h
            | some q =>
              obtain⟨z,s5⟩:=q;have g4:=ih.choice _ _ _ h2;have g5:=xK (E:=E) s3 [58];rw [h2]at h;(try dsimp only at h);split at h
              ·cases h
              ·injection h with h;injection h with _ h;subst h;show s.n≤s5.n;omega
   ·intro k s z s' h;rw [qN]at h;cases h1:zR E f s with
    | none=>rw [h1]at h;cases h
    | some q =>
      obtain⟨x,s1⟩:=q;have g1:=ih.operand _ _ _ h1;rw [h1]at h;exact lE g1 (ih.links _ _ _ _ _ h)
   ·intro k x s z s' h;rw [qR]at h;cases h0:decide (s.e=0)with
    | false=>rw [h0]at h;injection h with h;injection h with _ h;exact h▸lF _
    | true =>
      rw [h0]at h;(try dsimp only at h);cases h1:(if (zC E s).kind=4 then jY (zC E s).text true else none)with
      | none=>rw [h1]at h;injection h with h;injection h with _ h;exact h▸lF _
      | some op =>
        rw [h1]at h;(try dsimp only at h);cases h2:decide (kD op<k)with
        | true=>rw [h2]at h;injection h with h;injection h with _ h;exact h▸lF _
        | false =>
          rw [h2]at h;(try dsimp only at h);cases h3:qN E f (kD op+1) (zE s)with
          | none=>rw [h3]at h;cases h
          | some q =>
            obtain⟨y,s2⟩:=q;have g1:=ih.chain _ _ _ _ h3;have g2:s.n+1≤s2.n:=g1;rw [h3]at h;(try dsimp only at h);split at h
            ·cases h
            ·have g3:=ih.links _ _ _ _ _ h;omega
   ·intro s z s' h;rw [zR]at h;cases h1:(if (zC E s).kind=4 then jY (zC E s).text false else none)with
    | some op =>
      rw [h1]at h;(try dsimp only at h);cases ho:okP s with
      | false=>rw [ho]at h;cases h
      | true =>
        rw [ho]at h;(try dsimp only at h);cases h2:zR E f (kV E s (zC E s).text)with
        | none=>rw [h2]at h;cases h
        | some q =>
          obtain⟨x,s2⟩:=q;have g1:=ih.operand _ _ _ h2;have g2:=qL6 (E:=E) s (zC E s).text;rw [h2]at h;(try dsimp only at h);split at h
          ·cases h
          ·injection h with h;injection h with _ h;subst h;show s.n≤s2.n;omega
    | none =>
      rw [h1]at h;(try dsimp only at h);cases h2:qJ E f s with
      | none=>rw [h2]at h;cases h
      | some q =>
        obtain⟨x,s1⟩:=q;have g1:=ih.basis _ _ _ h2;rw [h2]at h;exact lE g1 (ih.casts _ _ _ _ h)
   ·intro x s z s' h;rw [jI]at h;cases h1:isP E s [64]with
    | false=>rw [h1]at h;injection h with h;injection h with _ h;exact h▸lF _
    | true =>
      rw [h1]at h;(try dsimp only at h);split at h
      ·cases h
      ·have g1:=ih.casts _ _ _ _ h;have g2:=zP3 (E:=E) (zE s);have g3:(zE s).n=s.n+1:=rfl;omega
   ·intro s a b z s' h;rw [zX]at h;cases ho:okP s with
    | false=>rw [ho]at h;cases h
    | true =>
      rw [ho]at h;(try dsimp only at h);cases h1:zM E f (kV E s a)with
      | none=>rw [h1]at h;cases h
      | some q =>
        obtain⟨x,s2⟩:=q;have g1:=ih.choice _ _ _ h1;have g2:=qL6 (E:=E) s a;rw [h1]at h;(try dsimp only at h);split at h
        ·cases h
        ·injection h with h;injection h with _ h;subst h;have g3:=jD2 (E:=E) s2 b;omega
   ·intro s z s' h;rw [qJ]at h;have gn:=zN1 (E:=E) s;cases h0:decide (s.e=0)with
    | false=>rw [h0]at h;injection h with h;injection h with _ h;exact h▸lF _
    | true =>
      rw [h0]at h;(try dsimp only at h);cases h1:decide ((zC E s).kind=3)with
      | true =>
        rw [h1]at h;(try dsimp only at h);split at h
        ·injection h with h;injection h with _ h;subst h;rw [zA7];exact lF _
        ·injection h with h;injection h with _ h;subst h;exact Nat.le_succ _
      | false =>
        rw [h1]at h;(try dsimp only at h);cases h2:decide ((zC E s).text=[40])with
        | true=>rw [h2]at h;exact ih.within _ _ _ _ _ h
        | false =>
          rw [h2]at h;(try dsimp only at h);cases h3:decide ((zC E s).text=[100,105,115,107])with
          | true =>
            rw [h3]at h;(try dsimp only at h);cases h4:zX E f (zE s) [91] [93]with
            | none=>rw [h4]at h;cases h
            | some q =>
              obtain⟨x,s2⟩:=q;have g1:s.n+1≤s2.n:=ih.within _ _ _ _ _ h4;rw [h4]at h;(try dsimp only at h);split at h
              ·cases h
              ·injection h with h;injection h with _ h;subst h;omega
          | false =>
            rw [h3]at h;(try dsimp only at h);cases h5:decide ((zC E (zL E s)).text=[91])with
            | false=>rw [h5]at h;injection h with h;injection h with _ h;subst h;exact gn
            | true =>
              rw [h5]at h;(try dsimp only at h);cases h4:zX E f (zL E s) [91] [93]with
              | none=>rw [h4]at h;cases h
              | some q =>
                obtain⟨x,s2⟩:=q;have g1:=ih.within _ _ _ _ _ h4;rw [h4]at h;(try dsimp only at h);split at h
                ·cases h
                ·injection h with h;injection h with _ h;subst h;omega
theorem yY {f:Nat} {q q':QSt} {x:Ex} (h:qS E f q=some (x,q')):q.s.n≤q'.s.n:=by
 unfold qS at h;cases hc:zM E f q.s with
 | none=>rw [hc]at h;cases h
 | some r =>
   obtain⟨y,s⟩:=r;rw [hc]at h;(try dsimp only at h);split at h
   ·injection h with h;injection h with _ h;subst h;exact(grX E f).choice _ _ _ hc
   ·cases h
theorem zN2 {q q':QSt} {u:List UInt8} (h:kN E q u=some q'):q.s.n≤q'.s.n:=by
 unfold kN at h;split at h
 ·injection h with h;subst h;exact qL6 _ _
 ·cases h
theorem zH3 {q q':QSt} {u:List UInt8} (h:jX E q u=some q'):q.s.n≤q'.s.n:=by
 unfold jX at h;split at h
 ·injection h with h;subst h;exact jD2 _ _
 ·cases h
theorem jD3:∀ (f:Nat) (q q':QSt) (out l:List Ex),yA E f q out=some (l,q')→q.s.n≤q'.s.n
 | 0,q,q',out,l,h=>by simp [yA]at h
 | f+1,q,q',out,l,h=>by
   rw [yA]at h;split at h
   ·cases hx:qS E f (q.on (zE q.s))with
    | none=>rw [hx]at h;cases h
    | some r =>
      obtain⟨x,q2⟩:=r;rw [hx]at h;have g1:q.s.n+1≤q2.s.n:=yY hx;have g2:=jD3 f q2 q' _ _ h;omega
   ·injection h with h;injection h with _ h;subst h;exact lF _
theorem zE3 {f:Nat} {q q':QSt} {l:List Ex} (h:yC E f q=some (l,q')):∃ q1,kN E q [40]=some q1∧((¬((zC E q1.s).text≠[41]∧q1.s.e=0)∧l=[]∧jX E q1 [41]=some q')∨(((zC E q1.s).text≠[41]∧q1.s.e=0)∧∃ x q2 q3,qS E f q1=some (x,q2)∧yA E f q2 [x]=some (l,q3)∧jX E q3 [41]=some q')):=by
 unfold yC at h;simp only [cG]at h;cases h1:kN E q [40]with
 | none=>rw [h1]at h;cases h
 | some q1 =>
   rw [h1]at h;simp only [lP]at h;refine⟨q1,rfl,?_⟩;by_cases hc:(zC E q1.s).text≠[41]∧q1.s.e=0
   ·rw [lM hc]at h;cases h2:qS E f q1 with
    | none=>rw [h2]at h;cases h
    | some r =>
      obtain⟨x,q2⟩:=r;rw [h2]at h;simp only [lP]at h;cases h3:yA E f q2 [x]with
      | none=>rw [h3]at h;cases h
      | some r =>
        obtain⟨l2,q3⟩:=r;rw [h3]at h;simp only [lP]at h;cases h4:jX E q3 [41]with
        | none=>rw [h4]at h;cases h
        | some q4 =>
          rw [h4]at h;injection h with h;injection h with e1 e2;subst e1 e2;exact .inr ⟨hc,x,q2,q3,rfl,h3,h4⟩
   ·rw [lN hc]at h;cases h4:jX E q1 [41]with
    | none=>rw [h4]at h;cases h
    | some q4 =>
      rw [h4]at h;injection h with h;injection h with e1 e2;subst e1 e2;exact .inl ⟨hc,rfl,rfl⟩
theorem jO9 {f:Nat} {q q':QSt} {l:List Ex} (h:yC E f q=some (l,q')):q.s.n≤q'.s.n:=by
 obtain⟨q1,h1,h2⟩:=zE3 h;have g1:=zN2 h1;rcases h2 with⟨_,_,h2⟩ | ⟨_,x,q2,q3,h2,h3,h4⟩
 ·have:=zH3 h2;omega
 ·have g2:=yY h2;have g3:=jD3 _ _ _ _ _ h3;have g4:=zH3 h4;omega
theorem zS6 {f:Nat} {q:QSt} {out:List Ex} {r:List Ex×QSt} (h:yA E (f+1) q out=some r):(isP E q.s [44]=false∧r=(out,q))∨(isP E q.s [44]=true∧∃ x q2,qS E f (q.on (zE q.s))=some (x,q2)∧yA E f q2 (out++[x])=some r):=by
 rw [yA]at h;cases hi:isP E q.s [44]with
 | false=>rw [hi]at h;injection h with h;exact .inl ⟨rfl,h.symm⟩
 | true =>
   rw [hi,lM rfl]at h;cases hx:qS E f (q.on (zE q.s))with
   | none=>rw [hx]at h;cases h
   | some r2 =>
     obtain⟨x,q2⟩:=r2;rw [hx]at h;exact .inr ⟨rfl,x,q2,rfl,h⟩
end
end
section
open Go.RowKit Go.PlainAid
section
variable {α β:Type} {c:α→β→List Value} {t:TypeId} {A:(Nat→Prop)→World→α→β→Prop} {w w':World} {l:List α} {S:SV} {m B:Nat}
theorem OwnG.typed (h:OwnG c t m A B w l S) {k:Nat} (hk:(Value.slice S.A S.n S.c).ownBlock=some k):B≤k∧∃ cs,Bk w k t cs:=by obtain⟨vs,h1,h2,h3,h4⟩:=h;exact qF h3 k hk
theorem OwnG.fresh (h:OwnG c t m A B w l S) {k:Nat} (hk:w.heap.size≤k):(Value.slice S.A S.n S.c).ownBlock≠some k:=fun e=>by obtain⟨_,cs,hb⟩:=h.typed e;have:=hb.lt;omega
end
theorem jL {P:Program} {ops:Array Oper} {rest:List Oper} {t:TypeId} {w w':World} {o:Oper} {a:Act} {Q:Exit→Act→World→Prop} (hgd:o.guard=none) (s x:Operand) (ho:o.op=.call { callee:=.builtin .append,args:=#[s,x],argTypes:=#[t,t] }) (v u r:Value) (hs:a.eval s=v) (hx:a.eval x=u)
 (hrun:(Builtin.append_ #[t,t] o.type #[v,u]).run P w=.ok r w') (h:wpList P ops Q rest (a.put o.dst r) w'):wpList P ops Q (o :: rest) a w :=
 wpList_plain hgd fun _ hK=>jC6 (ty0:=t) s x ho v u r hs hx hrun (hK _ _ h)
theorem qA7 (t u:List UInt8):((str t).toList == u)=decide (t=u):=by
 rw [qB,qE];by_cases h:t=u
 ·simp [h]
 ·simp [h]
theorem xL (X:Ex) (S:SV):(qX X S).toArray=(uE X S):=rfl
section
variable {B:Nat} {w w1 w':World} {p:Nat} {E:Env} {T:TV} {q:QSt} {F:Nat→Prop}
theorem Pq.data (h:Pq B w p E T q) (hf:Fr F w w') (hF:∀ k,k<w.heap.size→F k→B≤k∧∃ t cs,Bk w k t cs∧TTy t):Pq B w' p E T q:=by
 obtain⟨Q,h1,h2,h3⟩:=h.ex;have key:∀ k,k<w.heap.size→∀ t cs fr,w.heap[k]?=some (.cells cs t fr)→¬TTy t→¬F k:=by intro k hk t cs fr hb ht e;obtain⟨_,t',cs',hb',ht'⟩:=hF k hk e;unfold Bk at hb';rw [hb']at hb;injection hb with hb;injection hb with _ hb;exact ht (hb▸ht')
 have hl:∀ k,k<B→k<w.heap.size→¬F k:=fun k hk hw e=>by have:=(hF k hw e).1;omega
 have htok:¬TTy 44:=by unfold TTy;decide
 obtain⟨v0,v1⟩:=h1.vr.lt;refine⟨⟨Q,⟨h1.bk.fr hf (key _ h1.lt _ _ _ h1.bk zX8),h1.rd.keeps (Keeps.fr hf fun b cs fr hb=>key b (zO hb) _ _ _ hb htok),h1.ok,h1.n,h1.vr.fr hf (hl _ h.g0 v0) (hl _ h.g1 v1),h1.g0,h1.g1,lE h1.base hf.size⟩,?_,h3⟩,h.g0,h.g1,lE h.b hf.size⟩;refine jP h2 hf fun k hk=>?_;obtain⟨_,cs,hb⟩:=qF h2 k hk;exact key k hb.lt _ _ _ hb zS5
theorem PQ.data (h:PQ B w p E T q w1) (hB:B≤w.heap.size) (hf:Fr F w1 w') (hF:∀ k,k<w1.heap.size→F k→w.heap.size≤k∧∃ t cs,Bk w1 k t cs∧TTy t):PQ B w p E T q w' :=
 ⟨h.pq.data hf fun k hk e=>⟨lE hB (hF k hk e).1,(hF k hk e).2⟩,Fr.then h.fr hf fun i hi e=>by have:=(hF i (lX hi h.fr.size) e).1;omega⟩
end
theorem OwnX.push {B:Nat} {w w2:World} {out:List Ex} {S S1:SV} {X:Ex} (h:OwnX B w out S) (hB:B≤w.heap.size) (hs:Stays (fun k=>B≤k) w w2) (hsz:w.heap.size≤w2.heap.size) (hx:TX (fun k=>w.heap.size≤k) w2 X S1) (hn:S.n<1000000000) :
 ∃ A' c' w',(∀ ty,(Builtin.append_ #[29,29] ty #[.slice S.A S.n S.c,.slice (some ⟨w2.heap.size,0,none⟩) 1 1]).run prog (w2.alloc (.cells (qX X S1).toArray 31))=.ok (.slice A' (S.n+1) c') w')∧OwnX B w' (out++[X]) ⟨A',S.n+1,c'⟩∧Fr (fun k=>(Value.slice S.A S.n S.c).ownBlock=some k) (w2.alloc (.cells (qX X S1).toArray 31)) w'∧OwnX B (w2.alloc (.cells (qX X S1).toArray 31)) out S:=by
 have hb:Ue w2 (w2.alloc (.cells (qX X S1).toArray 31)):=zB;have ho:=h.stay itX qW (hs.trans (Stays.below hb));have hx2:=itX.mono _ (fun k=>B≤k∧(uL S).ownBlock≠some k) _ _ _ (fun k _ hk=>⟨lE hB hk,h.fresh hk⟩) (hx.stay (Stays.below hb));have key:=fun ty=>OwnG.run itX kF4 qW qE2 (fun x v=>wO x v) ho X S1 hx2 (some ⟨w2.heap.size,0,none⟩) 1 (Rd.new w2 (qX X S1).toArray 31) hn Yp ty;obtain⟨A',c',w',h1,h2,h3⟩:=key 0;exact⟨A',c',w',fun ty=>h1,h2,h3,ho⟩
section
variable {B:Nat} {p:Nat} {E:Env} {T:TV}
theorem kG4 (f:Nat) (q:QSt) (l:List Ex) (q':QSt) (hx:yC E f q=some (l,q')) (w:World) (h:Ud (Pq B w p E T q)) :
 Calls prog 161 #[uQ p 0] w fun e w'=>∃ S,e=.returned (.slice S.A S.n S.c)∧RowX (fun k=>w.heap.size≤k) w' l S∧PQ B w p E T q' w':=by
 obtain⟨q1,h1,h2⟩:=zE3 hx;have HO:=Ph h1;clear hx h1;go_enter func161,ntmps161
 go_wp2_with fail
 refine(qF3 q [40] q1 HO.o w h).mono ?_;rintro e w1 ⟨⟨v,rfl⟩,hp⟩;have HP1:=Ph hp;clear hp;have hbt:((str (zC E q1.s).text).toList == [41])=decide ((zC E q1.s).text=[41]):=qA7 _ _;have HNX:=Ph (zI6 q1 w1 (Ph HP1.o.pq));obtain⟨⟨tk,tt,ta,tf⟩,ht⟩:∃ t,zC E q1.s=t:=⟨_,rfl⟩;rw [ht]at HNX h2 hbt;dsimp only [nxV,kW]at HNX;(try dsimp only at h2 hbt);clear ht;go_wp2_with fail
 refine HNX.o.mono ?_;rintro e w2 ⟨rfl,hb⟩;have HP2:=Ph ((HP1.o.then hb).then (zB (o:=.cells #[uB tk,uI ta,uI tf] 44)));clear hb HNX HP1;go_upto_region 4 with fail
 generalize (w2.alloc _)=W2 at HP2 ⊢;obtain⟨Q2,hps,_⟩:=HP2.o.pq.ex;obtain⟨g0,g1,g2,g3,g4,g5,g6⟩:=hps.cells;clear hps g0 g1 g2 g3 g4 g5;rcases h2 with⟨hc,rfl,hsh⟩ | ⟨⟨hc1,hc2⟩,x,q2,q3,hx,hm,hsh⟩
 ·have HSH:=Ph hsh;clear hsh;by_cases ht:tt=[41]
  ·rw [lH ht]at hbt;clear hc ht;go_wp2_with fail
   refine(zI7 q1 [41] q' HSH.o W2 (Ph HP2.o.pq)).mono ?_;rintro e w3 ⟨⟨v3,rfl⟩,hp⟩;have HP3:=Ph (HP2.o.trans hp);clear hp;go_wp2_with fail
   go_ret;exact⟨⟨none,0,0⟩,rfl,RowG.nil,HP3.o⟩
  ·rw [lG ht]at hbt;have e1:((q1.s.e:Int) == 0)=false:=by have:q1.s.e≠0:=fun h0=>hc ⟨ht,h0⟩;simp;omega
   clear hc ht;go_wp2_with fail
   refine(zI7 q1 [41] q' HSH.o W2 (Ph HP2.o.pq)).mono ?_;rintro e w3 ⟨⟨v3,rfl⟩,hp⟩;have HP3:=Ph (HP2.o.trans hp);clear hp;go_wp2_with fail
   go_ret;exact⟨⟨none,0,0⟩,rfl,RowG.nil,HP3.o⟩
 ·rw [lG hc1]at hbt;have e1:((q1.s.e:Int) == 0)=true:=Yp;have HX:=Ph hx;have HM:=Ph hm;have HSH:=Ph hsh;have hBw:Ud (B≤w.heap.size):=Ph h.o.b;have hW2:w.heap.size≤W2.heap.size:=HP2.o.fr.size;clear hx hm hsh hc1 hc2;go_wp2_with fail
  refine(zC3 f q1 x q2 HX.o W2 (Ph HP2.o.pq)).mono ?_;rintro e w3 ⟨S1,rfl,htx,hp⟩;rw [xL];obtain⟨A1,c1,w4,hrun,hown,hfr,hown0⟩:=OwnX.push (B:=w.heap.size) (w:=W2) (out:=[]) (S:=⟨none,0,0⟩) OwnG.nil hW2 (HP2.o.pq.stays hp.fr) hp.fr.size htx Yd;rw [xL]at hrun hown0 hfr;have hl2:1≤q2.s.n+1:=Yo;have HP4:=Ph (((HP2.o.trans hp).then (zB (o:=.cells (uE x S1) 31))).data hBw.o hfr (fun k _ e=>by obtain⟨h1,cs,h2⟩:=hown0.typed e;exact⟨h1,_,cs,h2,qW⟩));have HRUN:=Ph hrun;have HOW:Ud (OwnX w.heap.size w4 [x] ⟨A1,1,c1⟩):=Ph hown;clear hrun hown hfr hown0 hp htx HP2 hW2 g6 hbt e1;go_wp2_with (at_builtin;refine jL rfl (.tmp 22) (.tmp 25) rfl _ _ _ rfl rfl (HRUN.o _) ?_)
  go_loopg [3] f (fun g v3 wr=>∃ (out:List Ex) (S:SV) (qc:QSt),v3=uL S∧Ud (yA E g qc out=some (l,q3))∧Ud (OwnX w.heap.size wr out S)∧Ud (PQ B w p E T qc wr)∧Ud (out.length≤qc.s.n+1))
  case atStart=>exact⟨[x],⟨A1,1,c1⟩,q2,rfl,HM,HOW,HP4,Ph hl2⟩
  case round =>
   obtain⟨out,S,qc,rfl,HMc,HOc,HPc,HLc⟩:=hrel;clear HM HOW HP4 HRUN HX hl2;cases gk with
   | zero=>exact absurd HMc.o (by unfold yA;intro h;cases h)
   | succ gk =>
   have hms:=zS6 HMc.o;clear HMc;go_wp2_with fail
   refine(isQ qc [44] wr (Ph HPc.o.pq)).mono ?_;rintro e w5 ⟨rfl,hp⟩;rcases hms with⟨hi,hr⟩ | ⟨hi,y,q5,hy,hm⟩
   ·have hq:qc.on (isS E qc.s [44])=qc:=by unfold isS;rw [hi];rfl
    rw [hi];rw [hq]at hp;injection hr with hr1 hr2;subst hr1 hr2;have HP5:=Ph (HPc.o.trans hp);have HO5:=Ph (HOc.o.stay itX qW (HPc.o.pq.stays hp.fr));clear hp hi HPc HOc hq;go_wp2_with fail
    refine(zI7 q3 [41] q' HSH.o w5 (Ph HP5.o.pq)).mono ?_;rintro e w6 ⟨⟨v6,rfl⟩,hp⟩;have HP6:=Ph (HP5.o.trans hp);have HO6:=Ph (HO5.o.stay itX qW (HP5.o.pq.stays hp.fr));clear hp HP5 HO5;go_wp2_with fail
    go_ret;exact⟨S,rfl,HO6.o.row itX,HP6.o⟩
   ·have hq:qc.on (isS E qc.s [44])=qc.on (zE qc.s):=by unfold isS;rw [hi];rfl
    rw [hi];rw [hq]at hp;have HP5:=Ph (HPc.o.trans hp);have HO5:=Ph (HOc.o.stay itX qW (HPc.o.pq.stays hp.fr));have hsz5:w.heap.size≤w5.heap.size:=HP5.o.fr.size;have hSn:S.n<1000000000:=by have h1:=HLc.o;have h2:=HOc.o.len;obtain⟨Qc,hps,_⟩:=HPc.o.pq.ex;have h3:=hps.n;have h4:=hps.ok.few;omega
    have hl5:out.length+1≤q5.s.n+1:=by have h1:=HLc.o;have h2:qc.s.n+1≤q5.s.n:=yY hy;omega
    have HY:=Ph hy;have HM:=Ph hm;clear hp hi HPc HOc hq hy hm HLc;go_wp2_with fail
    refine(zC3 gk (qc.on (zE qc.s)) y q5 HY.o w5 (Ph HP5.o.pq)).mono ?_;rintro e w6 ⟨S1,rfl,htx,hp⟩;rw [xL];obtain⟨A2,c2,w7,hrun,hown,hfr,hown0⟩:=OwnX.push (B:=w.heap.size) (w:=w5) HO5.o hsz5 (HP5.o.pq.stays hp.fr) hp.fr.size htx hSn;rw [xL]at hrun hown0 hfr;have HP7:=Ph (((HP5.o.trans hp).then (zB (o:=.cells (uE y S1) 31))).data hBw.o hfr (fun k _ e=>by obtain⟨h1,cs,h2⟩:=hown0.typed e;exact⟨h1,_,cs,h2,qW⟩));have HRUN:=Ph hrun;have HOW:=Ph hown;have HL7:Ud ((out++[y]).length≤q5.s.n+1):=Ph (by rw [Ya];exact hl5);clear hrun hown hfr hown0 hp htx HP5 HO5 hl5 hSn hsz5 HY;go_wp2_with (at_builtin;refine jL rfl (.tmp 29) (.tmp 32) rfl _ _ _ rfl rfl (HRUN.o _) ?_)
    go_roundg gk
    case measure=>omega
    case rel=>exact⟨out++[y],⟨A2,S.n+1,c2⟩,q5,rfl,HM,HOW,HP7,HL7⟩
end
end
section
open Go.RowKit Go.PlainAid
def stV (x:Sx) (v:SV×SV×SV):Value:=.agg (zC6 x v).toArray
abbrev zK:SV:=⟨none,0,0⟩
section
variable {B:Nat} {p:Nat} {E:Env} {T:TV}
def vH (B:Nat) (w:World) (p:Nat) (E:Env) (T:TV) (x:Sx) (q:QSt) (e:Ending) (w':World):Prop:=∃ v,e=.returned (stV x v)∧SxP (fun k=>w.heap.size≤k) w' x v∧PQ B w p E T q w'
theorem kQ4 {P:Nat→Prop} {w:World} {x:Ex} {S:SV} (h:TX P w x S) (hP:P w.heap.size) (c:Nat):RowX P (w.alloc (.cells (qX x S).toArray 31)) [x] ⟨some ⟨w.heap.size,0,none⟩,1,c⟩:=by
 have hb:Below w.heap.size w (w.alloc (.cells (qX x S).toArray 31)):=zB;refine .mk [x] _ [S] rfl rfl (fun b off e=>?_) ?_ fun i y v hy hv=>?_
 ·injection e with e;injection e with e;exact e▸hP
 ·have:=RdT.new w (qX x S).toArray 31;simpa using this
 ·rcases i with _ | i
  ·simp at hy hv;subst hy hv;exact h.stay (Stays.below hb)
  ·simp at hy
theorem kR5 {P:Nat→Prop} {w:World} {x y:Ex} {S S2:SV} (h:TX P w x S) (h2:TX P w y S2) (hP:P w.heap.size) (c:Nat):RowX P (w.alloc (.cells (qX x S++qX y S2).toArray 31)) [x,y] ⟨some ⟨w.heap.size,0,none⟩,2,c⟩:=by
 have hb:Below w.heap.size w (w.alloc (.cells (qX x S++qX y S2).toArray 31)):=zB;refine .mk [x,y] _ [S,S2] rfl rfl (fun b off e=>?_) ?_ fun i z v hy hv=>?_
 ·injection e with e;injection e with e;exact e▸hP
 ·have:=RdT.new w (qX x S++qX y S2).toArray 31;simpa using this
 ·rcases i with _ | _ | i
  ·simp at hy hv;subst hy hv;exact h.stay (Stays.below hb)
  ·simp at hy hv;subst hy hv;exact h2.stay (Stays.below hb)
  ·simp at hy
theorem kG5 (q:QSt) (w:World) (h:Ud (Pq B w p E T q)):Calls prog 149 #[uQ p 0] w (vH B w p E T (.mk 4 [] [] 0 [] []) q):=by
 have HR:=Ph (Bk.new w 108 uS);have HP:=Ph (PQ.below h.o (zB (o:=.cells uS 108)));have hpl:p<w.heap.size:=h.o.lt;go_enter func149,ntmps149
 go_upto_region 1 with fail
 generalize (w.alloc _)=W at HR HP ⊢;obtain⟨r,hr⟩:∃ r,w.heap.size=r:=⟨_,rfl⟩;rw [hr]at HR ⊢;have hrp:p≠r:=Yo;have hwr:w.heap.size≤r:=Yo;clear hr hpl;obtain⟨y0,y1,y2,y3,y4,y5⟩:=zH HR.o;obtain⟨f0,f1,f2,f3,f4,f5,_⟩:=zZ HR.o;have HF:=Ph (fr6 W r (uB 4) (uT) (uN) (uI 0) (uN) (uN));have HK:=Ph (put6 (v0:=uB 4) (v1:=uT) (v2:=uN) (v3:=uI 0) (v4:=uN) (v5:=uN) HR.o);go_wp2_with fail
 generalize (World.setCell _ _ _)=WF at HF HK ⊢;obtain⟨r0,r1,r2,r3,r4,r5⟩:=zH HK.o;refine lK (v:=stV (.mk 4 [] [] 0 [] []) (zK,zK,zK)) (by simp [results,results149,go_sem,r0,r1,r2,r3,r4,r5,stV,zC6,Sx.kind,Sx.name,Sx.bound,str]) rfl ?_;refine⟨(zK,zK,zK),rfl,⟨⟨by show(4:Nat)≤255;decide,by show(-9223372036854775808:Int)≤0;decide,by show(0:Int)≤9223372036854775807;decide,lV _⟩,RowG.nil,StsP.nil,StsP.nil⟩,?_⟩;exact HP.o.box HR.o Yd Yd hrp (lE h.o.b hwr) hwr HF.o
theorem jP1 (q:QSt) (w:World) (h:Ud (Pq B w p E T q)):Calls prog 150 #[uQ p 0] w (vH B w p E T (.mk 5 [] [] 0 [] []) q):=by
 have HR:=Ph (Bk.new w 108 uS);have HP:=Ph (PQ.below h.o (zB (o:=.cells uS 108)));have hpl:p<w.heap.size:=h.o.lt;go_enter func150,ntmps150
 go_upto_region 1 with fail
 generalize (w.alloc _)=W at HR HP ⊢;obtain⟨r,hr⟩:∃ r,w.heap.size=r:=⟨_,rfl⟩;rw [hr]at HR ⊢;have hrp:p≠r:=Yo;have hwr:w.heap.size≤r:=Yo;clear hr hpl;obtain⟨y0,y1,y2,y3,y4,y5⟩:=zH HR.o;obtain⟨f0,f1,f2,f3,f4,f5,_⟩:=zZ HR.o;have HF:=Ph (fr6 W r (uB 5) (uT) (uN) (uI 0) (uN) (uN));have HK:=Ph (put6 (v0:=uB 5) (v1:=uT) (v2:=uN) (v3:=uI 0) (v4:=uN) (v5:=uN) HR.o);go_wp2_with fail
 generalize (World.setCell _ _ _)=WF at HF HK ⊢;obtain⟨r0,r1,r2,r3,r4,r5⟩:=zH HK.o;refine lK (v:=stV (.mk 5 [] [] 0 [] []) (zK,zK,zK)) (by simp [results,results150,go_sem,r0,r1,r2,r3,r4,r5,stV,zC6,Sx.kind,Sx.name,Sx.bound,str]) rfl ?_;refine⟨(zK,zK,zK),rfl,⟨⟨by show(5:Nat)≤255;decide,by show(-9223372036854775808:Int)≤0;decide,by show(0:Int)≤9223372036854775807;decide,lV _⟩,RowG.nil,StsP.nil,StsP.nil⟩,?_⟩;exact HP.o.box HR.o Yd Yd hrp (lE h.o.b hwr) hwr HF.o
def SBx (b:Ex) (S1:SV) (b3:Nat) (w':World):Prop:=w'.cell? ⟨b3,0,none⟩=some (uB b.kind)∧w'.cell? ⟨b3,1,none⟩=some (uB b.op)∧w'.cell? ⟨b3,2,none⟩=some (uW b.value)∧w'.cell? ⟨b3,3,none⟩=some (uI b.width)∧w'.cell? ⟨b3,4,none⟩=some (uR b.name)∧w'.cell? ⟨b3,5,none⟩=some (.slice S1.A S1.n S1.c)
theorem kG6 (f:Nat) (q:QSt) (b x:Ex) (q1 q2:QSt) (hb:qS E f q=some (b,q1)) (hx:qS E f (q1.on (zI E q1.s [44]))=some (x,q2)) (w:World) (h:Ud (Pq B w p E T q)):Calls prog 148 #[uQ p 0] w (vH B w p E T (.mk 3 [] [b,x] 0 [] []) q2):=by
 have HR0:=Ph (Bk.new w 108 uS);have HP0:=Ph (PQ.below h.o (zB (o:=.cells uS 108)));have hpl:p<w.heap.size:=h.o.lt;have HB:=Ph hb;have HX:=Ph hx;clear hb hx;go_enter func148,ntmps148
 go_upto_region 1 with fail
 have hW:(w.alloc (.cells uS 108)).heap.size=w.heap.size+1:=Ym;generalize (w.alloc _)=W at HR0 HP0 hW ⊢;obtain⟨r,hr⟩:∃ r,w.heap.size=r:=⟨_,rfl⟩;rw [hr]at HR0 hW ⊢;have hrp:p≠r:=Yo;have hwr:w.heap.size≤r:=Yo;clear hr hpl;go_wp2_with fail
 refine(zC3 f q b q1 HB.o W (Ph HP0.o.pq)).mono ?_;rintro e w1 ⟨S1,rfl,ht,hp⟩;rw [xL];have HP1:=Ph ((HP0.o.trans hp).then (zB (o:=.cells (uE b S1) 31)));have HR1:=Ph (zD (hp.bk HR0.o Yd (cX hrp)) (zB (o:=.cells (uE b S1) 31)));have HT1:Ud (TX (fun k=>r+1≤k) (w1.alloc (.cells (uE b S1) 31)) b S1):=Ph ((ht.mono (P':=fun k=>r+1≤k) (fun k _ hk=>hW▸hk)).stay (Stays.below zB));have HX1:=Ph (Bk.new w1 31 (uE b S1));have hr1:r<w1.heap.size:=(hp.bk HR0.o Yd (cX hrp)).lt;have hp1:p<w1.heap.size:=hp.pq.lt;clear ht hp HR0 HP0 hW;go_upto_region 2 with fail
 generalize (w1.alloc _)=W1 at HP1 HR1 HT1 HX1 ⊢;obtain⟨b3,hb3⟩:∃ b,w1.heap.size=b:=⟨_,rfl⟩;rw [hb3]at HX1 ⊢;have hb3p:b3≠p:=Yo;have hb3r:b3≠r:=Yo;clear hb3 hr1 hp1;go_wp2_with fail
 refine(zM9 q1 [44] W1 (Ph HP1.o.pq)).mono ?_;rintro e w2 ⟨⟨v2,rfl⟩,hp⟩;have HP2:=Ph (HP1.o.trans hp);have HR2:=Ph (hp.bk HR1.o Yd (cX hrp));have HX2:=Ph (hp.bk HX1.o Yd hb3p);have HT2:=Ph (HT1.o.stay (HP1.o.pq.stays hp.fr));clear hp HP1 HR1 HX1 HT1;go_upto_region 3 with fail
 have HSS:Ud (∀ w',Bk w' b3 31 (uE b S1)→SBx b S1 b3 w'):=fun w' hb=>zH hb;have HST:Ud (∀ (w':World) (u0 u1 u2 u3 u4 u5:Value),Bk w' b3 31 (uE b S1)→SBx b S1 b3 ((((((w'.setCell ⟨r,0,none⟩ (u0)).setCell ⟨r,1,none⟩ (u1)).setCell ⟨r,2,none⟩ (u2)).setCell ⟨r,3,none⟩ (u3)).setCell ⟨r,4,none⟩ (u4)).setCell ⟨r,5,none⟩ (u5))):=fun w' u0 u1 u2 u3 u4 u5 hb=>zH (Bk.fr hb (fr6 w' r u0 u1 u2 u3 u4 u5) hb3r);have HTC:=Ph HX2.o.drew;have HPD:=Ph (HP2.o.then (lB _ _).drew);have HRD:=Ph HR2.o.drew;have HTD:=Ph (HT2.o.stay (P:=fun k=>r+1≤k) (w':=w2.drew) (Stays.below (lB _ _).drew));have hrw:r+1≤w2.drew.heap.size:=HRD.o.lt;have HCL:Ud (Calls prog 54 #[uQ p 0] w2.drew fun e w'=>∃ S,e=.returned (.agg (uE x S))∧TX (fun k=>w2.drew.heap.size≤k) w' x S∧PQ B w2.drew p E T q2 w'):=Ph (zC3 f _ x q2 HX.o w2.drew (Ph HPD.o.pq));clear HP2 HX2 HR2 HT2
 go_region_held3 (fun w'=>w'.cell? ⟨b3,0,none⟩=some (uB b.kind)∧w'.cell? ⟨b3,1,none⟩=some (uB b.op)∧w'.cell? ⟨b3,2,none⟩=some (uW b.value)∧w'.cell? ⟨b3,3,none⟩=some (uI b.width)∧w'.cell? ⟨b3,4,none⟩=some (uR b.name)∧w'.cell? ⟨b3,5,none⟩=some (uL S1))
  ((refine(show SBx b S1 b3 _ from ?_);first | with_reducible exact HSS.o _ HTC.o | with_reducible exact HSS.o _ (HTC.o.alloc _) | with_reducible exact HST.o _ _ _ _ _ _ _ (HTC.o.alloc _)))
  (first
    | (go_at_call 54
       with_reducible refine HCL.o.mono ?_
       rintro e w5 ⟨S2,rfl,ht,hp⟩;have HTC':=Ph (hp.bk HTC.o Yd hb3p);have HP5:=Ph (HPD.o.trans hp);have HR5:=Ph (zD (hp.bk HRD.o Yd (cX hrp)) (zB (o:=.cells #[uB b.kind,uB b.op,uW b.value,uI b.width,uR b.name,uL S1,uB x.kind,uB x.op,uW x.value,uI x.width,uR x.name,uL S2] 31)));have HT5:=Ph (HTD.o.stay (HPD.o.pq.stays hp.fr));have HU5:=Ph (ht.mono (P':=fun k=>r+1≤k) (fun k _ hk=>lE hrw hk));have hl5:r+1≤w5.heap.size:=lE hrw hp.fr.size;clear HTC ht hp HCL;have HTC:=HTC';clear HTC';obtain⟨y0,y1,y2,y3,y4,y5⟩:=zH HR5.o;obtain⟨f0,f1,f2,f3,f4,f5,_⟩:=zZ HR5.o))
 all_goals
  have HPF:=Ph (HP5.o.then (zB (o:=.cells #[uB b.kind,uB b.op,uW b.value,uI b.width,uR b.name,uL S1,uB x.kind,uB x.op,uW x.value,uI x.width,uR x.name,uL S2] 31)));have HRW:Ud (RowX (fun k=>r+1≤k) (w5.alloc (.cells #[uB b.kind,uB b.op,uW b.value,uI b.width,uR b.name,uL S1,uB x.kind,uB x.op,uW x.value,uI x.width,uR x.name,uL S2] 31)) [b,x] ⟨some ⟨w5.heap.size,0,none⟩,2,2⟩):=Ph (kR5 HT5.o HU5.o hl5 2);generalize (w5.alloc _)=W6 at HR5 HPF HRW y0 y1 y2 y3 y4 y5 f0 f1 f2 f3 f4 f5 ⊢;generalize w5.heap.size=g at HRW ⊢;have HF:=Ph (fr6 W6 r (uB 3) (uT) (.slice (some ⟨g,0,none⟩) 2 2) (uI 0) (uN) (uN));have HK:=Ph (put6 (v0:=uB 3) (v1:=uT) (v2:=.slice (some ⟨g,0,none⟩) 2 2) (v3:=uI 0) (v4:=uN) (v5:=uN) HR5.o);go_wp2
  generalize (World.setCell _ _ _)=WF at HF HK ⊢;obtain⟨r0,r1,r2,r3,r4,r5⟩:=zH HK.o;refine lK (v:=stV (.mk 3 [] [b,x] 0 [] []) (⟨some ⟨g,0,none⟩,2,2⟩,zK,zK)) (by simp [results,results148,go_sem,r0,r1,r2,r3,r4,r5,stV,zC6,Sx.kind,Sx.name,Sx.bound,str]) rfl ?_;refine⟨(⟨some ⟨g,0,none⟩,2,2⟩,zK,zK),rfl,⟨⟨by show(3:Nat)≤255;decide,by show(-9223372036854775808:Int)≤0;decide,by show(0:Int)≤9223372036854775807;decide,lV _⟩,?_,StsP.nil,StsP.nil⟩,?_⟩
  ·exact(HRW.o.stay itX qW (Stays.fr HF.o (fun k _ hk e=>Yo))).mono itX fun k _ hk=>Yo
  ·exact HPF.o.box HR5.o Yd Yd hrp (lE h.o.b hwr) hwr HF.o
end
end
section
section
variable {E:Env} {f:Nat} {q q':QSt} {s:Sx}
theorem zE4 (h:qY E (f+1) 3 q=some (s,q')):∃ b x q1,qS E f q=some (b,q1)∧qS E f (q1.on (zI E q1.s [44]))=some (x,q')∧s=.mk 3 [] [b,x] 0 [] []:=by
 simp only [qY]at h;cases h1:qS E f q with
 | none=>rw [h1]at h;cases h
 | some r =>
   obtain⟨b,q1⟩:=r;rw [h1]at h;(try dsimp only at h);cases h2:qS E f (q1.on (zI E q1.s [44]))with
   | none=>rw [h2]at h;cases h
   | some r =>
     obtain⟨x,q2⟩:=r;rw [h2]at h;injection h with h;injection h with e1 e2;subst e1 e2;exact⟨b,x,q1,rfl,h2,rfl⟩
theorem zE5 (h:qY E (f+1) 4 q=some (s,q')):s=.mk 4 [] [] 0 [] []∧q'=q:=by simp only [qY]at h;injection h with h;injection h with e1 e2;exact⟨e1.symm,e2.symm⟩
theorem zE6 (h:qY E (f+1) 5 q=some (s,q')):s=.mk 5 [] [] 0 [] []∧q'=q:=by simp only [qY]at h;injection h with h;injection h with e1 e2;exact⟨e1.symm,e2.symm⟩
theorem zE7 (h:qY E (f+1) 6 q=some (s,q')):∃ x q1 t q2,qS E f q=some (x,q1)∧kE E f q1=some (t,q2)∧((isP E q2.s (bs "else")=true∧∃ e,kE E f (q2.on (zE q2.s))=some (e,q')∧s=.mk 6 [] [x] 0 t e)∨(isP E q2.s (bs "else")=false∧s=.mk 6 [] [x] 0 t []∧q'=q2)):=by
 simp only [qY]at h;cases h1:qS E f q with
 | none=>rw [h1]at h;cases h
 | some r =>
   obtain⟨x,q1⟩:=r;rw [h1]at h;(try dsimp only at h);cases h2:kE E f q1 with
   | none=>rw [h2]at h;cases h
   | some r =>
     obtain⟨t,q2⟩:=r;rw [h2]at h;(try dsimp only at h);cases hi:isP E q2.s (bs "else")with
     | false =>
       rw [hi]at h;injection h with h;injection h with e1 e2;exact⟨x,q1,t,q2,rfl,h2,.inr ⟨hi,e1.symm,e2.symm⟩⟩
     | true =>
       rw [hi,lM rfl]at h;cases h3:kE E f (q2.on (zE q2.s))with
       | none=>rw [h3]at h;cases h
       | some r =>
         obtain⟨e,q3⟩:=r;rw [h3]at h;injection h with h;injection h with e1 e2;subst e1 e2;exact⟨x,q1,t,q2,rfl,h2,.inl ⟨hi,e,h3,rfl⟩⟩
theorem zE8 (h:qY E (f+1) 7 q=some (s,q')):∃ x q1 t,qS E f q=some (x,q1)∧kE E f (q1.on (jB E (zI E q1.s (bs "bound"))).2)=some (t,q')∧s=.mk 7 [] [x] (jB E (zI E q1.s (bs "bound"))).1 t []:=by
 simp only [qY]at h;cases h1:qS E f q with
 | none=>rw [h1]at h;cases h
 | some r =>
   obtain⟨x,q1⟩:=r;rw [h1]at h;(try dsimp only at h);cases h2:kE E f (q1.on (jB E (zI E q1.s (bs "bound"))).2)with
   | none=>rw [h2]at h;cases h
   | some r =>
     obtain⟨t,q2⟩:=r;rw [h2]at h;injection h with h;injection h with e1 e2;subst e1 e2;exact⟨x,q1,t,rfl,h2,rfl⟩
theorem zE9 (h:qY E (f+1) 8 q=some (s,q')):∃ l,yC E f (q.on (zL E q.s))=some (l,q')∧s=.mk 8 (jA E q.s) l 0 [] []:=by
 simp only [qY]at h;cases h1:yC E f (q.on (zL E q.s))with
 | none=>rw [h1]at h;cases h
 | some r =>
   obtain⟨l,q1⟩:=r;rw [h1]at h;injection h with h;injection h with e1 e2;subst e1 e2;exact⟨l,rfl,rfl⟩
theorem vW (h:qY E (f+1) 0 q=some (s,q')):((zC E (zL E q.s)).text=[91]∧∃ r i q1 r2 x,kN E (q.on (zL E q.s)) [91]=some r∧qS E f r=some (i,q1)∧jX E q1 [93]=some r2∧qS E f (r2.on (zI E r2.s [61]))=some (x,q')∧s=.mk 2 (jA E q.s) [i,x] 0 [] []) ∨
 ((zC E (zL E q.s)).text≠[91]∧∃ x,qS E f (q.on (zI E (zL E q.s) [61]))=some (x,q')∧s=.mk 1 (jA E q.s) [x] 0 [] []):=by
 simp only [qY]at h;by_cases ht:(zC E (zL E q.s)).text=[91]
 ·rw [lM ht]at h;cases h1:kN E (q.on (zL E q.s)) [91]with
  | none=>rw [h1]at h;cases h
  | some r =>
    rw [h1]at h;(try dsimp only at h);cases h2:qS E f r with
    | none=>rw [h2]at h;cases h
    | some r' =>
      obtain⟨i,q1⟩:=r';rw [h2]at h;(try dsimp only at h);cases h3:jX E q1 [93]with
      | none=>rw [h3]at h;cases h
      | some r2 =>
        rw [h3]at h;(try dsimp only at h);cases h4:qS E f (r2.on (zI E r2.s [61]))with
        | none=>rw [h4]at h;cases h
        | some r' =>
          obtain⟨x,q3⟩:=r';rw [h4]at h;injection h with h;injection h with e1 e2;subst e1 e2;exact .inl ⟨ht,r,i,q1,r2,x,rfl,h2,h3,h4,rfl⟩
 ·rw [lN ht]at h;cases h4:qS E f (q.on (zI E (zL E q.s) [61]))with
  | none=>rw [h4]at h;cases h
  | some r' =>
    obtain⟨x,q3⟩:=r';rw [h4]at h;injection h with h;injection h with e1 e2;subst e1 e2;exact .inr ⟨ht,x,rfl,rfl⟩
theorem zI8 {l:List Sx} (h:kE E (f+1) q=some (l,q')):∃ q1 q2,kN E q [123]=some q1∧jM E f q1 []=some (l,q2)∧jX E q2 [125]=some q':=by
 rw [kE]at h;cases h1:kN E q [123]with
 | none=>rw [h1]at h;cases h
 | some q1 =>
   rw [h1]at h;(try dsimp only at h);cases h2:jM E f q1 []with
   | none=>rw [h2]at h;cases h
   | some r =>
     obtain⟨l2,q2⟩:=r;rw [h2]at h;(try dsimp only at h);cases h3:jX E q2 [125]with
     | none=>rw [h3]at h;cases h
     | some q3 =>
       rw [h3]at h;injection h with h;injection h with e1 e2;subst e1 e2;exact⟨q1,q2,rfl,h2,h3⟩
theorem zF1 {out:List Sx} {r:List Sx×QSt} (h:jM E (f+1) q out=some r):(∃ k x q1,q.s.e=0∧q.l.length≤800000000∧kM (zC E q.s).text=some k∧qY E f k ⟨zE q.s,q.l++[(zC E q.s).at']⟩=some (x,q1)∧jM E f q1 (out++[x])=some r) ∨
 (∃ x q1,q.s.e=0∧q.l.length≤800000000∧kM (zC E q.s).text=none∧(zC E q.s).kind=1∧vO (zC E q.s).text=false∧qY E f 0 (q.at E)=some (x,q1)∧jM E f q1 (out++[x])=some r) ∨
 ((q.s.e≠0∨(q.s.e=0∧kM (zC E q.s).text=none∧¬((zC E q.s).kind=1∧vO (zC E q.s).text=false)))∧r=(out,q)):=by
 rw [jM]at h;by_cases he:q.s.e=0
 ·rw [lM he]at h;cases hl:okL q with
  | false=>rw [hl]at h;cases h
  | true =>
  rw [hl,lM rfl]at h;have hl:q.l.length≤800000000:=cM hl;cases hk:kM (zC E q.s).text with
  | some k =>
    rw [hk]at h;(try dsimp only at h);cases h1:qY E f k ⟨zE q.s,q.l++[(zC E q.s).at']⟩with
    | none=>rw [h1]at h;cases h
    | some r'=>obtain⟨x,q1⟩:=r';rw [h1]at h;exact .inl ⟨k,x,q1,he,hl,rfl,h1,h⟩
  | none =>
    rw [hk]at h;(try dsimp only at h);by_cases hw:(zC E q.s).kind=1∧vO (zC E q.s).text=false
    ·rw [lM hw]at h;cases h1:qY E f 0 (q.at E)with
     | none=>rw [h1]at h;cases h
     | some r'=>obtain⟨x,q1⟩:=r';rw [h1]at h;exact .inr (.inl ⟨x,q1,he,hl,rfl,hw.1,hw.2,rfl,h⟩)
    ·rw [lN hw]at h;injection h with h;exact .inr (.inr ⟨.inr ⟨he,rfl,hw⟩,h.symm⟩)
 ·rw [lN he]at h;injection h with h;exact .inr (.inr ⟨.inl he,h.symm⟩)
end
theorem zD2 {t:List UInt8} {k:Nat} (h:kM t=some k):k=3∨k=4∨k=5∨k=6∨k=7∨k=8:=by
 unfold kM at h;repeat (split at h;·injection h with h;omega)
 cases h
structure GrT (E:Env) (f:Nat):Prop where
 read:∀ k,(k=0∨k=3∨k=4∨k=5∨k=6∨k=7∨k=8)→∀ q x q',qY E f k q=some (x,q')→q.s.n≤q'.s.n
 body:∀ q x q',kE E f q=some (x,q')→q.s.n≤q'.s.n
 stmts:∀ q out x q',jM E f q out=some (x,q')→q.s.n≤q'.s.n
theorem grT (E:Env):∀ f,GrT E f
 | 0=>⟨fun k _ q x q' h=>by simp [qY]at h,fun q x q' h=>by simp [kE]at h,fun q out x q' h=>by simp [jM]at h⟩
 | f+1=>by
   have ih:=grT E f;have ihs:∀ q x q',kE E f q=some (x,q')→q.s.n≤q'.s.n:=ih.body;refine⟨fun k hk q x q' h=>?_,fun q x q' h=>?_,fun q out x q' h=>?_⟩
   ·have gn:=zN1 (E:=E) q.s;rcases hk with rfl | rfl | rfl | rfl | rfl | rfl | rfl
    ·rcases vW h with⟨_,r,i,q1,r2,y,h1,h2,h3,h4,_⟩ | ⟨_,y,h4,_⟩
     ·have g1:(zL E q.s).n≤r.s.n:=zN2 h1;have g2:=yY h2;have g3:=zH3 h3;have g4:(zI E r2.s [61]).n≤q'.s.n:=yY h4;have g5:=xK (E:=E) r2.s [61];omega
     ·have g4:(zI E (zL E q.s) [61]).n≤q'.s.n:=yY h4;have g5:=xK (E:=E) (zL E q.s) [61];omega
    ·obtain⟨b,y,q1,h1,h2,_⟩:=zE4 h;have g1:=yY h1;have g2:(zI E q1.s [44]).n≤q'.s.n:=yY h2;have g3:=xK (E:=E) q1.s [44];omega
    ·obtain⟨_,rfl⟩:=zE5 h;exact lF _
    ·obtain⟨_,rfl⟩:=zE6 h;exact lF _
    ·obtain⟨y,q1,t,q2,h1,h2,h3⟩:=zE7 h;have g1:=yY h1;have g2:=ihs _ _ _ h2;rcases h3 with⟨_,e,h3,_⟩ | ⟨_,_,rfl⟩
     ·have g3:q2.s.n+1≤q'.s.n:=ihs _ _ _ h3;omega
     ·omega
    ·obtain⟨y,q1,t,h1,h2,_⟩:=zE8 h;have g1:=yY h1;have g2:(jB E (zI E q1.s (bs "bound"))).2.n≤q'.s.n:=ihs _ _ _ h2;have g3:=zP3 (E:=E) (zI E q1.s (bs "bound"));have g4:=xK (E:=E) q1.s (bs "bound");omega
    ·obtain⟨l,h1,_⟩:=zE9 h;have g1:(zL E q.s).n≤q'.s.n:=jO9 h1;omega
   ·obtain⟨q1,q2,h1,h2,h3⟩:=zI8 h;have g1:=zN2 h1;have g2:=ih.stmts _ _ _ _ h2;have g3:=zH3 h3;omega
   ·rcases zF1 h with⟨k,y,q1,_,_,hk,h1,h2⟩ | ⟨y,q1,_,_,_,_,_,h1,h2⟩ | ⟨_,h1⟩
    ·have g1:q.s.n+1≤q1.s.n:=ih.read k (.inr (zD2 hk)) _ _ _ h1;have g2:=ih.stmts _ _ _ _ h2;omega
    ·have g1:(q.at E).s.n≤q1.s.n:=ih.read 0 (.inl rfl) _ _ _ h1;have g3:(q.at E).s.n=q.s.n:=rfl;have g2:=ih.stmts _ _ _ _ h2;omega
    ·injection h1 with _ h1;subst h1;exact lF _
end
section
open Go.RowKit Go.PlainAid
section
variable {B:Nat} {p:Nat} {E:Env} {T:TV}
theorem kM6 (f:Nat) (q:QSt) (l:List Ex) (q':QSt) (hx:yC E f (q.on (zL E q.s))=some (l,q')) (w:World) (h:Ud (Pq B w p E T q)):Calls prog 153 #[uQ p 0] w (vH B w p E T (.mk 8 (jA E q.s) l 0 [] []) q'):=by
 have HX:=Ph hx;have HL:=Ph h.o.name_len;obtain⟨nm,hnm⟩:∃ nm,jA E q.s=nm:=⟨_,rfl⟩;rw [hnm]at HL ⊢;have HNM:=Ph hnm;clear hx hnm;have HR:=Ph (Bk.new w 108 uS);have HP:=Ph (PQ.below h.o (zB (o:=.cells uS 108)));have hpl:p<w.heap.size:=h.o.lt;go_enter func153,ntmps153
 go_upto_region 1 with fail
 have hW:(w.alloc (.cells uS 108)).heap.size=w.heap.size+1:=Ym;generalize (w.alloc _)=W at HR HP hW ⊢;obtain⟨r,hr⟩:∃ r,w.heap.size=r:=⟨_,rfl⟩;rw [hr]at HR hW ⊢;have hrp:p≠r:=Yo;have hwr:w.heap.size≤r:=Yo;clear hr hpl;go_wp2_with fail
 refine(jD1 q W (Ph HP.o.pq)).mono ?_;rintro e w1 ⟨rfl,hp⟩;rw [HNM.o];have HP1:=Ph (HP.o.trans hp);have HR1:=Ph (hp.bk HR.o Yd (cX hrp));have hr1:r+1≤w1.heap.size:=HR1.o.lt;clear hp HP HR hW;go_wp2_with fail
 refine(kG4 f _ l q' HX.o w1 (Ph HP1.o.pq)).mono ?_;rintro e w2 ⟨S,rfl,hl,hp⟩;have HP2:=Ph (HP1.o.trans hp);have HR2:=Ph (hp.bk HR1.o Yd (cX hrp));have HL2:Ud (RowX (fun k=>r+1≤k) w2 l S):=Ph (hl.mono itX fun k _ hk=>lE hr1 hk);clear hl hp HP1 HR1 hr1;obtain⟨y0,y1,y2,y3,y4,y5⟩:=zH HR2.o;obtain⟨f0,f1,f2,f3,f4,f5,_⟩:=zZ HR2.o;have HF:=Ph (fr6 w2 r (uB 8) (uR nm) (uL S) (uI 0) (uN) (uN));have HK:=Ph (put6 (v0:=uB 8) (v1:=uR nm) (v2:=uL S) (v3:=uI 0) (v4:=uN) (v5:=uN) HR2.o);go_wp2_with fail
 generalize (World.setCell _ _ _)=WF at HF HK ⊢;obtain⟨r0,r1,r2,r3,r4,r5⟩:=zH HK.o;refine lK (v:=stV (.mk 8 nm l 0 [] []) (S,zK,zK)) (by simp [results,results153,go_sem,r0,r1,r2,r3,r4,r5,stV,zC6,Sx.kind,Sx.name,Sx.bound,str]) rfl ?_;refine⟨(S,zK,zK),rfl,⟨⟨by show(8:Nat)≤255;decide,by show(-9223372036854775808:Int)≤0;decide,by show(0:Int)≤9223372036854775807;decide,HL.o⟩,(HL2.o.stay itX qW (Stays.fr HF.o (fun k _ hk e=>Yo))).mono itX fun k _ hk=>Yo,StsP.nil,StsP.nil⟩,?_⟩;exact HP2.o.box HR2.o Yd Yd hrp (lE h.o.b hwr) hwr HF.o
end
end
section
open Go.RowKit Go.PlainAid
def qF4 (B:Nat) (p:Nat) (E:Env) (T:TV) (f:Nat):Prop:=∀ (q:QSt) (l:List Sx) (q':QSt) (w:World),kE E f q=some (l,q')→Ud (Pq B w p E T q)→Calls prog 89 #[uQ p 0] w fun e w'=>∃ S:SV,e=.returned (.slice S.A S.n S.c)∧StsP (fun k=>w.heap.size≤k) w' l S∧PQ B w p E T q' w'
abbrev PRB (r b:Nat) (k:Nat):Prop:=r+1≤k∧k≠b
section
variable {B:Nat} {p:Nat} {E:Env} {T:TV}
structure Bx (B:Nat) (p:Nat) (E:Env) (T:TV) (w:World) (r b:Nat) (cs:Array Value) (q:QSt) (W:World):Prop where
 pq:PQ B w p E T q W
 rs:Bk W r 108 uS
 bx:Bk W b 108 cs
 rp:p≠r
 bp:p≠b
 br:b≠r
 wr:w.heap.size≤r
 wb:w.heap.size≤b
theorem Bx.then {w W W':World} {r b:Nat} {cs:Array Value} {q q':QSt} (h:Bx B p E T w r b cs q W) (k:PQ B W p E T q' W'):Bx B p E T w r b cs q' W':=⟨h.pq.trans k,k.bk h.rs Yd (cX h.rp),k.bk h.bx Yd (cX h.bp),h.rp,h.bp,h.br,h.wr,h.wb⟩
theorem Bx.lt {w W:World} {r b:Nat} {cs:Array Value} {q:QSt} (h:Bx B p E T w r b cs q W):r<W.heap.size∧b<W.heap.size:=⟨h.rs.lt,h.bx.lt⟩
theorem Bx.put {w W:World} {r b:Nat} {cs:Array Value} {q:QSt} (h:Bx B p E T w r b cs q W) (hB:B≤w.heap.size) (i:Nat) (u:Value):Bx B p E T w r b (cs.setIfInBounds i u) q (W.setCell ⟨b,i,none⟩ u)∧Fr (fun k=>k=b) W (W.setCell ⟨b,i,none⟩ u):=by have hf:Fr (fun k=>k=b) W (W.setCell ⟨b,i,none⟩ u):=(Fr.refl (fun k=>k=b) W).setCell (p:=⟨b,i,none⟩) (.inl rfl) u;exact⟨⟨h.pq.box h.bx Yd Yd h.bp (lE hB h.wb) h.wb hf,h.rs.fr hf (cX h.br),h.bx.put i u,h.rp,h.bp,h.br,h.wr,h.wb⟩,hf⟩
theorem jZ1 (f:Nat) (IH:qF4 B p E T f) (q:QSt) (s:Sx) (q':QSt) (hs:qY E (f+1) 6 q=some (s,q')) (w:World) (h:Ud (Pq B w p E T q)):Calls prog 151 #[uQ p 0] w (vH B w p E T s q'):=by
 obtain⟨x,q1,t,q2,hx,ht,hc⟩:=zE7 hs;have HX:=Ph hx;have HT:=Ph ht;have HI:=Ph IH;clear hs hx ht IH;have HR:=Ph (Bk.new w 108 uS);have HP:=Ph (PQ.below h.o (zB (o:=.cells uS 108)));have hpl:p<w.heap.size:=h.o.lt;go_enter func151,ntmps151
 go_upto_region 1 with fail
 have hW:(w.alloc (.cells uS 108)).heap.size=w.heap.size+1:=Ym;generalize (w.alloc _)=W at HR HP hW ⊢;obtain⟨r,hr⟩:∃ r,w.heap.size=r:=⟨_,rfl⟩;rw [hr]at HR hW ⊢;have hrp:p≠r:=Yo;have hwr:w.heap.size≤r:=Yo;clear hr hpl;go_wp2_with fail
 refine(zC3 f q x q1 HX.o W (Ph HP.o.pq)).mono ?_;rintro e w1 ⟨S1,rfl,ht,hp⟩;rw [xL];have hr1:r+1≤w1.heap.size:=lE (Nat.le_of_eq hW.symm) hp.fr.size;have hp1:p<w1.heap.size:=hp.pq.lt;have HRX:Ud (RowX (PRB r (w1.heap.size+1)) ((w1.alloc (.cells (uE x S1) 31)).alloc (.cells #[uB 6,uT,.slice (some ⟨w1.heap.size,0,none⟩) 1 1,uI 0,uN,uN] 108)) [x] ⟨some ⟨w1.heap.size,0,none⟩,1,1⟩):=Ph (((kQ4 (c:=1) (ht.mono (P':=PRB r (w1.heap.size+1)) fun k hk hq=>⟨Yo,Yo⟩) ⟨hr1,Yo⟩).stay itX qW (Stays.below zB)));have HBX:Ud (Bx B p E T w r (w1.heap.size+1) #[uB 6,uT,.slice (some ⟨w1.heap.size,0,none⟩) 1 1,uI 0,uN,uN] q1 ((w1.alloc (.cells (uE x S1) 31)).alloc (.cells #[uB 6,uT,.slice (some ⟨w1.heap.size,0,none⟩) 1 1,uI 0,uN,uN] 108))):=Ph ⟨((HP.o.trans hp).then zB).then zB,zD (zD (hp.bk HR.o Yd (cX hrp)) zB) zB,by have:=Bk.new (w1.alloc (.cells (uE x S1) 31)) 108 #[uB 6,uT,.slice (some ⟨w1.heap.size,0,none⟩) 1 1,uI 0,uN,uN];rwa [lO]at this,hrp,Yo,Yo,hwr,Yo⟩;clear ht hp HP HR hW hp1;go_upto_region 2 with fail
 generalize ((World.alloc _ _))=W2 at HRX HBX ⊢;have hsz:(w1.alloc (.cells (uE x S1) 31)).heap.size=w1.heap.size+1:=Ym;obtain⟨b,hb⟩:∃ b,w1.heap.size+1=b:=⟨_,rfl⟩;obtain⟨g,hg⟩:∃ g,w1.heap.size=g:=⟨_,rfl⟩;rw [hb]at HRX HBX hsz;try rw [hsz]
 try rw [hb]
 rw [hg]at HRX HBX;try rw [hg]
 clear hb hg hsz hr1 hrp hwr;go_wp2_with fail
 refine(HI.o q1 t q2 W2 HT.o (Ph HBX.o.pq.pq)).mono ?_;rintro e wz ⟨ST,rfl,hst,hp⟩;have HB:=Ph (HBX.o.then hp);have HQx:=Ph (HRX.o.stay itX qW (HBX.o.pq.pq.stays hp.fr));clear HRX;have HRX:=HQx;clear HQx;have HST:Ud (StsP (PRB r b) wz t ST):=Ph (hst.mono fun k _ hk=>by have:=HBX.o.lt;constructor <;> omega);clear hst hp HBX;obtain⟨y0,y1,y2,y3,y4,y5⟩:=zH HB.o.bx;obtain⟨f0,f1,f2,f3,f4,f5,_⟩:=zZ HB.o.bx;obtain⟨hb1,hb2⟩:=HB.o.put h.o.b 4 (uL ST);have HBn:Ud (Bx B p E T w r b #[uB 6,uT,.slice (some ⟨g,0,none⟩) 1 1,uI 0,uL ST,uN] _ (wz.setCell ⟨b,4,none⟩ (uL ST))):=Ph hb1;have HFb:=Ph hb2;clear hb1 hb2;go_upto_region 3 with fail
 have HQx:=Ph (HRX.o.stay itX qW (Stays.fr HFb.o (fun k _ hk e=>hk.2 e)));clear HRX;have HRX:=HQx;clear HQx;have HQx:=Ph (HST.o.stay (Stays.fr HFb.o (fun k _ hk e=>hk.2 e)));clear HST;have HST:=HQx;clear HQx;generalize (World.setCell _ _ _)=wy at *;clear HB HFb y0 y1 y2 y3 y4 y5 f0 f1 f2 f3 f4 f5;have HB:=HBn;clear HBn;go_wp2_with fail
 refine(isQ q2 (bs "else") wy (Ph HB.o.pq.pq)).mono ?_;rintro e wz ⟨rfl,hp⟩;have HQx:=Ph (HRX.o.stay itX qW (HB.o.pq.pq.stays hp.fr));clear HRX;have HRX:=HQx;clear HQx;have HQx:=Ph (HST.o.stay (HB.o.pq.pq.stays hp.fr));clear HST;have HST:=HQx;clear HQx;have HQx:=Ph (HB.o.then hp);clear HB hp;have HB:=HQx;clear HQx;rcases hc with⟨hi,e,he,rfl⟩ | ⟨hi,rfl,rfl⟩
 ·have hq:q2.on (isS E q2.s (bs "else"))=q2.on (zE q2.s):=by unfold isS;rw [hi];rfl
  rw [hq]at HB;rw [hi];have HE:=Ph he;clear hi he hq;go_wp2_with fail
  refine(HI.o _ e q' wz HE.o (Ph HB.o.pq.pq)).mono ?_;rintro e1 wx ⟨SL,rfl,hst,hp⟩;have HQx:=Ph (HRX.o.stay itX qW (HB.o.pq.pq.stays hp.fr));clear HRX;have HRX:=HQx;clear HQx;have HQx:=Ph (HST.o.stay (HB.o.pq.pq.stays hp.fr));clear HST;have HST:=HQx;clear HQx;have HSL:Ud (StsP (PRB r b) wx e SL):=Ph (hst.mono fun k _ hk=>by have:=HB.o.lt;constructor <;> omega);have HQx:=Ph (HB.o.then hp);clear HB hp hst;have HB:=HQx;clear HQx;obtain⟨y0,y1,y2,y3,y4,y5⟩:=zH HB.o.bx;obtain⟨f0,f1,f2,f3,f4,f5,_⟩:=zZ HB.o.bx;obtain⟨hb1,hb2⟩:=HB.o.put h.o.b 5 (uL SL);have HBn:Ud (Bx B p E T w r b #[uB 6,uT,.slice (some ⟨g,0,none⟩) 1 1,uI 0,uL ST,uL SL] _ (wx.setCell ⟨b,5,none⟩ (uL SL))):=Ph hb1;have HFb:=Ph hb2;clear hb1 hb2;go_upto_region 5 with fail
  have HQx:=Ph (HRX.o.stay itX qW (Stays.fr HFb.o (fun k _ hk e=>hk.2 e)));clear HRX;have HRX:=HQx;clear HQx;have HQx:=Ph (HST.o.stay (Stays.fr HFb.o (fun k _ hk e=>hk.2 e)));clear HST;have HST:=HQx;clear HQx;have HQx:=Ph (HSL.o.stay (Stays.fr HFb.o (fun k _ hk e=>hk.2 e)));clear HSL;have HSL:=HQx;clear HQx;generalize (World.setCell _ _ _)=wy at *;clear HB HFb y0 y1 y2 y3 y4 y5 f0 f1 f2 f3 f4 f5;have HB:=HBn;clear HBn;obtain⟨x0,x1,x2,x3,x4,x5⟩:=zH HB.o.bx;have HRz:=Ph HB.o.rs;have hrp:=HB.o.rp;have hwr:=HB.o.wr;have HPz:=Ph HB.o.pq;obtain⟨y0,y1,y2,y3,y4,y5⟩:=zH HRz.o;obtain⟨f0,f1,f2,f3,f4,f5,_⟩:=zZ HRz.o;have HF:=Ph (fr6 wy r (uB 6) (uT) (.slice (some ⟨g,0,none⟩) 1 1) (uI 0) (uL ST) (uL SL));have HK:=Ph (put6 (v0:=uB 6) (v1:=uT) (v2:=.slice (some ⟨g,0,none⟩) 1 1) (v3:=uI 0) (v4:=uL ST) (v5:=uL SL) HRz.o);go_wp2_with fail
  generalize (World.setCell _ _ _)=WF at HF HK ⊢;obtain⟨r0,r1,r2,r3,r4,r5⟩:=zH HK.o;refine lK (v:=stV (.mk 6 [] [x] 0 t e) (⟨some ⟨g,0,none⟩,1,1⟩,ST,SL)) (by simp [results,results151,go_sem,r0,r1,r2,r3,r4,r5,stV,zC6,Sx.kind,Sx.name,Sx.bound,str]) rfl ?_;refine⟨(⟨some ⟨g,0,none⟩,1,1⟩,ST,SL),rfl,⟨⟨by show(6:Nat)≤255;decide,by show(-9223372036854775808:Int)≤0;decide,by show(0:Int)≤9223372036854775807;decide,lV _⟩,(HRX.o.stay itX qW (Stays.fr HF.o (fun k _ hk e=>by have:=hk.1;omega))).mono itX fun k _ hk=>by have:=hk.1;omega,(HST.o.stay (Stays.fr HF.o (fun k _ hk e=>by have:=hk.1;omega))).mono fun k _ hk=>by have:=hk.1;omega,(HSL.o.stay (Stays.fr HF.o (fun k _ hk e=>by have:=hk.1;omega))).mono fun k _ hk=>by have:=hk.1;omega⟩,?_⟩;exact HPz.o.box HRz.o Yd Yd hrp (lE h.o.b hwr) hwr HF.o
 ·have hq:q'.on (isS E q'.s (bs "else"))=q':=by unfold isS;rw [hi];rfl
  rw [hq]at HB;rw [hi];clear hi hq;obtain⟨x0,x1,x2,x3,x4,x5⟩:=zH HB.o.bx;have HRz:=Ph HB.o.rs;have hrp:=HB.o.rp;have hwr:=HB.o.wr;have HPz:=Ph HB.o.pq;obtain⟨y0,y1,y2,y3,y4,y5⟩:=zH HRz.o;obtain⟨f0,f1,f2,f3,f4,f5,_⟩:=zZ HRz.o;have HF:=Ph (fr6 wz r (uB 6) (uT) (.slice (some ⟨g,0,none⟩) 1 1) (uI 0) (uL ST) (uN));have HK:=Ph (put6 (v0:=uB 6) (v1:=uT) (v2:=.slice (some ⟨g,0,none⟩) 1 1) (v3:=uI 0) (v4:=uL ST) (v5:=uN) HRz.o);go_wp2_with fail
  generalize (World.setCell _ _ _)=WF at HF HK ⊢;obtain⟨r0,r1,r2,r3,r4,r5⟩:=zH HK.o;refine lK (v:=stV (.mk 6 [] [x] 0 t []) (⟨some ⟨g,0,none⟩,1,1⟩,ST,zK)) (by simp [results,results151,go_sem,r0,r1,r2,r3,r4,r5,stV,zC6,Sx.kind,Sx.name,Sx.bound,str]) rfl ?_;refine⟨(⟨some ⟨g,0,none⟩,1,1⟩,ST,zK),rfl,⟨⟨by show(6:Nat)≤255;decide,by show(-9223372036854775808:Int)≤0;decide,by show(0:Int)≤9223372036854775807;decide,lV _⟩,(HRX.o.stay itX qW (Stays.fr HF.o (fun k _ hk e=>by have:=hk.1;omega))).mono itX fun k _ hk=>by have:=hk.1;omega,(HST.o.stay (Stays.fr HF.o (fun k _ hk e=>by have:=hk.1;omega))).mono fun k _ hk=>by have:=hk.1;omega,StsP.nil⟩,?_⟩;exact HPz.o.box HRz.o Yd Yd hrp (lE h.o.b hwr) hwr HF.o
theorem kM7 (f:Nat) (IH:qF4 B p E T f) (q:QSt) (s:Sx) (q':QSt) (hs:qY E (f+1) 7 q=some (s,q')) (w:World) (h:Ud (Pq B w p E T q)):Calls prog 152 #[uQ p 0] w (vH B w p E T s q'):=by
 obtain⟨x,q1,t,hx,ht,rfl⟩:=zE8 hs;have hle:=zG7 E (zI E q1.s (bs "bound"));obtain⟨⟨nb,sn⟩,hn⟩:∃ n,jB E (zI E q1.s (bs "bound"))=n:=⟨_,rfl⟩;rw [hn]at hle ht ⊢;(try dsimp only at hle ht ⊢);have HN:=Ph hn;have HX:=Ph hx;have HT:=Ph ht;have HI:=Ph IH;have HLE:=Ph hle;clear hs hx ht IH hn hle;have HR:=Ph (Bk.new w 108 uS);have HP:=Ph (PQ.below h.o (zB (o:=.cells uS 108)));have hpl:p<w.heap.size:=h.o.lt;go_enter func152,ntmps152
 go_upto_region 1 with fail
 have hW:(w.alloc (.cells uS 108)).heap.size=w.heap.size+1:=Ym;generalize (w.alloc _)=W at HR HP hW ⊢;obtain⟨r,hr⟩:∃ r,w.heap.size=r:=⟨_,rfl⟩;rw [hr]at HR hW ⊢;have hrp:p≠r:=Yo;have hwr:w.heap.size≤r:=Yo;clear hr hpl;go_wp2_with fail
 refine(zC3 f q x q1 HX.o W (Ph HP.o.pq)).mono ?_;rintro e w1 ⟨S1,rfl,ht,hp⟩;rw [xL];have hr1:r+1≤w1.heap.size:=lE (Nat.le_of_eq hW.symm) hp.fr.size;have hp1:p<w1.heap.size:=hp.pq.lt;have HRX:Ud (RowX (PRB r (w1.heap.size+1)) ((w1.alloc (.cells (uE x S1) 31)).alloc (.cells #[uB 7,uT,.slice (some ⟨w1.heap.size,0,none⟩) 1 1,uI 0,uN,uN] 108)) [x] ⟨some ⟨w1.heap.size,0,none⟩,1,1⟩):=Ph (((kQ4 (c:=1) (ht.mono (P':=PRB r (w1.heap.size+1)) fun k hk hq=>⟨Yo,Yo⟩) ⟨hr1,Yo⟩).stay itX qW (Stays.below zB)));have HBX:Ud (Bx B p E T w r (w1.heap.size+1) #[uB 7,uT,.slice (some ⟨w1.heap.size,0,none⟩) 1 1,uI 0,uN,uN] q1 ((w1.alloc (.cells (uE x S1) 31)).alloc (.cells #[uB 7,uT,.slice (some ⟨w1.heap.size,0,none⟩) 1 1,uI 0,uN,uN] 108))):=Ph ⟨((HP.o.trans hp).then zB).then zB,zD (zD (hp.bk HR.o Yd (cX hrp)) zB) zB,by have:=Bk.new (w1.alloc (.cells (uE x S1) 31)) 108 #[uB 7,uT,.slice (some ⟨w1.heap.size,0,none⟩) 1 1,uI 0,uN,uN];rwa [lO]at this,hrp,Yo,Yo,hwr,Yo⟩;clear ht hp HP HR hW hp1;go_upto_region 2 with fail
 generalize ((World.alloc _ _))=W2 at HRX HBX ⊢;have hsz:(w1.alloc (.cells (uE x S1) 31)).heap.size=w1.heap.size+1:=Ym;obtain⟨b,hb⟩:∃ b,w1.heap.size+1=b:=⟨_,rfl⟩;obtain⟨g,hg⟩:∃ g,w1.heap.size=g:=⟨_,rfl⟩;rw [hb]at HRX HBX hsz;try rw [hsz]
 try rw [hb]
 rw [hg]at HRX HBX;try rw [hg]
 clear hb hg hsz hr1 hrp hwr;go_wp2_with fail
 refine(zM9 q1 (bs "bound") W2 (Ph HBX.o.pq.pq)).mono ?_;rintro e wv ⟨⟨v1,rfl⟩,hp⟩;have HB:=Ph (HBX.o.then hp);have HQx:=Ph (HRX.o.stay itX qW (HBX.o.pq.pq.stays hp.fr));clear HRX;have HRX:=HQx;clear HQx;clear HBX hp;go_wp2_with fail
 refine(jT8 _ wv (Ph HB.o.pq.pq)).mono ?_;rintro e wz ⟨rfl,hp⟩;have HQx:=Ph (HRX.o.stay itX qW (HB.o.pq.pq.stays hp.fr));clear HRX;have HRX:=HQx;clear HQx;have HQx:=Ph (HB.o.then hp);clear HB hp;have HB:=HQx;clear HQx;rw [show(q1.on (zI E q1.s (bs "bound"))).s=zI E q1.s (bs "bound") from rfl,HN.o]at HB ⊢;(try dsimp only at HB ⊢);obtain⟨y0,y1,y2,y3,y4,y5⟩:=zH HB.o.bx;obtain⟨f0,f1,f2,f3,f4,f5,_⟩:=zZ HB.o.bx;obtain⟨hb1,hb2⟩:=HB.o.put h.o.b 3 (uI nb);have HBn:Ud (Bx B p E T w r b #[uB 7,uT,.slice (some ⟨g,0,none⟩) 1 1,uI nb,uN,uN] _ (wz.setCell ⟨b,3,none⟩ (uI nb))):=Ph hb1;have HFb:=Ph hb2;clear hb1 hb2;go_upto_region 4 with fail
 have HQx:=Ph (HRX.o.stay itX qW (Stays.fr HFb.o (fun k _ hk e=>hk.2 e)));clear HRX;have HRX:=HQx;clear HQx;generalize (World.setCell _ _ _)=wy at *;clear HB HFb y0 y1 y2 y3 y4 y5 f0 f1 f2 f3 f4 f5;have HB:=HBn;clear HBn;go_wp2_with fail
 refine(HI.o _ t q' wy HT.o (Ph HB.o.pq.pq)).mono ?_;rintro e1 wz ⟨ST,rfl,hst,hp⟩;have HQx:=Ph (HRX.o.stay itX qW (HB.o.pq.pq.stays hp.fr));clear HRX;have HRX:=HQx;clear HQx;have HST:Ud (StsP (PRB r b) wz t ST):=Ph (hst.mono fun k _ hk=>by have:=HB.o.lt;constructor <;> omega);have HQx:=Ph (HB.o.then hp);clear HB hp hst;have HB:=HQx;clear HQx;obtain⟨y0,y1,y2,y3,y4,y5⟩:=zH HB.o.bx;obtain⟨f0,f1,f2,f3,f4,f5,_⟩:=zZ HB.o.bx;obtain⟨hb1,hb2⟩:=HB.o.put h.o.b 4 (uL ST);have HBn:Ud (Bx B p E T w r b #[uB 7,uT,.slice (some ⟨g,0,none⟩) 1 1,uI nb,uL ST,uN] _ (wz.setCell ⟨b,4,none⟩ (uL ST))):=Ph hb1;have HFb:=Ph hb2;clear hb1 hb2;go_upto_region 5 with fail
 have HQx:=Ph (HRX.o.stay itX qW (Stays.fr HFb.o (fun k _ hk e=>hk.2 e)));clear HRX;have HRX:=HQx;clear HQx;have HQx:=Ph (HST.o.stay (Stays.fr HFb.o (fun k _ hk e=>hk.2 e)));clear HST;have HST:=HQx;clear HQx;generalize (World.setCell _ _ _)=wu at *;clear HB HFb y0 y1 y2 y3 y4 y5 f0 f1 f2 f3 f4 f5;have HB:=HBn;clear HBn;obtain⟨x0,x1,x2,x3,x4,x5⟩:=zH HB.o.bx;have HRz:=Ph HB.o.rs;have hrp:=HB.o.rp;have hwr:=HB.o.wr;have HPz:=Ph HB.o.pq;obtain⟨y0,y1,y2,y3,y4,y5⟩:=zH HRz.o;obtain⟨f0,f1,f2,f3,f4,f5,_⟩:=zZ HRz.o;have HF:=Ph (fr6 wu r (uB 7) (uT) (.slice (some ⟨g,0,none⟩) 1 1) (uI nb) (uL ST) (uN));have HK:=Ph (put6 (v0:=uB 7) (v1:=uT) (v2:=.slice (some ⟨g,0,none⟩) 1 1) (v3:=uI nb) (v4:=uL ST) (v5:=uN) HRz.o);go_wp2_with fail
 generalize (World.setCell _ _ _)=WF at HF HK ⊢;obtain⟨r0,r1,r2,r3,r4,r5⟩:=zH HK.o;refine lK (v:=stV (.mk 7 [] [x] nb t []) (⟨some ⟨g,0,none⟩,1,1⟩,ST,zK)) (by simp [results,results152,go_sem,r0,r1,r2,r3,r4,r5,stV,zC6,Sx.kind,Sx.name,Sx.bound,str]) rfl ?_;refine⟨(⟨some ⟨g,0,none⟩,1,1⟩,ST,zK),rfl,⟨⟨by show(7:Nat)≤255;decide,by show(-9223372036854775808:Int)≤(nb:Int);omega,by show(nb:Int)≤9223372036854775807;have:=HLE.o;omega,lV _⟩,(HRX.o.stay itX qW (Stays.fr HF.o (fun k _ hk e=>by have:=hk.1;omega))).mono itX fun k _ hk=>by have:=hk.1;omega,(HST.o.stay (Stays.fr HF.o (fun k _ hk e=>by have:=hk.1;omega))).mono fun k _ hk=>by have:=hk.1;omega,StsP.nil⟩,?_⟩;exact HPz.o.box HRz.o Yd Yd hrp (lE h.o.b hwr) hwr HF.o
end
end
end Go.Proofs.YtfdaebgllibphaaGreatDoor
