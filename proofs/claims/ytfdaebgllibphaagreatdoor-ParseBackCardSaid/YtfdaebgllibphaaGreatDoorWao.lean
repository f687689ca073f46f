import Derived.Deep.CutBlock
import Derived.Deep.MidRow
import Derived.Test.YtfdaebgllibphaaGreatDoorWal
import Derived.Test.YtfdaebgllibphaaGreatDoorWan
set_option linter.unusedVariables false
set_option linter.unusedSimpArgs false
set_option maxRecDepth 100000
set_option maxHeartbeats 16000000
namespace Go.Proofs.YtfdaebgllibphaaGreatDoor
open Go.Proofs.Tryz
section
open Go.RowKit Go.PlainAid
structure MD where
 L:SV
 Lb:List UInt8
 W:Nat
 I:SV
 Il:List Dx
 G:SV
 Gl:List Dx
 V:SV
 Vl:List Dx
 np:Nat
 par:Bool
 cs:Nat→Option Value
structure DOk (d:Dx):Prop where
 n:NameOk d.name
 l:d.name.length=1
 w1:1≤d.width
 w3:d.width≤3
structure DRow (w:World) (S:SV) (l:List Dx):Prop where
 rd:RdT w S.A 87 (l.flatMap fun d=>yX d ())
 n:S.n=l.length
 few:l.length≤2
 ok:∀ d∈l,DOk d
structure MkB (w:World) (m:Nat) (D:MD) (cs:Array Value) (a:Nat):Prop where
 bk:Bk w m 84 cs
 sz:cs.size=25
 l:cs[0]?=some (.slice D.L.A D.L.n D.L.c)
 at':cs[1]?=some (uI a)
 le:a≤D.L.n
 wd:cs[3]?=some (uI D.W)
 i:cs[4]?=some (.slice D.I.A D.I.n D.I.c)
 g:cs[5]?=some (.slice D.G.A D.G.n D.G.c)
 v:cs[6]?=some (.slice D.V.A D.V.n D.V.c)
 pr:∃ A c,cs[15]?=some (.slice A D.np c)
 par:cs[24]?=some (.bool D.par)
 oth:∀ i,i≠1→cs[i]?=D.cs i
structure Mk (w:World) (m:Nat) (D:MD):Prop where
 ex:∃ cs a,MkB w m D cs a
 rd:Rd w D.L.A (D.Lb.map fun b=>uB b.toNat)
 lA:D.Lb≠[]→∀ b off,D.L.A=some ⟨b,off,none⟩→b<m
 ln:D.L.n=D.Lb.length
 few:D.L.n≤200
 w3:D.W≤3
 is:DRow w D.I D.Il
 gs:DRow w D.G D.Gl
 vs:DRow w D.V D.Vl
 np1:D.np≤1
structure MQ (w:World) (m:Nat) (D:MD) (w':World):Prop where
 k:Mk w' m D
 fr:Fr (fun k=>k=m) w w'
section
variable {w w1 w':World} {m:Nat} {D:MD} {F:Nat→Prop}
theorem DRow.keeps {S:SV} {l:List Dx} (h:DRow w S l) (hk:Keeps 87 w w'):DRow w' S l:=⟨h.rd.keeps hk,h.n,h.few,h.ok⟩
theorem Mk.lt (h:Mk w m D):m<w.heap.size:=by obtain⟨cs,a,hb⟩:=h.ex;exact hb.bk.lt
theorem MkB.fr {cs:Array Value} {a:Nat} (h:MkB w m D cs a) (hf:Fr F w w') (hm:¬F m):MkB w' m D cs a:={ h with bk:=h.bk.fr hf hm }
theorem Mk.of (h0:Mk w m D) (hf:Fr (fun k=>k=m) w w') (hx:∃ cs a,MkB w' m D cs a):Mk w' m D:=by
 obtain⟨cs0,a0,hb0⟩:=h0.ex;have hk:Keeps 87 w w':=Keeps.fr hf fun b cs fr hb e=>by subst e;have h1:=hb0.bk;unfold Bk at h1;rw [h1]at hb;injection hb with hb;injection hb with _ hb;revert hb;decide
 exact⟨hx,fun hx=>h0.rd.fr hf (fun b _ ⟨off,e⟩ e2=>by have:=h0.lA (by simpa using hx) b off e;omega) hx,h0.lA,h0.ln,h0.few,h0.w3,h0.is.keeps hk,h0.gs.keeps hk,h0.vs.keeps hk,h0.np1⟩
theorem MQ.refl (h:Mk w m D):MQ w m D w:=⟨h,Fr.refl _ _⟩
theorem MQ.trans (h:MQ w m D w1) (k:MQ w1 m D w'):MQ w m D w':=⟨k.k,h.fr.trans k.fr⟩
theorem MQ.data (h0:Mk w m D) (h:MQ w m D w1) (hf:Fr F w1 w') (hF:∀ k,k<w1.heap.size→F k→w.heap.size≤k):MQ w m D w':=by
 have hfr:Fr (fun k=>k=m) w w':=Fr.then h.fr hf fun i hi e=>by have:=hF i (lX hi h.fr.size) e;omega
 obtain⟨cs,a,hb⟩:=h.k.ex;exact⟨h0.of hfr ⟨cs,a,hb.fr hf fun e=>by have:=hF m hb.bk.lt e;have:=h0.lt;omega⟩,hfr⟩
theorem MQ.then (h0:Mk w m D) (h:MQ w m D w1) (hb:Below w1.heap.size w1 w'):MQ w m D w':=h.data h0 (Fr.of_below (F:=fun _=>False) hb) (fun _ _ e=>e.elim)
theorem Mk.below (h:Mk w m D) (hb:Below w.heap.size w w'):Mk w' m D:=((MQ.refl h).then h hb).k
theorem MQ.box (h0:Mk w m D) (h:MQ w m D w1) {r:Nat} (hf:Fr (fun k=>k=r) w1 w') (hr:w.heap.size≤r):MQ w m D w':=h.data h0 hf (fun k _ e=>Yo)
theorem MQ.staysP {P:Nat→Prop} (h:MQ w m D w') (h0:Mk w m D):Stays P w w':=by obtain⟨cs,a,hb⟩:=h0.ex;exact Stays.box h.fr hb.bk (by unfold TTy;decide)
theorem MQ.bk (h:MQ w m D w') (h0:Mk w m D) {r:Nat} {t:TypeId} {cs:Array Value} (hb:Bk w r t cs) (hr:r≠m):Bk w' r t cs:=hb.fr h.fr hr
end
theorem jG4 (w:World) (n:Nat):Below w.heap.size w (w.drewN n):=(Fr.refl (fun _=>False) w).drewN n |>.below w.heap.size (lF _) (fun _ _ h=>h)
theorem zB4 {cs:Array Value} {i:Nat} {u v:Value} (h:cs[i]?=some v) (hi:i≠1):(cs.setIfInBounds 1 u)[i]?=some v:=by rw [cP];rw [lN (cX hi)];exact h
theorem MkB.step {w:World} {m:Nat} {D:MD} {cs:Array Value} {a:Nat} (h:MkB w m D cs a) (ha:a<D.L.n):MkB (w.setCell ⟨m,1,none⟩ (uI ((a:Int)+1))) m D (cs.setIfInBounds 1 (uI ((a:Int)+1))) (a+1) :=
 ⟨h.bk.put 1 _,by rw [Array.size_setIfInBounds];exact h.sz,zB4 h.l Yd,by rw [cP,lM rfl,lM (by rw [h.sz];decide)];simp,ha,zB4 h.wd Yd,zB4 h.i Yd,zB4 h.g Yd,zB4 h.v Yd,by obtain⟨A,c,hp⟩:=h.pr;exact⟨A,c,zB4 hp Yd⟩,zB4 h.par Yd,fun i hi=>by rw [cP,lN (cX hi)];exact h.oth i hi⟩
theorem vR (m:Nat) (D:MD) (n:Nat) (hn:1≤n) (hn9:n≤1000) (w:World) (h:Ud (Mk w m D)):Calls prog 36 #[uQ m 0,uI n] w fun e w'=>∃ v:Nat,v<n∧e=.returned (uI v)∧MQ w m D w':=by
 obtain⟨cs,a,hb⟩:=h.o.ex;have c0:w.cell? ⟨m,0,none⟩=some (.slice D.L.A D.L.n D.L.c):=(hb.bk.cell 0).trans hb.l;have c1:w.cell? ⟨m,1,none⟩=some (uI a):=(hb.bk.cell 1).trans hb.at';have f1:w.frozen? ⟨m,1,none⟩=false:=hb.bk.frozen 1;have hfew:=h.o.few;have hle:=hb.le;by_cases ha:a<D.L.n
 ·have hln:=h.o.ln;have hlt:a<D.Lb.length:=Yo;obtain⟨g,off,x,hA,hx,hc⟩:=Rd.getm (k:=a) h.o.rd rfl hlt;have hbA:=h.o.lA (fun e0=>by rw [e0]at hlt;exact Nat.not_lt_zero _ hlt) _ _ hA;have hxn:x.toNat<256:=x.toNat_lt;have hmod:x.toNat % n<n:=Nat.mod_lt _ hn;have HST:Ud (∀ W,Ue w W→W.cell? ⟨m,1,none⟩=some (uI a)∧W.frozen? ⟨m,1,none⟩=false∧MQ w m D (W.setCell ⟨m,1,none⟩ (uI ((a:Int)+1)))∧(W.setCell ⟨m,1,none⟩ (uI ((a:Int)+1))).cell? ⟨m,0,none⟩=some (.slice (some ⟨g,off,none⟩) D.L.n D.L.c)∧(W.setCell ⟨m,1,none⟩ (uI ((a:Int)+1))).cell? ⟨m,1,none⟩=some (uI ((a:Int)+1))∧(W.setCell ⟨m,1,none⟩ (uI ((a:Int)+1))).cell? ⟨g,off+a,none⟩=some (uB x.toNat)):=Ph fun W hW=>by
   have hbW:MkB W m D cs a:=hb.fr (F:=fun _=>False) (Fr.of_below hW) (fun e=>e);have hst:=hbW.step ha;have hf:Fr (fun k=>k=m) W (W.setCell ⟨m,1,none⟩ (uI ((a:Int)+1))):=(Fr.refl (fun k=>k=m) W).setCell (p:=⟨m,1,none⟩) (.inl rfl) _;have hf2:Fr (fun k=>k=m) w (W.setCell ⟨m,1,none⟩ (uI ((a:Int)+1))):=(Fr.of_below hW).trans hf;refine⟨(hbW.bk.cell 1).trans hbW.at',hbW.bk.frozen 1,⟨h.o.of hf2 ⟨_,_,hst⟩,hf2⟩,?_,?_,?_⟩
   ·rw [←hA];exact(hst.bk.cell 0).trans hst.l
   ·rw [(hst.bk.cell 1).trans hst.at'];rw [show(((a+1:Nat):Int))=(a:Int)+1 from by omega]
   ·rw [hf2.cell (by exact World.block_lt_of_cell? w _ hc) (by show ¬g=m;omega)];exact hc
  rw [hA]at c0;have HH:=h;have e1:decide ((D.L.n:Int)≤(a:Int))=false:=Yp;have w1:IntKind.i64.wrap ((a:Int)+1)=(a:Int)+1:=by rw [lL];omega
  have w2:IntKind.i64.wrap ((a:Int)+1-1)=(a:Int):=by rw [lL];omega
  have hn0:((n:Int) == 0)=false:=Yp;have hrem:(x.toNat:Int).tmod (n:Int)=((x.toNat % n:Nat):Int):=by rw [Int.ofNat_tmod]
  have haI:(a:Int)<(D.L.n:Int):=Yo;have ha0:(0:Int)≤(a:Int):=Yo;clear hle hb h;go_enter func36,ntmps36
  go_upto_region 1 with fail
  go_quiet (fail)
  obtain⟨d1,f1',hmq,s0,s1,sx⟩:=HST.o (w.drewN nq) (jG4 _ nq);clear c0 c1 f1;have HMQ:=Ph hmq;clear hmq;go_upto_region 4 with fail
  generalize (World.setCell _ _ _)=W at *;clear d1 f1';go_quiet (fail)
  go_wp2_with fail
  go_ret;exact⟨x.toNat % n,hmod,rfl,HMQ.o.then HH.o (jG4 _ _)⟩
 ·have e1:decide ((D.L.n:Int)≤(a:Int))=true:=by simp;omega
  clear hb;go_enter func36,ntmps36
  go_upto_region 1 with fail
  go_quiet (fail)
  go_wp2_with fail
  go_ret;exact⟨0,hn,rfl,(MQ.refl h.o).then h.o (jG4 _ nq)⟩
end
section
open Go.RowKit Go.PlainAid
inductive ShX:Ex→Prop
 | num (v w:Nat):v≤9→w≤9→ShX (.mk 1 0 v w [] [])
 | var (n:List UInt8):NameOk n→n.length=1→ShX (.mk 2 0 0 0 n [])
 | elem (n:List UInt8) (y:Ex):NameOk n→n.length=1→ShX y→ShX (.mk 3 0 0 0 n [y])
 | disk (y:Ex):ShX y→ShX (.mk 4 0 0 0 [] [y])
 | un (o:Nat) (y:Ex):1≤o→o≤2→ShX y→ShX (.mk 5 o 0 0 [] [y])
 | bin (o:Nat) (x y:Ex):3≤o→o≤16→ShX x→ShX y→ShX (.mk 6 o 0 0 [] [x,y])
 | mux (x y z:Ex):ShX x→ShX y→ShX z→ShX (.mk 7 0 0 0 [] [x,y,z])
 | cast (w:Nat) (y:Ex):w≤9→ShX y→ShX (.mk 8 0 0 w [] [y])
theorem ShX.good {x:Ex} (h:ShX x):kP x:=by
 induction h with
 | num v w hv hw=>exact .num v w Yo Yo
 | var n hn hl=>exact .var n hn
 | elem n y hn hl hy ih=>exact .elem n y hn ih
 | disk y hy ih=>exact .disk y ih
 | un o y h1 h2 hy ih=>exact .un o y h1 h2 ih
 | bin o x y h1 h2 hx hy ih1 ih2=>exact .bin o x y h1 h2 ih1 ih2
 | mux x y z hx hy hz i1 i2 i3=>exact .mux x y z i1 i2 i3
 | cast w y hw hy ih=>exact .cast w y Yo ih
structure MdX (s h:Nat) (x:Ex):Prop where
 sh:ShX x
 sz:szX x≤s
 ht:htX x≤h
def OwnN (B:Nat) (w:World) (S:SV) (l:List Dx):Prop:=w.ownsRow B 87 3 (.slice S.A S.n S.c) S.n (l.flatMap fun d=>yX d ())∧S.n=l.length∧∀ d∈l,DOk d
theorem zJ9 (l:List Dx):(l.flatMap fun d=>yX d ()).length=l.length*3:=by
 induction l with
 | nil=>rfl
 | cons d l ih=>rw [lQ,Ya,ih];simp [yX];omega
theorem zK1 (l:List Dx):∀ u∈l.flatMap fun d=>yX d (),u.oneCell'=true:=by intro u hu;obtain⟨d,_,hd⟩:=List.mem_flatMap.1 hu;exact zI9 d () u hd
theorem OwnN.app {B:Nat} {w:World} {S:SV} {l:List Dx} (h:OwnN B w S l) (hB:B≤w.heap.size) (l2:List Dx) (A:Option Addr) (n c:Nat) (hr:Rd w A (l2.flatMap fun d=>yX d ())) (hn:n=l2.length) (ok:∀ d∈l2,DOk d) (few:S.n+n≤1000000000) :
 ∃ A' c' w',(∀ ty,(Builtin.append_ #[25,25] ty #[.slice S.A S.n S.c,.slice A n c]).run prog w=.ok (.slice A' (S.n+n) c') w')∧OwnN B w' ⟨A',S.n+n,c'⟩ (l++l2)∧Fr (fun k=>(Value.slice S.A S.n S.c).ownBlock=some k) w w':=by
 obtain⟨A',c',w',hrun,ho,hg,hat⟩:=zG6 jD5 0 B _ S.n _ h.1 A n c _ hr (by rw [zJ9,hn]) (zK1 l2) few hB;refine⟨A',c',w',fun ty=>hrun,⟨?_,by rw [Ya,←h.2.1,hn],fun d hd=>?_⟩,(Fr.refl _ _).grown hg (fun k hk=>.inl hk)⟩
 ·rw [List.flatMap_append];exact ho
 ·rcases List.mem_append.1 hd with hd | hd
  ·exact h.2.2 d hd
  ·exact ok d hd
theorem OwnN.typed {B:Nat} {w:World} {S:SV} {l:List Dx} (h:OwnN B w S l) {k:Nat} (hk:(Value.slice S.A S.n S.c).ownBlock=some k):B≤k∧∃ cs,Bk w k 87 cs:=qF h.1 k hk
theorem OwnN.fr {B:Nat} {w w':World} {S:SV} {l:List Dx} {F:Nat→Prop} (h:OwnN B w S l) (hf:Fr F w w') (hF:∀ k cs,Bk w k 87 cs→B≤k→¬F k):OwnN B w' S l:=⟨jP h.1 hf (fun k hk=>by obtain⟨h1,cs,h2⟩:=h.typed hk;exact hF k cs h2 h1),h.2⟩
def OwnM (B:Nat) (w:World) (S:SV) (l:List (List UInt8)):Prop:=w.ownsRow B 9 1 (.slice S.A S.n S.c) S.n (l.map fun s=>uR s)∧S.n=l.length∧∀ s∈l,NameOk s∧s.length=1
theorem kI5:El prog 68 9 1:=El.mk' (z:=uT) (bytes:=16) underlying68 Yk rfl Yo Yo
theorem OwnM.typed {B:Nat} {w:World} {S:SV} {l:List (List UInt8)} (h:OwnM B w S l) {k:Nat} (hk:(Value.slice S.A S.n S.c).ownBlock=some k):B≤k∧∃ cs,Bk w k 9 cs:=qF h.1 k hk
theorem OwnM.fr {B:Nat} {w w':World} {S:SV} {l:List (List UInt8)} {F:Nat→Prop} (h:OwnM B w S l) (hf:Fr F w w') (hF:∀ k cs,Bk w k 9 cs→B≤k→¬F k):OwnM B w' S l:=⟨jP h.1 hf (fun k hk=>by obtain⟨h1,cs,h2⟩:=h.typed hk;exact hF k cs h2 h1),h.2⟩
theorem OwnM.push {B:Nat} {w:World} {S:SV} {l:List (List UInt8)} (h:OwnM B w S l) (hB:B≤w.heap.size) (s:List UInt8) (A:Option Addr) (c:Nat) (hr:Rd w A [uR s]) (ok:NameOk s∧s.length=1) (few:S.n<1000000000) :
 ∃ A' c' w',(∀ ty,(Builtin.append_ #[68,68] ty #[.slice S.A S.n S.c,.slice A 1 c]).run prog w=.ok (.slice A' (S.n+1) c') w')∧OwnM B w' ⟨A',S.n+1,c'⟩ (l++[s])∧Fr (fun k=>(Value.slice S.A S.n S.c).ownBlock=some k) w w':=by
 obtain⟨A',c',w',hrun,ho,hg,hat⟩:=zG6 kI5 0 B _ S.n _ h.1 A 1 c [uR s] hr rfl (by simp [Value.oneCell']) Yo hB;refine⟨A',c',w',fun ty=>hrun,⟨?_,by rw [Ya,←h.2.1];rfl,fun d hd=>?_⟩,(Fr.refl _ _).grown hg (fun k hk=>.inl hk)⟩
 ·rw [cB];exact ho
 ·rcases List.mem_append.1 hd with hd | hd
  ·exact h.2.2 d hd
  ·simp at hd;subst hd;exact ok
theorem qX3 (A:Option Addr) (n c:Nat) (xs:List Value) (w:World) (hr:Ud (Rd w A xs)) (hl:Ud (xs.length=n*3)) (h1:Ud (∀ u∈xs,u.oneCell'=true)) (hn:n≤1000000000) :
 Calls prog 107 #[.slice A n c] w fun e w'=>∃ A' c',e=.returned (.slice A' n c')∧w'.ownsRow w.heap.size 87 3 (.slice A' n c') n xs∧Below w.heap.size w w':=by
 have hen:=fun w a n c=>Lib.run_eql_slice_nil (P:=prog) w 25 87 a n c 0 0 underlying25;rcases A with _ | ad
 ·have hx:xs=[]:=by
   cases xs with
   | nil=>rfl
   | cons x r=>obtain⟨_,_,h,_⟩:=hr.o.cells Ym;cases h
  subst hx;have h0:n=0:=by have:=hl.o;simp at this;omega
  subst h0;clear hl hr;go_enter func107,ntmps107
  go_wp2
  go_ret;exact⟨none,0,rfl,World.ownsRow_nil _ _ _ _,lB _ _⟩
 ·go_enter func107,ntmps107
  go_wp2_with (at_builtin;refine zL9 jD5 rfl (.tmp 5) (.tmp 6) rfl w.heap.size (.slice (some ⟨w.heap.size,0,none⟩) 0 0) 0 [] rfl (World.ownsRow_lit w #[] 0 (lF _) (by simp [maxLen]) rfl) (some ad) n c xs rfl (hr.o.alloc _) (by rw [hl.o]) h1.o Yo Ym ?_;intro A' c' w1 hown1 hgr1 hat1;have Ho:=Ph hown1;have Hg:=Ph hgr1;clear hown1 hgr1 hat1)
  go_ret;refine⟨A',c',Ym,by simpa using Ho.o,?_⟩;exact((lB _ w).alloc (lF _) _).grown Hg.o Ym (by simp [Value.ownBlock])
end
section
open Go.RowKit Go.PlainAid
def zB5 (n:Nat):Code→Option Code
 | .block m b=>if m=n then some (.block m b) else zB5 n b
 | .seq a b=>match zB5 n a with
   | some c=>some c
   | none=>zB5 n b
 | .cond _ a b=>match zB5 n a with
   | some c=>some c
   | none=>zB5 n b
 | .loop b=>zB5 n b
 | .scope b=>zB5 n b
 | _=>none
section
variable {B:Nat} {p:Nat} {E:Env} {T:TV}
theorem kI6 (f:Nat) (w W:World) (r b t:Nat) (c0 c1 c2 c3 c4 c5 c6 c7 c8 c9 c10 c11 c12 c13 c14 c15 c16 c17 c18 c19 c20 c21:Value) (kx ax fx lim:Nat) (PW P1:Nat→Prop) (K5:(Nat→Prop)→World→Prop) (qe qf:QSt) (ins:List Ix) (HG:Ud (GS B p E T w r b t #[c0,c1,c2,c3,c4,c5,c6,c7,c8,c9,c10,c11,uN,c13,c14,c15,c16,c17,c18,c19,c20,c21] kx ax fx qe P1 K5 W)) (HAX:Ud ((zC E qe.s).at'=ax)) (HLW:Ud (lim≤W.heap.size)) (HWL:Ud (w.heap.size≤lim)) (HP1:Ud (P1=fun k=>PW k∧k<lim)) (HPW:Ud (PW=fun k=>w.heap.size≤k)) (HB0:Ud (B≤w.heap.size)) (HTA0:Ud (∀ g off,T.A=some ⟨g,off,none⟩→g<w.heap.size)) (H6:Ud (kY E f qe []=some (ins,qf)))
 (c:Code) (hc:(Tryz.f43.body.bind (zB5 0))=some c) (s1 s5 s6 s7 s8 s9 s10 s11 s12 s13 s14 s15 s16 s17 s18 s19 s20 s21 s22 s23 s24 s25 s26 s27 s28 s29 s30 s31 s32 s33 s34 s35 s36 s37 s38 s39 s40 s41 s42 s43 s44 s45 s46 s47 s48 s49 s50 s51 s52 s53 s54 s55 s56 s57 s58 s59 s60 s61 s62 s63 s64 s65 s66 s67 s68 s69 s70 s71 s72 s73 s74 s75 s76 s77 s78 s79 s80 s81 s82 s83 s84 s85 s86 s87 s88 s89 s90 s91 s92 s93 s94 s95 s96 s97 s98 s99 s100 s101 s102 s103 s104 s105 s106 s107 s108 s109 s110 s111 s112 s113 s114 s115 s116 s117 s118 s119 s120 s121 s122 s123 s124 s125 s126 s127 s128 s129 s130 s131 s132 s133 s134 s135 s136 s137 s138 s139 s140 s141 s142 s143 s144 s145 s146 s147 s148 s149 s150:Value) (K1:Act→World→Prop) (Q1:Exit→Act→World→Prop)
 (hK:∀ (SI:SV) (kx ax fx:Nat) (x6 x73 x74 x75 x76 x77 x78 x79 x80 x81 x82 x83 x84 x85 x86 x87 x88 x89 x90 x91 x92 x93 x94 x95 x96 x97 x98 x99 x100 x101 x102 x103 x104:Value) (W':World),Ud (GS B p E T w r b t #[c0,c1,c2,c3,c4,c5,c6,c7,c8,c9,c10,c11,.slice SI.A SI.n SI.c,c13,c14,c15,c16,c17,c18,c19,c20,c21] kx ax fx qf PW K5 W')→Ud (jT5 PW W' ins SI)→K1 ⟨#[uQ p 0,s1,uQ r 0,uQ b 0,uQ t 0,s5,x6,s7,s8,s9,s10,s11,s12,s13,s14,s15,s16,s17,s18,s19,s20,s21,s22,s23,s24,s25,s26,s27,s28,s29,s30,s31,s32,s33,s34,s35,s36,s37,s38,s39,s40,s41,s42,s43,s44,s45,s46,s47,s48,s49,s50,s51,s52,s53,s54,s55,s56,s57,s58,s59,s60,s61,s62,s63,s64,s65,s66,s67,s68,s69,s70,s71,s72,x73,x74,x75,x76,x77,x78,x79,x80,x81,x82,x83,x84,x85,x86,x87,x88,x89,x90,x91,x92,x93,x94,x95,x96,x97,x98,x99,x100,x101,x102,x103,x104,s105,s106,s107,s108,s109,s110,s111,s112,s113,s114,s115,s116,s117,s118,s119,s120,s121,s122,s123,s124,s125,s126,s127,s128,s129,s130,s131,s132,s133,s134,s135,s136,s137,s138,s139,s140,s141,s142,s143,s144,s145,s146,s147,s148,s149,s150],[]⟩ W') :
 Code.wp prog c (Exit.then K1 Q1) ⟨#[uQ p 0,s1,uQ r 0,uQ b 0,uQ t 0,s5,s6,s7,s8,s9,s10,s11,s12,s13,s14,s15,s16,s17,s18,s19,s20,s21,s22,s23,s24,s25,s26,s27,s28,s29,s30,s31,s32,s33,s34,s35,s36,s37,s38,s39,s40,s41,s42,s43,s44,s45,s46,s47,s48,s49,s50,s51,s52,s53,s54,s55,s56,s57,s58,s59,s60,s61,s62,s63,s64,s65,s66,s67,s68,s69,s70,s71,s72,s73,s74,s75,s76,s77,s78,s79,s80,s81,s82,s83,s84,s85,s86,s87,s88,s89,s90,s91,s92,s93,s94,s95,s96,s97,s98,s99,s100,s101,s102,s103,s104,s105,s106,s107,s108,s109,s110,s111,s112,s113,s114,s115,s116,s117,s118,s119,s120,s121,s122,s123,s124,s125,s126,s127,s128,s129,s130,s131,s132,s133,s134,s135,s136,s137,s138,s139,s140,s141,s142,s143,s144,s145,s146,s147,s148,s149,s150],[]⟩ W:=by
 have hc2:some _=some c:=hc;injection hc2 with hc2;subst hc2;clear hc;have HK:=Ph hK;clear hK;refine Code.wp_mono (Q:=Exit.then K1 (fun _ _ _=>False)) (fun e a w h=>by cases e <;> first | exact h | exact h.elim) ?_;have HO:Ud (kL1 lim W [] ⟨none,0,0⟩):=Ph OwnG.nil;have HLN:Ud (([]:List Ix).length≤qe.s.n):=Ph (lV _);go_wp2_with fail
 go_loopg [] f (fun g wr=>∃ (out:List Ix) (A:Option Addr) (n c:Nat) (kx ax fx:Nat) (qc:QSt),Ud (kY E g qc out=some (ins,qf))∧Ud (GS B p E T w r b t #[c0,c1,c2,c3,c4,c5,c6,c7,c8,c9,c10,c11,.slice A n c,c13,c14,c15,c16,c17,c18,c19,c20,c21] kx ax fx qc P1 K5 wr)∧Ud (kL1 lim wr out ⟨A,n,c⟩)∧Ud ((zC E qc.s).at'=ax)∧Ud (lim≤wr.heap.size)∧Ud (out.length≤qc.s.n))
 case atStart=>exact⟨[],none,0,0,kx,ax,fx,qe,H6,HG,HO,HAX,HLW,HLN⟩
 case round =>
  obtain⟨out,A,n,c,kx,ax,fx,qc,HXc,HGc,HOc,HAXc,HLWc,HLNc⟩:=hrel;clear HG HO HAX HLW HLN H6;have HG:=HGc;have HO:=HOc;have HAX:=HAXc;have HLW:=HLWc;clear HGc HOc HAXc HLWc;cases gk with
  | zero=>exact absurd HXc.o (by unfold kY;intro h;cases h)
  | succ gk =>
  have hds:=zN4 HXc.o;clear HXc;rw [show bs "init" = [105,110,105,116] from by decide]at hds;go_wp2_with fail
  refine(isQ qc [105,110,105,116] wr (Ph HG.o.pq.pq)).mono ?_;rintro e x201 ⟨rfl,hp⟩;have HQr:=Ph (HO.o.stay itI jZ (HG.o.pq.pq.stays hp.fr));clear HO;have HO:=HQr;clear HQr;have hw2:wr.heap.size≤x201.heap.size:=hp.fr.size;have HQx:Ud (GS B p E T w r b t #[c0,c1,c2,c3,c4,c5,c6,c7,c8,c9,c10,c11,.slice A n c,c13,c14,c15,c16,c17,c18,c19,c20,c21] kx ax fx (qc.on (isS E qc.s [105,110,105,116])) P1 _ x201):=Ph (HG.o.then hp);clear HG;have HG:=HQx;clear HQx;clear hp;have HQr:=Ph (lE HLW.o hw2);clear HLW hw2;have HLW:=HQr;clear HQr;rcases hds with⟨hi,hr⟩ | ⟨hi,hl,xq,q1,hx,hn⟩
  ·have hq:qc.on (isS E qc.s [105,110,105,116])=qc:=by unfold isS;rw [hi];rfl
   rw [hi];rw [hq]at HG;injection hr with hr1 hr2;subst hr1 hr2;clear hq hi;go_wp2_with fail
   exact HK.o ⟨A,n,c⟩ kx ax fx _ _ _ _ _ _ _ _ _ _ _ _ _ _ _ _ _ _ _ _ _ _ _ _ _ _ _ _ _ _ _ _ _ _ (Ph (HG.o.mono fun k _ hk=>(Eq.mp (congrFun HP1.o k) hk).1)) (Ph ((HO.o.row itI).mono itI fun k _ hk=>by rw [HPW.o];exact lE HWL.o hk))
  ·have hq:qc.on (isS E qc.s [105,110,105,116])=⟨zE qc.s,qc.l⟩:=by unfold isS;rw [hi];rfl
   rw [hi];rw [hq]at HG;have HL:Ud ((⟨zE qc.s,qc.l⟩:QSt).l.length≤800000000):=Ph hl;have HN:=Ph hn;rw [HAX.o]at hx;have HX:=Ph hx;have hsn:n<1000000000:=by have h1:=HLNc.o;have h2:n=out.length:=HO.o.len;obtain⟨Qc,hps,_⟩:=HG.o.pq.pq.ex;have h3:(zE qc.s).n≤T.n:=hps.n;have h5:(zE qc.s).n=qc.s.n+1:=rfl;have h4:=hps.ok.few;omega
   have HSN:=Ph hsn;clear hsn;clear hq hi hl hn hx HAX;go_upto_region 17 with fail
   go_cut [] from 73 to 104 (fun wx=>Ud (PQ B x201 p E T ⟨zE qc.s,qc.l++[ax]⟩ wx))
   case first =>
    obtain⟨Q,A2,k2,w6,hps,hrun,hps2,hpq,hfr,hbk,hbk6⟩:=(HG.o.pq.pq.below (lB _ _).drew).atrun ax HL.o;have hpa:=hps.below (zB (o:=(.cells #[uI ax] 3)));have hb0:Bk x201 p 152 (zZ6 E T Q ((⟨zE qc.s,qc.l⟩:QSt)).s):=hps.bk;have e4:(x201.alloc (.cells #[uI ax] 3)).cell? ⟨p,4,none⟩=some (uL Q):=(zD hb0 (zB (o:=(.cells #[uI ax] 3)))).cell 4;obtain⟨g0,g1,g2,g3,g4,g5,g6⟩:=hps.cells;obtain⟨a0,a1,a2,a3,a4,a5,a6⟩:=hpa.cells;obtain⟨t0,t1,t2⟩:=zJ (zD HG.o.bt (lB _ _).drew);obtain⟨u0,u1,u2⟩:=zJ (zD (zD HG.o.bt (lB _ _).drew) (zB (o:=(.cells #[uI ax] 3))));obtain⟨v0,v1,v2⟩:=zJ (zD HG.o.bt (zB (o:=(.cells #[uI ax] 3))));have HRUN:=Ph hrun;have HPS2:=Ph hps2;have HPQ:=Ph hpq;have HFR:=Ph hfr;clear hps hpa hb0 hrun hps2 hpq hfr hbk hbk6
    go_region_law (first
     | (refine qG rfl (.tmp 84) (.tmp 87) rfl _ _ _ rfl rfl (HRUN.o _) ?_
        clear g0 g1 g2 g3 g4 g5 g6 a0 a1 a2 a3 a4 a5 a6 t0 t1 t2 u0 u1 u2 e4 v0 v1 v2;obtain⟨g0,g1,g2,g3,g4,g5,g6⟩:=HPS2.o.cells;have gz:=HPS2.o.frozens 4))
    all_goals
     go_wp2
     go_meet
     exact Ph ⟨HPQ.o,(FrQ.of_below (lB _ _).drew).trans HFR.o⟩
   case rest =>
   have hp:=hcut.o;clear hcut;generalize wc=x202 at *;have HQr:=Ph (HO.o.stay itI jZ (HG.o.pq.pq.stays hp.fr));clear HO;have HO:=HQr;clear HQr;have HQr:=Ph (lE HLW.o hp.fr.size);clear HLW;have HLW:=HQr;clear HQr;have HQx:Ud (GS B p E T w r b t #[c0,c1,c2,c3,c4,c5,c6,c7,c8,c9,c10,c11,.slice A n c,c13,c14,c15,c16,c17,c18,c19,c20,c21] kx ax fx ⟨zE qc.s,qc.l++[ax]⟩ P1 _ x202):=Ph (HG.o.then hp);clear HG;have HG:=HQx;clear HQx;clear hp;clear HL;obtain⟨⟨mb,sm⟩,hmb⟩:∃ m,jB E (zE qc.s)=m:=⟨_,rfl⟩;have hmle:=zG7 E (zE qc.s);have hgn:qc.s.n+1≤q1.s.n:=by have g1:=zP3 (E:=E) (zE qc.s);have g2:=xK (E:=E) (jB E (zE qc.s)).2 [61];have g3:=yY HX.o;have g4:(zE qc.s).n=qc.s.n+1:=rfl;(try dsimp only at g3);omega
   have HGN:=Ph hgn;have hx:=HX.o;rw [hmb]at hmle hx;(try dsimp only at hmle hx);clear HX;have HX:=Ph hx;have HMB:=Ph hmb;have HNX9:=HN;have hnn:=HN.o;rw [hmb]at hnn;(try dsimp only at hnn);clear HN HNX9;have HN:=Ph hnn;have HML:=Ph hmle;clear hmb hx hnn hmle hgn;go_wp2_with fail
   refine(jT8 ⟨zE qc.s,qc.l++[ax]⟩ x202 (Ph HG.o.pq.pq)).mono ?_;rintro e x203 ⟨rfl,hp⟩;have HQr:=Ph (HO.o.stay itI jZ (HG.o.pq.pq.stays hp.fr));clear HO;have HO:=HQr;clear HQr;have HQr:=Ph (lE HLW.o hp.fr.size);clear HLW;have HLW:=HQr;clear HQr;have hp':PQ B x202 p E T ⟨sm,qc.l++[ax]⟩ x203:=by have h9:=hp;rw [show(jB E (⟨zE qc.s,qc.l++[ax]⟩:QSt).s)=(mb,sm) from HMB.o]at h9;exact h9
   rw [show(jB E (⟨zE qc.s,qc.l++[ax]⟩:QSt).s)=(mb,sm) from HMB.o];dsimp only;clear hp;have hp:=hp';clear hp';have HQx:Ud (GS B p E T w r b t #[c0,c1,c2,c3,c4,c5,c6,c7,c8,c9,c10,c11,.slice A n c,c13,c14,c15,c16,c17,c18,c19,c20,c21] kx ax fx ⟨sm,qc.l++[ax]⟩ P1 _ x203):=Ph (HG.o.then hp);clear HG;have HG:=HQx;clear HQx;clear hp;have hl_p:p<x203.heap.size:=HG.o.pq.pq.lt;have HP:=Ph (PQ.below HG.o.pq.pq (zB (o:=(.cells #[uI mb,uB 0,uB 0,uW 0,uI 0,uT,uN] 90))));have HI:=Ph (Bk.new x203 90 #[uI mb,uB 0,uB 0,uW 0,uI 0,uT,uN]);have hiw:x203.heap.size≤(x203.alloc (.cells #[uI mb,uB 0,uB 0,uW 0,uI 0,uT,uN] 90)).heap.size:=by rw [lO];exact Nat.le_succ _
   go_upto_region 19 with fail
   generalize (x203.alloc _)=x204 at *;obtain⟨i,hib⟩:∃ i,x203.heap.size=i:=⟨_,rfl⟩;rw [hib]at HI ⊢;have hip:p≠i:=Yo;have HWI:Ud (x203.heap.size≤i):=Ph (Nat.le_of_eq hib);clear hib hl_p hiw;go_wp2_with fail
   refine(zM9 (⟨sm,qc.l++[ax]⟩:QSt) [61] x204 (Ph HP.o.pq)).mono ?_;rintro e x205 ⟨⟨v9,rfl⟩,hp⟩;have HQr:=Ph (hp.bk HI.o Yd (cX hip));clear HI;have HI:=HQr;clear HQr;have HQr:=Ph (HP.o.trans hp);clear HP;have HP:=HQr;clear HQr;clear hp;go_wp2_with fail
   refine(zC3 gk _ xq q1 HX.o x205 (Ph HP.o.pq)).mono ?_;rintro e x206 ⟨SX,rfl,hs,hp⟩;rw [xL];have hsz:=HP.o.fr.size;have HSX:Ud (TX (fun k=>x203.heap.size≤k) x206 xq SX):=Ph (hs.mono fun k _ hk=>lE hsz hk);have HQr:=Ph (hp.bk HI.o Yd (cX hip));clear HI;have HI:=HQr;clear HQr;have HQr:=Ph (HP.o.trans hp);clear HP;have HP:=HQr;clear HQr;clear hp hs hsz;have y0:=HI.o.cell 1;have f0:=HI.o.frozen 1;have y1:=HI.o.cell 2;have f1:=HI.o.frozen 2;have y2:=HI.o.cell 3;have f2:=HI.o.frozen 3;have y3:=HI.o.cell 4;have f3:=HI.o.frozen 4;have y4:=HI.o.cell 5;have f4:=HI.o.frozen 5;have y5:=HI.o.cell 6;have f5:=HI.o.frozen 6;have HF:=kL5 x206 i 1 (uB xq.kind) (uB xq.op) (uW xq.value) (uI xq.width) (uR xq.name) (uL SX);have HIn:Ud (Bk ((((((x206.setCell ⟨i,1,none⟩ (uB xq.kind)).setCell ⟨i,2,none⟩ (uB xq.op)).setCell ⟨i,3,none⟩ (uW xq.value)).setCell ⟨i,4,none⟩ (uI xq.width)).setCell ⟨i,5,none⟩ (uR xq.name)).setCell ⟨i,6,none⟩ (uL SX)) i 90 #[uI mb,uB xq.kind,uB xq.op,uW xq.value,uI xq.width,uR xq.name,uL SX]):=Ph (by have h1:=(((((HI.o.put 1 (uB xq.kind)).put 2 (uB xq.op) ).put 3 (uW xq.value) ).put 4 (uI xq.width) ).put 5 (uR xq.name) ).put 6 (uL SX);exact h1);have HPn:=Ph (HP.o.box HI.o Yd Yd hip (lE HB0.o (lE HG.o.pq.fr.size HWI.o)) HWI.o HF);have HSn:=Ph (TX.boxI HSX.o HI.o HF);go_upto_region 21 with fail
   clear HF;generalize (World.setCell _ _ _)=x207 at *;clear y0 y1 y2 y3 y4 y5 f0 f1 f2 f3 f4 f5 HI HP HSX;have hG9:=HG.o.then HPn.o;have y9:x207.cell? ⟨b,12,none⟩=some (.slice A n c):=hG9.bx.cell 12;obtain⟨x0,x1,x2,x3,x4,x5,x6⟩:=qL HIn.o;have hxI:IxP (fun k=>x203.heap.size≤k) x207 ⟨(mb:Int),xq⟩ SX:=⟨by show(-9223372036854775808:Int)≤(mb:Int);omega,by show(mb:Int)≤9223372036854775807;have:=HML.o;omega,HSn.o⟩;obtain⟨A2,k2,w9,hrun,hown,hfr,hown0⟩:=OwnG.pushG itI kH3 jZ qF6 (fun x v=>rfl) HO.o HLW.o (HG.o.pq.pq.stays HPn.o.fr) HPn.o.fr.size hxI HSN.o;dsimp only [jC8,qX]at hrun hfr hown0;change (∀ ty,(Builtin.append_ #[32,32] ty #[.slice A n c,.slice (some ⟨x207.heap.size,0,none⟩) 1 1]).run prog (x207.alloc (.cells #[uI mb,uB xq.kind,uB xq.op,uW xq.value,uI xq.width,uR xq.name,uL SX] 90))=.ok (.slice A2 (n+1) k2) w9)at hrun;have HG9:=Ph ((hG9.below zB).data HB0.o hfr (fun k _ e=>by obtain⟨h1,cs,h2⟩:=hown0.typed e;exact⟨lE HWL.o h1,_,cs,h2,jZ⟩) (fun k _ hk e=>by obtain⟨h1,_⟩:=hown0.typed e;have h3:k<lim:=(Eq.mp (congrFun HP1.o k) hk).2;omega));have HRUN:=Ph hrun;have HO9:=Ph hown;have HLW9:Ud (lim≤w9.heap.size):=Ph (lE HLW.o (lE HPn.o.fr.size (lE (by rw [lO];exact Nat.le_succ _) hfr.size)));clear hG9 hxI hrun hown hfr hown0 HG HO HLW HPn HSn HIn;have y8:w9.cell? ⟨b,12,none⟩=some (.slice A n c):=HG9.o.bx.cell 12;have f8:w9.frozen? ⟨b,12,none⟩=false:=HG9.o.bx.frozen 12;go_wp2_with (at_builtin;refine jL rfl (.tmp 100) (.tmp 102) rfl _ _ _ rfl rfl (HRUN.o _) ?_;clear y9 x0 x1 x2 x3 x4 x5 x6)
   have HG:Ud (GS B p E T w r b t #[c0,c1,c2,c3,c4,c5,c6,c7,c8,c9,c10,c11,.slice A2 (n+1) k2,c13,c14,c15,c16,c17,c18,c19,c20,c21] kx ax fx q1 P1 K5 (w9.setCell ⟨b,12,none⟩ (.slice A2 (n+1) k2))):=Ph (HG9.o.put HB0.o 12 (.slice A2 (n+1) k2));have HO:Ud (kL1 lim (w9.setCell ⟨b,12,none⟩ (.slice A2 (n+1) k2)) (out++[⟨(mb:Int),xq⟩]) ⟨A2,n+1,k2⟩):=Ph (HO9.o.stay itI jZ (Stays.box ((Fr.refl (fun k=>k=b) w9).setCell (p:=⟨b,12,none⟩) (.inl rfl) _) HG9.o.bx xT));have HLW:Ud (lim≤(w9.setCell ⟨b,12,none⟩ (.slice A2 (n+1) k2)).heap.size):=Ph (lE HLW9.o ((Fr.refl (fun k=>k=b) w9).setCell (p:=⟨b,12,none⟩) (.inl rfl) (.slice A2 (n+1) k2)).size);clear HG9 HO9 HLW9 HRUN;generalize (World.setCell _ _ _)=x208 at *;clear y8 f8;have hnx:=fun(w1:World) (h1:Ud (Pq B w1 p E T q1))=>zI6 (q1) w1 h1;obtain⟨⟨kx,tx,ax,fx⟩,ht⟩:∃ t,zC E (q1).s=t:=⟨_,rfl⟩;have HAX:Ud ((zC E (q1).s).at'=ax):=Ph (by rw [ht]);rw [ht]at hnx;dsimp only [nxV,kW]at hnx;have HNX:=Ph hnx;clear hnx ht;go_wp2_with fail
   refine(HNX.o x208 (Ph HG.o.pq.pq)).mono ?_;rintro e x209 ⟨rfl,hb⟩;have HQr:=Ph (HO.o.stay itI jZ (Stays.below hb));clear HO;have HO:=HQr;clear HQr;have HQr:=Ph (lE HLW.o hb.size);clear HLW;have HLW:=HQr;clear HQr;have HQx:=Ph (HG.o.below hb);clear HG;have HG:=HQx;clear HQx;clear hb HNX;obtain⟨y0,y1,y2⟩:=zJ HG.o.bt;obtain⟨f0,f1,f2,_,_,_,_⟩:=zZ HG.o.bt;have HQr:=Ph (HO.o.stay itI jZ (Stays.box (jD4 x209 t (uB kx) (uI ax) (uI fx)) HG.o.bt qA9));clear HO;have HO:=HQr;clear HQr;have HQr:=Ph (lE HLW.o (jD4 x209 t (uB kx) (uI ax) (uI fx)).size);clear HLW;have HLW:=HQr;clear HQr;have HQx:=Ph (HG.o.tok HB0.o HTA0.o kx ax fx);clear HG;have HG:=HQx;clear HQx;go_wp2_with fail
   generalize (World.setCell _ _ _)=x210 at *;clear y0 y1 y2 f0 f1 f2;go_roundg gk
   case measure=>omega
   case rel=>exact⟨out++[⟨(mb:Int),xq⟩],A2,n+1,k2,kx,ax,fx,q1,HN,HG,HO,HAX,HLW,Ph (by have h1:=HLNc.o;have h2:=HGN.o;rw [Ya];show out.length+1≤q1.s.n;omega)⟩
end
end
section
open Go.RowKit Go.PlainAid
section
variable {B:Nat} {p:Nat} {E:Env} {T:TV}
theorem kI7 (f:Nat) (w W:World) (r b t:Nat) (c0 c1 c2 c3 c4 c5 c6 c7 c8 c9 c10 c11 c12 c13 c14 c15 c16 c17 c18 c19 c20 c21:Value) (kx ax fx lim:Nat) (PW P1:Nat→Prop) (K6:(Nat→Prop)→World→Prop) (qf qg:QSt) (ps:List Rx) (HG:Ud (GS B p E T w r b t #[c0,c1,c2,c3,c4,c5,c6,c7,c8,c9,c10,c11,c12,uN,c14,c15,c16,c17,c18,c19,c20,c21] kx ax fx qf P1 K6 W)) (HAX:Ud ((zC E qf.s).at'=ax)) (HLW:Ud (lim≤W.heap.size)) (HWL:Ud (w.heap.size≤lim)) (HP1:Ud (P1=fun k=>PW k∧k<lim)) (HPW:Ud (PW=fun k=>w.heap.size≤k)) (HB0:Ud (B≤w.heap.size)) (HTA0:Ud (∀ g off,T.A=some ⟨g,off,none⟩→g<w.heap.size)) (H7:Ud (kX E f qf []=some (ps,qg)))
 (c:Code) (hc:(Tryz.f43.body.bind (zB5 2))=some c) (s1 s5 s6 s7 s8 s9 s10 s11 s12 s13 s14 s15 s16 s17 s18 s19 s20 s21 s22 s23 s24 s25 s26 s27 s28 s29 s30 s31 s32 s33 s34 s35 s36 s37 s38 s39 s40 s41 s42 s43 s44 s45 s46 s47 s48 s49 s50 s51 s52 s53 s54 s55 s56 s57 s58 s59 s60 s61 s62 s63 s64 s65 s66 s67 s68 s69 s70 s71 s72 s73 s74 s75 s76 s77 s78 s79 s80 s81 s82 s83 s84 s85 s86 s87 s88 s89 s90 s91 s92 s93 s94 s95 s96 s97 s98 s99 s100 s101 s102 s103 s104 s105 s106 s107 s108 s109 s110 s111 s112 s113 s114 s115 s116 s117 s118 s119 s120 s121 s122 s123 s124 s125 s126 s127 s128 s129 s130 s131 s132 s133 s134 s135 s136 s137 s138 s139 s140 s141 s142 s143 s144 s145 s146 s147 s148 s149 s150:Value) (K1:Act→World→Prop) (Q1:Exit→Act→World→Prop)
 (hK:∀ (SP:SV) (kx ax fx:Nat) (x110 x111 x112 x113 x114 x115 x116 x117 x118 x119 x120 x121 x122 x123 x124 x125 x126 x127 x128 x129 x130 x131 x132 x133 x134:Value) (W':World),Ud (GS B p E T w r b t #[c0,c1,c2,c3,c4,c5,c6,c7,c8,c9,c10,c11,c12,.slice SP.A SP.n SP.c,c14,c15,c16,c17,c18,c19,c20,c21] kx ax fx qg PW K6 W')→Ud (jT6 PW W' ps SP)→K1 ⟨#[uQ p 0,s1,uQ r 0,uQ b 0,uQ t 0,s5,s6,s7,s8,s9,s10,s11,s12,s13,s14,s15,s16,s17,s18,s19,s20,s21,s22,s23,s24,s25,s26,s27,s28,s29,s30,s31,s32,s33,s34,s35,s36,s37,s38,s39,s40,s41,s42,s43,s44,s45,s46,s47,s48,s49,s50,s51,s52,s53,s54,s55,s56,s57,s58,s59,s60,s61,s62,s63,s64,s65,s66,s67,s68,s69,s70,s71,s72,s73,s74,s75,s76,s77,s78,s79,s80,s81,s82,s83,s84,s85,s86,s87,s88,s89,s90,s91,s92,s93,s94,s95,s96,s97,s98,s99,s100,s101,s102,s103,s104,s105,s106,s107,s108,s109,x110,x111,x112,x113,x114,x115,x116,x117,x118,x119,x120,x121,x122,x123,x124,x125,x126,x127,x128,x129,x130,x131,x132,x133,x134,s135,s136,s137,s138,s139,s140,s141,s142,s143,s144,s145,s146,s147,s148,s149,s150],[]⟩ W') :
 Code.wp prog c (Exit.then K1 Q1) ⟨#[uQ p 0,s1,uQ r 0,uQ b 0,uQ t 0,s5,s6,s7,s8,s9,s10,s11,s12,s13,s14,s15,s16,s17,s18,s19,s20,s21,s22,s23,s24,s25,s26,s27,s28,s29,s30,s31,s32,s33,s34,s35,s36,s37,s38,s39,s40,s41,s42,s43,s44,s45,s46,s47,s48,s49,s50,s51,s52,s53,s54,s55,s56,s57,s58,s59,s60,s61,s62,s63,s64,s65,s66,s67,s68,s69,s70,s71,s72,s73,s74,s75,s76,s77,s78,s79,s80,s81,s82,s83,s84,s85,s86,s87,s88,s89,s90,s91,s92,s93,s94,s95,s96,s97,s98,s99,s100,s101,s102,s103,s104,s105,s106,s107,s108,s109,s110,s111,s112,s113,s114,s115,s116,s117,s118,s119,s120,s121,s122,s123,s124,s125,s126,s127,s128,s129,s130,s131,s132,s133,s134,s135,s136,s137,s138,s139,s140,s141,s142,s143,s144,s145,s146,s147,s148,s149,s150],[]⟩ W:=by
 have hc2:some _=some c:=hc;injection hc2 with hc2;subst hc2;clear hc;have HK:=Ph hK;clear hK;refine Code.wp_mono (Q:=Exit.then K1 (fun _ _ _=>False)) (fun e a w h=>by cases e <;> first | exact h | exact h.elim) ?_;have HO:Ud (kQ3 lim W [] ⟨none,0,0⟩):=Ph OwnG.nil;have HLN:Ud (([]:List Rx).length≤qf.s.n):=Ph (lV _);go_wp2_with fail
 go_loopg [] f (fun g wr=>∃ (out:List Rx) (A:Option Addr) (n c:Nat) (kx ax fx:Nat) (qc:QSt),Ud (kX E g qc out=some (ps,qg))∧Ud (GS B p E T w r b t #[c0,c1,c2,c3,c4,c5,c6,c7,c8,c9,c10,c11,c12,.slice A n c,c14,c15,c16,c17,c18,c19,c20,c21] kx ax fx qc P1 K6 wr)∧Ud (kQ3 lim wr out ⟨A,n,c⟩)∧Ud ((zC E qc.s).at'=ax)∧Ud (lim≤wr.heap.size)∧Ud (out.length≤qc.s.n))
 case atStart=>exact⟨[],none,0,0,kx,ax,fx,qf,H7,HG,HO,HAX,HLW,HLN⟩
 case round =>
  obtain⟨out,A,n,c,kx,ax,fx,qc,HXc,HGc,HOc,HAXc,HLWc,HLNc⟩:=hrel;clear HG HO HAX HLW HLN H7;have HG:=HGc;have HO:=HOc;have HAX:=HAXc;have HLW:=HLWc;clear HGc HOc HAXc HLWc;cases gk with
  | zero=>exact absurd HXc.o (by unfold kX;intro h;cases h)
  | succ gk =>
  have hds:=zN3 HXc.o;clear HXc;rw [show bs "proc" = [112,114,111,99] from by decide]at hds;go_wp2_with fail
  refine(isQ qc [112,114,111,99] wr (Ph HG.o.pq.pq)).mono ?_;rintro e x401 ⟨rfl,hp⟩;have HQr:=Ph (HO.o.stay itR zD1 (HG.o.pq.pq.stays hp.fr));clear HO;have HO:=HQr;clear HQr;have HQr:=Ph (lE HLW.o hp.fr.size);clear HLW;have HLW:=HQr;clear HQr;have HQx:Ud (GS B p E T w r b t #[c0,c1,c2,c3,c4,c5,c6,c7,c8,c9,c10,c11,c12,.slice A n c,c14,c15,c16,c17,c18,c19,c20,c21] kx ax fx (qc.on (isS E qc.s [112,114,111,99])) P1 _ x401):=Ph (HG.o.then hp);clear HG;have HG:=HQx;clear HQx;clear hp;rcases hds with⟨hi,hr⟩ | ⟨hi,hl,xp,q1,hx,hn⟩
  ·have hq:qc.on (isS E qc.s [112,114,111,99])=qc:=by unfold isS;rw [hi];rfl
   rw [hi];rw [hq]at HG;injection hr with hr1 hr2;subst hr1 hr2;clear hq hi;go_wp2_with fail
   exact HK.o ⟨A,n,c⟩ kx ax fx _ _ _ _ _ _ _ _ _ _ _ _ _ _ _ _ _ _ _ _ _ _ _ _ _ _ (Ph (HG.o.mono fun k _ hk=>(Eq.mp (congrFun HP1.o k) hk).1)) (Ph ((HO.o.row itR).mono itR fun k _ hk=>by rw [HPW.o];exact lE HWL.o hk))
  ·have hq:qc.on (isS E qc.s [112,114,111,99])=⟨zE qc.s,qc.l⟩:=by unfold isS;rw [hi];rfl
   rw [hi];rw [hq]at HG;have HL:Ud ((⟨zE qc.s,qc.l⟩:QSt).l.length≤800000000):=Ph hl;have HN:=Ph hn;rw [HAX.o]at hx;have HX:=Ph hx;have hgn:qc.s.n+1≤q1.s.n:=jZ6 hx;have HGN:=Ph hgn;have hsn:n<1000000000:=by have h1:=HLNc.o;have h2:n=out.length:=HO.o.len;obtain⟨Qc,hps,_⟩:=HG.o.pq.pq.ex;have h3:(zE qc.s).n≤T.n:=hps.n;have h5:(zE qc.s).n=qc.s.n+1:=rfl;have h4:=hps.ok.few;omega
   have HSN:=Ph hsn;clear hsn;clear hq hi hl hn hx hgn HAX;go_upto_region 25 with fail
   go_cut [] from 110 to 134 (fun wx=>Ud (PQ B x401 p E T ⟨zE qc.s,qc.l++[ax]⟩ wx))
   case first =>
    obtain⟨Q,A2,k2,w6,hps,hrun,hps2,hpq,hfr,hbk,hbk6⟩:=(HG.o.pq.pq.below (lB _ _).drew).atrun ax HL.o;have hpa:=hps.below (zB (o:=(.cells #[uI ax] 3)));have hb0:Bk x401 p 152 (zZ6 E T Q ((⟨zE qc.s,qc.l⟩:QSt)).s):=hps.bk;have e4:(x401.alloc (.cells #[uI ax] 3)).cell? ⟨p,4,none⟩=some (uL Q):=(zD hb0 (zB (o:=(.cells #[uI ax] 3)))).cell 4;obtain⟨g0,g1,g2,g3,g4,g5,g6⟩:=hps.cells;obtain⟨a0,a1,a2,a3,a4,a5,a6⟩:=hpa.cells;obtain⟨t0,t1,t2⟩:=zJ (zD HG.o.bt (lB _ _).drew);obtain⟨u0,u1,u2⟩:=zJ (zD (zD HG.o.bt (lB _ _).drew) (zB (o:=(.cells #[uI ax] 3))));obtain⟨v0,v1,v2⟩:=zJ (zD HG.o.bt (zB (o:=(.cells #[uI ax] 3))));have HRUN:=Ph hrun;have HPS2:=Ph hps2;have HPQ:=Ph hpq;have HFR:=Ph hfr;clear hps hpa hb0 hrun hps2 hpq hfr hbk hbk6
    go_region_law (first
     | (refine qG rfl (.tmp 121) (.tmp 124) rfl _ _ _ rfl rfl (HRUN.o _) ?_
        clear g0 g1 g2 g3 g4 g5 g6 a0 a1 a2 a3 a4 a5 a6 t0 t1 t2 u0 u1 u2 e4 v0 v1 v2;obtain⟨g0,g1,g2,g3,g4,g5,g6⟩:=HPS2.o.cells;have gz:=HPS2.o.frozens 4))
    all_goals
     go_wp2
     go_meet
     exact Ph ⟨HPQ.o,(FrQ.of_below (lB _ _).drew).trans HFR.o⟩
   case rest =>
   have hp:=hcut.o;clear hcut;generalize wc=x402 at *;have HQr:=Ph (HO.o.stay itR zD1 (HG.o.pq.pq.stays hp.fr));clear HO;have HO:=HQr;clear HQr;have HQr:=Ph (lE HLW.o hp.fr.size);clear HLW;have HLW:=HQr;clear HQr;have HQx:Ud (GS B p E T w r b t #[c0,c1,c2,c3,c4,c5,c6,c7,c8,c9,c10,c11,c12,.slice A n c,c14,c15,c16,c17,c18,c19,c20,c21] kx ax fx ⟨zE qc.s,qc.l++[ax]⟩ P1 _ x402):=Ph (HG.o.then hp);clear HG;have HG:=HQx;clear HQx;clear hp;clear HL;go_upto_region 26 with fail
   have HBD:=Ph (HG.o.below (lB _ _).drew);have HOD:=Ph (HO.o.stay itR zD1 (Stays.below (lB _ _).drew));have HLD:Ud (lim≤x402.drew.heap.size):=Ph HLW.o;have c0:x402.drew.cell? ⟨b,13,none⟩=some (.slice A n c):=HBD.o.bx.cell 13;have HCL:Ud (Calls prog 88 #[uQ p 0] x402.drew fun e w'=>∃ v5:SV×SV,e=.returned (.agg #[uR xp.name,uL v5.1,uL v5.2])∧RxP (fun k=>x402.drew.heap.size≤k) w' xp v5∧PQ B x402.drew p E T q1 w'):=Ph (kM9 gk _ xp q1 HX.o x402.drew (Ph HBD.o.pq.pq));clear HG HO HLW
   go_region_law (first
    | (refine qG rfl (.tmp 129) (.tmp 132) rfl _ _ _ rfl rfl (HRUN.o _) ?_
       clear c0 d0 e0;have d0:w6.cell? ⟨b,13,none⟩=some (.slice A n c):=HB7.o.bx.cell 13;have f0:w6.frozen? ⟨b,13,none⟩=false:=HB7.o.bx.frozen 13)
    | (go_simp
       go_at_call 88
       with_reducible refine HCL.o.mono ?_
       rintro e w5 ⟨v5,rfl,hx5,hp⟩;have hw5:=hp.fr.size;obtain⟨A2,k2,w6,hrun,hown,hfr,hown0⟩:=OwnG.pushG itR kN1 zD1 qW7 (fun x v=>rfl) HOD.o HLD.o (HBD.o.pq.pq.stays hp.fr) hw5 hx5 HSN.o;dsimp only [zP2]at hrun hfr hown0;have HB5:=Ph (HBD.o.then hp);have HB6:=Ph (HB5.o.below (zB (o:=.cells #[uR xp.name,uL v5.1,uL v5.2] 93)));have HB7:=Ph (HB6.o.data HB0.o hfr (fun k _ e=>by obtain⟨h1,cs,h2⟩:=hown0.typed e;exact⟨lE HWL.o h1,_,cs,h2,zD1⟩) (fun k _ hk e=>by obtain⟨h1,_⟩:=hown0.typed e;have h3:k<lim:=(Eq.mp (congrFun HP1.o k) hk).2;omega));have HL7:Ud (lim≤w6.heap.size):=Ph (lE HLD.o (lE hw5 (lE (by rw [lO];exact Nat.le_succ _) hfr.size)));have HRUN:=Ph hrun;have HOW:=Ph hown;clear hrun hown hfr hown0 hp hx5 HCL c0 hw5;have c0:w5.cell? ⟨b,13,none⟩=some (.slice A n c):=HB5.o.bx.cell 13;have d0:(w5.alloc (.cells #[uR xp.name,uL v5.1,uL v5.2] 93)).cell? ⟨b,13,none⟩=some (.slice A n c):=HB6.o.bx.cell 13;have e0:True:=trivial))
   all_goals
    have HBn:Ud (GS B p E T w r b t #[c0,c1,c2,c3,c4,c5,c6,c7,c8,c9,c10,c11,c12,.slice A2 (n+1) k2,c14,c15,c16,c17,c18,c19,c20,c21] kx ax fx q1 P1 K6 (w6.setCell ⟨b,13,none⟩ (.slice A2 (n+1) k2))):=Ph (HB7.o.put HB0.o 13 (.slice A2 (n+1) k2));have HOn:=Ph (HOW.o.stay itR zD1 (Stays.box ((Fr.refl (fun k=>k=b) w6).setCell (p:=⟨b,13,none⟩) (.inl rfl) (.slice A2 (n+1) k2)) HB7.o.bx xT));have HLn:Ud (lim≤(w6.setCell ⟨b,13,none⟩ (.slice A2 (n+1) k2)).heap.size):=Ph (lE HL7.o ((Fr.refl (fun k=>k=b) w6).setCell (p:=⟨b,13,none⟩) (.inl rfl) (.slice A2 (n+1) k2)).size);clear HB7 HOW HL7 HRUN HB5 HB6 HBD HOD HLD;have HG:=HBn;have HO:=HOn;have HLW:=HLn;clear HBn HOn HLn;go_wp2_with fail
    generalize (World.setCell _ _ _)=x403 at *;have hnx:=fun(w1:World) (h1:Ud (Pq B w1 p E T q1))=>zI6 (q1) w1 h1;obtain⟨⟨kx,tx,ax,fx⟩,ht⟩:∃ t,zC E (q1).s=t:=⟨_,rfl⟩;have HAX:Ud ((zC E (q1).s).at'=ax):=Ph (by rw [ht]);rw [ht]at hnx;dsimp only [nxV,kW]at hnx;have HNX:=Ph hnx;clear hnx ht;go_wp2_with fail
    refine(HNX.o x403 (Ph HG.o.pq.pq)).mono ?_;rintro e x404 ⟨rfl,hb⟩;have HQr:=Ph (HO.o.stay itR zD1 (Stays.below hb));clear HO;have HO:=HQr;clear HQr;have HQr:=Ph (lE HLW.o hb.size);clear HLW;have HLW:=HQr;clear HQr;have HQx:=Ph (HG.o.below hb);clear HG;have HG:=HQx;clear HQx;clear hb HNX;obtain⟨y0,y1,y2⟩:=zJ HG.o.bt;obtain⟨f0,f1,f2,_,_,_,_⟩:=zZ HG.o.bt;have HQr:=Ph (HO.o.stay itR zD1 (Stays.box (jD4 x404 t (uB kx) (uI ax) (uI fx)) HG.o.bt qA9));clear HO;have HO:=HQr;clear HQr;have HQr:=Ph (lE HLW.o (jD4 x404 t (uB kx) (uI ax) (uI fx)).size);clear HLW;have HLW:=HQr;clear HQr;have HQx:=Ph (HG.o.tok HB0.o HTA0.o kx ax fx);clear HG;have HG:=HQx;clear HQx;go_wp2_with fail
    generalize (World.setCell _ _ _)=x405 at *;clear y0 y1 y2 f0 f1 f2;go_roundg gk
    case measure=>omega
    case rel=>exact⟨out++[xp],A2,n+1,k2,kx,ax,fx,q1,HN,HG,HO,HAX,HLW,Ph (by have h1:=HLNc.o;have h2:=HGN.o;rw [Ya];show out.length+1≤q1.s.n;omega)⟩
end
end
section
open Go.RowKit Go.PlainAid
theorem zK2 {w:World} {r:Nat} {t:TypeId} {cs:Array Value} (h:Bk w r t cs) {o n:Nat} (hn:o+n≤cs.size):w.there r o n:=fun j hj=>by refine⟨?_,h.frozen _⟩;rw [h.cell,Array.getElem?_eq_getElem Yo];rfl
theorem yM {w:World} {r:Nat} {t:TypeId} {cs:List Value} (h:Bk w r t cs.toArray):w.rangeAt r 0 cs:=fun j v hv=>by rw [h.cell,Nat.zero_add];simpa using hv
theorem zO2 (r:Nat):∀ (vs:List Value) (o:Nat) (w:World),Fr (fun k=>k=r) w (w.setCells r o vs)
 | [],o,w=>Fr.refl _ w
 | v :: vs,o,w=>by rw [World.setCells];exact((Fr.refl (fun k=>k=r) w).setCell (p:=⟨r,o,none⟩) (.inl rfl) v).trans (zO2 r vs (o+1) _)
def qX4:Array Value→Nat→List Value→Array Value
 | cs,_,[]=>cs
 | cs,o,v :: vs=>qX4 (cs.setIfInBounds o v) (o+1) vs
theorem jG5 {r:Nat} {t:TypeId}:∀ (vs:List Value) (o:Nat) (w:World) (cs:Array Value),Bk w r t cs→Bk (w.setCells r o vs) r t (qX4 cs o vs)
 | [],o,w,cs,h=>h
 | v :: vs,o,w,cs,h=>by rw [World.setCells];exact jG5 vs (o+1) _ _ (h.put o v)
theorem qR7:∀ (vs:List Value) (o:Nat) (cs:Array Value) (i:Nat),o+vs.length≤cs.size→(qX4 cs o vs)[i]?=if o≤i∧i<o+vs.length then vs[i-o]? else cs[i]?
 | [],o,cs,i,h=>by rw [qX4,lN (by intro h2;simp at h2;omega)]
 | v :: vs,o,cs,i,h=>by
   rw [qX4,qR7 vs (o+1) _ i (by rw [Array.size_setIfInBounds];simp at h;omega)];simp only [Yc]at h ⊢;by_cases h1:i=o
   ·subst h1;rw [lN Yo,lM Yo,cP,lM rfl,lM Yo];simp
   ·by_cases h2:o+1≤i∧i<o+1+vs.length
    ·rw [lM h2,lM Yo];obtain⟨k,hk⟩:∃ k,i-o=k+1:=⟨i-o-1,Yo⟩;rw [hk,List.getElem?_cons_succ];congr 1;omega
    ·rw [lN h2,lN Yo,cP,lN (fun e=>h1 e.symm)]
theorem jP8 (vs:List Value) (cs:Array Value) (h:vs.length=cs.size):qX4 cs 0 vs=vs.toArray:=by
 apply Array.ext_getElem?;intro i;rw [qR7 vs 0 cs i Yo];by_cases hi:i<vs.length
 ·rw [lM Yo];simp
 ·rw [lN Yo,Array.getElem?_eq_none Yo];simp;omega
theorem zK3 {r:Nat} {t:TypeId} {vs:List Value} {w:World} {cs:Array Value} (h:Bk w r t cs) (hs:vs.length=cs.size):Bk (w.setCells r 0 vs) r t vs.toArray:=by have:=jG5 vs 0 w cs h;rw [jP8 vs cs hs]at this;exact this
theorem jR:(prog.info? 36).map (·.size)=some 22:=Yk
theorem zA1 {w:World} {r:Nat} {cs:List Value} (h:Bk w r 36 cs.toArray) (hl:cs.length=22):(loadVar 36 ⟨r,0,none⟩).run prog w=.ok (.agg cs.toArray) w :=
 run_loadVar_mid w r 0 _ cs _ (yM h) underlying36 rfl (by rw [hl];exact jR)
theorem yN {P:Program} {ops:Array Oper} {rest:List Oper} {op:Oper} {a:Act} {Q:Exit→Act→World→Prop} (hgd:op.guard=none) (ty:TypeId) (x y:Operand) (ho:op.op=.store ty x y) (w:World) (c c':Array Value) (hx:a.eval x=uQ w.heap.size 0) (hy:a.eval y=.agg c')
 (hi:(P.info? ty).map (·.size)=some c'.size) (hs:c.size=c'.size) (h1:c'.all (·.oneCell')=true) (h:wpList P ops Q rest (a.put op.dst undef) (w.alloc (.cells c' ty))):wpList P ops Q (op :: rest) a (w.alloc (.cells c ty)) :=
 wpList_plain hgd fun _ hK=>by unfold Oper.wp execOp;simp only [ho,hx,hy,Sem.run_bind,Sem.run_pure,Result.andThen_ok,run_storeAt_new w ty c c' hi hs h1];exact hK _ _ h
theorem zU4 {P:Program} {w w':World} {o:Oper} {a:Act} {K:Act→World→Prop} {Q:Exit→Act→World→Prop} (ty:TypeId) (x y:Operand) (ho:o.op=.store ty x y) (v u:Value) (hx:a.eval x=v) (hy:a.eval y=u) (hrun:(Instr.storeAt ty v u).run P w=.ok () w') (h:K (a.put o.dst undef) w'):o.wp P a w K Q:=by unfold Oper.wp execOp;simp only [ho,hx,hy,Sem.run_bind,Sem.run_pure,hrun,Result.andThen_ok];exact h
theorem zO3 {w:World} {r:Nat} {c:Array Value} {vs:List Value} (h:Bk w r 36 c) (hl:vs.length=22) (hc:c.size=22) (h1:∀ v∈vs,v.oneCell'=true):∃ w',(Instr.storeAt 36 (uQ r 0) (.agg vs.toArray)).run prog w=.ok () w'∧Fr (fun k=>k=r) w w'∧Bk w' r 36 vs.toArray :=
 ⟨_,run_storeAt_mid w r 0 _ vs.toArray (zK2 h Yp) (by rw [List.size_toArray,hl];exact jR) (all_oneCell_toArray h1),zO2 r _ 0 w,by have:=zK3 (vs:=vs) h Yo;exact this⟩
theorem xD (x:Gx) (v:GV):∀ u∈zN5 x v,u.oneCell'=true:=by intro u hu;simp only [zN5,lU,lT,or_false]at hu;rcases hu with rfl | rfl | rfl | rfl | rfl | rfl | rfl | rfl | rfl | rfl | rfl | rfl | rfl | rfl | rfl | rfl | rfl | rfl | rfl | rfl | rfl | rfl <;> rfl
theorem zP6 {P:Program} {fn:Func} {tmps:Array Value} {w:World} {a:Nat} {t:TypeId} {x:Addr} {v:Value} (hf:fn.results=#[.cell a t]) (ha:tmps.getD a undef=.pointer (some x)) (hl:(loadVar t x).run P w=.ok v w):(results fn tmps).run P w=.ok v w:=by
 have ha':tmps[a]?.getD undef=.pointer (some x):=by simpa using ha
 simp [results,hf,ha',asAddr,Sem.run_bind,Sem.run_pure,Result.andThen_ok,hl]
theorem wF {P:Program} {fn:Func} {tmps:Array Value} {w:World} {a b c d:Nat} {t:TypeId} {x:Addr} {v:Value} (hf:fn.results=#[.cell a t,.tmp b,.tmp c,.tmp d]) (ha:tmps.getD a undef=.pointer (some x)) (hl:(loadVar t x).run P w=.ok v w):(results fn tmps).run P w=.ok (.tuple #[v,tmps.getD b undef,tmps.getD c undef,tmps.getD d undef]) w:=by
 have ha':tmps[a]?.getD undef=.pointer (some x):=by simpa using ha
 simp [results,hf,ha',asAddr,Sem.run_bind,Sem.run_pure,Result.andThen_ok,hl]
theorem qB6 {P:Program} {fn:Func} {tmps:Array Value} {w:World} {a b c:Nat} {t:TypeId} {x:Addr} {v:Value} (hf:fn.results=#[.cell a t,.tmp b,.tmp c]) (ha:tmps.getD a undef=.pointer (some x)) (hl:(loadVar t x).run P w=.ok v w):(results fn tmps).run P w=.ok (.tuple #[v,tmps.getD b undef,tmps.getD c undef]) w:=by
 have ha':tmps[a]?.getD undef=.pointer (some x):=by simpa using ha
 simp [results,hf,ha',asAddr,Sem.run_bind,Sem.run_pure,Result.andThen_ok,hl]
end
section
open Go.RowKit Go.PlainAid
def kN6 (n:Nat):Code→Bool
 | .region m _ _=>decide (m=n)
 | _=>false
def zP7 (n:Nat):Code→Option Code
 | .seq a b=>if kN6 n a then some (.seq a b) else match zP7 n a with
   | some c=>some c
   | none=>zP7 n b
 | .cond _ a b=>match zP7 n a with
   | some c=>some c
   | none=>zP7 n b
 | .block _ b=>zP7 n b
 | .loop b=>zP7 n b
 | .scope b=>zP7 n b
 | _=>none
section
variable {B:Nat} {p:Nat} {E:Env} {T:TV}
theorem jP9 (f:Nat) (w W:World) (r b t kx ax fx:Nat) (nb nw:Nat×PSt) (S1 S2 S3 S4 SQ SI SP:SV) (is gs vs ar:List Dx) (rq:Ex) (ins:List Ix) (ps:List Rx) (wk rc:List Sx) (iv:Ex) (PW:Nat→Prop) (K7:(Nat→Prop)→World→Prop) (qg qh qi q':QSt)
 (HG:Ud (GS B p E T w r b t #[uI nb.1,uI nw.1,.slice S1.A S1.n S1.c,.slice S2.A S2.n S2.c,.slice S3.A S3.n S3.c,.slice S4.A S4.n S4.c,uB rq.kind,uB rq.op,uW rq.value,uI rq.width,uR rq.name,.slice SQ.A SQ.n SQ.c,.slice SI.A SI.n SI.c,.slice SP.A SP.n SP.c,uN,uN,uB 0,uB 0,uW 0,uI 0,uT,uN] kx ax fx qg PW K7 W)) (HKK:Ud (∀ P W,K7 P W→zE2 P W is S1∧zE2 P W gs S2∧zE2 P W vs S3∧zE2 P W ar S4∧TX P W rq SQ∧jT5 P W ins SI∧jT6 P W ps SP)) (HPW:Ud (PW=fun k=>w.heap.size≤k)) (HB0:Ud (B≤w.heap.size))
 (H8:Ud (kE E f (qg.on (zI E qg.s [119,111,114,107]))=some (wk,qh))) (H9:Ud (kE E f (qh.on (zI E qh.s [114,101,99,111,118,101,114]))=some (rc,qi))) (H10:Ud (qS E f (qi.on (zI E qi.s [105,110,118,97,114,105,97,110,116]))=some (iv,q')))
 (c:Code) (hc:(Tryz.f43.body.bind (zP7 27))=some c) (s1 s5 s6 s7 s8 s9 s10 s11 s12 s13 s14 s15 s16 s17 s18 s19 s20 s21 s22 s23 s24 s25 s26 s27 s28 s29 s30 s31 s32 s33 s34 s35 s36 s37 s38 s39 s40 s41 s42 s43 s44 s45 s46 s47 s48 s49 s50 s51 s52 s53 s54 s55 s56 s57 s58 s59 s60 s61 s62 s63 s64 s65 s66 s67 s68 s69 s70 s71 s72 s73 s74 s75 s76 s77 s78 s79 s80 s81 s82 s83 s84 s85 s86 s87 s88 s89 s90 s91 s92 s93 s94 s95 s96 s97 s98 s99 s100 s101 s102 s103 s104 s105 s106 s107 s108 s109 s110 s111 s112 s113 s114 s115 s116 s117 s118 s119 s120 s121 s122 s123 s124 s125 s126 s127 s128 s129 s130 s131 s132 s133 s134 s135 s136 s137 s138 s139 s140 s141 s142 s143 s144 s145 s146 s147 s148 s149 s150:Value) :
 Code.wp prog c (bodyPost prog Tryz.f43 fun e w'=>∃ v:GV,e=.returned (.agg (zN5 ⟨nb.1,nw.1,is,gs,vs,ar,rq,ins,ps,wk,rc,iv⟩ v).toArray)∧GxP PW w' ⟨nb.1,nw.1,is,gs,vs,ar,rq,ins,ps,wk,rc,iv⟩ v∧PQ B w p E T q' w') ⟨#[uQ p 0,s1,uQ r 0,uQ b 0,uQ t 0,s5,s6,s7,s8,s9,s10,s11,s12,s13,s14,s15,s16,s17,s18,s19,s20,s21,s22,s23,s24,s25,s26,s27,s28,s29,s30,s31,s32,s33,s34,s35,s36,s37,s38,s39,s40,s41,s42,s43,s44,s45,s46,s47,s48,s49,s50,s51,s52,s53,s54,s55,s56,s57,s58,s59,s60,s61,s62,s63,s64,s65,s66,s67,s68,s69,s70,s71,s72,s73,s74,s75,s76,s77,s78,s79,s80,s81,s82,s83,s84,s85,s86,s87,s88,s89,s90,s91,s92,s93,s94,s95,s96,s97,s98,s99,s100,s101,s102,s103,s104,s105,s106,s107,s108,s109,s110,s111,s112,s113,s114,s115,s116,s117,s118,s119,s120,s121,s122,s123,s124,s125,s126,s127,s128,s129,s130,s131,s132,s133,s134,s135,s136,s137,s138,s139,s140,s141,s142,s143,s144,s145,s146,s147,s148,s149,s150],[]⟩ W:=by
 have hc2:some _=some c:=hc;injection hc2 with hc2;subst hc2;clear hc;go_wp2_with fail
 refine(zM9 qg [119,111,114,107] W (Ph HG.o.pq.pq)).mono ?_;rintro e x601 ⟨⟨v9,rfl⟩,hp⟩;have HQx:Ud (GS B p E T w r b t #[uI nb.1,uI nw.1,uL S1,uL S2,uL S3,uL S4,uB rq.kind,uB rq.op,uW rq.value,uI rq.width,uR rq.name,uL SQ,uL SI,uL SP,uN,uN,uB 0,uB 0,uW 0,uI 0,uT,uN] kx ax fx (qg.on (zI E qg.s [119,111,114,107])) PW _ x601):=Ph (HG.o.then hp);clear HG;have HG:=HQx;clear HQx;clear hp;go_wp2_with fail
 refine(jE1 f _ wk qh x601 H8.o (Ph HG.o.pq.pq)).mono ?_;rintro e x602 ⟨SW,rfl,hs,hp⟩;have hsz:w.heap.size≤x601.heap.size:=HG.o.pq.fr.size;have hs':StsP PW x602 wk SW:=hs.mono fun k _ hk=>by rw [HPW.o];exact lE hsz hk
 have HQx:Ud (GS B p E T w r b t #[uI nb.1,uI nw.1,uL S1,uL S2,uL S3,uL S4,uB rq.kind,uB rq.op,uW rq.value,uI rq.width,uR rq.name,uL SQ,uL SI,uL SP,uN,uN,uB 0,uB 0,uW 0,uI 0,uT,uN] kx ax fx qh PW _ x602):=Ph ((HG.o.then hp).add (KpI.sts wk SW) hs');clear HG;have HG:=HQx;clear HQx;clear hp hs hs' hsz;have y0:x602.cell? ⟨b,14,none⟩=some (uN):=HG.o.bx.cell 14;have f0:x602.frozen? ⟨b,14,none⟩=false:=HG.o.bx.frozen 14;have HQx:Ud (GS B p E T w r b t #[uI nb.1,uI nw.1,uL S1,uL S2,uL S3,uL S4,uB rq.kind,uB rq.op,uW rq.value,uI rq.width,uR rq.name,uL SQ,uL SI,uL SP,uL SW,uN,uB 0,uB 0,uW 0,uI 0,uT,uN] kx ax fx qh PW _ ((x602.setCell ⟨b,14,none⟩ (uL SW)))):=Ph ((HG.o.put HB0.o 14 (uL SW)));clear HG;have HG:=HQx;clear HQx;go_upto_region 29 with fail
 generalize (World.setCell _ _ _)=x603 at *;clear y0 f0;go_wp2_with fail
 refine(zM9 qh [114,101,99,111,118,101,114] x603 (Ph HG.o.pq.pq)).mono ?_;rintro e x604 ⟨⟨v9,rfl⟩,hp⟩;have HQx:Ud (GS B p E T w r b t #[uI nb.1,uI nw.1,uL S1,uL S2,uL S3,uL S4,uB rq.kind,uB rq.op,uW rq.value,uI rq.width,uR rq.name,uL SQ,uL SI,uL SP,uL SW,uN,uB 0,uB 0,uW 0,uI 0,uT,uN] kx ax fx (qh.on (zI E qh.s [114,101,99,111,118,101,114])) PW _ x604):=Ph (HG.o.then hp);clear HG;have HG:=HQx;clear HQx;clear hp;go_wp2_with fail
 refine(jE1 f _ rc qi x604 H9.o (Ph HG.o.pq.pq)).mono ?_;rintro e x605 ⟨SR,rfl,hs,hp⟩;have hsz:w.heap.size≤x604.heap.size:=HG.o.pq.fr.size;have hs':StsP PW x605 rc SR:=hs.mono fun k _ hk=>by rw [HPW.o];exact lE hsz hk
 have HQx:Ud (GS B p E T w r b t #[uI nb.1,uI nw.1,uL S1,uL S2,uL S3,uL S4,uB rq.kind,uB rq.op,uW rq.value,uI rq.width,uR rq.name,uL SQ,uL SI,uL SP,uL SW,uN,uB 0,uB 0,uW 0,uI 0,uT,uN] kx ax fx qi PW _ x605):=Ph ((HG.o.then hp).add (KpI.sts rc SR) hs');clear HG;have HG:=HQx;clear HQx;clear hp hs hs' hsz;have y0:x605.cell? ⟨b,15,none⟩=some (uN):=HG.o.bx.cell 15;have f0:x605.frozen? ⟨b,15,none⟩=false:=HG.o.bx.frozen 15;have HQx:Ud (GS B p E T w r b t #[uI nb.1,uI nw.1,uL S1,uL S2,uL S3,uL S4,uB rq.kind,uB rq.op,uW rq.value,uI rq.width,uR rq.name,uL SQ,uL SI,uL SP,uL SW,uL SR,uB 0,uB 0,uW 0,uI 0,uT,uN] kx ax fx qi PW _ ((x605.setCell ⟨b,15,none⟩ (uL SR)))):=Ph ((HG.o.put HB0.o 15 (uL SR)));clear HG;have HG:=HQx;clear HQx;go_upto_region 31 with fail
 generalize (World.setCell _ _ _)=x606 at *;clear y0 f0;go_wp2_with fail
 refine(zM9 qi [105,110,118,97,114,105,97,110,116] x606 (Ph HG.o.pq.pq)).mono ?_;rintro e x607 ⟨⟨v9,rfl⟩,hp⟩;have HQx:Ud (GS B p E T w r b t #[uI nb.1,uI nw.1,uL S1,uL S2,uL S3,uL S4,uB rq.kind,uB rq.op,uW rq.value,uI rq.width,uR rq.name,uL SQ,uL SI,uL SP,uL SW,uL SR,uB 0,uB 0,uW 0,uI 0,uT,uN] kx ax fx (qi.on (zI E qi.s [105,110,118,97,114,105,97,110,116])) PW _ x607):=Ph (HG.o.then hp);clear HG;have HG:=HQx;clear HQx;clear hp;go_wp2_with fail
 refine(zC3 f _ iv q' H10.o x607 (Ph HG.o.pq.pq)).mono ?_;rintro e x608 ⟨SE,rfl,hs,hp⟩;rw [xL];have hsz:w.heap.size≤x607.heap.size:=HG.o.pq.fr.size;have hs':TX PW x608 iv SE:=hs.mono fun k _ hk=>by rw [HPW.o];exact lE hsz hk
 have HQx:Ud (GS B p E T w r b t #[uI nb.1,uI nw.1,uL S1,uL S2,uL S3,uL S4,uB rq.kind,uB rq.op,uW rq.value,uI rq.width,uR rq.name,uL SQ,uL SI,uL SP,uL SW,uL SR,uB 0,uB 0,uW 0,uI 0,uT,uN] kx ax fx q' PW _ x608):=Ph ((HG.o.then hp).add (KpI.item itX iv SE) hs');clear HG;have HG:=HQx;clear HQx;clear hp hs hs' hsz;have y0:x608.cell? ⟨b,16,none⟩=some (uB 0):=HG.o.bx.cell 16;have f0:x608.frozen? ⟨b,16,none⟩=false:=HG.o.bx.frozen 16;have y1:x608.cell? ⟨b,17,none⟩=some (uB 0):=HG.o.bx.cell 17;have f1:x608.frozen? ⟨b,17,none⟩=false:=HG.o.bx.frozen 17;have y2:x608.cell? ⟨b,18,none⟩=some (uW 0):=HG.o.bx.cell 18;have f2:x608.frozen? ⟨b,18,none⟩=false:=HG.o.bx.frozen 18;have y3:x608.cell? ⟨b,19,none⟩=some (uI 0):=HG.o.bx.cell 19;have f3:x608.frozen? ⟨b,19,none⟩=false:=HG.o.bx.frozen 19;have y4:x608.cell? ⟨b,20,none⟩=some (uT):=HG.o.bx.cell 20;have f4:x608.frozen? ⟨b,20,none⟩=false:=HG.o.bx.frozen 20;have y5:x608.cell? ⟨b,21,none⟩=some (uN):=HG.o.bx.cell 21;have f5:x608.frozen? ⟨b,21,none⟩=false:=HG.o.bx.frozen 21;have HQx:Ud (GS B p E T w r b t #[uI nb.1,uI nw.1,uL S1,uL S2,uL S3,uL S4,uB rq.kind,uB rq.op,uW rq.value,uI rq.width,uR rq.name,uL SQ,uL SI,uL SP,uL SW,uL SR,uB iv.kind,uB iv.op,uW iv.value,uI iv.width,uR iv.name,uL SE] kx ax fx q' PW _ (((((((x608.setCell ⟨b,16,none⟩ (uB iv.kind)).setCell ⟨b,17,none⟩ (uB iv.op)).setCell ⟨b,18,none⟩ (uW iv.value)).setCell ⟨b,19,none⟩ (uI iv.width)).setCell ⟨b,20,none⟩ (uR iv.name)).setCell ⟨b,21,none⟩ (uL SE)))):=Ph (((((((HG.o.put HB0.o 16 (uB iv.kind)).put HB0.o 17 (uB iv.op)).put HB0.o 18 (uW iv.value)).put HB0.o 19 (uI iv.width)).put HB0.o 20 (uR iv.name)).put HB0.o 21 (uL SE)));clear HG;have HG:=HQx;clear HQx;go_upto_region 33 with fail
 generalize (World.setCell _ _ _)=x609 at *;clear y0 f0 y1 f1 y2 f2 y3 f3 y4 f4 y5 f5;have HRG:Ud (x609.rangeAt b 0 [uI nb.1,uI nw.1,uL S1,uL S2,uL S3,uL S4,uB rq.kind,uB rq.op,uW rq.value,uI rq.width,uR rq.name,uL SQ,uL SI,uL SP,uL SW,uL SR,uB iv.kind,uB iv.op,uW iv.value,uI iv.width,uR iv.name,uL SE]):=Ph (yM HG.o.bx);have HTH:Ud (x609.there r 0 22):=Ph (zK2 HG.o.rs (lF _));have H1C:Ud ((#[uI nb.1,uI nw.1,uL S1,uL S2,uL S3,uL S4,uB rq.kind,uB rq.op,uW rq.value,uI rq.width,uR rq.name,uL SQ,uL SI,uL SP,uL SW,uL SR,uB iv.kind,uB iv.op,uW iv.value,uI iv.width,uR iv.name,uL SE]:Array Value).all (·.oneCell')=true):=Ph (all_oneCell_toArray (xD ⟨nb.1,nw.1,is,gs,vs,ar,rq,ins,ps,wk,rc,iv⟩ ⟨S1,S2,S3,S4,SQ,SI,SP,SW,SR,SE⟩));go_wp2_with (first | (refine wpList_load_mid rfl 36 (.tmp 3) rfl b 0 rfl [uI nb.1,uI nw.1,uL S1,uL S2,uL S3,uL S4,uB rq.kind,uB rq.op,uW rq.value,uI rq.width,uR rq.name,uL SQ,uL SI,uL SP,uL SW,uL SR,uB iv.kind,uB iv.op,uW iv.value,uI iv.width,uR iv.name,uL SE] _ HRG.o underlying36 rfl jR ?_) | (refine wpList_store_mid rfl 36 (.tmp 2) (.tmp 150) rfl r 0 #[uI nb.1,uI nw.1,uL S1,uL S2,uL S3,uL S4,uB rq.kind,uB rq.op,uW rq.value,uI rq.width,uR rq.name,uL SQ,uL SI,uL SP,uL SW,uL SR,uB iv.kind,uB iv.op,uW iv.value,uI iv.width,uR iv.name,uL SE] rfl rfl HTH.o jR H1C.o ?_))
 have HF:=Ph (zO2 r [uI nb.1,uI nw.1,uL S1,uL S2,uL S3,uL S4,uB rq.kind,uB rq.op,uW rq.value,uI rq.width,uR rq.name,uL SQ,uL SI,uL SP,uL SW,uL SR,uB iv.kind,uB iv.op,uW iv.value,uI iv.width,uR iv.name,uL SE] 0 x609);have HK:=Ph (zK3 (vs:=[uI nb.1,uI nw.1,uL S1,uL S2,uL S3,uL S4,uB rq.kind,uB rq.op,uW rq.value,uI rq.width,uR rq.name,uL SQ,uL SI,uL SP,uL SW,uL SR,uB iv.kind,uB iv.op,uW iv.value,uI iv.width,uR iv.name,uL SE]) HG.o.rs rfl);generalize (x609.setCells r 0 [uI nb.1,uI nw.1,uL S1,uL S2,uL S3,uL S4,uB rq.kind,uB rq.op,uW rq.value,uI rq.width,uR rq.name,uL SQ,uL SI,uL SP,uL SW,uL SR,uB iv.kind,uB iv.op,uW iv.value,uI iv.width,uR iv.name,uL SE])=WF at HF HK ⊢;have hld:=zA1 HK.o rfl;have hk:=HG.o.ki.stay _ _ _ (Stays.box HF.o HG.o.rs xT) HG.o.k;obtain⟨⟨⟨hk7,hkw⟩,hkr⟩,hki⟩:=hk;obtain⟨k1,k2,k3,k4,hkq,hkn,hkp⟩:=HKK.o _ _ hk7;refine lK (v:=.agg #[uI nb.1,uI nw.1,uL S1,uL S2,uL S3,uL S4,uB rq.kind,uB rq.op,uW rq.value,uI rq.width,uR rq.name,uL SQ,uL SI,uL SP,uL SW,uL SR,uB iv.kind,uB iv.op,uW iv.value,uI iv.width,uR iv.name,uL SE]) (by exact zP6 (a:=2) results43 rfl hld) rfl ?_;exact⟨⟨S1,S2,S3,S4,SQ,SI,SP,SW,SR,SE⟩,rfl,⟨k1,k2,k3,k4,hkq,hkn,hkp,hkw,hkr,hki⟩,HG.o.pq.box HG.o.rs Yd Yd HG.o.rp (lE HB0.o HG.o.wr) HG.o.wr HF.o⟩
end
end
end Go.Proofs.YtfdaebgllibphaaGreatDoor
