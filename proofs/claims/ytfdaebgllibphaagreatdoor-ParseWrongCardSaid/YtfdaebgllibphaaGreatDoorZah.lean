import Derived.Lib.ItoaLen
import Derived.StillTail
import Derived.StillTactics
import Derived.Test.YtfdaebgllibphaaGreatDoorZag
set_option linter.unusedVariables false
set_option linter.unusedSimpArgs false
set_option maxRecDepth 100000
set_option maxHeartbeats 16000000
namespace Go.Proofs.YtfdaebgllibphaaGreatDoor
section
open Go.RowKit Go.PlainAid
section
variable {p:Nat} {E:Env} {T:TV} {Q:SV}
abbrev AtO (B:Nat) (w:World) (Q:SV) (l:List Nat):Prop:=w.ownsRow B 3 1 (.slice Q.A Q.n Q.c) Q.n (yV l)
def FrA (p:Nat) (Q:SV) (k:Nat):Prop:=k=p∨(Value.slice Q.A Q.n Q.c).ownBlock=some k
theorem AtO.np {B:Nat} {w:World} {Q Q':SV} {l:List Nat} {s:PSt} (h:AtO B w Q l) (hp:Ps w p E T Q' s):(Value.slice Q.A Q.n Q.c).ownBlock≠some p:=fun e=>yR h hp.bk Yd e.symm
theorem AtO.fr {B:Nat} {w w':World} {Q Q':SV} {l:List Nat} {s:PSt} (h:AtO B w Q l) (hp:Ps w p E T Q' s) (hf:Fr (fun k=>k=p) w w'):AtO B w' Q l:=jP h hf (fun k hk e=>h.np hp (e▸hk))
theorem Ps.grown {B:Nat} {w w':World} {Q':SV} {l:List Nat} {s:PSt} (h:Ps w p E T Q' s) (ho:AtO B w Q l) (h0:0<B) (h1:3<B) (hg:w.grownBy w' (Value.slice Q.A Q.n Q.c).ownBlock):Ps w' p E T Q' s:=by have hf:Fr (fun k=>(uL Q).ownBlock=some k) w w':=(Fr.refl _ w).grown hg (fun k hk=>.inl hk);have hlo:∀ k,(uL Q).ownBlock=some k→B≤k:=fun k hk=>(qF ho k hk).1;exact⟨h.bk.fr hf (ho.np h),h.rd.keeps (Keeps.grown ho Yd hg),h.ok,h.n,h.vr.fr hf (fun e=>by have:=hlo _ e;omega) (fun e=>by have:=hlo _ e;omega),h.g0,h.g1,lE h.base hf.size⟩
theorem kF8 (B:Nat) (l:List Nat) (f:Nat) (s:PSt) (X:Nd) (s':PSt) (w:World) (hx:zM E f s=some (X,s')) (h:Hid (Ps w p E T Q s)) (ho:Hid (AtO B w Q l)) (h0:0<B) (h1:3<B) (hBw:B≤w.heap.size) (hl:Q.n≤900000000) :
 Calls Tryz.prog 54 #[uQ p 0] w fun e w'=>∃ S Q',e=.returned (.agg (qX X.1 S).toArray)∧TrT w.heap.size w' X.1 S∧Ps w' p E T Q' s'∧AtO B w' Q' (l++X.2)∧Fr (FrA p Q) w w'∧Q'.n=Q.n+X.2.length:=by
 obtain⟨TA,Tn,Tc,T0⟩:=T;obtain⟨QA,Qn,Qc⟩:=Q;obtain⟨hl0,hl1⟩:=h.out.vr.lt;have HC:=Ph hx;have hpl:p<w.heap.size:=h.out.lt;have HB0:Hid (Below w.heap.size w (w.alloc (.cells uZ 31))):=zB;have HX0:=Ph (Bk.new w 31 uZ);clear hx;go_enter Tryz.func54,Tryz.ntmps54
 go_upto_region 1 with fail
 have hW:(w.alloc (.cells uZ 31)).heap.size=w.heap.size+1:=Ym;generalize (w.alloc _)=W at HB0 HX0 hW ⊢;obtain⟨r,hr⟩:∃ r,w.heap.size=r:=⟨_,rfl⟩;rw [hr]at HX0 hW ⊢;have hrp:r≠p:=Yo;have hwr:w.heap.size≤r:=Yo;have hr0:0≠r:=Yo;have hr1:3≠r:=Yo;have HPW:=Ph (PP.below (h.out.below HB0.out |>.rebase (B:=r+1) Yo) (lB _ _));have HT0:Hid (T0≤w.heap.size):=Ph h.out.base;clear hr hpl hW hl0 hl1;go_wp2_with fail
 refine((sp f).choice _ _ _ W HC.out (Ph HPW.out.ps)).mono ?_;rintro e w5 ⟨S,R,rfl,hn,hp⟩;rw [zS];have HP5:=Ph (HPW.out.trans hp);have HX5:=Ph (hp.bk HX0.out hrp);have HN5:=Ph hn;clear hp hn HPW HX0;have hw5r:r<w5.heap.size:=HX5.out.lt;have hw5p:p<w5.heap.size:=HP5.out.ps.lt;have HBn:Hid (Below w5.heap.size w5 (w5.alloc (.cells #[uB X.1.kind,uB X.1.op,uW X.1.value,uI X.1.width,uR X.1.name,uL S,uL R] 168))):=zB;have HY6:=Ph (Bk.new w5 168 #[uB X.1.kind,uB X.1.op,uW X.1.value,uI X.1.width,uR X.1.name,uL S,uL R]);go_upto_region 2 with fail
 generalize (w5.alloc _)=v at HBn HY6 ⊢;obtain⟨b3,hb⟩:∃ b,w5.heap.size=b:=⟨_,rfl⟩;rw [hb]at HY6 ⊢;have hb3p:b3≠p:=Yo;have hb3r:b3≠r:=Yo;clear hb hw5r hw5p;have HL:=Ph ((HP5.out.then HBn.out).then (lB _ _).drew);have HX:=Ph (zD (zD HX5.out HBn.out) (lB _ _).drew);have HN:=Ph ((HN5.out.below HBn.out).below (lB _ _).drew);have HY:=Ph (zD HY6.out (lB _ _).drew);clear HP5 HX5 HN5 HBn HY6;obtain⟨g0,g1,g2,g3,g4,g5,g6⟩:=HL.out.ps.cells;obtain⟨x0,x1,x2,x3,x4,x5,x6⟩:=qL HY.out;have HRd:Hid (Rd v.drew R.A (yV X.2)):=Ph HN.out.a.rd.rd;have HRl:Hid ((yV X.2).length=R.n*1):=Ph (by have:=HN.out.a.len;unfold yV;rw [lW];omega);have HRs:Hid (Qn+R.n≤1000000000):=Ph (by have:=HN.out.a.small;omega);have HOv:Hid (AtO B v.drew ⟨QA,Qn,Qc⟩ l):=Ph (ho.out.fr h.out ((Fr.of_below HB0.out).trans HL.out.fr));have HBs:Hid (B≤v.drew.heap.size):=Ph (lE hBw (lE HB0.out.size HL.out.fr.size))
 go_region_law (first
  | (refine zZ2 jN5 rfl (.tmp 10) (.tmp 12) rfl B (.slice QA Qn Qc) Qn (yV l) rfl HOv.out R.A R.n R.c (yV X.2) rfl HRd.out HRl.out (zS2 _) HRs.out HBs.out ?_
     intro A3 c3 w4 ho4 hg4 hat4;have HO4:=Ph ho4;have HF4:=Ph (show Fr (fun k=>(Value.slice QA Qn Qc).ownBlock=some k) v.drew w4 from(Fr.refl _ _).grown hg4 (fun k hk=>.inl hk));have HPS4:=Ph (HL.out.ps.grown HOv.out h0 h1 hg4);have HX4:=Ph (HX.out.grown hg4 (yR HOv.out HX.out Yd));have HY4:=Ph (HY.out.grown hg4 (yR HOv.out HY.out Yd));have HT4:=Ph (HN.out.t.keeps (Keeps.grown HOv.out Yd hg4));clear ho4 hg4 hat4 g0 g1 g2 g3 g4 g5 g6 x0 x1 x2 x3 x4 x5 x6;obtain⟨g0,g1,g2,g3,g4,g5,g6⟩:=HPS4.out.cells;have gz:=HPS4.out.frozens 4))
 all_goals
  obtain⟨hs1,hs2⟩:=HPS4.out.setAt ⟨A3,Qn+R.n,c3⟩;have HS1:=Ph hs1;have HS2:=Ph hs2;clear hs1 hs2;(try dsimp only at HS1 HS2);generalize (World.setCell _ _ _)=W7 at HS1 HS2 ⊢;have HX7:=Ph (HX4.out.fr HS2.out hrp);have HY7:=Ph (HY4.out.fr HS2.out hb3p);have HT7:=Ph (HT4.out.keeps (HPS4.out.keeps HS2.out Yd));have HO7:Hid (AtO B W7 ⟨A3,Qn+R.n,c3⟩ (l++X.2)):=Ph (AtO.fr (Q:=⟨A3,Qn+R.n,c3⟩) (by show World.ownsRow _ _ _ _ _ _ _;rw [zR9];exact HO4.out) HPS4.out HS2.out);have HFW:Hid (Fr (FrA p ⟨QA,Qn,Qc⟩) w W7):=Ph (((Fr.of_below HB0.out).trans (Fr.mono HL.out.fr (fun _ _ h=>.inl h))).trans ((Fr.mono HF4.out (fun _ _ h=>.inr h)).trans (Fr.mono HS2.out (fun _ _ h=>.inl h))));clear g0 g1 g2 g3 g4 g5 g6 gz HS2;obtain⟨x0,x1,x2,x3,x4,x5,x6⟩:=qL HY7.out;obtain⟨y0,y1,y2,y3,y4,y5⟩:=zH HX7.out;obtain⟨f0,f1,f2,f3,f4,f5,_⟩:=zZ HX7.out;have HF:=Ph (fr6 W7 r (uB X.1.kind) (uB X.1.op) (uW X.1.value) (uI X.1.width) (uR X.1.name) (uL S));have HK:=Ph (put6 (v0:=uB X.1.kind) (v1:=uB X.1.op) (v2:=uW X.1.value) (v3:=uI X.1.width) (v4:=uR X.1.name) (v5:=uL S) HX7.out);go_wp2_with fail
  generalize (World.setCell _ _ _)=WF at HF HK ⊢;obtain⟨r0,r1,r2,r3,r4,r5⟩:=zH HK.out;refine lK (v:=.agg (qX X.1 S).toArray) (by simp [results,Tryz.results54,go_sem,r0,r1,r2,r3,r4,r5,qX]) rfl ?_;have hS:=HS1.out.box HX7.out Yd (cX hrp) hr0 hr1 HF.out;have hF:Fr (FrA p ⟨QA,Qn,Qc⟩) w WF:=HFW.out.then HF.out (fun i hi e=>Yo);have hO:AtO B WF ⟨A3,Qn+R.n,c3⟩ (l++X.2):=jP HO7.out HF.out (fun k hk e=>yR HO7.out HX7.out Yd (by rw [hk,e]));refine⟨S,⟨A3,Qn+R.n,c3⟩,rfl,(HT7.out.far HF.out (Nat.lt_succ_self r)).less (by show w.heap.size≤r+1;omega),hS.rebase (lE HT0.out hF.size),hO,hF,?_⟩;show Qn+R.n=Qn+X.2.length;rw [←HN.out.a.len]
end
end
section
open Go.RowKit
theorem kF9 (t:List UInt8):∀ f a,a≤t.length→(∀ y∈ylT t f a,y.1≠0→y.1≤4∧y.2.1<y.2.2.1∧y.2.2.1≤t.length)∧((ylT t f a).filter fun y=>decide (y.1≠0)).length+a≤t.length
 | 0,a,h=>⟨fun y hy=>by simp [ylT]at hy,by simp [ylT];exact h⟩
 | f+1,a,h=>by
   obtain⟨h1,h2,h3,h4,h5⟩:=qO8 t a h;unfold ylT;by_cases hk:(kZ t a).1=0
   ·rw [lM hk];refine⟨fun y hy hy0=>?_,?_⟩
    ·rw [cQ.1 hy]at hy0;exact absurd hk hy0
    ·rw [List.filter_cons_of_neg (by simp [hk])];simpa using h
   ·obtain⟨h6,h7⟩:=h4 hk;obtain⟨i1,i2⟩:=kF9 t f _ h7;rw [lN hk];refine⟨fun y hy hy0=>?_,?_⟩
    ·rcases lU.1 hy with rfl | hy
     ·exact⟨h3,h6,h7⟩
     ·exact i1 y hy hy0
    ·rw [List.filter_cons_of_pos (by simp [hk]),Yc];omega
theorem qP8 (t:List UInt8) (h:t.length≤65536):kE3 ⟨t,zY t (kG t)⟩ (zY t (kG t)).length:=by
 obtain⟨h1,h2⟩:=kF9 t (t.length+2) 0 (lV _);refine⟨rfl,h,?_,fun i tk hi=>?_⟩
 ·show((((kG t).filter fun y=>decide (y.1≠0)).map (tkY t)).length≤65536);rw [lW];unfold kG;omega
 ·obtain⟨y,hy,rfl⟩:=List.mem_map.1 (cD hi);obtain⟨hy1,hy2⟩:=List.mem_filter.1 hy;have hy2:=cM hy2;obtain⟨h3,h4,h5⟩:=h1 y hy1 hy2;exact⟨Nat.pos_of_ne_zero hy2,h3,h4,h5,rfl⟩
mutual
def zQ5:Ex→Nat
 | .mk _ _ _ _ n l=>1+n.length+vV l
def vV:List Ex→Nat
 | []=>0
 | x :: l=>zQ5 x+vV l
end
theorem zS4 (x:Ex):zQ5 x=1+x.name.length+vV x.subs:=by cases x;simp only [zQ5,Ex.name,Ex.subs]
theorem qF2 (l m:List Ex):vV (l++m)=vV l+vV m:=by
 induction l with
 | nil=>simp [vV]
 | cons x l ih=>rw [lR,vV,vV,ih,Nat.add_assoc]
theorem zX7 (l:List Ex) (i:Nat) (y:Ex) (h:l[i]?=some y):vV (l.take (i+1))=vV (l.take i)+zQ5 y:=by rw [zI1 h,qF2];simp [vV]
theorem qA2 (l:List Ex) (i:Nat):vV (l.take i)≤vV l:=by
 have h:vV l=vV (l.take i)+vV (l.drop i):=by rw [←qF2,List.take_append_drop]
 omega
theorem qA3 {x y:Ex} {i:Nat} (h:x.subs[i]?=some y):zQ5 y<zQ5 x:=by have h1:=zX7 _ _ _ h;have h2:=qA2 x.subs (i+1);have h3:=zS4 x;omega
end
section
open Go.RowKit
inductive TreeP (P:Nat→Prop) (c:Ex→SV→List Value) (t:TypeId) (w:World):Ex→SV→Prop where
 | mk (x:Ex) (S:SV) (vs:List SV) (ok:zX3 x) (hl:vs.length=x.subs.length) (hn:S.n=x.subs.length) (hP:∀ b off,S.A=some ⟨b,off,none⟩→P b) (rd:RdT w S.A t ((x.subs.zip vs).flatMap fun p=>c p.1 p.2))
    (all:∀ (i:Nat) (y:Ex) (v:SV),x.subs[i]?=some y→vs[i]?=some v→TreeP P c t w y v):TreeP P c t w x S
section
variable {P P':Nat→Prop} {B:Nat} {c:Ex→SV→List Value} {t:TypeId} {w w':World} {x:Ex} {S:SV}
theorem TreeAt.toP (h:TreeAt B c t w x S):TreeP (fun b=>B≤b) c t w x S:=by
 induction h with
 | mk x S vs ok hl hn hB rd all ih=>exact .mk x S vs ok hl hn hB rd ih
theorem TreeP.mono (h:TreeP P c t w x S) (hp:∀ b,b<w.heap.size→P b→P' b):TreeP P' c t w x S:=by
 induction h with
 | mk x S vs ok hl hn hP rd all ih =>
   refine .mk x S vs ok hl hn (fun b off e=>?_) rd ih;obtain⟨cs,fr,hb⟩:=rd.ty b off e;exact hp b (zO hb) (hP b off e)
theorem TreeP.toAt (h:TreeP P c t w x S) (hp:∀ b,P b→B≤b):TreeAt B c t w x S:=by
 induction h with
 | mk x S vs ok hl hn hP rd all ih=>exact .mk x S vs ok hl hn (fun b off e=>hp b (hP b off e)) rd ih
theorem TreeP.fr {F:Nat→Prop} (h:TreeP P c t w x S) (hf:Fr F w w') (hp:∀ b,b<w.heap.size→P b→¬F b):TreeP P c t w' x S:=by
 induction h with
 | mk x S vs ok hl hn hP rd all ih =>
   have key:∀ b off cs fr,S.A=some ⟨b,off,none⟩→w.heap[b]?=some (.cells cs t fr)→w'.heap[b]?=w.heap[b]?:=fun b off cs fr e hb=>hf.block b (zO hb) (hp b (zO hb) (hP b off e));refine .mk x S vs ok hl hn hP ⟨fun hx=>?_,fun b off he=>?_⟩ ih
   ·obtain⟨b,off,cs,t0,fr,hA,hb,hc⟩:=rd.rd hx;exact⟨b,off,cs,t0,fr,hA,(hf.block b (zO hb) (hp b (zO hb) (hP b off hA))).trans hb,hc⟩
   ·obtain⟨cs,fr,hb⟩:=rd.ty b off he;exact⟨cs,fr,(key b off cs fr he hb).trans hb⟩
theorem TreeP.bel (h:TreeP P c t w x S) (hb:Below w.heap.size w w'):TreeP P c t w' x S:=h.fr (Fr.of_below (F:=fun _=>False) hb) (fun _ _ _ h=>h)
theorem TreeP.ok (h:TreeP P c t w x S):zX3 x:=by cases h;assumption
end
end
section
inductive Sx where
 | mk (kind:Nat) (name:List UInt8) (exprs:List Ex) (bound:Int) (thn els:List Sx)
structure Dx where
 name:List UInt8
 width:Int
 size:Int
deriving DecidableEq
structure Rx where
 name:List UInt8
 params:List Dx
 body:List Sx
structure Ix where
 block:Int
 value:Ex
structure Gx where
 blocks:Int
 width:Int
 inputs:List Dx
 ghosts:List Dx
 vars:List Dx
 arrays:List Dx
 require:Ex
 inits:List Ix
 procs:List Rx
 work:List Sx
 recover:List Sx
 invariant:Ex
structure QSt where
 s:PSt
 l:List Nat
def bs (t:String):List UInt8:=t.toList.map fun c=>UInt8.ofNat c.toNat
def kM (t:List UInt8):Option Nat :=
 if t=bs "write" then some 3 else if t=bs "flush" then some 4 else if t=bs "barrier" then some 5 else if t=bs "if" then some 6 else if t=bs "while" then some 7 else if t=bs "call" then some 8 else none
def okL (q:QSt):Bool:=decide (q.l.length≤800000000)
section
variable (E:Env)
def QSt.on (q:QSt) (s:PSt):QSt:={ q with s:=s }
def QSt.at (q:QSt):QSt:={ q with l:=q.l++[(zC E q.s).at'] }
def qS (f:Nat) (q:QSt):Option (Ex×QSt):=match zM E f q.s with
 | none=>none
 | some (x,s)=>if q.l.length+x.2.length≤800000000 then some (x.1,⟨s,q.l++x.2⟩) else none
def kN (q:QSt) (w:List UInt8):Option QSt:=if okP q.s then some (q.on (kV E q.s w)) else none
def jX (q:QSt) (w:List UInt8):Option QSt:=if okP q.s then some (q.on (wN E q.s w)) else none
def yA:Nat→QSt→List Ex→Option (List Ex×QSt)
 | 0,_,_=>none
 | f+1,q,out=>if isP E q.s [44] then(do
    let(x,q) ←qS E f (q.on (zE q.s))
    yA f q (out++[x])) else some (out,q)
def yC (f:Nat) (q:QSt):Option (List Ex×QSt):=do
 let q ←kN E q [40]
 if (zC E q.s).text≠[41]∧q.s.e=0 then
  let(x,q) ←qS E f q
  let(l,q) ←yA E f q [x]
  return (l,←jX E q [41])
 else return ([],←jX E q [41])
mutual
def jM:Nat→QSt→List Sx→Option (List Sx×QSt)
 | 0,_,_=>none
 | f+1,q,out=>if q.s.e=0 then(if okL q then(match kM (zC E q.s).text with
    | some k=>(match qY f k ⟨zE q.s,q.l++[(zC E q.s).at']⟩with
      | none=>none
      | some (x,q)=>jM f q (out++[x]))
    | none=>if (zC E q.s).kind=1∧vO (zC E q.s).text=false then(match qY f 0 (q.at E)with
      | none=>none
      | some (x,q)=>jM f q (out++[x])) else some (out,q)) else none) else some (out,q)
def qY:Nat→Nat→QSt→Option (Sx×QSt)
 | 0,_,_=>none
 | f+1,3,q=>(match qS E f q with
   | none=>none
   | some (b,q)=>match qS E f (q.on (zI E q.s [44]))with
     | none=>none
     | some (x,q)=>some (.mk 3 [] [b,x] 0 [] [],q))
 | f+1,4,q=>some (.mk 4 [] [] 0 [] [],q)
 | f+1,5,q=>some (.mk 5 [] [] 0 [] [],q)
 | f+1,6,q=>(match qS E f q with
   | none=>none
   | some (x,q)=>match kE f q with
     | none=>none
     | some (t,q)=>if isP E q.s (bs "else") then(match kE f (q.on (zE q.s))with
        | none=>none
        | some (e,q)=>some (.mk 6 [] [x] 0 t e,q)) else some (.mk 6 [] [x] 0 t [],q))
 | f+1,7,q=>(match qS E f q with
   | none=>none
   | some (x,q)=>match kE f (q.on (jB E (zI E q.s (bs "bound"))).2)with
     | none=>none
     | some (t,r)=>some (.mk 7 [] [x] (jB E (zI E q.s (bs "bound"))).1 t [],r))
 | f+1,8,q=>(match yC E f (q.on (zL E q.s))with
   | none=>none
   | some (l,r)=>some (.mk 8 (jA E q.s) l 0 [] [],r))
 | f+1,_,q=>if (zC E (zL E q.s)).text=[91] then(match kN E (q.on (zL E q.s)) [91]with
    | none=>none
    | some r=>match qS E f r with
      | none=>none
      | some (i,r)=>match jX E r [93]with
        | none=>none
        | some r=>match qS E f (r.on (zI E r.s [61]))with
          | none=>none
          | some (x,r)=>some (.mk 2 (jA E q.s) [i,x] 0 [] [],r))
   else(match qS E f (q.on (zI E (zL E q.s) [61]))with
    | none=>none
    | some (x,r)=>some (.mk 1 (jA E q.s) [x] 0 [] [],r))
def kE:Nat→QSt→Option (List Sx×QSt)
 | 0,_=>none
 | f+1,q=>match kN E q [123]with
   | none=>none
   | some q=>match jM f q []with
     | none=>none
     | some (l,q)=>match jX E q [125]with
       | none=>none
       | some q=>some (l,q)
end
def jK (w:List UInt8) (arr:Bool):Nat→QSt→List Dx→Option (List Dx×QSt)
 | 0,_,_=>none
 | f+1,q,out=>if isP E q.s w then(if okL q then(
    let n:=jA E (zE q.s)
    let s1:=zL E (zE q.s)
    let l:=q.l++[(zC E q.s).at']
    if arr then(match kN E ⟨s1,l⟩ [91]with
     | none=>none
     | some r=>match jX E (r.on (jB E r.s).2) [93]with
       | none=>none
       | some u=>jK w arr f (u.on (jB E (zI E u.s [58])).2) (out++[⟨n,(jB E (zI E u.s [58])).1,(jB E r.s).1⟩]))
    else jK w arr f ⟨(jB E (zI E s1 [58])).2,l⟩ (out++[⟨n,(jB E (zI E s1 [58])).1,0⟩])) else none) else some (out,q)
def qV (q:QSt):Dx×QSt :=
 let s1:=zL E q.s
 (⟨jA E q.s,(jB E (zI E s1 [58])).1,0⟩,⟨(jB E (zI E s1 [58])).2,q.l++[(zC E q.s).at']⟩)
def jN:Nat→QSt→List Dx→Option (List Dx×QSt)
 | 0,_,_=>none
 | f+1,q,out=>if isP E q.s [44] then(if okL q then jN f (qV E (q.on (zE q.s))).2 (out++[(qV E (q.on (zE q.s))).1]) else none) else some (out,q)
def zH1 (f:Nat) (q:QSt):Option (Rx×QSt):=do
 let n:=jA E q.s
 let q ←kN E (q.on (zL E q.s)) [40]
 let(ps,q) ←(if (zC E q.s).text≠[41]∧q.s.e=0 then(if okL q then jN E f (qV E q).2 [(qV E q).1] else none) else some ([],q))
 let q ←jX E q [41]
 let(b,q) ←kE E f q
 return (⟨n,ps,b⟩,q)
def kX:Nat→QSt→List Rx→Option (List Rx×QSt)
 | 0,_,_=>none
 | f+1,q,out=>if isP E q.s (bs "proc") then(if okL q then(do
    let(x,q) ←zH1 E f ⟨zE q.s,q.l++[(zC E q.s).at']⟩
    kX f q (out++[x])) else none) else some (out,q)
def kY:Nat→QSt→List Ix→Option (List Ix×QSt)
 | 0,_,_=>none
 | f+1,q,out=>if isP E q.s (bs "init") then(if okL q then(do
    let s1:=zE q.s
    let l:=q.l++[(zC E q.s).at']
    let(x,r) ←qS E f ⟨zI E (jB E s1).2 [61],l⟩
    kY f r (out++[⟨(jB E s1).1,x⟩])) else none) else some (out,q)
def kH (f:Nat) (q:QSt):Option (Gx×QSt):=do
 let q:=q.at E
 let nb:=jB E (zI E q.s (bs "device"))
 let nw:=jB E (zI E nb.2 (bs "width"))
 let(is,q) ←jK E (bs "input") false f (q.on nw.2) []
 let(gs,q) ←jK E (bs "ghost") false f q []
 let(vs,q) ←jK E (bs "var") false f q []
 let(az,q) ←jK E (bs "array") true f q []
 let(rq,q) ←(if isP E q.s (bs "require") then qS E f (q.on (zE q.s)) else if okL q then some (.mk 1 0 1 1 [] [],q.at E) else none)
 let(ins,q) ←kY E f q []
 let(ps,q) ←kX E f q []
 let(wk,q) ←kE E f (q.on (zI E q.s (bs "work")))
 let(rc,q) ←kE E f (q.on (zI E q.s (bs "recover")))
 let(iv,q) ←qS E f (q.on (zI E q.s (bs "invariant")))
 return (⟨nb.1,nw.1,is,gs,vs,az,rq,ins,ps,wk,rc,iv⟩,q)
end
end
section
open Go.RowKit
def Sx.kind:Sx→Nat | .mk k _ _ _ _ _=>k
def Sx.name:Sx→List UInt8 | .mk _ n _ _ _ _=>n
def Sx.exprs:Sx→List Ex | .mk _ _ l _ _ _=>l
def Sx.bound:Sx→Int | .mk _ _ _ b _ _=>b
def Sx.thn:Sx→List Sx | .mk _ _ _ _ t _=>t
def Sx.els:Sx→List Sx | .mk _ _ _ _ _ e=>e
def TTy (t:TypeId):Prop:=t=31∨t=108∨t=87∨t=90∨t=93
def Stays (P:Nat→Prop) (w w':World):Prop:=∀ (b:Nat) cs t fr,w.heap[b]?=some (.cells cs t fr)→TTy t→P b→w'.heap[b]?=w.heap[b]?
theorem Stays.trans {P:Nat→Prop} {w w1 w2:World} (h:Stays P w w1) (k:Stays P w1 w2):Stays P w w2:=fun b cs t fr hb ht hp=>(k b cs t fr ((h b cs t fr hb ht hp).trans hb) ht hp).trans (h b cs t fr hb ht hp)
theorem Stays.below {P:Nat→Prop} {w w':World} (h:Below w.heap.size w w'):Stays P w w':=fun b _ _ _ hb _ _=>h.block b (zO hb)
theorem Stays.fr {P F:Nat→Prop} {w w':World} (h:Fr F w w') (hF:∀ b,b<w.heap.size→P b→¬F b):Stays P w w':=fun b _ _ _ hb _ hp=>h.block b (zO hb) (hF b (zO hb) hp)
theorem Stays.mono {P P':Nat→Prop} {w w':World} (h:Stays P w w') (hp:∀ b,b<w.heap.size→P' b→P b):Stays P' w w':=fun b cs t fr hb ht hq=>h b cs t fr hb ht (hp b (zO hb) hq)
theorem Stays.box {P:Nat→Prop} {w w':World} {g:Nat} {t':TypeId} {cs:Array Value} (h:Fr (fun k=>k=g) w w') (hk:Bk w g t' cs) (hne:¬TTy t'):Stays P w w':=by intro b cs2 t fr hb ht _;refine h.block b (zO hb) ?_;rintro rfl;unfold Bk at hk;rw [hb]at hk;injection hk with hk;injection hk with _ e;exact hne (e▸ht)
theorem RdT.stay {P:Nat→Prop} {w w':World} {A:Option Addr} {t:TypeId} {xs:List Value} (h:RdT w A t xs) (hP:∀ b off,A=some ⟨b,off,none⟩→P b) (ht:TTy t) (hs:Stays P w w'):RdT w' A t xs :=
 ⟨fun hx=>by obtain⟨b,off,cs,t0,fr,rfl,hb,hc⟩:=h.rd hx;obtain⟨cs',fr',hb'⟩:=h.ty b off rfl;rw [hb']at hb;injection hb with hb;injection hb with e1 e2 e3;subst e1 e2 e3;exact⟨b,off,_,_,_,rfl,(hs b _ _ _ hb' ht (hP b off rfl)).trans hb',hc⟩,
 fun b off he=>by obtain⟨cs,fr,hb⟩:=h.ty b off he;exact⟨cs,fr,(hs b _ _ _ hb ht (hP b off he)).trans hb⟩⟩
theorem qW:TTy 31:=.inl rfl
theorem yW:TTy 108:=.inr (.inl rfl)
theorem qC:TTy 87:=.inr (.inr (.inl rfl))
theorem jZ:TTy 90:=.inr (.inr (.inr (.inl rfl)))
theorem zD1:TTy 93:=.inr (.inr (.inr (.inr rfl)))
theorem zS5:¬TTy 3:=by unfold TTy;decide
theorem zX8:¬TTy 152:=by unfold TTy;decide
section
variable {α β:Type}
structure qD6 (A:(Nat→Prop)→World→α→β→Prop):Prop where
 stay:∀ P w w' y v,Stays P w w'→A P w y v→A P w' y v
 mono:∀ (P P':Nat→Prop) w y v,(∀ b,b<w.heap.size→P b→P' b)→A P w y v→A P' w y v
inductive RowG (c:α→β→List Value) (t:TypeId) (A:(Nat→Prop)→World→α→β→Prop) (P:Nat→Prop) (w:World):List α→SV→Prop where
 | mk (l:List α) (S:SV) (vs:List β) (hl:vs.length=l.length) (hn:S.n=l.length) (hP:∀ b off,S.A=some ⟨b,off,none⟩→P b) (rd:RdT w S.A t ((l.zip vs).flatMap fun p=>c p.1 p.2))
    (all:∀ (i:Nat) (y:α) (v:β),l[i]?=some y→vs[i]?=some v→A P w y v):RowG c t A P w l S
variable {c:α→β→List Value} {t:TypeId} {A:(Nat→Prop)→World→α→β→Prop} {P P':Nat→Prop} {w w':World} {l:List α} {S:SV}
theorem RowG.len (h:RowG c t A P w l S):S.n=l.length:=by cases h;assumption
theorem RowG.stay (I:qD6 A) (ht:TTy t) (h:RowG c t A P w l S) (hs:Stays P w w'):RowG c t A P w' l S:=by
 cases h with
 | mk vs hl hn hP rd all=>exact .mk l S vs hl hn hP (rd.stay hP ht hs) fun i y v hy hv=>I.stay P w w' y v hs (all i y v hy hv)
theorem RowG.mono (I:qD6 A) (h:RowG c t A P w l S) (hp:∀ b,b<w.heap.size→P b→P' b):RowG c t A P' w l S:=by
 cases h with
 | mk vs hl hn hP rd all =>
   refine .mk l S vs hl hn (fun b off e=>?_) rd fun i y v hy hv=>I.mono P P' w y v hp (all i y v hy hv);obtain⟨cs,fr,hb⟩:=rd.ty b off e;exact hp b (zO hb) (hP b off e)
theorem RowG.nil:RowG c t A P w [] ⟨none,0,0⟩:=.mk [] _ [] rfl rfl (fun _ _ h=>by cases h) RdT.nil (fun i y v h _=>by simp at h)
theorem RowG.item (I:qD6 A) (ht:TTy t):qD6 (fun P w (l:List α) (S:SV)=>RowG c t A P w l S):=⟨fun P w w' y v hs h=>h.stay I ht hs,fun P P' w y v hp h=>h.mono I hp⟩
def OwnG (c:α→β→List Value) (t:TypeId) (m:Nat) (A:(Nat→Prop)→World→α→β→Prop) (B:Nat) (w:World) (l:List α) (S:SV):Prop :=
 ∃ vs:List β,vs.length=l.length∧S.n=l.length∧w.ownsRow B t m (uL S) S.n ((l.zip vs).flatMap fun p=>c p.1 p.2)∧∀ (i:Nat) (y:α) (v:β),l[i]?=some y→vs[i]?=some v→A (fun k=>B≤k∧(uL S).ownBlock≠some k) w y v
variable {m B:Nat}
theorem OwnG.nil:OwnG c t m A B w [] ⟨none,0,0⟩:=⟨[],rfl,rfl,⟨Ym,.inl ⟨rfl,rfl⟩⟩,fun i y v h _=>by simp at h⟩
theorem OwnG.len (h:OwnG c t m A B w l S):S.n=l.length:=by obtain⟨vs,h1,h2,h3⟩:=h;exact h2
theorem OwnG.stay (I:qD6 A) (ht:TTy t) (h:OwnG c t m A B w l S) (hs:Stays (fun k=>B≤k) w w'):OwnG c t m A B w' l S:=by
 obtain⟨vs,h1,h2,h3,h4⟩:=h;refine⟨vs,h1,h2,?_,fun i y v hy hv=>I.stay _ w w' y v (hs.mono fun b _ hb=>hb.1) (h4 i y v hy hv)⟩;refine⟨h3.1,?_⟩;rcases h3.2 with h0 | ⟨g',cap,cur,e,hbs,hh,rest⟩
 ·exact .inl h0
 ·exact .inr ⟨g',cap,cur,e,hbs,(hs g' _ _ _ hh ht hbs).trans hh,rest⟩
theorem OwnG.row (I:qD6 A) (h:OwnG c t m A B w l S):RowG c t A (fun k=>B≤k) w l S:=by
 obtain⟨vs,h1,h2,h3,h4⟩:=h;refine .mk l S vs h1 h2 (fun b off e=>?_) (RdT.of_own h3) fun i y v hy hv=>I.mono _ _ w y v (fun b _ hb=>hb.1) (h4 i y v hy hv);rcases h3.2 with⟨h0,_⟩ | ⟨g',cap,cur,h0,hbs,_⟩
 ·injection h0 with h0;rw [h0]at e;cases e
 ·injection h0 with h0;rw [h0]at e;injection e with e;injection e with e;omega
theorem OwnG.run (I:qD6 A) {ts:TypeId} (E:El Tryz.prog ts t m) (ht:TTy t) (h1:∀ x v,∀ u∈c x v,u.oneCell'=true) (hc:∀ x v,(c x v).length=m)
 (h:OwnG c t m A B w l S) (x:α) (v:β) (hx:A (fun k=>B≤k∧(Value.slice S.A S.n S.c).ownBlock≠some k) w x v) (Ad:Option Addr) (cc:Nat) (hr:Rd w Ad (c x v)) (hn:S.n<1000000000) (hB:B≤w.heap.size) (ty:TypeId) :
 ∃ A' c' w',(Builtin.append_ #[ts,ts] ty #[.slice S.A S.n S.c,.slice Ad 1 cc]).run Tryz.prog w=.ok (.slice A' (S.n+1) c') w'∧OwnG c t m A B w' (l++[x]) ⟨A',S.n+1,c'⟩∧Fr (fun k=>(Value.slice S.A S.n S.c).ownBlock=some k) w w':=by
 obtain⟨vs,g1,g2,g3,g4⟩:=h;obtain⟨A',c',w',hrun,ho,hg,hat⟩:=zG6 E ty B _ S.n _ g3 Ad 1 cc (c x v) hr (by rw [hc,Nat.one_mul]) (h1 x v) Yo hB;have hf:Fr (fun k=>(uL S).ownBlock=some k) w w':=(Fr.refl _ _).grown hg (fun k hk=>.inl hk);refine⟨A',c',w',hrun,⟨vs++[v],by simp [g1],by simp [g2],?_,?_⟩,hf⟩
 ·rw [List.zip_append g1.symm,List.flatMap_append];simpa using ho
 ·have key:∀ y u,A (fun k=>B≤k∧(uL S).ownBlock≠some k) w y u→A (fun k=>B≤k∧(Value.slice A' (S.n+1) c').ownBlock≠some k) w' y u:=by
   intro y u hy;have a1:=I.mono _ (fun k=>(B≤k∧(uL S).ownBlock≠some k)∧k<w.heap.size) w y u (fun b hb hp=>⟨hp,hb⟩) hy;have a2:=I.stay _ w w' y u (Stays.fr hf (fun b _ hp e=>hp.1.2 e)) a1;refine I.mono _ _ w' y u (fun b _ hp=>⟨hp.1.1,?_⟩) a2;rcases hat with e | e
   ·rw [e];exact hp.1.2
   ·rw [e];intro e2;injection e2 with e2;have:=hp.2;omega
  intro i y u hy hu;rcases Nat.lt_or_ge i l.length with hi | hi
  ·rw [cI hi]at hy;rw [cI Yo]at hu;exact key y u (g4 i y u hy hu)
  ·rw [cH hi]at hy;rw [cH Yo]at hu;have hi0:i-l.length=0:=by
    rcases Nat.eq_zero_or_pos (i-l.length)with h | h
    ·exact h
    ·rw [cW Yp]at hy;cases hy
   rw [hi0]at hy;rw [g1,hi0]at hu;simp at hy hu;subst hy hu;exact key _ _ hx
end
theorem jC6 {P:Program} {t ty0:TypeId} {w w':World} {o:Oper} {a:Act} {K:Act→World→Prop} {Q:Exit→Act→World→Prop} (s x:Operand) (ho:o.op=.call { callee:=.builtin .append,args:=#[s,x],argTypes:=#[t,t] }) (v u r:Value) (hs:a.eval s=v) (hx:a.eval x=u)
 (hrun:(Builtin.append_ #[t,t] o.type #[v,u]).run P w=.ok r w') (h:K (a.put o.dst r) w'):o.wp P a w K Q:=by
 unfold Oper.wp execOp;simp only [ho,resolve,invoke,builtin,Sem.run_bind,Sem.run_pure,Result.andThen_ok,List.map_toArray,lY,List.map_nil,hs,hx,hrun];exact h
theorem TreeP.stay {P:Nat→Prop} {w w':World} {x:Ex} {S:SV} (h:TreeP P qX 31 w x S) (hs:Stays P w w'):TreeP P qX 31 w' x S:=by
 induction h with
 | mk x S vs ok hl hn hP rd all ih=>exact .mk x S vs ok hl hn hP (rd.stay hP qW hs) ih
abbrev TX (P:Nat→Prop) (w:World) (x:Ex) (S:SV):Prop:=TreeP P qX 31 w x S
theorem itX:qD6 TX:=⟨fun P w w' y v hs h=>h.stay hs,fun P P' w y v hp h=>h.mono hp⟩
abbrev jL7 (P:Nat→Prop) (w:World) (l:List Ex) (S:SV):Prop:=RowG qX 31 TX P w l S
abbrev OwnX (B:Nat) (w:World) (l:List Ex) (S:SV):Prop:=OwnG qX 31 6 TX B w l S
def zC6 (x:Sx) (v:SV×SV×SV):List Value:=[uB x.kind,uR x.name,.slice v.1.A v.1.n v.1.c,uI x.bound,.slice v.2.1.A v.2.1.n v.2.1.c,.slice v.2.2.A v.2.2.n v.2.2.c]
structure kM4 (x:Sx):Prop where
 k:x.kind≤255
 b0:-9223372036854775808≤x.bound
 b1:x.bound≤9223372036854775807
 n:x.name.length≤1000000
inductive StsP (P:Nat→Prop) (w:World):List Sx→SV→Prop where
 | mk (l:List Sx) (S:SV) (vs:List (SV×SV×SV)) (hl:vs.length=l.length) (hn:S.n=l.length) (hP:∀ b off,S.A=some ⟨b,off,none⟩→P b) (rd:RdT w S.A 108 ((l.zip vs).flatMap fun p=>zC6 p.1 p.2))
    (ok:∀ (i:Nat) (y:Sx) (v:SV×SV×SV),l[i]?=some y→vs[i]?=some v→kM4 y)
    (ex:∀ (i:Nat) (y:Sx) (v:SV×SV×SV),l[i]?=some y→vs[i]?=some v→jL7 P w y.exprs v.1)
    (th:∀ (i:Nat) (y:Sx) (v:SV×SV×SV),l[i]?=some y→vs[i]?=some v→StsP P w y.thn v.2.1)
    (el:∀ (i:Nat) (y:Sx) (v:SV×SV×SV),l[i]?=some y→vs[i]?=some v→StsP P w y.els v.2.2):StsP P w l S
theorem StsP.stay {P:Nat→Prop} {w w':World} {l:List Sx} {S:SV} (h:StsP P w l S) (hs:Stays P w w'):StsP P w' l S:=by
 induction h with
 | mk l S vs hl hn hP rd ok ex th el ih1 ih2=>exact .mk l S vs hl hn hP (rd.stay hP yW hs) ok (fun i y v hy hv=>(ex i y v hy hv).stay itX qW hs) ih1 ih2
theorem StsP.mono {P P':Nat→Prop} {w:World} {l:List Sx} {S:SV} (h:StsP P w l S) (hp:∀ b,b<w.heap.size→P b→P' b):StsP P' w l S:=by
 induction h with
 | mk l S vs hl hn hP rd ok ex th el ih1 ih2 =>
   refine .mk l S vs hl hn (fun b off e=>?_) rd ok (fun i y v hy hv=>(ex i y v hy hv).mono itX hp) ih1 ih2;obtain⟨cs,fr,hb⟩:=rd.ty b off e;exact hp b (zO hb) (hP b off e)
theorem StsP.len {P:Nat→Prop} {w:World} {l:List Sx} {S:SV} (h:StsP P w l S):S.n=l.length:=by cases h;assumption
theorem StsP.nil {P:Nat→Prop} {w:World}:StsP P w [] ⟨none,0,0⟩:=.mk [] _ [] rfl rfl (fun _ _ h=>by cases h) RdT.nil (fun i y v h _=>by simp at h) (fun i y v h _=>by simp at h) (fun i y v h _=>by simp at h) (fun i y v h _=>by simp at h)
structure SxP (P:Nat→Prop) (w:World) (x:Sx) (v:SV×SV×SV):Prop where
 ok:kM4 x
 ex:jL7 P w x.exprs v.1
 th:StsP P w x.thn v.2.1
 el:StsP P w x.els v.2.2
theorem itS:qD6 SxP:=⟨fun P w w' y v hs h=>⟨h.ok,h.ex.stay itX qW hs,h.th.stay hs,h.el.stay hs⟩,fun P P' w y v hp h=>⟨h.ok,h.ex.mono itX hp,h.th.mono hp,h.el.mono hp⟩⟩
abbrev jC7 (B:Nat) (w:World) (l:List Sx) (S:SV):Prop:=OwnG zC6 108 6 SxP B w l S
theorem StsP.of {P:Nat→Prop} {w:World} {l:List Sx} {S:SV} (h:RowG zC6 108 SxP P w l S):StsP P w l S:=by
 cases h with
 | mk vs hl hn hP rd all=>exact .mk l S vs hl hn hP rd (fun i y v hy hv=>(all i y v hy hv).ok) (fun i y v hy hv=>(all i y v hy hv).ex) (fun i y v hy hv=>(all i y v hy hv).th) (fun i y v hy hv=>(all i y v hy hv).el)
theorem OwnG.sts {B:Nat} {w:World} {l:List Sx} {S:SV} (h:jC7 B w l S):StsP (fun k=>B≤k) w l S:=.of (h.row itS)
def yX (x:Dx) (_:Unit):List Value:=[uR x.name,uI x.width,uI x.size]
structure jO4 (x:Dx):Prop where
 n:x.name.length≤1000000
 w0:-9223372036854775808≤x.width
 w1:x.width≤9223372036854775807
 s0:-9223372036854775808≤x.size
 s1:x.size≤9223372036854775807
def DxP (_:Nat→Prop) (_:World) (x:Dx) (_:Unit):Prop:=jO4 x
theorem itD:qD6 DxP:=⟨fun P w w' y v hs h=>h,fun P P' w y v hp h=>h⟩
abbrev zE2 (P:Nat→Prop) (w:World) (l:List Dx) (S:SV):Prop:=RowG yX 87 DxP P w l S
abbrev OwnD (B:Nat) (w:World) (l:List Dx) (S:SV):Prop:=OwnG yX 87 3 DxP B w l S
def jC8 (x:Ix) (S:SV):List Value:=uI x.block :: qX x.value S
structure IxP (P:Nat→Prop) (w:World) (x:Ix) (S:SV):Prop where
 b0:-9223372036854775808≤x.block
 b1:x.block≤9223372036854775807
 t:TX P w x.value S
theorem itI:qD6 IxP:=⟨fun P w w' y v hs h=>⟨h.b0,h.b1,h.t.stay hs⟩,fun P P' w y v hp h=>⟨h.b0,h.b1,h.t.mono hp⟩⟩
abbrev jT5 (P:Nat→Prop) (w:World) (l:List Ix) (S:SV):Prop:=RowG jC8 90 IxP P w l S
abbrev kL1 (B:Nat) (w:World) (l:List Ix) (S:SV):Prop:=OwnG jC8 90 7 IxP B w l S
def zP2 (x:Rx) (v:SV×SV):List Value:=[uR x.name,.slice v.1.A v.1.n v.1.c,.slice v.2.A v.2.n v.2.c]
structure RxP (P:Nat→Prop) (w:World) (x:Rx) (v:SV×SV):Prop where
 n:x.name.length≤1000000
 ps:zE2 P w x.params v.1
 b:StsP P w x.body v.2
theorem itR:qD6 RxP:=⟨fun P w w' y v hs h=>⟨h.n,h.ps.stay itD qC hs,h.b.stay hs⟩,fun P P' w y v hp h=>⟨h.n,h.ps.mono itD hp,h.b.mono hp⟩⟩
abbrev jT6 (P:Nat→Prop) (w:World) (l:List Rx) (S:SV):Prop:=RowG zP2 93 RxP P w l S
abbrev kQ3 (B:Nat) (w:World) (l:List Rx) (S:SV):Prop:=OwnG zP2 93 3 RxP B w l S
end
def kD9:Nat→Nat→List UInt8
 | 0,n=>[]
 | f+1,n=>if n<10 then [UInt8.ofNat (48+n)] else kD9 f (n / 10)++[UInt8.ofNat (48+n % 10)]
def qZ (n:Nat):List UInt8:=kD9 20 n
def unT (o:Nat):List UInt8:=([[],[126],[45]]:List (List UInt8)).getD (o % 3) []
def biT (o:Nat):List UInt8:=([[],[],[],[43],[32,45,32],[42],[47],[37],[38],[124],[94],[60,60],[62,62],[61,61],[33,61],[32,60,32],[60,61]]:List (List UInt8)).getD (o % 17) []
def zM6:Ex→Nat | .mk k _ _ _ _ _=>k
def zI5 (wide:Bool) (y:Ex) (t:List UInt8):List UInt8:=if wide∨zM6 y=6∨zM6 y=7∨zM6 y=5 then [40,32]++t++[41] else t
mutual
def zP (wide:Bool):Ex→List UInt8
 | .mk k o v wd n l =>
   let r:=yD wide l
   let s:Nat→List UInt8:=fun i=>match l[i]? with
    | some y=>zI5 wide y (r.getD i [])
    | none=>[]
   if k=1 then qZ v++[58]++qZ wd.toNat
   else if k=2 then n
   else if k=3 then n++[91]++r.getD 0 []++[93]
   else if k=4 then bs "disk ["++r.getD 0 []++[93]
   else if k=5 then unT o++s 0
   else if k=6 then s 0++biT o++s 1
   else if k=7 then s 0++bs "? "++s 1++bs " : "++s 2
   else s 0++bs " @"++qZ wd.toNat
def yD (wide:Bool):List Ex→List (List UInt8)
 | []=>[]
 | x :: l=>zP wide x :: yD wide l
end
def qT:List (List UInt8)→List UInt8
 | []=>[]
 | [x]=>x
 | x :: l=>x++[44]++qT l
mutual
def kF (wide:Bool):List Sx→List UInt8
 | []=>[]
 | x :: l=>jH wide x++bs " # \n"++kF wide l
def jH (wide:Bool):Sx→List UInt8
 | .mk k n es b t e =>
   let r:=es.map (zP wide)
   let tt:=[123]++kF wide t++[125]
   let te:=[123]++kF wide e++[125]
   if k=1 then n++[61]++r.getD 0 []
   else if k=2 then n++[91]++r.getD 0 []++[93,61]++r.getD 1 []
   else if k=3 then bs "write "++qT r
   else if k=4 then bs "flush"
   else if k=5 then bs "barrier"
   else if k=6 then bs "if "++r.getD 0 []++tt++(if e≠[]∨wide then bs "else"++te else [])
   else if k=7 then bs "while "++r.getD 0 []++bs " bound "++qZ b.toNat++tt
   else if k=8 then bs "call "++n++[40]++qT r++[41]
   else []
end
def jJ (wide:Bool) (l:List Sx):List UInt8:=[123]++kF wide l++[125]
def wQ (w:String) (arr:Bool) (d:Dx):List UInt8:=bs ("\n"++w)++d.name++(if arr then [91]++qZ d.size.toNat++[93] else [])++[58]++qZ d.width.toNat
def zH2 (wide:Bool) (p:Gx):List UInt8 :=
 bs "device "++qZ p.blocks.toNat++bs " width "++qZ p.width.toNat
  ++ p.inputs.flatMap (wQ "input " false)++p.ghosts.flatMap (wQ "ghost " false)++p.vars.flatMap (wQ "var " false)++p.arrays.flatMap (wQ "array " true)
  ++ bs " require "++zP wide p.require
  ++ p.inits.flatMap (fun x=>bs " init "++qZ x.block.toNat++[61]++zP wide x.value)
  ++ p.procs.flatMap (fun x=>bs "\nproc "++x.name++[40]++qT (x.params.map fun d=>d.name++[58]++qZ d.width.toNat)++[41]++jJ wide x.body)
  ++ bs "\nwork"++jJ wide p.work++bs "recover"++jJ wide p.recover++bs "invariant "++zP wide p.invariant
section
open Go.RowKit
section
variable {P:Program} {ops:Array Oper} {md:Region.Mode} {w:World}
def jC9 (md:Region.Mode) (ops:Array Oper) (n:Nat):Bool :=
 (List.range ops.size).all fun t=>decide (t≤n) || (List.range t).any fun j=>decide (n≤j) && Region.waitsFor md ops t j
theorem qA4 {n t:Nat} {listed:Array Bool} (hc:jC9 md ops n=true) (inv:HeadInv md ops n listed) (ht:n<t):t ∉ Region.ready md ops listed:=by
 intro hr;obtain⟨_,ot,hot,hall⟩:=mem_ready.1 hr;have htlt:t<ops.size:=(Array.getElem?_eq_some_iff.1 hot).1;have h1:=List.all_eq_true.1 hc t (List.mem_range.2 htlt);simp only [Bool.or_eq_true,cC]at h1;rcases h1 with h1 | h1
 ·omega
 ·obtain⟨j,hj,hj2⟩:=List.any_eq_true.1 h1;simp only [lZ,cC]at hj2;obtain⟨o',ho',e,he,hb,hon⟩:=Region.waitsFor_spec hj2.2;obtain rfl:o'=ot:=Option.some.inj (ho'.symm.trans hot);have h2:=hall e he hb;have hjt:=List.mem_range.1 hj;rw [hon,getD_both (inv.tail j hj2.1 Yo)]at h2;cases h2
theorem qW1 {n:Nat} {listed:Array Bool} (hs:Region.sinkB md ops n=true) (hn:n<ops.size) (inv:HeadInv md ops n listed) :
 ∀ (d i:Nat),n-i=d→i<n→listed.getD i true=false→n ∉ Region.ready md ops listed:=by
 intro d;induction d using Nat.strongRecOn with
 | _ d ih =>
   intro i hd hi hun hr;obtain⟨_,on,hon',hall⟩:=mem_ready.1 hr;obtain⟨j,hj,hj2⟩:=List.any_eq_true.1 (List.all_eq_true.1 hs i (List.mem_range.2 hi));simp only [lZ,cC]at hj2;obtain⟨oj,hoj,e,he,hb,hon⟩:=Region.waitsFor_spec hj2.2;have hjn:j≤n:=by have:=List.mem_range.1 hj;omega
   rcases Nat.lt_or_ge j n with hlt | hge
   ·cases hl:listed.getD j false with
    | true =>
      have h2:=inv.closed j oj hoj hl e he hb;rw [hon,getD_both hun]at h2;cases h2
    | false=>exact ih (n-j) Yo j rfl hlt (getD_in (by rw [inv.size];omega) hl) hr
   ·obtain rfl:j=n:=by omega
    obtain rfl:oj=on:=Option.some.inj (hoj.symm.trans hon');have h2:=hall e he hb;rw [hon,getD_both hun]at h2;cases h2
theorem zM7 {n i j:Nat} {listed:Array Bool} (hs:Region.sinkB md ops n=true) (hc:jC9 md ops n=true) (hn:n<ops.size) (inv:HeadInv md ops n listed) (hi:i<n) (hun:listed.getD i true=false)
 (hj:j∈Region.ready md ops listed):j<n:=by
 rcases Nat.lt_trichotomy j n with h | h | h
 ·exact h
 ·subst h;exact absurd hj (qW1 hs hn inv _ i rfl hi hun)
 ·exact absurd hj (qA4 hc inv h)
theorem qW2 {n i:Nat} {oi:Oper} {v:Value} {L:Array Bool→Act→Prop} (hi:ops[i]?=some oi) (hsel:∀ (j:Nat) (o:Oper) cs b,ops[j]?=some o→o.op≠.select cs b)
 (hs:Region.sinkB md ops n=true) (hc:jC9 md ops n=true) (hn:n<ops.size) (hin:i<n) (hdone:∀ listed a,L listed a→∀ j∈Region.ready md ops listed,n≤j) :
 ∀ (f:Nat) (listed:Array Bool) (a:Act),HeadInv md ops n listed →
  (∀ j oj,ops[j]?=some oj→j≠i→listed.getD j true=false→(∀ e∈oj.after,Region.binds md e=true→e.on≠i)→oi.apart ops oj=true) →
  i∈Region.ready md ops listed→YieldsAt P ops w oi v a →
  wpAnyL P md ops w n L f (listed.setIfInBounds i true) (a.put oi.dst v)→wpAnyL P md ops w n L (f+1) listed a:=by
 intro f;induction f with
 | zero =>
   intro listed a inv _ hr hy H;refine⟨fun h=>(by rw [h]at hr;cases hr),fun j hj=>⟨zM7 hs hc hn inv hin (mem_ready.1 hr).1 hj,?_⟩⟩;by_cases hji:j=i
   ·subst hji;exact hy.stOp hi H
   ·have h1:=hdone _ _ H j (ready_mono hj hji);have h2:=zM7 hs hc hn inv hin (mem_ready.1 hr).1 hj;omega
 | succ f ih =>
   intro listed a inv hfree hr hy H;have hun:=(mem_ready.1 hr).1;refine⟨fun h=>(by rw [h]at hr;cases hr),fun j hj=>?_⟩;have hjn:=zM7 hs hc hn inv hin hun hj;refine⟨hjn,?_⟩;by_cases hji:j=i
   ·subst hji;exact hy.stOp hi H
   ·obtain⟨hjun,oj,hoj,hall⟩:=mem_ready.1 hj;have hnot:∀ e∈oj.after,Region.binds md e=true→e.on≠i:=by intro e he hb heq;have h1:=hall e he hb;rw [heq,getD_both hun]at h1;cases h1
    have h2:=stOp_put hoj (hfree j oj hoj hji hjun hnot) (fun cs b=>hsel i oi cs b hi) (fun cs b=>hsel j oj cs b hoj) hy (H.2 j (ready_mono hj hji)).2;refine stOp_mono (fun a' h3=>ih (listed.setIfInBounds j true) a' (inv.set hj hjn) ?_ (ready_mono hr (cX hji)) h3.1 (by rw [Array.setIfInBounds_comm _ _ hji];exact h3.2)) h2;intro k ok hk hki hunk hno;refine hfree k ok hk hki ?_ hno;by_cases hjk:j=k
    ·subst hjk;exact hjun
    ·rwa [getD_set_ne true hjk]at hunk
def zA6 (md:Region.Mode) (ops:Array Oper) (n:Nat):Nat→Nat→Array Bool→Bool
 | 0,_,listed=>decide (Region.ready md ops listed=[n]) && Region.lexFrom md ops (ops.size-n-1) (n+1) (listed.setIfInBounds n true)
 | f+1,k,listed=>(Region.ready md ops listed).contains k && Region.free md ops listed k && zA6 md ops n f (k+1) (listed.setIfInBounds k true)
def kM5 (md:Region.Mode) (ops:Array Oper) (n:Nat):Bool :=
 Region.noSelect ops && decide (n<ops.size) && Region.sinkB md ops n && jC9 md ops n && zA6 md ops n n 0 (Array.replicate ops.size false)
theorem qP9 {n:Nat} {Lq:Act→Prop} (hsel:Region.noSelect ops=true) (hs:Region.sinkB md ops n=true) (hc:jC9 md ops n=true) (hn:n<ops.size) :
 ∀ (l:List Oper) (k:Nat) (listed:Array Bool) (a:Act),(∀ j,j<l.length→l[j]?=ops[k+j]?)→k+l.length=n→HeadInv md ops n listed →
 zA6 md ops n l.length k listed=true→wpStill P ops w Lq l a →
 wpAnyL P md ops w n (fun listed' a'=>zA6 md ops n 0 n listed'=true∧Lq a') l.length listed a
 | [],k,listed,a,_,hk,_,hB,h=>by
   obtain rfl:k=n:=by simpa using hk
   exact⟨hB,h⟩
 | o :: l,k,listed,a,hl,hk,inv,hB,h=>by
   have h0:ops[k]?=some o:=by simpa using(hl 0 Ym).symm
   simp only [Yc,zA6,lZ]at hB;have hkn:k<n:=by simp only [Yc]at hk;omega
   have hr:k∈Region.ready md ops listed:=by simpa using hB.1.1
   obtain⟨v,hy,hK⟩:=yieldsAt_of_stOp h0 (K:=wpStill P ops w Lq l) (by unfold stOp;simp only [h0];exact h)
   refine qW2 h0 (Region.noSelect_spec hsel) hs hc hn hkn ?_ l.length listed a inv (Region.free_spec h0 hB.1.2) hr hy
    (qP9 hsel hs hc hn l (k+1) _ _ (fun j hj=>by have:=hl (j+1) Yp;simpa [Nat.add_assoc,Nat.add_comm 1 j]using this) (by simp only [Yc]at hk;omega) (inv.set hr hkn) hB.2 hK)
   intro listed' a' hL j hj;simp only [zA6,lZ,cC]at hL;rw [hL.1.1]at hj;have:j=n:=by simpa using hj
   omega
theorem qA5 {id:Nat} {Q:Exit→Act→World→Prop} {a:Act} {w:World} {l:List Oper} (n:Nat) (hm:P.follows .mixedOrders=true) (hB:kM5 .any l.toArray n=true)
 (h:wpStill P l.toArray w.drew (fun a1=>wpOp P l.toArray Q n (fun a2 w2=>wpStill P l.toArray w2 (fun a3=>Q .normal a3 w2) (l.drop (n+1)) a2) a1 w.drew) (l.take n) a) :
 (Code.region id l.toArray true).wp P Q a w:=by
 simp only [kM5,lZ,cC]at hB;obtain⟨⟨⟨⟨hsel,hn⟩,hs⟩,hc⟩,hlex⟩:=hB;have hn':n<l.length:=by simpa using hn
 have htl:(l.take n).length=n:=Yp
 have inv0:HeadInv .any l.toArray n (Array.replicate l.toArray.size false) :=
  ⟨Ym,fun j oj _ hl=>(by rw [getD_replicate_false]at hl;cases hl),fun t _ ht=>getD_in (by simpa using ht) (getD_replicate_false _ _)⟩
 have H:=qP9 (md:=.any) hsel hs hc hn (l.take n) 0 _ a (fun j hj=>by
  have hj':j<n:=by rw [htl]at hj;exact hj
  simp [hj']) (by simpa using htl) inv0 (by rw [htl];exact hlex) h
 refine wp_region_any hm ?_;have hk:=wpAny_of_head (Q':=Q) (g:=l.toArray.size-n) (fun listed a' hL=>?_) _ _ _ H
 ·rw [htl,show n+(l.toArray.size-n)=l.toArray.size by omega]at hk;exact hk
 ·obtain⟨h1,h2⟩:=hL;simp only [zA6,lZ,cC]at h1;rw [show l.toArray.size-n=(l.toArray.size-n-1)+1 by omega];refine⟨fun h0=>(by rw [h1.1]at h0;cases h0),fun i hi=>?_⟩;rw [h1.1]at hi;obtain rfl:i=n:=by simpa using hi
  refine wpOp_mono (fun a2 w2 h3=>wpAny_of_still (Q:=fun a3=>Q .normal a3 w2) (fun _ h=>h) _ _ _ ?_) h2;have hd:(l.drop (i+1)).length=l.toArray.size-i-1:=Yp;have:=wpAnyS_lex (md:=.any) hsel (l.drop (i+1)) (i+1) (listed.setIfInBounds i true) a2 (fun j=>by simp [List.getElem?_drop]) (by rw [hd];exact h1.2) h3;rwa [hd]at this
theorem wT {Q:Exit→Act→World→Prop} {K:Act→World→Prop} {a:Act} {w:World} {i:Nat} {o:Oper} (ho:ops[i]?=some o) (hg:o.guard=none)
 (h:∀ K':Act→World→Prop,(∀ a w,K a w→K' a w)→o.wp P a w K' Q):wpOp P ops Q i K a w:=by
 unfold wpOp;simp only [ho];rw [lM (by simp [Region.wanted,hg])];exact .inl (h K fun _ _ h=>h)
end
end
section
open Go.RowKit
section
variable {P:Program} {ops:Array Oper} {w:World}
theorem zG3 {Q:Act→Prop} (l:List Oper):∀ (a:Act),wpQuiet P ops (fun w'=>w'=w) Q l a→wpStill P ops w Q l a:=by
 induction l with
 | nil=>exact fun _ h=>h
 | cons o l ih =>
   intro a h;unfold wpQuiet at h;unfold wpStill;split at h
   ·rename_i hw;rw [lM hw];obtain⟨v,h1,h2⟩:=h;have h3:=h1 w rfl;unfold Oper.quietAt at h3;unfold Oper.still;generalize (execOp a.eval o).run P w=r at *;cases r with
    | ok n w' =>
      cases n <;> simp only [Oper.quietUpon]at h3 <;> simp only [Oper.stillUpon]
      case value u=>obtain⟨rfl,rfl⟩:=h3;exact⟨rfl,ih _ h2⟩
      case skip=>obtain⟨rfl,rfl⟩:=h3;exact⟨rfl,ih _ h2⟩
      case enter f args=>obtain⟨rfl,hc⟩:=h3;exact⟨rfl,v,hc,ih _ h2⟩
    | halt x w'=>simp only [Oper.quietUpon]at h3
   ·rename_i hw;rw [lN hw];exact ih _ h
theorem still_mono {Q Q':Act→Prop} (hq:∀ a,Q a→Q' a):∀ (l:List Oper) (a:Act),wpStill P ops w Q l a→wpStill P ops w Q' l a
 | [],a,h=>hq a h
 | o :: l,a,h=>by
   unfold wpStill at h ⊢;split at h
   ·rename_i hw;rw [lM hw];exact Oper.still_mono (still_mono hq l) h
   ·rename_i hw;rw [lN hw];exact still_mono hq l _ h
theorem xR {id:Nat} {Q:Exit→Act→World→Prop} {a:Act} {w:World} {l:List Oper} (n:Nat) (hm:P.follows .mixedOrders=true) (hB:kM5 .any l.toArray n=true)
 (h:wpQuiet P l.toArray (fun w'=>w'=w.drew) (fun a1=>wpOp P l.toArray Q n (fun a2 w2=>wpQuiet P l.toArray (fun w'=>w'=w2) (fun a3=>Q .normal a3 w2) (l.drop (n+1)) a2) a1 w.drew) (l.take n) a) :
 (Code.region id l.toArray true).wp P Q a w :=
 qA5 n hm hB (still_mono (fun _ h1=>wpOp_mono (fun _ _ h2=>zG3 _ _ h2) h1) _ _ (zG3 _ _ h))
end
end
section
open Go.RowKit Go.PlainAid
theorem jO5 (y:Ex):zM6 y=y.kind:=by cases y;rfl
theorem jY5 (a b:List UInt8):str a++str b=str (a++b):=(jW3 a b)
theorem zQ (a b:List UInt8) (h:a.length+b.length≤4000000) (w:World):(Op.stringOp .add (str a) (str b)).run Tryz.prog w=.ok (.string (str (a++b))) w:=by
 have h0:(str a).size+(str b).size≤4000000:=by rw [jV,jV];exact h
 have h1:(str a++str b).size≤4000000:=by rw [ByteArray.size_append];exact h0
 have h4:(((str a).size:Int)+((str b).size:Int))≤9223372036854775807:=Yo;have h5:(str a).size+(str b).size≤9223372036854775807:=Yo;rw [←jY5];simp [Op.stringOp,go_sem,h1,h4,h5]
abbrev TE (w:World) (x:Ex) (S:SV):Prop:=TreeAt 0 qX 31 w x S
theorem xS (n:Nat) (hn:n≤9) (w:World):Calls Tryz.prog 19 #[uI n] w fun e w'=>e=.returned (.string (str (qZ n)))∧w=w':=by
 have key:∀ k:Nat,k=n→Calls Tryz.prog 19 #[uI n] w fun e w'=>e=.returned (.string (str (qZ n)))∧w=w':=by
  intro k hk;match k,hk with
  | 0,rfl | 1,rfl | 2,rfl | 3,rfl | 4,rfl | 5,rfl | 6,rfl | 7,rfl | 8,rfl | 9,rfl =>
    go_enter Tryz.func19,Tryz.ntmps19
    go_wp2
    go_ret;exact⟨rfl,rfl⟩
  | k+10,h=>omega
 exact key n rfl
theorem qL5 (x y:Ex) (i:Nat) (wide:Bool) (S:SV) (hi:Hid (x.subs[i]?=some y)) (hi3:i≤2) (b2 b3:Nat) (hz:Hid ((zP wide y).length≤1000000)) (W:World) (hb2:Hid (Bk W b2 31 (uE x S))) (hb3:Hid (Bk W b3 4 #[.bool wide])) (hT:Hid (TE W x S))
 (IH:Hid (∀ (V:SV) (W':World),Hid (TE W' y V)→Calls Tryz.prog 29 #[.agg (uE y V),.bool wide] W' fun e w'=>e=.returned (.string (str (zP wide y)))∧Below W'.heap.size W' w')) :
 Calls Tryz.prog 73 #[uI i,uQ b2 0,uQ b3 0] W fun e w'=>e=.returned (.string (str (zI5 wide y (zP wide y))))∧Below W.heap.size W w':=by
 obtain⟨SA,Sn,Sc⟩:=S;have hlt:i<Sn:=by
  have h1:Sn=x.subs.length:=hT.out.len;have h2:=hi.out;rcases Nat.lt_or_ge i x.subs.length with h | h
  ·omega
  ·rw [cW h]at h2;cases h2
 obtain⟨bb,off,y',v,hA,hx,hty,hbb,hc⟩:=hT.out.sub wO (i:=i) hlt;obtain rfl:y=y':=by have h2:=hi.out;rw [h2]at hx;injection hx
 obtain⟨vA,vn,vc⟩:=v;(try dsimp only at hA);subst hA;have c0:W.cell? ⟨bb,off+i*6,none⟩=some (uB y.kind):=hc 0 _ Yo rfl;have c1:W.cell? ⟨bb,off+i*6+1,none⟩=some (uB y.op):=hc 1 _ Yo rfl;have c2:W.cell? ⟨bb,off+i*6+2,none⟩=some (uW y.value):=hc 2 _ Yo rfl;have c3:W.cell? ⟨bb,off+i*6+3,none⟩=some (uI y.width):=hc 3 _ Yo rfl;have c4:W.cell? ⟨bb,off+i*6+4,none⟩=some (uR y.name):=hc 4 _ Yo rfl;have c5:W.cell? ⟨bb,off+i*6+5,none⟩=some (.slice vA vn vc):=hc 5 _ Yo rfl;have HC0:=Ph c0;obtain⟨g0,g1,g2,g3,g4,g5⟩:=zH hb2.out;have w0:W.cell? ⟨b3,0,none⟩=some (.bool wide):=hb3.out.cell 0;have HC:=Ph (IH.out ⟨vA,vn,vc⟩ W.drew (Ph (hty.bel (lB _ _).drew)));(try dsimp only at HC);have hji:(i:Int)<(Sn:Int):=Yo;have hj0:(0:Int)≤(i:Int):=Yo;have HBB:=Ph hbb;clear hc hx hty hi hbb;obtain⟨T,hT1⟩:∃ t,zP wide y=t:=⟨_,rfl⟩;rw [hT1]at HC hz ⊢;have HZ:=hz;clear hT1 hz IH;go_enter Tryz.func73,Tryz.ntmps73
 go_upto_region 1 with fail
 refine xR 6 Yk Yk ?_;simp only [cR,List.take_zero,List.drop_succ_cons,List.drop_zero];repeat (go_big_quiet_step (fail))
 refine wpQuiet_nil ?_;refine wT rfl rfl (fun K hK=>?_);go_simp;go_at_call 29
 refine HC.out.mono ?_;rintro e w1 ⟨rfl,hb1⟩;have HB1:=Ph (zU (lB _ _).drew hb1);clear hb1 c0 c1 c2 c3 c4 c5 w0 g0 g1 g2 g3 g4 g5;refine hK _ _ ?_;clear hK K;try go_frame
 repeat (go_big_quiet_step (fail))
 refine wpQuiet_nil ?_;have c0:w1.cell? ⟨bb,off+i*6,none⟩=some (uB y.kind):=((Fr.of_below (F:=fun _=>False) HB1.out).cell HBB.out (fun e=>e)).trans HC0.out;have g5:w1.cell? ⟨b2,5,none⟩=some (.slice (some ⟨bb,off,none⟩) Sn Sc):=(zD hb2.out HB1.out).cell 5;have w0:w1.cell? ⟨b3,0,none⟩=some (.bool wide):=(zD hb3.out HB1.out).cell 0;have hzT:=HZ.out;have R1:∀ w,(Op.stringOp .add (⟨#[40,32]⟩:ByteArray) (str T)).run Tryz.prog w=.ok (.string (str ([40,32]++T))) w:=zQ [40,32] T (by show 2+T.length≤4000000;omega);have R2:∀ w,(Op.stringOp .add (str ([40,32]++T)) (⟨#[41]⟩:ByteArray)).run Tryz.prog w=.ok (.string (str ([40,32]++T++[41]))) w:=zQ ([40,32]++T) [41] (by rw [Ya];show 2+T.length+1≤4000000;omega);obtain⟨U,hU⟩:∃ u,[40,32]++T=u:=⟨_,rfl⟩;obtain⟨V,hV⟩:∃ u,U++[41]=u:=⟨_,rfl⟩;rw [hU]at R1 R2;rw [hV]at R2;have HS:Hid (∀ (b:Bool),(b=true↔(wide=true∨y.kind=6∨y.kind=7∨y.kind=5))→zI5 wide y T=if b then V else T):=Ph fun b hb=>by
  unfold zI5;rw [jO5,←hV,←hU];by_cases h:wide=true∨y.kind=6∨y.kind=7∨y.kind=5
  ·rw [lM h,lM (hb.2 h)]
  ·rw [lN h,lN (fun e=>h (hb.1 e))]
 clear hU hV hzT HZ hT hb2 hb3 HBB HC0 HC;cases wide
 ·by_cases h6:y.kind=6
  ·have e6:((y.kind:Int) == 6)=true:=by simp;omega
   have hs:zI5 _ y T=V:=HS.out true (by simp [h6]);clear h6 HS;go_wp2_with fail
   go_ret;exact⟨by first | rfl | (rw [hs];rfl),HB1.out⟩
  ·have e6:((y.kind:Int) == 6)=false:=by simp;omega
   by_cases h7:y.kind=7
   ·have e7:((y.kind:Int) == 7)=true:=by simp;omega
    have hs:zI5 _ y T=V:=HS.out true (by simp [h7]);clear h6 h7 HS;go_wp2_with fail
    go_ret;exact⟨by first | rfl | (rw [hs];rfl),HB1.out⟩
   ·have e7:((y.kind:Int) == 7)=false:=by simp;omega
    by_cases h5:y.kind=5
    ·have e5:((y.kind:Int) == 5)=true:=by simp;omega
     have hs:zI5 _ y T=V:=HS.out true (by simp [h5]);clear h6 h7 h5 HS;go_wp2_with fail
     go_ret;exact⟨by first | rfl | (rw [hs];rfl),HB1.out⟩
    ·have e5:((y.kind:Int) == 5)=false:=by simp;omega
     have hs:zI5 _ y T=T:=HS.out false (by simp [h5,h6,h7]);clear h6 h7 h5 HS;go_wp2_with fail
     go_ret;exact⟨by first | rfl | (rw [hs];rfl),HB1.out⟩
 ·have hs:zI5 _ y T=V:=HS.out true Ym;clear HS;go_wp2_with fail
  go_ret;exact⟨by first | rfl | (rw [hs];rfl),HB1.out⟩
end
end Go.Proofs.YtfdaebgllibphaaGreatDoor
