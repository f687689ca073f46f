import Derived.Deep.WholeRow
import Derived.Deep.DeepCutAuto
import Derived.Test.YtfdaebgllibphaaGreatDoorYac
set_option linter.unusedVariables false
set_option linter.unusedSimpArgs false
set_option maxRecDepth 100000
set_option maxHeartbeats 16000000
namespace Go.Proofs.YtfdaebgllibphaaGreatDoor
section
open Go.RowKit Go.PlainAid
abbrev NdV:=Nd×SV×SV
def qE7 (q:NdV):List Value:=jW9 q.1 q.2.1 q.2.2
theorem qV2 (q:NdV):(qE7 q).length=7:=rfl
structure NdsAt (B:Nat) (w:World) (A:Option Addr) (n:Nat) (L:List NdV):Prop where
 rd:Rd w A (L.flatMap qE7)
 len:L.length=n
 base:B≤w.heap.size
 all:∀ q∈L,NdAt B w q.1 q.2.1 q.2.2
theorem NdsAt.below {B:Nat} {w w':World} {A:Option Addr} {n:Nat} {L:List NdV} (h:NdsAt B w A n L) (hb:Below w.heap.size w w'):NdsAt B w' A n L:=⟨h.rd.below hb,h.len,lE h.base hb.size,fun q hq=>(h.all q hq).below hb⟩
def kL (at':Nat) (L:List NdV):List Nat:=at' :: L.flatMap fun q=>q.1.2
def qZ6 (L:List NdV):List Value:=L.flatMap fun q=>qX q.1.1 q.2.1
def jN6 (k o v:Nat) (wd:Int) (nm:List UInt8) (S R:Value):Array Value:=#[uB k,uB o,uW v,uI wd,uR nm,S,R]
def zN:Array Value:=#[uB 0,uB 0,uW 0,uI 0,uT,uN,uN]
structure WhB (w:World) (r b k o v:Nat) (wd:Int) (nm:List UInt8) (at':Nat) (L:List NdV) (W:World):Prop where
 res:Bk W r 168 zN
 out:∃ A1 c1 A2 c2,Bk W b 168 (jN6 k o v wd nm (.slice A1 L.length c1) (.slice A2 (kL at' L).length c2))∧W.ownsRow w.heap.size 31 6 (.slice A1 L.length c1) L.length (qZ6 L)∧W.ownsRow w.heap.size 3 1 (.slice A2 (kL at' L).length c2) (kL at' L).length (yV (kL at' L))
 bel:Below w.heap.size w W
theorem zR9 (a b:List Nat):yV (a++b)=yV a++yV b:=cB
theorem zS1 (at':Nat) (L:List NdV) (q:NdV):kL at' (L++[q])=kL at' L++q.1.2:=by unfold kL;simp
theorem jC2 (L:List NdV) (q:NdV):qZ6 (L++[q])=qZ6 L++qX q.1.1 q.2.1:=by unfold qZ6;simp
section
variable {w W W1 W5 W7:World} {r b k o v:Nat} {wd:Int} {nm:List UInt8} {at':Nat} {L:List NdV} {q:NdV} {A1 A2 A1' A2':Option Addr} {c1 c2 c1' c2':Nat}
theorem WhB.push1 (h:WhB w r b k o v wd nm at' L W) (hrb:r≠b) (hwb:w.heap.size≤b) (hW1:Below W.heap.size W W1)
 (h1:Bk W b 168 (jN6 k o v wd nm (.slice A1 L.length c1) (.slice A2 (kL at' L).length c2))) (h2:W.ownsRow w.heap.size 31 6 (.slice A1 L.length c1) L.length (qZ6 L)) (h3:W.ownsRow w.heap.size 3 1 (.slice A2 (kL at' L).length c2) (kL at' L).length (yV (kL at' L)))
 (hg:W1.grownBy W5 (Value.slice A1 L.length c1).ownBlock) (hw:W5.ownsRow w.heap.size 31 6 (.slice A1' (L.length+1) c1') (L.length+1) (qZ6 L++qX q.1.1 q.2.1)) :
 Bk W5 b 168 (jN6 k o v wd nm (.slice A1 L.length c1) (.slice A2 (kL at' L).length c2))∧Bk W5 r 168 zN∧W5.ownsRow w.heap.size 3 1 (.slice A2 (kL at' L).length c2) (kL at' L).length (yV (kL at' L))∧Below w.heap.size w W5∧(∀ g cs,Bk W1 g 168 cs→Bk W5 g 168 cs):=by
 have h2':W1.ownsRow w.heap.size 31 6 (.slice A1 L.length c1) L.length (qZ6 L):=jP (F:=fun _=>False) h2 (Fr.of_below hW1) (fun _ _ h=>h);have h3':W1.ownsRow w.heap.size 3 1 (.slice A2 (kL at' L).length c2) (kL at' L).length (yV (kL at' L)):=jP (F:=fun _=>False) h3 (Fr.of_below hW1) (fun _ _ h=>h);have hn:∀ g cs,Bk W1 g 168 cs→Bk W5 g 168 cs:=fun g cs hb=>hb.grown hg (yR h2' hb Yd);have hB:Below w.heap.size w W5:=(zU h.bel hW1).grown hg ((zU h.bel hW1).size) (fun j hj=>(qF h2' j hj).1);refine⟨hn _ _ (zD h1 hW1),hn _ _ (zD h.res hW1),?_,hB,hn⟩;refine jP (F:=fun j=>(Value.slice A1 L.length c1).ownBlock=some j) h3' ((Fr.refl _ W1).grown hg (fun j hj=>.inl hj)) (fun j hj e=>?_);obtain⟨_,cs,hk⟩:=qF h3' j hj;exact yR h2' hk Yd e.symm
theorem WhB.push2 (hrb:r≠b) (hwb:w.heap.size≤b) (h1:Bk W5 b 168 (jN6 k o v wd nm (.slice A1 L.length c1) (.slice A2 (kL at' L).length c2))) (hr:Bk W5 r 168 zN) (h2:W5.ownsRow w.heap.size 31 6 (.slice A1' (L.length+1) c1') (L.length+1) (qZ6 L++qX q.1.1 q.2.1)) (h3:W5.ownsRow w.heap.size 3 1 (.slice A2 (kL at' L).length c2) (kL at' L).length (yV (kL at' L))) (hB:Below w.heap.size w W5) :
 Bk (W5.setCell ⟨b,5,none⟩ (.slice A1' (L.length+1) c1')) b 168 (jN6 k o v wd nm (.slice A1' (L.length+1) c1') (.slice A2 (kL at' L).length c2))∧(W5.setCell ⟨b,5,none⟩ (.slice A1' (L.length+1) c1')).ownsRow w.heap.size 3 1 (.slice A2 (kL at' L).length c2) (kL at' L).length (yV (kL at' L))∧(∀ Q l,AtsAt w Q l→Rd (W5.setCell ⟨b,5,none⟩ (.slice A1' (L.length+1) c1')) Q.A (yV l)) ∧
 ((W5.setCell ⟨b,5,none⟩ (.slice A1' (L.length+1) c1')).grownBy W7 (Value.slice A2 (kL at' L).length c2).ownBlock→W7.ownsRow w.heap.size 3 1 (.slice A2' ((kL at' L).length+q.1.2.length) c2') ((kL at' L).length+q.1.2.length) (yV (kL at' L)++yV q.1.2) →
   Bk W7 b 168 (jN6 k o v wd nm (.slice A1' (L.length+1) c1') (.slice A2 (kL at' L).length c2))∧WhB w r b k o v wd nm at' (L++[q]) (W7.setCell ⟨b,6,none⟩ (.slice A2' ((kL at' L).length+q.1.2.length) c2'))):=by
 have h6:=h1.put 5 (.slice A1' (L.length+1) c1');have hf6:Fr (fun j=>j=b) W5 (W5.setCell ⟨b,5,none⟩ (.slice A1' (L.length+1) c1')):=(Fr.refl (fun j=>j=b) W5).setCell (p:=⟨b,5,none⟩) (.inl rfl) _;have nb:∀ {e:TypeId} {size n:Nat} {V:Value} {xs:List Value},W5.ownsRow w.heap.size e size V n xs→e≠168→∀ j,V.ownBlock=some j→¬j=b:=fun ho he j hj e=>yR ho h1 he (by rw [hj,e]);have h26:=jP h2 hf6 (nb h2 Yd);have h36:=jP h3 hf6 (nb h3 Yd);have hr6:Bk (W5.setCell ⟨b,5,none⟩ (.slice A1' (L.length+1) c1')) r 168 zN:=hr.far (p:=⟨b,5,none⟩) hrb _;have hB6:Below w.heap.size w (W5.setCell ⟨b,5,none⟩ (.slice A1' (L.length+1) c1')):=hB.setCell (p:=⟨b,5,none⟩) hwb _;refine⟨h6,h36,fun Q l ha=>(ha.rd.below hB6).rd,fun hg hw=>?_⟩;have h17:=Bk.grown h6 hg (yR h36 h6 Yd);have hr7:=hr6.grown hg (yR h36 hr6 Yd);have h27:W7.ownsRow w.heap.size 31 6 (.slice A1' (L.length+1) c1') (L.length+1) (qZ6 L++qX q.1.1 q.2.1):=by refine jP (F:=fun j=>(Value.slice A2 (kL at' L).length c2).ownBlock=some j) h26 ((Fr.refl _ _).grown hg (fun j hj=>.inl hj)) (fun j hj e=>?_);obtain⟨_,cs,hk⟩:=qF h26 j hj;exact yR h36 hk Yd e.symm
 have hB7:Below w.heap.size w W7:=hB6.grown hg hB6.size (fun j hj=>(qF h36 j hj).1);have hf8:Fr (fun j=>j=b) W7 (W7.setCell ⟨b,6,none⟩ (.slice A2' ((kL at' L).length+q.1.2.length) c2')):=(Fr.refl (fun j=>j=b) W7).setCell (p:=⟨b,6,none⟩) (.inl rfl) _;have nb7:∀ {e:TypeId} {size n:Nat} {V:Value} {xs:List Value},W7.ownsRow w.heap.size e size V n xs→e≠168→∀ j,V.ownBlock=some j→¬j=b:=fun ho he j hj e=>yR ho h17 he (by rw [hj,e]);have hl1:(L++[q]).length=L.length+1:=Ym;have hl2:(kL at' (L++[q])).length=(kL at' L).length+q.1.2.length:=by rw [zS1,Ya]
 refine⟨h17,hr7.far (p:=⟨b,6,none⟩) hrb _,⟨A1',c1',A2',c2',?_,?_,?_⟩,hB7.setCell (p:=⟨b,6,none⟩) hwb _⟩
 ·rw [hl1,hl2];exact h17.put 6 _
 ·rw [hl1,jC2];exact jP h27 hf8 (nb7 h27 Yd)
 ·rw [hl2,zS1,zR9];exact jP hw hf8 (nb7 hw Yd)
end
theorem qP6 {w:World} {base:Nat} {e:TypeId} {size n c m:Nat} {A:Option Addr} {xs:List Value} (h:w.ownsRow base e size (.slice A n c) m xs) {b off:Nat} (hA:A=some ⟨b,off,none⟩):base≤b:=by subst hA;exact(qF h b rfl).1
theorem jN7 {W:World} {e:TypeId} {size B:Nat} {cs:Array Value} (hs:cs.size=size) (hB:B≤W.heap.size):(W.alloc (.cells cs e)).ownsRow B e size (.slice (some ⟨W.heap.size,0,none⟩) 1 1) 1 cs.toList:=by
 refine⟨by simp [hs],.inr ⟨W.heap.size,1,cs,rfl,hB,?_,?_⟩⟩
 ·exact heap_alloc_new W _
 ·exact⟨lF _,by unfold maxLen;omega,Yo,cJ (by simp [hs])⟩
theorem jN8 (L:List NdV) (k:Nat):(kL 0 (L.take k)).length≤(kL 0 L).length:=by
 unfold kL;rw [Yc,Yc];have:∀ (L:List NdV) (k:Nat),((L.take k).flatMap fun q=>q.1.2).length≤(L.flatMap fun q=>q.1.2).length:=by
  intro L;induction L with
  | nil=>intro k;simp
  | cons x L ih =>
    intro k;cases k with
    | zero=>simp
    | succ k =>
      rw [cR,lQ,lQ,Ya,Ya];have:=ih k;omega
 have:=this L k;omega
theorem jY1 (a a':Nat) (L:List NdV):(kL a L).length=(kL a' L).length:=rfl
theorem kR4 (k o v:Nat) (wd:Int) (nm:List UInt8) (at':Nat) (w:World) (cs:Array Value):WhB w (w.heap.size+1) (w.heap.size+1+1+1) k o v wd nm at' []
 ((((w.alloc (.cells cs 31)).alloc (.cells zN 168)).alloc (.cells #[uI at'] 3)).alloc (.cells (jN6 k o v wd nm (uN) (.slice (some ⟨w.heap.size+1+1,0,none⟩) 1 1)) 168)):=by
 have hB:Below w.heap.size w (w.alloc (.cells cs 31)):=zG (lB _ _) _;have h1:=(Bk.new (w.alloc (.cells cs 31)) 168 zN).alloc (.cells #[uI at'] 3);have h2:=Bk.new (((w.alloc (.cells cs 31)).alloc (.cells zN 168)).alloc (.cells #[uI at'] 3)) 168 (jN6 k o v wd nm (uN) (.slice (some ⟨w.heap.size+1+1,0,none⟩) 1 1));have h3:=jN7 (W:=(w.alloc (.cells cs 31)).alloc (.cells zN 168)) (e:=3) (size:=1) (B:=w.heap.size) (cs:=#[uI at']) rfl Yp;simp only [lO]at h1 h2 h3;exact⟨h1.alloc _,⟨none,0,_,1,h2,World.ownsRow_nil _ _ _ _,h3.alloc _⟩,zG (zG (zG hB _) _) _⟩
section
variable {w w1:World} {g:Nat} {t:TypeId} {u0 u1 u2 u3 u4 u5 u6 v0 v1 v2 v3 v4 v5 v6:Value}
theorem fr7 (w:World) (g:Nat) (v0 v1 v2 v3 v4 v5 v6:Value):Fr (fun k=>k=g) w (((((((w.setCell ⟨g,0,none⟩ v0).setCell ⟨g,1,none⟩ v1).setCell ⟨g,2,none⟩ v2).setCell ⟨g,3,none⟩ v3).setCell ⟨g,4,none⟩ v4).setCell ⟨g,5,none⟩ v5).setCell ⟨g,6,none⟩ v6) :=
 (((((((Fr.refl (fun k=>k=g) w).setCell (p:=⟨g,0,none⟩) (.inl rfl) v0).setCell (p:=⟨g,1,none⟩) (.inl rfl) v1).setCell (p:=⟨g,2,none⟩) (.inl rfl) v2).setCell (p:=⟨g,3,none⟩) (.inl rfl) v3).setCell (p:=⟨g,4,none⟩) (.inl rfl) v4).setCell (p:=⟨g,5,none⟩) (.inl rfl) v5).setCell (p:=⟨g,6,none⟩) (.inl rfl) v6
theorem zZ9 (h:Bk w g t #[u0,u1,u2,u3,u4,u5,u6]):Bk (((((((w.setCell ⟨g,0,none⟩ v0).setCell ⟨g,1,none⟩ v1).setCell ⟨g,2,none⟩ v2).setCell ⟨g,3,none⟩ v3).setCell ⟨g,4,none⟩ v4).setCell ⟨g,5,none⟩ v5).setCell ⟨g,6,none⟩ v6) g t #[v0,v1,v2,v3,v4,v5,v6]:=by have h7:=((((((h.put 0 v0).put 1 v1).put 2 v2).put 3 v3).put 4 v4).put 5 v5).put 6 v6;simp only [List.setIfInBounds_toArray,List.set_cons_succ,List.set_cons_zero]at h7;exact h7
end
theorem qK8 {W:World} {n:Nat} (h:n≤W.heap.size) (b i:Nat) (v:Value):n≤(W.setCell ⟨b,i,none⟩ v).heap.size:=by simpa [World.setCell]using h
theorem zS2 (l:List Nat):∀ u∈yV l,u.oneCell'=true:=by intro u hu;unfold yV at hu;obtain⟨n,_,rfl⟩:=List.mem_map.1 hu;rfl
theorem jN9 (P:List NdV):((P.map fun q=>q.1.1).zip (P.map fun q=>q.2.1)).flatMap (fun p=>qX p.1 p.2)=qZ6 P:=by
 unfold qZ6;induction P with
 | nil=>rfl
 | cons x P ih=>rw [lY,lY,List.zip_cons_cons,lQ,lQ,ih]
theorem zS3 {B:Nat} (k o v:Nat) (wd:Int) (nm:List UInt8) (at':Nat) (A:Option Addr) (n c:Nat) (L:List NdV) (w:World) (h:Hid (NdsAt B w A n L)) (hn:n≤3) (hs:(kL 0 L).length≤100000000) (hat:at'≤1000000)
 (hk:k≤255) (ho:o≤255) (hv:v≤4294967295) (hw0:-9223372036854775808≤wd) (hw1:wd≤9223372036854775807) (hnm:nm.length≤1000000) :
 Calls Tryz.prog 123 #[.agg #[uB k,uB o,uW v,uI wd,uR nm,uN],uI at',.slice A n c] w fun e w'=>∃ S R,e=.returned (yO (qI k o v wd nm at' (L.map (·.1))) S R)∧NdAt B w' (qI k o v wd nm at' (L.map (·.1))) S R∧Below w.heap.size w w':=by
 have hl:=h.out.len;have HW:=Ph (kR4 k o v wd nm at' w #[uB k,uB o,uW v,uI wd,uR nm,uN]);unfold zN jN6 at HW;go_enter Tryz.func123,Tryz.ntmps123
 go_upto_region 2 with fail
 generalize ((World.alloc _ _))=W0 at HW ⊢;obtain⟨r,hr⟩:∃ r,w.heap.size+1=r:=⟨_,rfl⟩;obtain⟨b,hb⟩:∃ b,w.heap.size+1+1+1=b:=⟨_,rfl⟩;rw [hb,hr]at HW;rw [hb];have hrb:r≠b:=Yo;have hwb:w.heap.size≤b:=Yo;have hwr:w.heap.size≤r:=Yo;rw [hr];clear hr hb;go_upto_region 3 with fail
 go_loopw [16] (fun v16 wr=>∃ (j:Nat) (P:List NdV),j≤n∧v16=uI j∧Hid (L.take j=P)∧Hid (WhB w r b k o v wd nm at' P wr)) (fun v16 _=>n-(intOf v16).toNat)
 case atStart=>exact⟨0,[],lV _,rfl,rfl,HW⟩
 case round =>
  obtain⟨j,P,hj,rfl,HP,HWB⟩:=hrel;clear HW;by_cases hlt:j<n
  ·have e1:decide ((j:Int)<(n:Int))=true:=by simp;omega
   have hji:(j:Int)<(n:Int):=Yo;have hrd:=h.out.rd.below HWB.out.bel;obtain⟨bb,off,q,hA,hx,hbb,hc⟩:=hrd.flat (f:=qE7) qV2 Yo (i:=j) Yo;obtain⟨⟨ex,l⟩,⟨SA,Sn,Sc⟩,⟨QA,Qn,Qc⟩⟩:=q;have hq:=h.out.all _ (cD hx);obtain rfl:l.length=Qn:=hq.a.len;have c0:wr.cell? ⟨bb,off+j*7,none⟩=some (uB ex.kind):=hc 0 _ Yo rfl;have c1:wr.cell? ⟨bb,off+j*7+1,none⟩=some (uB ex.op):=hc 1 _ Yo rfl;have c2:wr.cell? ⟨bb,off+j*7+2,none⟩=some (uW ex.value):=hc 2 _ Yo rfl;have c3:wr.cell? ⟨bb,off+j*7+3,none⟩=some (uI ex.width):=hc 3 _ Yo rfl;have c4:wr.cell? ⟨bb,off+j*7+4,none⟩=some (uR ex.name):=hc 4 _ Yo rfl;have c5:wr.cell? ⟨bb,off+j*7+5,none⟩=some (.slice SA Sn Sc):=hc 5 _ Yo rfl;have c6:wr.cell? ⟨bb,off+j*7+6,none⟩=some (.slice QA l.length Qc):=hc 6 _ Yo rfl;have HX:=Ph hx;have HQ:=Ph hq;have hsum:=jN8 L (j+1);rw [zI1 hx,HP.out]at hsum;have hsum2:(kL at' P).length+l.length≤1000000000:=by
    have h2:(kL 0 (P++[((ex,l),⟨SA,Sn,Sc⟩,⟨QA,l.length,Qc⟩)])).length=(kL at' P).length+l.length:=by rw [zS1,Ya];rfl
    omega
   have hPl:P.length=j:=by rw [←HP.out,cL];omega
   obtain⟨A1,k1,A2,k2,h1,h2,h3⟩:=HWB.out.out;obtain⟨x0,x1,x2,x3,x4,x5,x6⟩:=qL h1;have hbl:b<wr.heap.size:=h1.lt;have H1:=Ph h1;have H2:=Ph h2;have H3:=Ph h3;subst hA;have hW1:Below wr.heap.size wr ((wr.alloc (.cells #[uB ex.kind,uB ex.op,uW ex.value,uI ex.width,uR ex.name,.slice SA Sn Sc,.slice QA l.length Qc] 168)).alloc (.cells #[uB ex.kind,uB ex.op,uW ex.value,uI ex.width,uR ex.name,.slice SA Sn Sc] 31)):=zG (zG (lB _ _) _) _;have HW1:=Ph hW1;have HBX:=Ph ((Bk.new wr 168 #[uB ex.kind,uB ex.op,uW ex.value,uI ex.width,uR ex.name,.slice SA Sn Sc,.slice QA l.length Qc]).alloc (.cells #[uB ex.kind,uB ex.op,uW ex.value,uI ex.width,uR ex.name,.slice SA Sn Sc] 31));have HO1:=Ph (jP (F:=fun _=>False) h2 (Fr.of_below hW1) (fun _ _ h=>h));have hRD:=Rd.new (wr.alloc (.cells #[uB ex.kind,uB ex.op,uW ex.value,uI ex.width,uR ex.name,.slice SA Sn Sc,.slice QA l.length Qc] 168)) #[uB ex.kind,uB ex.op,uW ex.value,uI ex.width,uR ex.name,.slice SA Sn Sc] 31;rw [lO]at hRD;have HRD:=Ph hRD;have HN9:=Ph (show P.length+1≤1000000000 by omega);have HBB:=Ph (lE HWB.out.bel.size hW1.size);have HONE:=Ph (qE2 ex ⟨SA,Sn,Sc⟩);have HHQ:=Ph hsum2;clear h1 h2 h3 hW1 hRD hsum hsum2 hq hx hc hrd x0 x1 x2 x3 x4 hPl
   go_wp2_with (first
    | (at_builtin;refine zL9 kF4 rfl (.tmp 22) (.tmp 25) rfl w.heap.size (.slice A1 P.length k1) P.length (qZ6 P) rfl HO1.out (some ⟨wr.heap.size+1,0,none⟩) 1 1 [.int .u8 ex.kind,.int .u8 ex.op,.int .u32 ex.value,.int .i64 ex.width,.string (str ex.name),.slice SA Sn Sc] rfl HRD.out rfl HONE.out HN9.out HBB.out ?_;intro A1' k1' w5 hown hgr hat1;have tok1:True:=trivial;obtain⟨p1,p2,p3,p4,p5⟩:=HWB.out.push1 (q:=((ex,l),⟨SA,Sn,Sc⟩,⟨QA,l.length,Qc⟩)) hrb hwb HW1.out H1.out H2.out H3.out hgr hown;have z5:w5.cell? ⟨b,5,none⟩=some (.slice A1 P.length k1):=p1.cell 5;have z6:w5.cell? ⟨b,6,none⟩=some (.slice A2 (kL at' P).length k2):=p1.cell 6;have f5:=p1.frozen 5;have y6:w5.cell? ⟨wr.heap.size,6,none⟩=some (.slice QA l.length Qc):=(p5 _ _ HBX.out).cell 6;have hbl5:b<w5.heap.size:=p1.lt;have hne:b≠wr.heap.size:=Nat.ne_of_lt hbl;have hne':wr.heap.size≠b:=(Nat.ne_of_lt hbl).symm;have HP2:=Ph (WhB.push2 (W7:=w5) (q:=((ex,l),⟨SA,Sn,Sc⟩,⟨QA,l.length,Qc⟩)) (A1':=A1') (c1':=k1') (A2':=none) (c2':=0) hrb hwb p1 p2 hown p3 p4);have HPP:=Ph (fun w7 a2 d2=>WhB.push2 (W7:=w7) (q:=((ex,l),⟨SA,Sn,Sc⟩,⟨QA,l.length,Qc⟩)) (A1':=A1') (c1':=k1') (A2':=a2) (c2':=d2) hrb hwb p1 p2 hown p3 p4);have HB6:=Ph (qK8 p4.size b 5 (.slice A1' (P.length+1) k1'));clear hown hgr hat1 p1 p2 p3 p4 p5)
    | (at_builtin;have _t:=tok1;obtain⟨g1,g2,g3,_⟩:=HP2.out;have HG1:=Ph g1;have HG2:=Ph g2;have HG3:=Ph (g3 _ _ HQ.out.a);refine zL9 jN5 rfl (.tmp 30) (.tmp 32) rfl w.heap.size (.slice A2 (kL at' P).length k2) (kL at' P).length (yV (kL at' P)) rfl HG2.out QA l.length Qc (yV l) rfl HG3.out (by rw [Nat.mul_one];unfold yV;rw [lW]) (zS2 l) HHQ.out HB6.out ?_;intro A2' k2' w7 hown hgr hat2;have h9:=(HPP.out w7 A2' k2').2.2.2 hgr hown;have v6:w7.cell? ⟨b,6,none⟩=some (.slice A2 (kL at' P).length k2):=h9.1.cell 6;have vf:=h9.1.frozen 6;have HFIN:=Ph h9.2;clear hown hgr hat2 g1 g2 g3 tok1 h9))
   go_roundw
   case rel=>exact⟨j+1,P++[((ex,l),⟨SA,Sn,Sc⟩,⟨QA,l.length,Qc⟩)],Yo,by go_num,(zI1 HX.out).trans (by rw [HP.out]),HFIN⟩
   case measure=>simp [intOf];omega
  ·obtain rfl:j=n:=by omega
   have e1:decide ((j:Int)<(j:Int))=false:=Ym;obtain rfl:L=P:=by rw [←HP.out];exact(cJ Yo).symm
   obtain⟨A1,k1,A2,k2,h1,h2,h3⟩:=HWB.out.out;obtain⟨x0,x1,x2,x3,x4,x5,x6⟩:=qL h1;have hrr:=HWB.out.res;unfold zN at hrr;obtain⟨y0,y1,y2,y3,y4,y5,y6⟩:=qL hrr;obtain⟨f0,f1,f2,f3,f4,f5,f6⟩:=zZ hrr;have H2:=Ph h2;have H3:=Ph h3;have HRR:=Ph hrr;have hb':b≠r:=cX hrb;clear h1 h2 h3 hrr;have HK:=Ph (zZ9 (v0:=uB k) (v1:=uB o) (v2:=uW v) (v3:=uI wd) (v4:=uR nm) (v5:=.slice A1 j k1) (v6:=.slice A2 (kL at' L).length k2) HRR.out);have HF:=Ph (fr7 wr r (uB k) (uB o) (uW v) (uI wd) (uR nm) (.slice A1 j k1) (.slice A2 (kL at' L).length k2));have HLJ:=Ph hl;go_wp2_with fail
   generalize (World.setCell _ _ _)=WF at HK HF ⊢;obtain⟨r0,r1,r2,r3,r4,r5,r6⟩:=qL HK.out;refine lK (v:=.agg #[uB k,uB o,uW v,uI wd,uR nm,.slice A1 j k1,.slice A2 (kL at' L).length k2]) (by simp [results,Tryz.results123,go_sem,r0,r1,r2,r3,r4,r5,r6]) rfl ?_;have nb:∀ {e:TypeId} {size n:Nat} {V:Value} {xs:List Value},wr.ownsRow w.heap.size e size V n xs→e≠168→∀ i,V.ownBlock=some i→¬i=r:=fun ho he i hi e=>yR ho HWB.out.res he (by rw [hi,e]);have o2:=jP H2.out HF.out (nb H2.out Yd);have o3:=jP H3.out HF.out (nb H3.out Yd);have hB:Below w.heap.size w WF:=HWB.out.bel.trans (HF.out.below w.heap.size HWB.out.bel.size (fun i hi e=>Yo));have hsub:(qI k o v wd nm at' (L.map (·.1))).1.subs=L.map fun q=>q.1.1:=by show((L.map (·.1)).map (·.1))=_;rw [List.map_map];rfl
   have hats:(qI k o v wd nm at' (L.map (·.1))).2=kL at' L:=by show at' :: (L.map (·.1)).flatMap (·.2)=_;unfold kL;rw [List.flatMap_map]
   refine⟨⟨A1,j,k1⟩,⟨A2,(kL at' L).length,k2⟩,rfl,⟨.mk _ _ (L.map fun q=>q.2.1) ⟨hk,ho,hv,hw0,hw1,hnm,?_⟩ ?_ ?_ (fun b off e=>lE h.out.base (qP6 o2 e)) ?_ ?_,⟨?_,?_,?_,?_⟩,lE h.out.base hB.size⟩,hB⟩
   ·rw [hsub,lW];omega
   ·rw [hsub,lW,lW]
   ·rw [hsub,lW];exact hl.symm
   ·rw [hsub,jN9];exact RdT.of_own (hl▸o2)
   ·intro i y vv hy hvv;rw [hsub,cS]at hy;rw [cS]at hvv;cases hq:L[i]? with
    | none=>rw [hq]at hy;cases hy
    | some q =>
      rw [hq]at hy hvv;injection hy with hy;injection hvv with hvv;subst hy hvv;exact((h.out.all q (cD hq)).below hB).t
   ·rw [hats];exact RdT.of_own o3
   ·rw [hats]
   ·rw [hats];intro m hm;unfold kL at hm;rcases lU.1 hm with rfl | hm
    ·exact hat
    ·obtain⟨q,hq,hmq⟩:=List.mem_flatMap.1 hm;exact(h.out.all q hq).a.all m hmq
   ·show(kL at' L).length≤_;rw [jY1 at' 0];exact hs
end
section
open Go.RowKit Go.PlainAid
def kR:Array Value:=#[uT,uI 0,.bool false,.nilFunc,.string ⟨#[126]⟩,uI 0,.bool false,uF 164,.string ⟨#[45]⟩,uI 0,.bool false,uF 165,.string ⟨#[43]⟩,uI 5,.bool false,uF 166,.string ⟨#[45]⟩,uI 5,.bool false,uF 167,.string ⟨#[42]⟩,uI 6,.bool false,uF 168,.string ⟨#[47]⟩,uI 6,.bool false,uF 169,.string ⟨#[37]⟩,uI 6,.bool false,uF 170,.string ⟨#[38]⟩,uI 2,.bool false,uF 171,.string ⟨#[124]⟩,uI 1,.bool false,uF 172,.string ⟨#[94]⟩,uI 1,.bool false,uF 173,.string ⟨#[60,60]⟩,uI 4,.bool false,uF 174,.string ⟨#[62,62]⟩,uI 4,.bool false,uF 175,.string ⟨#[61,61]⟩,uI 3,.bool true,uF 176,.string ⟨#[33,61]⟩,uI 3,.bool true,uF 178,.string ⟨#[60]⟩,uI 3,.bool true,uF 179,.string ⟨#[60,61]⟩,uI 3,.bool true,uF 180]
theorem jT1 (w:World):Calls Tryz.prog 157 #[] w fun e w'=>e=.returned (.agg kR)∧w'=w.alloc (.cells kR 219):=by
 go_enter Tryz.func157,Tryz.ntmps157
 go_wp2_with (refine wpList_store_row rfl 219 (.tmp 0) (.tmp 18) rfl w.heap.size kR rfl rfl 219 Tryz.zeroCells219 (heap_alloc_last _ _) Yk Yk Yk ?_)
 rw [World.setRow_alloc_new];refine lK (results_cell_row Tryz.results157 _ _ w.heap.size 219 kR (0,0) _ rfl (heap_alloc_last _ _) Tryz.underlying219 rfl Yk) rfl ?_;exact⟨rfl,rfl⟩
theorem jO1:∀ k,k≤16→kR[k*4]?=some (.string (str (kK k))):=by intro k hk;rcases(by omega:k=0∨k=1∨k=2∨k=3∨k=4∨k=5∨k=6∨k=7∨k=8∨k=9∨k=10∨k=11∨k=12∨k=13∨k=14∨k=15∨k=16)with rfl | rfl | rfl | rfl | rfl | rfl | rfl | rfl | rfl | rfl | rfl | rfl | rfl | rfl | rfl | rfl | rfl <;> rfl
theorem qE8 (k:Nat) (hk:k≤16) (w:World):Calls Tryz.prog 155 #[uB k] w fun e w'=>e=.returned (.string (str (kK k)))∧Below w.heap.size w w':=by
 have e1:decide ((17:Int)≤(k:Int))=false:=Yp;have hk17:(k:Int)<17:=Yo;have wk:IntKind.i64.wrap (k:Int)=(k:Int):=by rw [lL];omega
 go_enter Tryz.func155,Tryz.ntmps155
 go_wp2_with fail
 refine(jT1 w).mono ?_;rintro e w' ⟨rfl,rfl⟩;have HB:Hid (∀ o,Below w.heap.size w ((w.alloc (.cells kR 219)).alloc o)):=fun o=>zG (zG (lB _ _) _) o;generalize w.alloc (.cells kR 219)=w1 at HB ⊢;have c0:(w1.alloc (.cells kR 219)).cell? ⟨w1.heap.size,k*4,none⟩=some (.string (str (kK k))):=by rw [(Bk.new w1 219 kR).cell];exact jO1 k hk
 go_wp2_with (refine wpList_store_row rfl 219 (.tmp 3) (.tmp 4) rfl w1.heap.size kR rfl rfl 219 Tryz.zeroCells219 (heap_alloc_last _ _) Yk Yk Yk ?_;rw [World.setRow_alloc_new])
 go_ret;exact⟨rfl,HB.out _⟩
end
section
open Go.RowKit Go.PlainAid
def kF5 (k:Nat):Array Value:=((kR.toList.drop (k*4)).take 4).toArray
theorem jC3:∀ k:Nat,k≤16→∀ w,(Instr.index 219 (.agg kR) (uB k)).run Tryz.prog w=.ok (.agg (kF5 k)) w:=by intro k hk;rcases(by omega:k=0∨k=1∨k=2∨k=3∨k=4∨k=5∨k=6∨k=7∨k=8∨k=9∨k=10∨k=11∨k=12∨k=13∨k=14∨k=15∨k=16)with rfl | rfl | rfl | rfl | rfl | rfl | rfl | rfl | rfl | rfl | rfl | rfl | rfl | rfl | rfl | rfl | rfl <;> exact fun w=>Yk
theorem jC4:∀ k:Nat,k≤16→∀ w,(Instr.field 218 (.agg (kF5 k)) 1).run Tryz.prog w=.ok (uI (kD k:Int)) w:=by intro k hk;rcases(by omega:k=0∨k=1∨k=2∨k=3∨k=4∨k=5∨k=6∨k=7∨k=8∨k=9∨k=10∨k=11∨k=12∨k=13∨k=14∨k=15∨k=16)with rfl | rfl | rfl | rfl | rfl | rfl | rfl | rfl | rfl | rfl | rfl | rfl | rfl | rfl | rfl | rfl | rfl <;> exact fun w=>Yk
theorem jO2:∀ k,1≤k→k≤16→kK k≠[]:=by intro k h1 hk;rcases(by omega:k=1∨k=2∨k=3∨k=4∨k=5∨k=6∨k=7∨k=8∨k=9∨k=10∨k=11∨k=12∨k=13∨k=14∨k=15∨k=16)with rfl | rfl | rfl | rfl | rfl | rfl | rfl | rfl | rfl | rfl | rfl | rfl | rfl | rfl | rfl | rfl <;> decide
theorem jO3 (k:Nat):kD k≤6:=by unfold kD;split <;> omega
theorem kF6 (k:Nat) (hk:k≤16) (w:World):Calls Tryz.prog 145 #[uB k] w fun e w'=>e=.returned (uI (kD k:Int))∧Below w.heap.size w w':=by
 by_cases h0:k=0
 ·subst h0;have e1:(str (kK 0)).toList.isEmpty=true:=by rw [qB,qE];rfl
  have e2:((str (kK 0)).toList == [])=true:=by rw [qB,qE];rfl
  go_enter Tryz.func145,Tryz.ntmps145
  go_wp2_with fail
  refine(qE8 0 Yo w).mono ?_;rintro e w1 ⟨rfl,hb⟩;have HB:=Ph hb;clear hb;go_wp2_with fail
  go_ret;exact⟨rfl,HB.out⟩
 ·have hne:=jO2 k Yo hk;have e1:(str (kK k)).toList.isEmpty=false:=by rw [qB,qE];simpa using hne
  have e2:((str (kK k)).toList == [])=false:=by rw [qB,qE];simpa using hne
  have hI:=jC3 k hk;have hF:=jC4 k hk;go_enter Tryz.func145,Tryz.ntmps145
  go_wp2_with fail
  refine(qE8 k hk w).mono ?_;rintro e w1 ⟨rfl,hb⟩;have HB:=Ph hb;clear hb;go_wp2_with fail
  refine(jT1 w1).mono ?_;rintro e w' ⟨rfl,rfl⟩;have HB2:Hid (Below w.heap.size w (w1.alloc (.cells kR 219))):=zG HB.out _;generalize w1.alloc (.cells kR 219)=w2 at HB2 ⊢;go_wp2_with fail
  go_ret;exact⟨rfl,HB2.out⟩
theorem kQ2 (k:Nat) (hk:k≤16) (w:World):Calls Tryz.prog 156 #[uB k] w fun e w'=>e=.returned (.bool (decide (0<kD k)))∧Below w.heap.size w w':=by
 have hd:decide ((0:Int)<(kD k:Int))=decide (0<kD k):=Ym;go_enter Tryz.func156,Tryz.ntmps156
 go_wp2_with fail
 refine(kF6 k hk w).mono ?_;rintro e w1 ⟨rfl,hb⟩;have HB:=Ph hb;clear hb;go_wp2_with fail
 go_ret;exact⟨rfl,HB.out⟩
def jC5 (q:Option Nat):Value:=match q with
 | some o=>.tuple #[uB o,.bool true]
 | none=>.tuple #[uB 0,.bool false]
theorem zX6 (t:List UInt8) (two:Bool) (f o:Nat):qD8 t two (f+1) o=if isO t two o then some o else qD8 t two f (o+1):=rfl
theorem qV3 (t:List UInt8) (two:Bool) (w:World):Calls Tryz.prog 144 #[uR t,.bool two] w fun e w'=>e=.returned (jC5 (jY t two))∧Below w.heap.size w w':=by
 go_enter Tryz.func144,Tryz.ntmps144
 go_wp2_with fail
 go_loopw [6] (fun v6 wr=>∃ k:Nat,v6=uB k∧1≤k∧k≤17∧Hid (qD8 t two (17-k) k=jY t two)∧Hid (Below w.heap.size w wr)) (fun v6 _=>17-(intOf v6).toNat)
 case atStart=>exact⟨1,rfl,Yo,Yo,rfl,lB _ _⟩
 case round =>
  obtain⟨k,rfl,h1,h17,HK,HB⟩:=hrel;by_cases hk:k≤16
  ·have e1:decide ((k:Int)≤16)=true:=by simp;omega
   have hki:(k:Int)≤16:=Yo;have wk:IntKind.u8.wrap ((k:Int)+1)=((k+1:Nat):Int):=by rw [IntKind.wrap_u8];omega
   have hK:=HK.out;rw [show 17-k=(16-k)+1 by omega,zX6]at hK;have hO:isO t two k=(decide (kK k=t) && (decide (0<kD k) == two)):=rfl;have hbq:=zR3 (kK k) t;by_cases hn:kK k=t
   ·have e2:((str (kK k)).toList == (str t).toList)=true:=by rw [hbq,lH hn]
    cases hr:(decide (0<kD k) == two)with
    | true =>
      rw [hO,hr,lH hn]at hK;have E:Hid (some k=jY t two):=hK;have HT:Hid (∀ w,Calls Tryz.prog 156 #[uB k] w fun e w'=>e=.returned (.bool two)∧Below w.heap.size w w'):=fun w=>by have h2:=kQ2 k hk w;rw [show decide (0<kD k)=two by simpa using hr]at h2;exact h2
      clear hK hO hbq hn hr HK;go_wp2_with fail
      refine(qE8 k hk _).mono ?_;rintro e w1 ⟨rfl,hb⟩;have HB1:=Ph (zU HB.out hb);clear hb;go_wp2_with fail
      refine(HT.out _).mono ?_;rintro e w2 ⟨rfl,hb⟩;have HB2:=Ph (zU HB1.out hb);clear hb;have e3:(two == two)=true:=Ym;go_wp2_with fail
      go_ret2
      rw [←E.out];exact⟨rfl,HB2.out⟩
    | false =>
      rw [hO,hr,Bool.and_false]at hK;have E:Hid (qD8 t two (17-(k+1)) (k+1)=jY t two):=by rw [show 17-(k+1)=16-k by omega];exact hK
      obtain⟨tw,htw⟩:∃ tw,decide (0<kD k)=tw:=⟨_,rfl⟩;have HT:Hid (∀ w,Calls Tryz.prog 156 #[uB k] w fun e w'=>e=.returned (.bool tw)∧Below w.heap.size w w'):=fun w=>htw▸kQ2 k hk w;have e3:(tw == two)=false:=by rw [←htw];exact hr
      clear hK hO hbq hn hr HK htw;go_wp2_with fail
      refine(qE8 k hk _).mono ?_;rintro e w1 ⟨rfl,hb⟩;have HB1:=Ph (zU HB.out hb);clear hb;go_wp2_with fail
      refine(HT.out _).mono ?_;rintro e w2 ⟨rfl,hb⟩;have HB2:=Ph (zU HB1.out hb);clear hb;go_wp2_with fail
      go_roundw
      case rel=>exact⟨k+1,by go_num,Yo,Yo,E,HB2⟩
      case measure=>simp [intOf];omega
   ·have e2:((str (kK k)).toList == (str t).toList)=false:=by rw [hbq,lG hn]
    rw [hO,lG hn,Bool.false_and]at hK;have E:Hid (qD8 t two (17-(k+1)) (k+1)=jY t two):=by rw [show 17-(k+1)=16-k by omega];exact hK
    clear hK hO hbq hn HK;go_wp2_with fail
    refine(qE8 k hk _).mono ?_;rintro e w1 ⟨rfl,hb⟩;have HB1:=Ph (zU HB.out hb);clear hb;go_wp2_with fail
    go_roundw
    case rel=>exact⟨k+1,by go_num,Yo,Yo,E,HB1⟩
    case measure=>simp [intOf];omega
  ·have e1:decide ((k:Int)≤16)=false:=by simp;omega
   obtain rfl:k=17:=Yo;have E:Hid (none=jY t two):=HK.out;go_wp2_with fail
   go_ret2
   rw [←E.out];exact⟨rfl,HB.out⟩
end
section
open Go.RowKit Go.PlainAid
def vG (w:World) (p:Nat) (E:Env) (T:TV) (Q:SV) (x:Nd) (s:PSt) (e:Ending) (w':World):Prop:=∃ S R,e=.returned (yO x S R)∧NdAt T.base w' x S R∧PP w p E T Q s w'
structure Sp (p:Nat) (E:Env) (T:TV) (Q:SV) (f:Nat):Prop where
 choice:∀ s x s' w,zM E f s=some (x,s')→Hid (Ps w p E T Q s)→Calls Tryz.prog 95 #[uQ p 0] w (vG w p E T Q x s')
 chain:∀ (r:Nat) s x s' w,r≤7→qN E f r s=some (x,s')→Hid (Ps w p E T Q s)→Calls Tryz.prog 121 #[uQ p 0,uI r] w (vG w p E T Q x s')
 operand:∀ s x s' w,zR E f s=some (x,s')→Hid (Ps w p E T Q s)→Calls Tryz.prog 143 #[uQ p 0] w (vG w p E T Q x s')
 basis:∀ s x s' w,qJ E f s=some (x,s')→Hid (Ps w p E T Q s)→Calls Tryz.prog 154 #[uQ p 0] w (vG w p E T Q x s')
 within:∀ s a b x s' w,zX E f s a b=some (x,s')→Hid (Ps w p E T Q s)→Calls Tryz.prog 163 #[uQ p 0,uR a,uR b] w (vG w p E T Q x s')
def ndC (x:Nd) (S R:SV):Array Value:=#[uB x.1.kind,uB x.1.op,uW x.1.value,uI x.1.width,uR x.1.name,.slice S.A S.n S.c,.slice R.A R.n R.c]
theorem zS (x:Nd) (S R:SV):yO x S R=.agg #[uB x.1.kind,uB x.1.op,uW x.1.value,uI x.1.width,uR x.1.name,.slice S.A S.n S.c,.slice R.A R.n R.c]:=rfl
theorem PP.bk {w w':World} {p:Nat} {E:Env} {T:TV} {Q:SV} {s:PSt} {g:Nat} {t:TypeId} {cs:Array Value} (h:PP w p E T Q s w') (hb:Bk w g t cs) (hg:g≠p):Bk w' g t cs:=hb.fr h.fr hg
theorem PP.nd {w w':World} {p:Nat} {E:Env} {T:TV} {Q:SV} {s s0:PSt} (h:PP w p E T Q s w') (h0:Ps w p E T Q s0) {B:Nat} {x:Nd} {S R:SV} (hx:NdAt B w x S R):NdAt B w' x S R:=h0.nd h.fr hx
theorem PP.fin {w w4 WF:World} {p r:Nat} {E:Env} {T:TV} {Q:SV} {s s0:PSt} {cs:Array Value} (h:PP w p E T Q s w4) (h0:Ps w p E T Q s0) (hr:Bk w4 r 168 cs) (hrp:r≠p) (hwr:w.heap.size≤r) (hf:Fr (fun k=>k=r) w4 WF):PP w p E T Q s WF:=by obtain⟨l0,l1⟩:=h0.vr.lt;exact⟨⟨h.ps.bk.fr hf (cX hrp),h.ps.rd.keeps (Keeps.box hf hr Yd),h.ps.ok,h.ps.n,h.ps.vr.fr hf Yo Yo,h.ps.g0,h.ps.g1,lE h.ps.base hf.size⟩,h.fr.then hf (fun i hi e=>Yo)⟩
theorem NdAt.box {B:Nat} {w w':World} {r:Nat} {cs:Array Value} {x:Nd} {S R:SV} (h:NdAt B w x S R) (hr:Bk w r 168 cs) (hf:Fr (fun k=>k=r) w w'):NdAt B w' x S R:=h.keeps hf.size (Keeps.box hf hr Yd) (Keeps.box hf hr Yd)
theorem xZ {w w4 WF:World} {p r:Nat} {E:Env} {T:TV} {Q:SV} {s s0:PSt} {cs:Array Value} {x:Nd} {S R:SV} (h:PP w p E T Q s w4) (h0:Ps w p E T Q s0) (hr:Bk w4 r 168 cs) (hrp:r≠p) (hwr:w.heap.size≤r) (hf:Fr (fun k=>k=r) w4 WF) (hn:NdAt T.base w4 x S R):vG w p E T Q x s (.returned (yO x S R)) WF:=⟨S,R,rfl,hn.box hr hf,h.fin h0 hr hrp hwr hf⟩
section
variable {p:Nat} {E:Env} {T:TV} {Q:SV}
theorem qK9 {f:Nat} {s s':PSt} {a b:List UInt8} {x:Nd} (h:zX E (f+1) s a b=some (x,s')):okP s=true∧∃ s2,zM E f (kV E s a)=some (x,s2)∧okP s2=true∧s'=wN E s2 b:=by
 unfold zX at h;cases h1:okP s with
 | false=>rw [h1]at h;cases h
 | true =>
   rw [h1]at h;(try dsimp only at h);cases h2:zM E f (kV E s a)with
   | none=>rw [h2]at h;cases h
   | some q =>
     obtain⟨y,s2⟩:=q;rw [h2]at h;(try dsimp only at h);cases h3:okP s2 with
     | false=>rw [h3]at h;cases h
     | true =>
       rw [h3]at h;(try dsimp only at h);injection h with h;injection h with h4 h5;subst h4 h5;exact⟨rfl,s2,rfl,h3,rfl⟩
theorem qL1 {f:Nat} (IH:Sp p E T Q f) (s:PSt) (a b:List UInt8) (x:Nd) (s':PSt) (w:World) (hx:zX E (f+1) s a b=some (x,s')) (h:Hid (Ps w p E T Q s)) :
 Calls Tryz.prog 163 #[uQ p 0,uR a,uR b] w (vG w p E T Q x s'):=by
 obtain⟨ok1,s2,hc,ok2,rfl⟩:=qK9 hx;have HC:=Ph hc;have HIH:=Ph IH;have hpl:p<w.heap.size:=h.out.lt;have HB0:Hid (Below w.heap.size w (w.alloc (.cells #[uB 0,uB 0,uW 0,uI 0,uT,uN,uN] 168))):=zB;have HX0:=Ph (Bk.new w 168 #[uB 0,uB 0,uW 0,uI 0,uT,uN,uN]);clear hx hc IH;go_enter Tryz.func163,Tryz.ntmps163
 go_upto_region 1 with fail
 generalize (w.alloc _)=W at HB0 HX0 ⊢;obtain⟨r,hr⟩:∃ r,w.heap.size=r:=⟨_,rfl⟩;rw [hr]at HX0 ⊢;have hrp:r≠p:=Yo;have hwr:w.heap.size≤r:=Yo;clear hr hpl;have HP0:=Ph (h.out.below HB0.out);go_wp2_with fail
 refine(jX7 p E T Q s a W HP0 ok1).mono ?_;rintro e w1 ⟨⟨v,rfl⟩,hp⟩;have HX1:=Ph (hp.bk HX0.out hrp);have HP1:=Ph (PP.after HB0.out hp);clear hp HX0 HP0;go_wp2_with fail
 refine(HIH.out.choice _ _ _ w1 HC.out (Ph HP1.out.ps)).mono ?_;rintro e w2 ⟨S,R,rfl,hn,hp⟩;rw [zS];have HX2:=Ph (hp.bk HX1.out hrp);have HP2:=Ph (HP1.out.trans hp);have HN2:=Ph hn;clear hp hn HX1 HP1;have hw2:r<w2.heap.size:=HX2.out.lt;have hpw2:p<w2.heap.size:=HP2.out.ps.lt;have HBX:Hid (Below w2.heap.size w2 (w2.alloc (.cells #[uB x.1.kind,uB x.1.op,uW x.1.value,uI x.1.width,uR x.1.name,uL S,uL R] 168))):=zB;have HY:=Ph (Bk.new w2 168 #[uB x.1.kind,uB x.1.op,uW x.1.value,uI x.1.width,uR x.1.name,uL S,uL R]);go_upto_region 3 with fail
 generalize (w2.alloc _)=W2 at HBX HY ⊢;obtain⟨b3,hb3⟩:∃ b3,w2.heap.size=b3:=⟨_,rfl⟩;rw [hb3]at HY ⊢;have hb3p:b3≠p:=Yo;have hrb3:b3≠r:=Yo;clear hb3 hw2 hpw2;have HP3:=Ph (HP2.out.then HBX.out);have HX3:=Ph (zD HX2.out HBX.out);have HN3:=Ph (HN2.out.below HBX.out);clear HP2 HX2 HN2 HBX;go_wp2_with fail
 refine(kF1 p E T Q s2 b W2 (Ph HP3.out.ps) ok2).mono ?_;rintro e w4 ⟨⟨v,rfl⟩,hp⟩;have HP4:=Ph (HP3.out.trans hp);have HX4:=Ph (hp.bk HX3.out hrp);have HY4:=Ph (hp.bk HY.out hb3p);have HN4:=Ph (hp.nd HP3.out.ps HN3.out);clear hp HP3 HX3 HY HN3;obtain⟨x0,x1,x2,x3,x4,x5,x6⟩:=qL HY4.out;obtain⟨y0,y1,y2,y3,y4,y5,y6⟩:=qL HX4.out;obtain⟨f0,f1,f2,f3,f4,f5,f6⟩:=zZ HX4.out;have HF:=Ph (fr7 w4 r (uB x.1.kind) (uB x.1.op) (uW x.1.value) (uI x.1.width) (uR x.1.name) (uL S) (uL R));have HK:=Ph (zZ9 (v0:=uB x.1.kind) (v1:=uB x.1.op) (v2:=uW x.1.value) (v3:=uI x.1.width) (v4:=uR x.1.name) (v5:=uL S) (v6:=uL R) HX4.out);go_wp2_with fail
 generalize (World.setCell _ _ _)=WF at HF HK ⊢;obtain⟨r0,r1,r2,r3,r4,r5,r6⟩:=qL HK.out;refine lK (v:=yO x S R) (by rw [zS];simp [results,Tryz.results163,go_sem,r0,r1,r2,r3,r4,r5,r6]) rfl ?_;exact xZ HP4.out h.out HX4.out hrp hwr HF.out HN4.out
end
end
section
open Go.RowKit Go.PlainAid
theorem zG9 {B:Nat} {W:World} (L:List NdV) (h:∀ q∈L,NdAt B W q.1 q.2.1 q.2.2) (hL:L≠[]:=by simp):NdsAt B (W.alloc (.cells (L.flatMap qE7).toArray 168)) (some ⟨W.heap.size,0,none⟩) L.length L :=
 ⟨by have:=Rd.new W (L.flatMap qE7).toArray 168;rwa [List.toList_toArray]at this,rfl,(by obtain⟨q,hq⟩:=List.exists_mem_of_ne_nil L hL;exact((h q hq).below zB).base),fun q hq=>(h q hq).below zB⟩
theorem qL2 {B:Nat} {x:Nd} {S R:SV} (W W':World) (h:NdAt B W x S R) (hb:Below W.heap.size W W'):Calls Tryz.prog 124 #[.agg #[uB x.1.kind,uB x.1.op,uW x.1.value,uI x.1.width,uR x.1.name,.slice S.A S.n S.c,.slice R.A R.n R.c]] W' fun e w'=>e=.returned (uI (yK x:Int))∧Below W'.heap.size W' w':=kM3 x S R W' (Ph (h.below hb).a)
theorem zM5 {l:List Nd} (h:okW l=true):(l.flatMap (·.2)).length≤1000000:=cM h
theorem qA1 {B:Nat} {W:World} {x:Nd} {S R:SV} (h:NdAt B W x S R):yK x≤1000000:=by
 unfold yK;have h1:=h.a.all;obtain⟨ex,l⟩:=x;cases l with
 | nil=>exact lV _
 | cons a r=>exact h1 a (List.mem_cons_self ..)
section
variable {p:Nat} {E:Env} {T:TV} {Q:SV}
theorem qL3 {f:Nat} {s s':PSt} {X:Nd} (h:zM E (f+1) s=some (X,s')):∃ x s1,qN E f 1 s=some (x,s1)∧okP s1=true∧((zC7 E s1 [63]=false∧X=x∧s'=s1)∨(zC7 E s1 [63]=true∧∃ y s3 z s5,zM E f (zI4 E s1 [63])=some (y,s3)∧zM E f (zI E s3 [58])=some (z,s5)∧okP s5=true∧okW [x,y,z]=true∧X=qI 7 0 0 0 [] (yK x) [x,y,z]∧s'=yH s5 (-1))):=by
 unfold zM at h;cases h1:qN E f 1 s with
 | none=>rw [h1]at h;cases h
 | some q =>
   obtain⟨x,s1⟩:=q;rw [h1]at h;(try dsimp only at h);cases h2:okP s1 with
   | false=>rw [h2]at h;cases h
   | true =>
     rw [h2]at h;(try dsimp only at h);refine⟨x,s1,rfl,h2,?_⟩;cases h3:zC7 E s1 [63]with
     | false =>
       rw [h3]at h;(try dsimp only at h);injection h with h;injection h with h4 h5;exact .inl ⟨rfl,h4.symm,h5.symm⟩
     | true =>
       rw [h3]at h;(try dsimp only at h);cases h4:zM E f (zI4 E s1 [63])with
       | none=>rw [h4]at h;cases h
       | some q =>
         obtain⟨y,s3⟩:=q;rw [h4]at h;(try dsimp only at h);cases h5:zM E f (zI E s3 [58])with
         | none=>rw [h5]at h;cases h
         | some q =>
           obtain⟨z,s5⟩:=q;rw [h5]at h;(try dsimp only at h);cases h6:(okP s5 && okW [x,y,z])with
           | false=>rw [h6]at h;cases h
           | true =>
             rw [h6]at h;(try dsimp only at h);injection h with h;injection h with h7 h8;rw [lZ]at h6;exact .inr ⟨rfl,y,s3,z,s5,rfl,h5,h6.1,h6.2,h7.symm,h8.symm⟩
def S3C (x:Nd) (S R:SV) (y:Nd) (S4 R4:SV) (z:Nd) (S7 R7:SV) (b3 b4 b5:Nat) (w':World):Prop:=w'.cell? ⟨b3,0,none⟩=some (uB x.1.kind)∧w'.cell? ⟨b3,1,none⟩=some (uB x.1.op)∧w'.cell? ⟨b3,2,none⟩=some (uW x.1.value)∧w'.cell? ⟨b3,3,none⟩=some (uI x.1.width)∧w'.cell? ⟨b3,4,none⟩=some (uR x.1.name)∧w'.cell? ⟨b3,5,none⟩=some (.slice S.A S.n S.c)∧w'.cell? ⟨b3,6,none⟩=some (.slice R.A R.n R.c)∧w'.cell? ⟨b4,0,none⟩=some (uB y.1.kind)∧w'.cell? ⟨b4,1,none⟩=some (uB y.1.op)∧w'.cell? ⟨b4,2,none⟩=some (uW y.1.value)∧w'.cell? ⟨b4,3,none⟩=some (uI y.1.width)∧w'.cell? ⟨b4,4,none⟩=some (uR y.1.name)∧w'.cell? ⟨b4,5,none⟩=some (.slice S4.A S4.n S4.c)∧w'.cell? ⟨b4,6,none⟩=some (.slice R4.A R4.n R4.c)∧w'.cell? ⟨b5,0,none⟩=some (uB z.1.kind)∧w'.cell? ⟨b5,1,none⟩=some (uB z.1.op)∧w'.cell? ⟨b5,2,none⟩=some (uW z.1.value)∧w'.cell? ⟨b5,3,none⟩=some (uI z.1.width)∧w'.cell? ⟨b5,4,none⟩=some (uR z.1.name)∧w'.cell? ⟨b5,5,none⟩=some (.slice S7.A S7.n S7.c)∧w'.cell? ⟨b5,6,none⟩=some (.slice R7.A R7.n R7.c)
theorem kF7 {W w':World} {x:Nd} {S R:SV} {y:Nd} {S4 R4:SV} {z:Nd} {S7 R7:SV} {b3 b4 b5:Nat} (h3:Bk W b3 168 (ndC x S R)) (h4:Bk W b4 168 (ndC y S4 R4)) (h5:Bk W b5 168 (ndC z S7 R7)) (hb:Below W.heap.size W w'):S3C x S R y S4 R4 z S7 R7 b3 b4 b5 w':=⟨(zD h3 hb).cell 0,(zD h3 hb).cell 1,(zD h3 hb).cell 2,(zD h3 hb).cell 3,(zD h3 hb).cell 4,(zD h3 hb).cell 5,(zD h3 hb).cell 6,(zD h4 hb).cell 0,(zD h4 hb).cell 1,(zD h4 hb).cell 2,(zD h4 hb).cell 3,(zD h4 hb).cell 4,(zD h4 hb).cell 5,(zD h4 hb).cell 6,(zD h5 hb).cell 0,(zD h5 hb).cell 1,(zD h5 hb).cell 2,(zD h5 hb).cell 3,(zD h5 hb).cell 4,(zD h5 hb).cell 5,(zD h5 hb).cell 6⟩
theorem jY2 {W w':World} {x:Nd} {S R:SV} {y:Nd} {S4 R4:SV} {z:Nd} {S7 R7:SV} {b3 b4 b5 r:Nat} (h3:Bk W b3 168 (ndC x S R)) (h4:Bk W b4 168 (ndC y S4 R4)) (h5:Bk W b5 168 (ndC z S7 R7)) (e3:b3≠r) (e4:b4≠r) (e5:b5≠r) (u0 u1 u2 u3 u4 u5 u6:Value) (hb:Below W.heap.size W w'):S3C x S R y S4 R4 z S7 R7 b3 b4 b5 (((((((w'.setCell ⟨r,0,none⟩ u0).setCell ⟨r,1,none⟩ u1).setCell ⟨r,2,none⟩ u2).setCell ⟨r,3,none⟩ u3).setCell ⟨r,4,none⟩ u4).setCell ⟨r,5,none⟩ u5).setCell ⟨r,6,none⟩ u6):=⟨(Bk.fr (zD h3 hb) (fr7 w' r u0 u1 u2 u3 u4 u5 u6) e3).cell 0,(Bk.fr (zD h3 hb) (fr7 w' r u0 u1 u2 u3 u4 u5 u6) e3).cell 1,(Bk.fr (zD h3 hb) (fr7 w' r u0 u1 u2 u3 u4 u5 u6) e3).cell 2,(Bk.fr (zD h3 hb) (fr7 w' r u0 u1 u2 u3 u4 u5 u6) e3).cell 3,(Bk.fr (zD h3 hb) (fr7 w' r u0 u1 u2 u3 u4 u5 u6) e3).cell 4,(Bk.fr (zD h3 hb) (fr7 w' r u0 u1 u2 u3 u4 u5 u6) e3).cell 5,(Bk.fr (zD h3 hb) (fr7 w' r u0 u1 u2 u3 u4 u5 u6) e3).cell 6,(Bk.fr (zD h4 hb) (fr7 w' r u0 u1 u2 u3 u4 u5 u6) e4).cell 0,(Bk.fr (zD h4 hb) (fr7 w' r u0 u1 u2 u3 u4 u5 u6) e4).cell 1,(Bk.fr (zD h4 hb) (fr7 w' r u0 u1 u2 u3 u4 u5 u6) e4).cell 2,(Bk.fr (zD h4 hb) (fr7 w' r u0 u1 u2 u3 u4 u5 u6) e4).cell 3,(Bk.fr (zD h4 hb) (fr7 w' r u0 u1 u2 u3 u4 u5 u6) e4).cell 4,(Bk.fr (zD h4 hb) (fr7 w' r u0 u1 u2 u3 u4 u5 u6) e4).cell 5,(Bk.fr (zD h4 hb) (fr7 w' r u0 u1 u2 u3 u4 u5 u6) e4).cell 6,(Bk.fr (zD h5 hb) (fr7 w' r u0 u1 u2 u3 u4 u5 u6) e5).cell 0,(Bk.fr (zD h5 hb) (fr7 w' r u0 u1 u2 u3 u4 u5 u6) e5).cell 1,(Bk.fr (zD h5 hb) (fr7 w' r u0 u1 u2 u3 u4 u5 u6) e5).cell 2,(Bk.fr (zD h5 hb) (fr7 w' r u0 u1 u2 u3 u4 u5 u6) e5).cell 3,(Bk.fr (zD h5 hb) (fr7 w' r u0 u1 u2 u3 u4 u5 u6) e5).cell 4,(Bk.fr (zD h5 hb) (fr7 w' r u0 u1 u2 u3 u4 u5 u6) e5).cell 5,(Bk.fr (zD h5 hb) (fr7 w' r u0 u1 u2 u3 u4 u5 u6) e5).cell 6⟩
theorem qL4 {f:Nat} (IH:Sp p E T Q f) (s:PSt) (X:Nd) (s':PSt) (w:World) (hx:zM E (f+1) s=some (X,s')) (h:Hid (Ps w p E T Q s)) :
 Calls Tryz.prog 95 #[uQ p 0] w (vG w p E T Q X s'):=by
 obtain⟨x,s1,hc,ok1,hcase⟩:=qL3 hx;have HC:=Ph hc;have HIH:=Ph IH;have hpl:p<w.heap.size:=h.out.lt;have HB0:Hid (Below w.heap.size w (w.alloc (.cells #[uB 0,uB 0,uW 0,uI 0,uT,uN,uN] 168))):=zB;have HX0:=Ph (Bk.new w 168 #[uB 0,uB 0,uW 0,uI 0,uT,uN,uN]);have HCASE:=Ph hcase;clear hx hc IH hcase;go_enter Tryz.func95,Tryz.ntmps95
 go_upto_region 1 with fail
 generalize (w.alloc _)=W at HB0 HX0 ⊢;obtain⟨r,hr⟩:∃ r,w.heap.size=r:=⟨_,rfl⟩;rw [hr]at HX0 ⊢;have hrp:r≠p:=Yo;have hwr:w.heap.size≤r:=Yo;clear hr hpl;have HP0:=Ph (h.out.below HB0.out);go_wp2_with fail
 refine(HIH.out.chain 1 _ _ _ W Yo HC.out HP0).mono ?_;rintro e w1 ⟨S,R,rfl,hn,hp⟩;rw [zS];have HX1:=Ph (hp.bk HX0.out hrp);have HP1:=Ph (PP.after HB0.out hp);have HN1:=Ph hn;clear hp hn HX0 HP0;have HBX:Hid (Below w1.heap.size w1 (w1.alloc (.cells #[uB x.1.kind,uB x.1.op,uW x.1.value,uI x.1.width,uR x.1.name,uL S,uL R] 168))):=zB;have HYb3:=Ph (Bk.new w1 168 #[uB x.1.kind,uB x.1.op,uW x.1.value,uI x.1.width,uR x.1.name,uL S,uL R]);have hwr':r<w1.heap.size:=HX1.out.lt;have hwp':p<w1.heap.size:=HP1.out.ps.lt;go_upto_region 2 with fail
 generalize (w1.alloc _)=W2 at HBX HYb3 ⊢;obtain⟨b3,hb⟩:∃ b,w1.heap.size=b:=⟨_,rfl⟩;rw [hb]at HYb3 ⊢;have hb3p:b3≠p:=Yo;have hb3r:b3≠r:=Yo;have hb3r':r≠b3:=Yo;clear hb hwr' hwp';have HP2:=Ph (HP1.out.then HBX.out);have HX2:=Ph (zD HX1.out HBX.out);have HN2:=Ph (HN1.out.below HBX.out);clear HP1 HX1 HN1 HBX;go_wp2_with fail
 refine(jS9 p E T Q s1 [63] W2 (Ph HP2.out.ps) ok1).mono ?_;rintro e w3 ⟨rfl,hp⟩;have HP3:=Ph (HP2.out.trans hp);have HX3:=Ph (hp.bk HX2.out hrp);have HY3:=Ph (hp.bk HYb3.out hb3p);have HN3:=Ph (hp.nd HP2.out.ps HN2.out);clear hp HP2 HX2 HYb3 HN2;rcases HCASE.out with⟨c1,rfl,rfl⟩ | ⟨c1,y,s3,z,s5,c2,c3,ok5,okw,hX,rfl⟩
 ·rw [c1];have he:zI4 E s' [63]=s':=by unfold zI4;rw [c1];rfl
  rw [he]at HP3;clear he c1;obtain⟨x0,x1,x2,x3,x4,x5,x6⟩:=qL HY3.out;obtain⟨y0,y1,y2,y3,y4,y5,y6⟩:=qL HX3.out;obtain⟨f0,f1,f2,f3,f4,f5,f6⟩:=zZ HX3.out;have HF:=Ph (fr7 w3 r (uB X.1.kind) (uB X.1.op) (uW X.1.value) (uI X.1.width) (uR X.1.name) (uL S) (uL R));have HK:=Ph (zZ9 (v0:=uB X.1.kind) (v1:=uB X.1.op) (v2:=uW X.1.value) (v3:=uI X.1.width) (v4:=uR X.1.name) (v5:=uL S) (v6:=uL R) HX3.out);go_wp2_with fail
  generalize (World.setCell _ _ _)=WF at HF HK ⊢;obtain⟨r0,r1,r2,r3,r4,r5,r6⟩:=qL HK.out;refine lK (v:=yO X S R) (by rw [zS];simp [results,Tryz.results95,go_sem,r0,r1,r2,r3,r4,r5,r6]) rfl ?_;exact xZ HP3.out h.out HX3.out hrp hwr HF.out HN3.out
 ·rw [c1];have HXE:=Ph hX;clear hX;have C2:=Ph c2;have C3:=Ph c3;have OW:=Ph (zM5 okw);clear c1 c2 c3 HC HCASE okw;go_wp2_with fail
  refine(HIH.out.choice _ _ _ w3 C2.out (Ph HP3.out.ps)).mono ?_;rintro e w4 ⟨S4,R4,rfl,hn,hp⟩;rw [zS];have HX4:=Ph (hp.bk HX3.out hrp);have HYb3:=Ph (hp.bk HY3.out hb3p);have HN4:=Ph (hp.nd HP3.out.ps HN3.out);have HP4:=Ph (HP3.out.trans hp);have HM4:=Ph hn;clear hp hn HX3 HY3 HN3 HP3 C2;have HBX:Hid (Below w4.heap.size w4 (w4.alloc (.cells #[uB y.1.kind,uB y.1.op,uW y.1.value,uI y.1.width,uR y.1.name,uL S4,uL R4] 168))):=zB;have HYb4:=Ph (Bk.new w4 168 #[uB y.1.kind,uB y.1.op,uW y.1.value,uI y.1.width,uR y.1.name,uL S4,uL R4]);have hwr':r<w4.heap.size:=HX4.out.lt;have hwp':p<w4.heap.size:=HP4.out.ps.lt;have hwb3:b3<w4.heap.size:=HYb3.out.lt;go_upto_region 5 with fail
  generalize (w4.alloc _)=W5 at HBX HYb4 ⊢;obtain⟨b4,hb⟩:∃ b,w4.heap.size=b:=⟨_,rfl⟩;rw [hb]at HYb4 ⊢;have hb4p:b4≠p:=Yo;have hb4r:b4≠r:=Yo;have hb4r':r≠b4:=Yo;have hb4b3:b4≠b3:=Yo;have hb3b4:b3≠b4:=Yo;clear hb hwr' hwp';have HP5:=Ph (HP4.out.then HBX.out);have HX5:=Ph (zD HX4.out HBX.out);have HY5:=Ph (zD HYb3.out HBX.out);have HN5:=Ph (HN4.out.below HBX.out);have HM5:=Ph (HM4.out.below HBX.out);clear HP4 HX4 HYb3 HN4 HM4 HBX hwb3;go_wp2_with fail
  refine(jX5 p E T Q s3 [58] W5 (Ph HP5.out.ps)).mono ?_;rintro e w6 ⟨⟨v,rfl⟩,hp⟩;have HX6:=Ph (hp.bk HX5.out hrp);have HY6:=Ph (hp.bk HY5.out hb3p);have HZ6:=Ph (hp.bk HYb4.out hb4p);have HN6:=Ph (hp.nd HP5.out.ps HN5.out);have HM6:=Ph (hp.nd HP5.out.ps HM5.out);have HP6:=Ph (HP5.out.trans hp);clear hp HX5 HY5 HYb4 HN5 HM5 HP5;go_wp2_with fail
  refine(HIH.out.choice _ _ _ w6 C3.out (Ph HP6.out.ps)).mono ?_;rintro e w7 ⟨S7,R7,rfl,hn,hp⟩;rw [zS];have HX7:=Ph (hp.bk HX6.out hrp);have HYb3:=Ph (hp.bk HY6.out hb3p);have HYb4:=Ph (hp.bk HZ6.out hb4p);have HN7:=Ph (hp.nd HP6.out.ps HN6.out);have HM7:=Ph (hp.nd HP6.out.ps HM6.out);have HP7:=Ph (HP6.out.trans hp);have HK7:=Ph hn;clear hp hn HX6 HY6 HZ6 HN6 HM6 HP6 C3;have HBX:Hid (Below w7.heap.size w7 (w7.alloc (.cells #[uB z.1.kind,uB z.1.op,uW z.1.value,uI z.1.width,uR z.1.name,uL S7,uL R7] 168))):=zB;have HYb5:=Ph (Bk.new w7 168 #[uB z.1.kind,uB z.1.op,uW z.1.value,uI z.1.width,uR z.1.name,uL S7,uL R7]);have hwr':r<w7.heap.size:=HX7.out.lt;have hwp':p<w7.heap.size:=HP7.out.ps.lt;have hwb3:b3<w7.heap.size:=HYb3.out.lt;have hwb4:b4<w7.heap.size:=HYb4.out.lt;go_upto_region 7 with fail
  generalize (w7.alloc _)=W8 at HBX HYb5 ⊢;obtain⟨b5,hb⟩:∃ b,w7.heap.size=b:=⟨_,rfl⟩;rw [hb]at HYb5 ⊢;have hb5p:b5≠p:=Yo;have hb5r:b5≠r:=Yo;have hb5r':r≠b5:=Yo;have hb5b3:b5≠b3:=Yo;have hb3b5:b3≠b5:=Yo;have hb5b4:b5≠b4:=Yo;have hb4b5:b4≠b5:=Yo;clear hb hwr' hwp';have HP8:=Ph (HP7.out.then HBX.out);have HX8:=Ph (zD HX7.out HBX.out);have HY8:=Ph (zD HYb3.out HBX.out);have HZ8:=Ph (zD HYb4.out HBX.out);have HN8:=Ph (HN7.out.below HBX.out);have HM8:=Ph (HM7.out.below HBX.out);have HK8:=Ph (HK7.out.below HBX.out);clear HP7 HX7 HYb3 HYb4 HN7 HM7 HK7 HBX hwb3 hwb4;have hok:=ok5;unfold okP at hok;simp only [lZ,cC]at hok;have wd:IntKind.i64.wrap (s5.deep-1)=s5.deep-1:=by rw [lL];omega
  obtain⟨g0,g1,g2,g3,g4,g5,g6⟩:=HP8.out.ps.cells;have gz:=HP8.out.ps.frozens 3;have hd:=HP8.out.ps.setDeep (s5.deep-1);have HP9:=Ph (HP8.out.trans hd);have HX9:=Ph (hd.bk HX8.out hrp);have HY9:=Ph (hd.bk HY8.out hb3p);have HZ9:=Ph (hd.bk HZ8.out hb4p);have HV9:=Ph (hd.bk HYb5.out hb5p);have HN9:=Ph (hd.nd HP8.out.ps HN8.out);have HM9:=Ph (hd.nd HP8.out.ps HM8.out);have HK9:=Ph (hd.nd HP8.out.ps HK8.out);clear hd hok;go_upto_region 8 with fail
  generalize (World.setCell _ _ _)=W9 at HP9 HX9 HY9 HZ9 HV9 HN9 HM9 HK9 ⊢;clear HP8 HX8 HY8 HZ8 HYb5 HN8 HM8 HK8 g0 g1 g2 g3 g4 g5 g6 gz;have HH:=Ph fun W' hb=>qL2 W9 W' HN9.out hb;have hnds:∀ W',Below W9.heap.size W9 W'→∀ q∈([(x,S,R),(y,S4,R4),(z,S7,R7)]:List NdV),NdAt T.base W' q.1 q.2.1 q.2.2:=fun W' hb q hq=>by
   simp only [lU,lT,or_false]at hq;rcases hq with rfl | rfl | rfl
   ·exact HN9.out.below hb
   ·exact HM9.out.below hb
   ·exact HK9.out.below hb
  have HND:=Ph hnds;have hhl:=qA1 HN9.out;have HW:Hid (∀ W' g,NdsAt T.base W' (some ⟨g,0,none⟩) 3 [(x,S,R),(y,S4,R4),(z,S7,R7)]→Calls Tryz.prog 123 #[.agg #[uB 7,uB 0,uW 0,uI 0,uT,uN],uI (yK x:Int),.slice (some ⟨g,0,none⟩) 3 3] W' fun e w'=>∃ S0 R0,e=.returned (yO X S0 R0)∧NdAt T.base w' X S0 R0∧Below W'.heap.size W' w'):=fun W' g hg=>by
   have hlen:(kL 0 [(x,S,R),(y,S4,R4),(z,S7,R7)]).length≤100000000:=by
    have h1:=OW.out;have h2:(kL 0 [(x,S,R),(y,S4,R4),(z,S7,R7)]).length=1+(([x,y,z]:List Nd).flatMap (·.2)).length:=by unfold kL;simp;omega
    omega
   rw [HXE.out];exact zS3 7 0 0 0 [] (yK x) (some ⟨g,0,none⟩) 3 3 [(x,S,R),(y,S4,R4),(z,S7,R7)] W' (Ph hg) Yo hlen hhl Yo Yo Yo Yo Yo Ym
  have hrw:∀ v5,Below (W9.alloc (.cells #[uB x.1.kind,uB x.1.op,uW x.1.value,uI x.1.width,uR x.1.name,uL S,uL R,uB y.1.kind,uB y.1.op,uW y.1.value,uI y.1.width,uR y.1.name,uL S4,uL R4,uB z.1.kind,uB z.1.op,uW z.1.value,uI z.1.width,uR z.1.name,uL S7,uL R7] 168)).drew.heap.size (W9.alloc (.cells #[uB x.1.kind,uB x.1.op,uW x.1.value,uI x.1.width,uR x.1.name,uL S,uL R,uB y.1.kind,uB y.1.op,uW y.1.value,uI y.1.width,uR y.1.name,uL S4,uL R4,uB z.1.kind,uB z.1.op,uW z.1.value,uI z.1.width,uR z.1.name,uL S7,uL R7] 168)).drew v5→NdsAt T.base v5 (some ⟨W9.heap.size,0,none⟩) 3 [(x,S,R),(y,S4,R4),(z,S7,R7)]:=fun v5 hb =>
   ((zG9 (W:=W9) [(x,S,R),(y,S4,R4),(z,S7,R7)] (HND.out W9 (lB _ _))).below (lB _ _).drew).below hb
  have HRW:=Ph hrw;have hrn:∀ v5,Below W9.heap.size W9 v5→NdsAt T.base (v5.alloc (.cells #[uB x.1.kind,uB x.1.op,uW x.1.value,uI x.1.width,uR x.1.name,uL S,uL R,uB y.1.kind,uB y.1.op,uW y.1.value,uI y.1.width,uR y.1.name,uL S4,uL R4,uB z.1.kind,uB z.1.op,uW z.1.value,uI z.1.width,uR z.1.name,uL S7,uL R7] 168)) (some ⟨v5.heap.size,0,none⟩) 3 [(x,S,R),(y,S4,R4),(z,S7,R7)]:=fun v5 hb=>zG9 (W:=v5) [(x,S,R),(y,S4,R4),(z,S7,R7)] (HND.out v5 hb);have HRN:=Ph hrn;clear hnds hrw hrn;have HSS:Hid (∀ w',Below W9.heap.size W9 w'→S3C x S R y S4 R4 z S7 R7 b3 b4 b5 w'):=fun w' hb=>kF7 HY9.out HZ9.out HV9.out hb;have HST:Hid (∀ (w0:World) (u0 u1 u2 u3 u4 u5 u6:Value),Below W9.heap.size W9 w0→S3C x S R y S4 R4 z S7 R7 b3 b4 b5 (((((((w0.setCell ⟨r,0,none⟩ u0).setCell ⟨r,1,none⟩ u1).setCell ⟨r,2,none⟩ u2).setCell ⟨r,3,none⟩ u3).setCell ⟨r,4,none⟩ u4).setCell ⟨r,5,none⟩ u5).setCell ⟨r,6,none⟩ u6)):=fun w0 u0 u1 u2 u3 u4 u5 u6 hb=>jY2 HY9.out HZ9.out HV9.out hb3r hb4r hb5r u0 u1 u2 u3 u4 u5 u6 hb;have HBC:Hid (Below W9.heap.size W9 W9.drew):=(lB _ _).drew;have HBR:Hid (Below W9.heap.size W9 W9):=lB _ _;have HBA:Hid (Below W9.heap.size W9 (W9.alloc (.cells #[uB x.1.kind,uB x.1.op,uW x.1.value,uI x.1.width,uR x.1.name,uL S,uL R,uB y.1.kind,uB y.1.op,uW y.1.value,uI y.1.width,uR y.1.name,uL S4,uL R4,uB z.1.kind,uB z.1.op,uW z.1.value,uI z.1.width,uR z.1.name,uL S7,uL R7] 168)).drew):=(zG (lB _ _) _).drew
  go_region_held3 (fun w'=>w'.cell? ⟨b3,0,none⟩=some (uB x.1.kind)∧w'.cell? ⟨b3,1,none⟩=some (uB x.1.op)∧w'.cell? ⟨b3,2,none⟩=some (uW x.1.value)∧w'.cell? ⟨b3,3,none⟩=some (uI x.1.width)∧w'.cell? ⟨b3,4,none⟩=some (uR x.1.name)∧w'.cell? ⟨b3,5,none⟩=some (uL S)∧w'.cell? ⟨b3,6,none⟩=some (uL R)∧w'.cell? ⟨b4,0,none⟩=some (uB y.1.kind)∧w'.cell? ⟨b4,1,none⟩=some (uB y.1.op)∧w'.cell? ⟨b4,2,none⟩=some (uW y.1.value)∧w'.cell? ⟨b4,3,none⟩=some (uI y.1.width)∧w'.cell? ⟨b4,4,none⟩=some (uR y.1.name)∧w'.cell? ⟨b4,5,none⟩=some (uL S4)∧w'.cell? ⟨b4,6,none⟩=some (uL R4)∧w'.cell? ⟨b5,0,none⟩=some (uB z.1.kind)∧w'.cell? ⟨b5,1,none⟩=some (uB z.1.op)∧w'.cell? ⟨b5,2,none⟩=some (uW z.1.value)∧w'.cell? ⟨b5,3,none⟩=some (uI z.1.width)∧w'.cell? ⟨b5,4,none⟩=some (uR z.1.name)∧w'.cell? ⟨b5,5,none⟩=some (uL S7)∧w'.cell? ⟨b5,6,none⟩=some (uL R7))
   ((refine(show S3C x S R y S4 R4 z S7 R7 b3 b4 b5 _ from ?_);first | with_reducible exact HSS.out _ HBC.out | with_reducible exact HSS.out _ (zG HBC.out _) | with_reducible exact HST.out _ _ _ _ _ _ _ _ HBC.out | with_reducible exact HSS.out _ HBA.out | with_reducible exact HSS.out _ HBR.out))
   (first
     | (go_at_call 124
        first
         | with_reducible refine(HH.out _ HBC.out).mono ?_
         | with_reducible refine(HH.out _ HBA.out).mono ?_
        rintro e v5 ⟨rfl,hb5⟩
        first
         | (have HB5:Hid (Below W9.heap.size W9 v5):=by with_reducible exact Ph (zU HBC.out hb5))
         | (have HB5:Hid (Below W9.heap.size W9 v5):=by with_reducible exact Ph (zU HBA.out hb5)
            have HR5:Hid (NdsAt T.base v5 (some ⟨W9.heap.size,0,none⟩) 3 [(x,S,R),(y,S4,R4),(z,S7,R7)]):=by with_reducible exact Ph (HRW.out _ hb5))
        clear HBC hb5;have HBC:=HB5)
     | (go_at_call 123
        first
         | with_reducible refine(HW.out _ _ HR5.out).mono ?_
         | with_reducible refine(HW.out _ _ (HRN.out _ HB5.out)).mono ?_
        rintro e v7 ⟨S0,R0,rfl,hn7,hb7⟩;rw [zS]
        first
         | (have HB7:Hid (Below W9.heap.size W9 v7):=by with_reducible exact Ph (zU HB5.out hb7))
         | (have HB7:Hid (Below W9.heap.size W9 v7):=by with_reducible exact Ph (zU (zG HB5.out _) hb7))
        have HN7:=Ph hn7;have HX7:=Ph (HX9.out.below HB7.out HX9.out.lt);repeat (rename (World.cell? _ _=some _)=>hZ;clear hZ)
        obtain⟨y0,y1,y2,y3,y4,y5,y6⟩:=qL HX7.out;obtain⟨f0,f1,f2,f3,f4,f5,f6⟩:=zZ HX7.out;clear HBC hb7 hn7 HRW HRN HH HND HW HN9 HM9 HK9 HY9 HZ9 HV9;have HBC:=HB7))
  all_goals
   have HF:=Ph (fr7 v7 r (uB X.1.kind) (uB X.1.op) (uW X.1.value) (uI X.1.width) (uR X.1.name) (uL S0) (uL R0));have HK:=Ph (zZ9 (v0:=uB X.1.kind) (v1:=uB X.1.op) (v2:=uW X.1.value) (v3:=uI X.1.width) (v4:=uR X.1.name) (v5:=uL S0) (v6:=uL R0) HX7.out);go_wp2
   generalize (World.setCell _ _ _)=WF at HF HK ⊢;obtain⟨r0,r1,r2,r3,r4,r5,r6⟩:=qL HK.out;refine lK (v:=yO X S0 R0) (by rw [zS];simp [results,Tryz.results95,go_sem,r0,r1,r2,r3,r4,r5,r6]) rfl ?_;exact xZ (HP9.out.then HB7.out) h.out HX7.out hrp hwr HF.out HN7.out
end
end
end Go.Proofs.YtfdaebgllibphaaGreatDoor
