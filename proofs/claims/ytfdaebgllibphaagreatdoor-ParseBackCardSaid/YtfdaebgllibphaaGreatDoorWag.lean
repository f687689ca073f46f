import Derived.Lib.ItoaLen
import Derived.Sort.LoopGhostIn
import Derived.Test.YtfdaebgllibphaaGreatDoorWaf
set_option linter.unusedVariables false
set_option linter.unusedSimpArgs false
set_option maxRecDepth 100000
set_option maxHeartbeats 16000000
namespace Go.Proofs.YtfdaebgllibphaaGreatDoor
open Go.Proofs.Tryz
section
open Go.RowKit
def Sx.kind:Sx→Nat | .mk k _ _ _ _ _=>k
def Sx.name:Sx→List UInt8 | .mk _ n _ _ _ _=>n
def Sx.exprs:Sx→List Ex | .mk _ _ l _ _ _=>l
def Sx.bound:Sx→Int | .mk _ _ _ b _ _=>b
def Sx.thn:Sx→List Sx | .mk _ _ _ _ t _=>t
def Sx.els:Sx→List Sx | .mk _ _ _ _ _ e=>e
def TTy (t:TypeId):Prop:=t=31∨t=108∨t=87∨t=90∨t=93
def Stays (P:Nat→Prop) (w w':World):Prop:=∀ (b:Nat) cs t fr,w.heap[b]?=some (.cells cs t fr)→TTy t→P b→w'.heap[b]?=w.heap[b]?
theorem Stays.trans {P:Nat→Prop} {w w1 w2:World} (h:Stays P w w1) (k:Stays P w1 w2):Stays P w w2:=fun b cs t fr hb ht hp=>(k b cs t fr ((h b cs t fr hb ht hp).trans hb) ht hp).trans (h b cs t fr hb ht hp)
theorem Stays.below {P:Nat→Prop} {w w':World} (h:Below w.heap.size w w'):Stays P w w':=fun b _ _ _ hb _ _=>h.block b (zO hb)
theorem Stays.fr {P F:Nat→Prop} {w w':World} (h:Fr F w w') (hF:∀ b,b<w.heap.size→P b→¬F b):Stays P w w':=fun b _ _ _ hb _ hp=>h.block b (zO hb) (hF b (zO hb) hp)
theorem Stays.mono {P P':Nat→Prop} {w w':World} (h:Stays P w w') (hp:∀ b,b<w.heap.size→P' b→P b):Stays P' w w':=fun b cs t fr hb ht hq=>h b cs t fr hb ht (hp b (zO hb) hq)
theorem Stays.box {P:Nat→Prop} {w w':World} {g:Nat} {t':TypeId} {cs:Array Value} (h:Fr (fun k=>k=g) w w') (hk:Bk w g t' cs) (hne:¬TTy t'):Stays P w w':=by intro b cs2 t fr hb ht _;refine h.block b (zO hb) ?_;rintro rfl;unfold Bk at hk;rw [hb]at hk;injection hk with hk;injection hk with _ e;exact hne (e▸ht)
theorem RdT.stay {P:Nat→Prop} {w w':World} {A:Option Addr} {t:TypeId} {xs:List Value} (h:RdT w A t xs) (hP:∀ b off,A=some ⟨b,off,none⟩→P b) (ht:TTy t) (hs:Stays P w w'):RdT w' A t xs :=
 ⟨fun hx=>by obtain⟨b,off,cs,t0,fr,rfl,hb,hc⟩:=h.rd hx;obtain⟨cs',fr',hb'⟩:=h.ty b off rfl;rw [hb']at hb;injection hb with hb;injection hb with e1 e2 e3;subst e1 e2 e3;exact⟨b,off,_,_,_,rfl,(hs b _ _ _ hb' ht (hP b off rfl)).trans hb',hc⟩,
 fun b off he=>by obtain⟨cs,fr,hb⟩:=h.ty b off he;exact⟨cs,fr,(hs b _ _ _ hb ht (hP b off he)).trans hb⟩⟩
theorem qW:TTy 31:=.inl rfl
theorem yW:TTy 108:=.inr (.inl rfl)
theorem qC:TTy 87:=.inr (.inr (.inl rfl))
theorem jZ:TTy 90:=.inr (.inr (.inr (.inl rfl)))
theorem zD1:TTy 93:=.inr (.inr (.inr (.inr rfl)))
theorem zS5:¬TTy 3:=by unfold TTy;decide
theorem zX8:¬TTy 152:=by unfold TTy;decide
section
variable {α β:Type}
structure qD6 (A:(Nat→Prop)→World→α→β→Prop):Prop where
 stay:∀ P w w' y v,Stays P w w'→A P w y v→A P w' y v
 mono:∀ (P P':Nat→Prop) w y v,(∀ b,b<w.heap.size→P b→P' b)→A P w y v→A P' w y v
inductive RowG (c:α→β→List Value) (t:TypeId) (A:(Nat→Prop)→World→α→β→Prop) (P:Nat→Prop) (w:World):List α→SV→Prop where
 | mk (l:List α) (S:SV) (vs:List β) (hl:vs.length=l.length) (hn:S.n=l.length) (hP:∀ b off,S.A=some ⟨b,off,none⟩→P b) (rd:RdT w S.A t ((l.zip vs).flatMap fun p=>c p.1 p.2))
    (all:∀ (i:Nat) (y:α) (v:β),l[i]?=some y→vs[i]?=some v→A P w y v):RowG c t A P w l S
variable {c:α→β→List Value} {t:TypeId} {A:(Nat→Prop)→World→α→β→Prop} {P P':Nat→Prop} {w w':World} {l:List α} {S:SV}
theorem RowG.len (h:RowG c t A P w l S):S.n=l.length:=by cases h;assumption
theorem RowG.stay (I:qD6 A) (ht:TTy t) (h:RowG c t A P w l S) (hs:Stays P w w'):RowG c t A P w' l S:=by
 cases h with
 | mk vs hl hn hP rd all=>exact .mk l S vs hl hn hP (rd.stay hP ht hs) fun i y v hy hv=>I.stay P w w' y v hs (all i y v hy hv)
theorem RowG.mono (I:qD6 A) (h:RowG c t A P w l S) (hp:∀ b,b<w.heap.size→P b→P' b):RowG c t A P' w l S:=by
 cases h with
 | mk vs hl hn hP rd all =>
   refine .mk l S vs hl hn (fun b off e=>?_) rd fun i y v hy hv=>I.mono P P' w y v hp (all i y v hy hv);obtain⟨cs,fr,hb⟩:=rd.ty b off e;exact hp b (zO hb) (hP b off e)
theorem RowG.nil:RowG c t A P w [] ⟨none,0,0⟩:=.mk [] _ [] rfl rfl (fun _ _ h=>by cases h) RdT.nil (fun i y v h _=>by simp at h)
theorem RowG.item (I:qD6 A) (ht:TTy t):qD6 (fun P w (l:List α) (S:SV)=>RowG c t A P w l S):=⟨fun P w w' y v hs h=>h.stay I ht hs,fun P P' w y v hp h=>h.mono I hp⟩
def OwnG (c:α→β→List Value) (t:TypeId) (m:Nat) (A:(Nat→Prop)→World→α→β→Prop) (B:Nat) (w:World) (l:List α) (S:SV):Prop :=
 ∃ vs:List β,vs.length=l.length∧S.n=l.length∧w.ownsRow B t m (uL S) S.n ((l.zip vs).flatMap fun p=>c p.1 p.2)∧∀ (i:Nat) (y:α) (v:β),l[i]?=some y→vs[i]?=some v→A (fun k=>B≤k∧(uL S).ownBlock≠some k) w y v
variable {m B:Nat}
theorem OwnG.nil:OwnG c t m A B w [] ⟨none,0,0⟩:=⟨[],rfl,rfl,⟨Ym,.inl ⟨rfl,rfl⟩⟩,fun i y v h _=>by simp at h⟩
theorem OwnG.len (h:OwnG c t m A B w l S):S.n=l.length:=by obtain⟨vs,h1,h2,h3⟩:=h;exact h2
theorem OwnG.stay (I:qD6 A) (ht:TTy t) (h:OwnG c t m A B w l S) (hs:Stays (fun k=>B≤k) w w'):OwnG c t m A B w' l S:=by
 obtain⟨vs,h1,h2,h3,h4⟩:=h;refine⟨vs,h1,h2,?_,fun i y v hy hv=>I.stay _ w w' y v (hs.mono fun b _ hb=>hb.1) (h4 i y v hy hv)⟩;refine⟨h3.1,?_⟩;rcases h3.2 with h0 | ⟨g',cap,cur,e,hbs,hh,rest⟩
 ·exact .inl h0
 ·exact .inr ⟨g',cap,cur,e,hbs,(hs g' _ _ _ hh ht hbs).trans hh,rest⟩
theorem OwnG.row (I:qD6 A) (h:OwnG c t m A B w l S):RowG c t A (fun k=>B≤k) w l S:=by
 obtain⟨vs,h1,h2,h3,h4⟩:=h;refine .mk l S vs h1 h2 (fun b off e=>?_) (RdT.of_own h3) fun i y v hy hv=>I.mono _ _ w y v (fun b _ hb=>hb.1) (h4 i y v hy hv);rcases h3.2 with⟨h0,_⟩ | ⟨g',cap,cur,h0,hbs,_⟩
 ·injection h0 with h0;rw [h0]at e;cases e
 ·injection h0 with h0;rw [h0]at e;injection e with e;injection e with e;omega
theorem OwnG.run (I:qD6 A) {ts:TypeId} (E:El prog ts t m) (ht:TTy t) (h1:∀ x v,∀ u∈c x v,u.oneCell'=true) (hc:∀ x v,(c x v).length=m)
 (h:OwnG c t m A B w l S) (x:α) (v:β) (hx:A (fun k=>B≤k∧(Value.slice S.A S.n S.c).ownBlock≠some k) w x v) (Ad:Option Addr) (cc:Nat) (hr:Rd w Ad (c x v)) (hn:S.n<1000000000) (hB:B≤w.heap.size) (ty:TypeId) :
 ∃ A' c' w',(Builtin.append_ #[ts,ts] ty #[.slice S.A S.n S.c,.slice Ad 1 cc]).run prog w=.ok (.slice A' (S.n+1) c') w'∧OwnG c t m A B w' (l++[x]) ⟨A',S.n+1,c'⟩∧Fr (fun k=>(Value.slice S.A S.n S.c).ownBlock=some k) w w':=by
 obtain⟨vs,g1,g2,g3,g4⟩:=h;obtain⟨A',c',w',hrun,ho,hg,hat⟩:=zG6 E ty B _ S.n _ g3 Ad 1 cc (c x v) hr (by rw [hc,Nat.one_mul]) (h1 x v) Yo hB;have hf:Fr (fun k=>(uL S).ownBlock=some k) w w':=(Fr.refl _ _).grown hg (fun k hk=>.inl hk);refine⟨A',c',w',hrun,⟨vs++[v],by simp [g1],by simp [g2],?_,?_⟩,hf⟩
 ·rw [List.zip_append g1.symm,List.flatMap_append];simpa using ho
 ·have key:∀ y u,A (fun k=>B≤k∧(uL S).ownBlock≠some k) w y u→A (fun k=>B≤k∧(Value.slice A' (S.n+1) c').ownBlock≠some k) w' y u:=by
   intro y u hy;have a1:=I.mono _ (fun k=>(B≤k∧(uL S).ownBlock≠some k)∧k<w.heap.size) w y u (fun b hb hp=>⟨hp,hb⟩) hy;have a2:=I.stay _ w w' y u (Stays.fr hf (fun b _ hp e=>hp.1.2 e)) a1;refine I.mono _ _ w' y u (fun b _ hp=>⟨hp.1.1,?_⟩) a2;rcases hat with e | e
   ·rw [e];exact hp.1.2
   ·rw [e];intro e2;injection e2 with e2;have:=hp.2;omega
  intro i y u hy hu;rcases Nat.lt_or_ge i l.length with hi | hi
  ·rw [cI hi]at hy;rw [cI Yo]at hu;exact key y u (g4 i y u hy hu)
  ·rw [cH hi]at hy;rw [cH Yo]at hu;have hi0:i-l.length=0:=by
    rcases Nat.eq_zero_or_pos (i-l.length)with h | h
    ·exact h
    ·rw [cW Yp]at hy;cases hy
   rw [hi0]at hy;rw [g1,hi0]at hu;simp at hy hu;subst hy hu;exact key _ _ hx
end
theorem jC6 {P:Program} {t ty0:TypeId} {w w':World} {o:Oper} {a:Act} {K:Act→World→Prop} {Q:Exit→Act→World→Prop} (s x:Operand) (ho:o.op=.call { callee:=.builtin .append,args:=#[s,x],argTypes:=#[t,t] }) (v u r:Value) (hs:a.eval s=v) (hx:a.eval x=u)
 (hrun:(Builtin.append_ #[t,t] o.type #[v,u]).run P w=.ok r w') (h:K (a.put o.dst r) w'):o.wp P a w K Q:=by
 unfold Oper.wp execOp;simp only [ho,resolve,invoke,builtin,Sem.run_bind,Sem.run_pure,Result.andThen_ok,List.map_toArray,lY,List.map_nil,hs,hx,hrun];exact h
theorem TreeP.stay {P:Nat→Prop} {w w':World} {x:Ex} {S:SV} (h:TreeP P qX 31 w x S) (hs:Stays P w w'):TreeP P qX 31 w' x S:=by
 induction h with
 | mk x S vs ok hl hn hP rd all ih=>exact .mk x S vs ok hl hn hP (rd.stay hP qW hs) ih
abbrev TX (P:Nat→Prop) (w:World) (x:Ex) (S:SV):Prop:=TreeP P qX 31 w x S
theorem itX:qD6 TX:=⟨fun P w w' y v hs h=>h.stay hs,fun P P' w y v hp h=>h.mono hp⟩
abbrev RowX (P:Nat→Prop) (w:World) (l:List Ex) (S:SV):Prop:=RowG qX 31 TX P w l S
abbrev OwnX (B:Nat) (w:World) (l:List Ex) (S:SV):Prop:=OwnG qX 31 6 TX B w l S
def zC6 (x:Sx) (v:SV×SV×SV):List Value:=[uB x.kind,uR x.name,.slice v.1.A v.1.n v.1.c,uI x.bound,.slice v.2.1.A v.2.1.n v.2.1.c,.slice v.2.2.A v.2.2.n v.2.2.c]
structure kM4 (x:Sx):Prop where
 k:x.kind≤255
 b0:-9223372036854775808≤x.bound
 b1:x.bound≤9223372036854775807
 n:x.name.length≤1000000
inductive StsP (P:Nat→Prop) (w:World):List Sx→SV→Prop where
 | mk (l:List Sx) (S:SV) (vs:List (SV×SV×SV)) (hl:vs.length=l.length) (hn:S.n=l.length) (hP:∀ b off,S.A=some ⟨b,off,none⟩→P b) (rd:RdT w S.A 108 ((l.zip vs).flatMap fun p=>zC6 p.1 p.2))
    (ok:∀ (i:Nat) (y:Sx) (v:SV×SV×SV),l[i]?=some y→vs[i]?=some v→kM4 y)
    (ex:∀ (i:Nat) (y:Sx) (v:SV×SV×SV),l[i]?=some y→vs[i]?=some v→RowX P w y.exprs v.1)
    (th:∀ (i:Nat) (y:Sx) (v:SV×SV×SV),l[i]?=some y→vs[i]?=some v→StsP P w y.thn v.2.1)
    (el:∀ (i:Nat) (y:Sx) (v:SV×SV×SV),l[i]?=some y→vs[i]?=some v→StsP P w y.els v.2.2):StsP P w l S
theorem StsP.stay {P:Nat→Prop} {w w':World} {l:List Sx} {S:SV} (h:StsP P w l S) (hs:Stays P w w'):StsP P w' l S:=by
 induction h with
 | mk l S vs hl hn hP rd ok ex th el ih1 ih2=>exact .mk l S vs hl hn hP (rd.stay hP yW hs) ok (fun i y v hy hv=>(ex i y v hy hv).stay itX qW hs) ih1 ih2
theorem StsP.mono {P P':Nat→Prop} {w:World} {l:List Sx} {S:SV} (h:StsP P w l S) (hp:∀ b,b<w.heap.size→P b→P' b):StsP P' w l S:=by
 induction h with
 | mk l S vs hl hn hP rd ok ex th el ih1 ih2 =>
   refine .mk l S vs hl hn (fun b off e=>?_) rd ok (fun i y v hy hv=>(ex i y v hy hv).mono itX hp) ih1 ih2;obtain⟨cs,fr,hb⟩:=rd.ty b off e;exact hp b (zO hb) (hP b off e)
theorem StsP.len {P:Nat→Prop} {w:World} {l:List Sx} {S:SV} (h:StsP P w l S):S.n=l.length:=by cases h;assumption
theorem StsP.nil {P:Nat→Prop} {w:World}:StsP P w [] ⟨none,0,0⟩:=.mk [] _ [] rfl rfl (fun _ _ h=>by cases h) RdT.nil (fun i y v h _=>by simp at h) (fun i y v h _=>by simp at h) (fun i y v h _=>by simp at h) (fun i y v h _=>by simp at h)
structure SxP (P:Nat→Prop) (w:World) (x:Sx) (v:SV×SV×SV):Prop where
 ok:kM4 x
 ex:RowX P w x.exprs v.1
 th:StsP P w x.thn v.2.1
 el:StsP P w x.els v.2.2
theorem itS:qD6 SxP:=⟨fun P w w' y v hs h=>⟨h.ok,h.ex.stay itX qW hs,h.th.stay hs,h.el.stay hs⟩,fun P P' w y v hp h=>⟨h.ok,h.ex.mono itX hp,h.th.mono hp,h.el.mono hp⟩⟩
abbrev jC7 (B:Nat) (w:World) (l:List Sx) (S:SV):Prop:=OwnG zC6 108 6 SxP B w l S
theorem StsP.of {P:Nat→Prop} {w:World} {l:List Sx} {S:SV} (h:RowG zC6 108 SxP P w l S):StsP P w l S:=by
 cases h with
 | mk vs hl hn hP rd all=>exact .mk l S vs hl hn hP rd (fun i y v hy hv=>(all i y v hy hv).ok) (fun i y v hy hv=>(all i y v hy hv).ex) (fun i y v hy hv=>(all i y v hy hv).th) (fun i y v hy hv=>(all i y v hy hv).el)
theorem OwnG.sts {B:Nat} {w:World} {l:List Sx} {S:SV} (h:jC7 B w l S):StsP (fun k=>B≤k) w l S:=.of (h.row itS)
def yX (x:Dx) (_:Unit):List Value:=[uR x.name,uI x.width,uI x.size]
structure jO4 (x:Dx):Prop where
 n:x.name.length≤1000000
 w0:-9223372036854775808≤x.width
 w1:x.width≤9223372036854775807
 s0:-9223372036854775808≤x.size
 s1:x.size≤9223372036854775807
def DxP (_:Nat→Prop) (_:World) (x:Dx) (_:Unit):Prop:=jO4 x
theorem itD:qD6 DxP:=⟨fun P w w' y v hs h=>h,fun P P' w y v hp h=>h⟩
abbrev zE2 (P:Nat→Prop) (w:World) (l:List Dx) (S:SV):Prop:=RowG yX 87 DxP P w l S
abbrev OwnD (B:Nat) (w:World) (l:List Dx) (S:SV):Prop:=OwnG yX 87 3 DxP B w l S
def jC8 (x:Ix) (S:SV):List Value:=uI x.block :: qX x.value S
structure IxP (P:Nat→Prop) (w:World) (x:Ix) (S:SV):Prop where
 b0:-9223372036854775808≤x.block
 b1:x.block≤9223372036854775807
 t:TX P w x.value S
theorem itI:qD6 IxP:=⟨fun P w w' y v hs h=>⟨h.b0,h.b1,h.t.stay hs⟩,fun P P' w y v hp h=>⟨h.b0,h.b1,h.t.mono hp⟩⟩
abbrev jT5 (P:Nat→Prop) (w:World) (l:List Ix) (S:SV):Prop:=RowG jC8 90 IxP P w l S
abbrev kL1 (B:Nat) (w:World) (l:List Ix) (S:SV):Prop:=OwnG jC8 90 7 IxP B w l S
def zP2 (x:Rx) (v:SV×SV):List Value:=[uR x.name,.slice v.1.A v.1.n v.1.c,.slice v.2.A v.2.n v.2.c]
structure RxP (P:Nat→Prop) (w:World) (x:Rx) (v:SV×SV):Prop where
 n:x.name.length≤1000000
 ps:zE2 P w x.params v.1
 b:StsP P w x.body v.2
theorem itR:qD6 RxP:=⟨fun P w w' y v hs h=>⟨h.n,h.ps.stay itD qC hs,h.b.stay hs⟩,fun P P' w y v hp h=>⟨h.n,h.ps.mono itD hp,h.b.mono hp⟩⟩
abbrev jT6 (P:Nat→Prop) (w:World) (l:List Rx) (S:SV):Prop:=RowG zP2 93 RxP P w l S
abbrev kQ3 (B:Nat) (w:World) (l:List Rx) (S:SV):Prop:=OwnG zP2 93 3 RxP B w l S
end
structure kN3 (E:Env) (f:Nat):Prop where
 choice:∀ s r,zM E f s=some r→zM E (f+1) s=some r
 chain:∀ k s r,qN E f k s=some r→qN E (f+1) k s=some r
 links:∀ k x s r,qR E f k x s=some r→qR E (f+1) k x s=some r
 operand:∀ s r,zR E f s=some r→zR E (f+1) s=some r
 casts:∀ x s r,jI E f x s=some r→jI E (f+1) x s=some r
 within:∀ s a b r,zX E f s a b=some r→zX E (f+1) s a b=some r
 basis:∀ s r,qJ E f s=some r→qJ E (f+1) s=some r
theorem qM1 (E:Env):∀ f,kN3 E f
 | 0=>⟨fun s r h=>by simp [zM]at h,fun k s r h=>by simp [qN]at h,fun k x s r h=>by simp [qR]at h,fun s r h=>by simp [zR]at h,fun x s r h=>by simp [jI]at h,fun s a b r h=>by simp [zX]at h,fun s r h=>by simp [qJ]at h⟩
 | f+1=>by
   have ih:=qM1 E f;refine⟨?_,?_,?_,?_,?_,?_,?_⟩
   ·intro s r h;rw [zM]at h ⊢;cases hc:qN E f 1 s with
    | none=>rw [hc]at h;cases h
    | some q =>
      obtain⟨x,s1⟩:=q;rw [hc]at h;rw [ih.chain _ _ _ hc];(try dsimp only at h ⊢);cases ho:okP s1 with
      | false=>rw [ho]at h;cases h
      | true =>
        rw [ho]at h;(try dsimp only at h ⊢);cases hb:zC7 E s1 [63]with
        | false=>rw [hb]at h;exact h
        | true =>
          rw [hb]at h;(try dsimp only at h ⊢);cases h1:zM E f (zI4 E s1 [63])with
          | none=>rw [h1]at h;cases h
          | some q =>
            obtain⟨y,s3⟩:=q;rw [h1]at h;rw [ih.choice _ _ h1];(try dsimp only at h ⊢);cases h2:zM E f (zI E s3 [58])with
            | none=>rw [h2]at h;cases h
            | some q =>
              obtain⟨z,s5⟩:=q;rw [h2]at h;rw [ih.choice _ _ h2];exact h
   ·intro k s r h;rw [qN]at h ⊢;cases h1:zR E f s with
    | none=>rw [h1]at h;cases h
    | some q =>
      obtain⟨x,s1⟩:=q;rw [h1]at h;rw [ih.operand _ _ h1];exact ih.links _ _ _ _ h
   ·intro k x s r h;rw [qR]at h ⊢;cases h0:decide (s.e=0)with
    | false=>rw [h0]at h;exact h
    | true =>
      rw [h0]at h;(try dsimp only at h ⊢);cases h1:(if (zC E s).kind=4 then jY (zC E s).text true else none)with
      | none=>rw [h1]at h;exact h
      | some op =>
        rw [h1]at h;(try dsimp only at h ⊢);cases h2:decide (kD op<k)with
        | true=>rw [h2]at h;exact h
        | false =>
          rw [h2]at h;(try dsimp only at h ⊢);cases h3:qN E f (kD op+1) (zE s)with
          | none=>rw [h3]at h;cases h
          | some q =>
            obtain⟨y,s2⟩:=q;rw [h3]at h;rw [ih.chain _ _ _ h3];(try dsimp only at h ⊢);cases h4:okW [x,y]with
            | false=>rw [h4]at h;cases h
            | true=>rw [h4]at h;exact ih.links _ _ _ _ h
   ·intro s r h;rw [zR]at h ⊢;cases h1:(if (zC E s).kind=4 then jY (zC E s).text false else none)with
    | some op =>
      rw [h1]at h;(try dsimp only at h ⊢);cases ho:okP s with
      | false=>rw [ho]at h;cases h
      | true =>
        rw [ho]at h;(try dsimp only at h ⊢);cases h2:zR E f (kV E s (zC E s).text)with
        | none=>rw [h2]at h;cases h
        | some q=>rw [h2]at h;rw [ih.operand _ _ h2];exact h
    | none =>
      rw [h1]at h;(try dsimp only at h ⊢);cases h2:qJ E f s with
      | none=>rw [h2]at h;cases h
      | some q =>
        obtain⟨x,s1⟩:=q;rw [h2]at h;rw [ih.basis _ _ h2];exact ih.casts _ _ _ h
   ·intro x s r h;rw [jI]at h ⊢;cases h1:isP E s [64]with
    | false=>rw [h1]at h;exact h
    | true =>
      rw [h1]at h;(try dsimp only at h ⊢);cases h2:okW [x]with
      | false=>rw [h2]at h;cases h
      | true=>rw [h2]at h;exact ih.casts _ _ _ h
   ·intro s a b r h;rw [zX]at h ⊢;cases ho:okP s with
    | false=>rw [ho]at h;cases h
    | true =>
      rw [ho]at h;(try dsimp only at h ⊢);cases h1:zM E f (kV E s a)with
      | none=>rw [h1]at h;cases h
      | some q=>rw [h1]at h;rw [ih.choice _ _ h1];exact h
   ·intro s r h;rw [qJ]at h ⊢;cases h0:decide (s.e=0)with
    | false=>rw [h0]at h;exact h
    | true =>
      rw [h0]at h;(try dsimp only at h ⊢);cases h1:decide ((zC E s).kind=3)with
      | true=>rw [h1]at h;exact h
      | false =>
        rw [h1]at h;(try dsimp only at h ⊢);cases h2:decide ((zC E s).text=[40])with
        | true=>rw [h2]at h;exact ih.within _ _ _ _ h
        | false =>
          rw [h2]at h;(try dsimp only at h ⊢);cases h3:decide ((zC E s).text=[100,105,115,107])with
          | true =>
            rw [h3]at h;(try dsimp only at h ⊢);cases h4:zX E f (zE s) [91] [93]with
            | none=>rw [h4]at h;cases h
            | some q=>rw [h4]at h;rw [ih.within _ _ _ _ h4];exact h
          | false =>
            rw [h3]at h;(try dsimp only at h ⊢);cases h5:decide ((zC E (zL E s)).text=[91])with
            | false=>rw [h5]at h;exact h
            | true =>
              rw [h5]at h;(try dsimp only at h ⊢);cases h4:zX E f (zL E s) [91] [93]with
              | none=>rw [h4]at h;cases h
              | some q=>rw [h4]at h;rw [ih.within _ _ _ _ h4];exact h
theorem zA9 {E:Env} {f g:Nat} (h:f≤g) {s:PSt} {r} (hc:zM E f s=some r):zM E g s=some r:=by
 induction h with
 | refl=>exact hc
 | step _ ih=>exact(qM1 E _).choice _ _ ih
theorem zN6 {E:Env} {f g:Nat} (h:f≤g) {k:Nat} {s:PSt} {r} (hc:qN E f k s=some r):qN E g k s=some r:=by
 induction h with
 | refl=>exact hc
 | step _ ih=>exact(qM1 E _).chain _ _ _ ih
theorem zN7 {E:Env} {f g:Nat} (h:f≤g) {k:Nat} {x:Nd} {s:PSt} {r} (hc:qR E f k x s=some r):qR E g k x s=some r:=by
 induction h with
 | refl=>exact hc
 | step _ ih=>exact(qM1 E _).links _ _ _ _ ih
theorem qF8 {E:Env} {f g:Nat} (h:f≤g) {s:PSt} {r} (hc:zR E f s=some r):zR E g s=some r:=by
 induction h with
 | refl=>exact hc
 | step _ ih=>exact(qM1 E _).operand _ _ ih
theorem zX9 {E:Env} {f g:Nat} (h:f≤g) {x:Nd} {s:PSt} {r} (hc:jI E f x s=some r):jI E g x s=some r:=by
 induction h with
 | refl=>exact hc
 | step _ ih=>exact(qM1 E _).casts _ _ _ ih
theorem zY1 {E:Env} {f g:Nat} (h:f≤g) {s:PSt} {r} (hc:qJ E f s=some r):qJ E g s=some r:=by
 induction h with
 | refl=>exact hc
 | step _ ih=>exact(qM1 E _).basis _ _ ih
def kD9:Nat→Nat→List UInt8
 | 0,n=>[]
 | f+1,n=>if n<10 then [UInt8.ofNat (48+n)] else kD9 f (n / 10)++[UInt8.ofNat (48+n % 10)]
def qZ (n:Nat):List UInt8:=kD9 20 n
def unT (o:Nat):List UInt8:=([[],[126],[45]]:List (List UInt8)).getD (o % 3) []
def biT (o:Nat):List UInt8:=([[],[],[],[43],[32,45,32],[42],[47],[37],[38],[124],[94],[60,60],[62,62],[61,61],[33,61],[32,60,32],[60,61]]:List (List UInt8)).getD (o % 17) []
def zM6:Ex→Nat | .mk k _ _ _ _ _=>k
def zI5 (wide:Bool) (y:Ex) (t:List UInt8):List UInt8:=if wide∨zM6 y=6∨zM6 y=7∨zM6 y=5 then [40,32]++t++[41] else t
mutual
def zP (wide:Bool):Ex→List UInt8
 | .mk k o v wd n l =>
   let r:=yD wide l
   let s:Nat→List UInt8:=fun i=>match l[i]? with
    | some y=>zI5 wide y (r.getD i [])
    | none=>[]
   if k=1 then qZ v++[58]++qZ wd.toNat
   else if k=2 then n
   else if k=3 then n++[91]++r.getD 0 []++[93]
   else if k=4 then bs "disk ["++r.getD 0 []++[93]
   else if k=5 then unT o++s 0
   else if k=6 then s 0++biT o++s 1
   else if k=7 then s 0++bs "? "++s 1++bs " : "++s 2
   else s 0++bs " @"++qZ wd.toNat
def yD (wide:Bool):List Ex→List (List UInt8)
 | []=>[]
 | x :: l=>zP wide x :: yD wide l
end
def qT:List (List UInt8)→List UInt8
 | []=>[]
 | [x]=>x
 | x :: l=>x++[44]++qT l
mutual
def kF (wide:Bool):List Sx→List UInt8
 | []=>[]
 | x :: l=>jH wide x++bs " # \n"++kF wide l
def jH (wide:Bool):Sx→List UInt8
 | .mk k n es b t e =>
   let r:=es.map (zP wide)
   let tt:=[123]++kF wide t++[125]
   let te:=[123]++kF wide e++[125]
   if k=1 then n++[61]++r.getD 0 []
   else if k=2 then n++[91]++r.getD 0 []++[93,61]++r.getD 1 []
   else if k=3 then bs "write "++qT r
   else if k=4 then bs "flush"
   else if k=5 then bs "barrier"
   else if k=6 then bs "if "++r.getD 0 []++tt++(if e≠[]∨wide then bs "else"++te else [])
   else if k=7 then bs "while "++r.getD 0 []++bs " bound "++qZ b.toNat++tt
   else if k=8 then bs "call "++n++[40]++qT r++[41]
   else []
end
def jJ (wide:Bool) (l:List Sx):List UInt8:=[123]++kF wide l++[125]
def wQ (w:String) (arr:Bool) (d:Dx):List UInt8:=bs ("\n"++w)++d.name++(if arr then [91]++qZ d.size.toNat++[93] else [])++[58]++qZ d.width.toNat
def zH2 (wide:Bool) (p:Gx):List UInt8 :=
 bs "device "++qZ p.blocks.toNat++bs " width "++qZ p.width.toNat
  ++ p.inputs.flatMap (wQ "input " false)++p.ghosts.flatMap (wQ "ghost " false)++p.vars.flatMap (wQ "var " false)++p.arrays.flatMap (wQ "array " true)
  ++ bs " require "++zP wide p.require
  ++ p.inits.flatMap (fun x=>bs " init "++qZ x.block.toNat++[61]++zP wide x.value)
  ++ p.procs.flatMap (fun x=>bs "\nproc "++x.name++[40]++qT (x.params.map fun d=>d.name++[58]++qZ d.width.toNat)++[41]++jJ wide x.body)
  ++ bs "\nwork"++jJ wide p.work++bs "recover"++jJ wide p.recover++bs "invariant "++zP wide p.invariant
section
abbrev Wd:=Nat×List UInt8
def nw (E:Env) (n:Nat):Wd:=match E.toks[n]? with
 | some t=>(t.kind,t.text)
 | none=>(0,[])
def plc (E:Env) (n:Nat):Nat:=match E.toks[n]? with
 | some t=>t.at'
 | none=>E.text.length
abbrev St (n:Nat) (d:Int) (fl:Nat):PSt:=⟨n,d,fl,0⟩
section
variable {E:Env} {n:Nat} {d:Int} {fl:Nat}
theorem qU:(zC E (St n d fl)).kind=(nw E n).1:=by unfold zC nw;rw [lN Ym];cases E.toks[n]? <;> rfl
theorem zT:(zC E (St n d fl)).text=(nw E n).2:=by unfold zC nw;rw [lN Ym];cases E.toks[n]? <;> rfl
theorem yP:(zC E (St n d fl)).at'=plc E n:=by unfold zC plc;rw [lN Ym];cases E.toks[n]? <;> rfl
theorem zG4 {u:List UInt8} (h:(nw E n).2=u) (hk:(nw E n).1≠0):isP E (St n d fl) u=true:=by unfold isP;rw [qU,zT,lH hk,lH h];rfl
theorem qF9 {u:List UInt8} (h:(nw E n).2≠u):isP E (St n d fl) u=false:=by unfold isP;rw [zT,lG h,Bool.and_false]
theorem kI {u:List UInt8} (h:(nw E n).2=u) (hk:(nw E n).1≠0):zI E (St n d fl) u=St (n+1) d fl:=by unfold zI;rw [zG4 h hk];rfl
theorem qM2 {u:List UInt8} (h:(nw E n).2=u) (hu:u≠[]):zC7 E (St n d fl) u=true:=by unfold zC7;rw [zT,lH h,lH (by rw [h];exact hu)];rfl
theorem kH4 {u:List UInt8} (h:(nw E n).2≠u):zC7 E (St n d fl) u=false:=by unfold zC7;rw [zT,lG h,Bool.false_and]
theorem qQ3 {u:List UInt8} (h:(nw E n).2=u) (hu:u≠[]) (hd:d<200):zI4 E (St n d fl) u=St (n+1) (d+1) fl:=by unfold zI4;rw [qM2 h hu,lM rfl,lN (by show ¬(200:Int)≤d;omega)];rfl
theorem zQ6 {u:List UInt8} (h:(nw E n).2=u) (hu:u≠[]) (hd:d<200):kV E (St n d fl) u=St (n+1) (d+1) fl:=by unfold kV;rw [qM2 h hu,lM rfl,qQ3 h hu hd]
theorem qQ4 {u:List UInt8} (h:(nw E n).2=u) (hk:(nw E n).1≠0):wN E (St n d fl) u=St (n+1) (d-1) fl:=by unfold wN;rw [kI h hk];rfl
theorem wU (h0:-1000≤d) (h1:d≤1000):okP (St n d fl)=true:=by unfold okP;rw [lH (show(-1000000:Int)≤d by omega),lH (show d≤(1000000:Int) by omega)];rfl
theorem xU {u:List UInt8} (h:nw E n=(1,u)) (hr:vO u=false):jA E (St n d fl)=u∧zL E (St n d fl)=St (n+1) d fl:=by
 have hb:kJ E (St n d fl)=true:=by unfold kJ;rw [qU,zT,h,hr];rfl
 unfold jA zL;rw [hb,zT,h];exact⟨rfl,rfl⟩
theorem zB1 {u:List UInt8} {v:Nat} (h:nw E n=(2,u)) (hv:vS u=(v,0)):jB E (St n d fl)=(v,St (n+1) d fl):=by unfold jB;rw [qU,zT,h];simp only [hv,if_true];rfl
end
def AtW (E:Env):Nat→List Wd→Prop
 | _,[]=>True
 | n,w :: r=>nw E n=w∧AtW E (n+1) r
theorem AtW.app {E:Env}:∀ {n:Nat} {a b:List Wd},AtW E n (a++b)→AtW E n a∧AtW E (n+a.length) b
 | n,[],b,h=>⟨trivial,h⟩
 | n,w :: r,b,h=>by obtain⟨h1,h2⟩:=AtW.app (n:=n+1) (a:=r) (b:=b) h.2;refine⟨⟨h.1,h1⟩,?_⟩;have e:n+(w :: r).length=n+1+r.length:=Yp;rw [e];exact h2
def qZ7 (wide:Bool) (y:Ex):Bool:=wide || (decide (zM6 y=6) || (decide (zM6 y=7) || decide (zM6 y=5)))
def jE2 (wide:Bool) (y:Ex) (t:List Wd):List Wd:=if qZ7 wide y then(4,[40]) :: (t++[(4,[41])]) else t
mutual
def wX (wide:Bool):Ex→List Wd
 | .mk k o v wd n l =>
   let r:=wXs wide l
   let s:Nat→List Wd:=fun i=>match l[i]? with
    | some y=>jE2 wide y (r.getD i [])
    | none=>[]
   if k=1 then [(3,qZ v++58 :: qZ wd.toNat)]
   else if k=2 then [(1,n)]
   else if k=3 then(1,n) :: (4,[91]) :: (r.getD 0 []++[(4,[93])])
   else if k=4 then(1,bs "disk") :: (4,[91]) :: (r.getD 0 []++[(4,[93])])
   else if k=5 then(4,kK o) :: s 0
   else if k=6 then s 0++(4,kK o) :: s 1
   else if k=7 then s 0++(4,[63]) :: (s 1++(4,[58]) :: s 2)
   else s 0++[(4,[64]),(2,qZ wd.toNat)]
def wXs (wide:Bool):List Ex→List (List Wd)
 | []=>[]
 | x :: l=>wX wide x :: wXs wide l
end
abbrev sW (wide:Bool) (y:Ex):List Wd:=jE2 wide y (wX wide y)
mutual
def plX (E:Env) (wide:Bool):Nat→Ex→List Nat
 | n,.mk k o v wd nm l =>
   let r:=qQ5 E wide l
   let s:Nat→Nat→List Nat:=fun i m=>match l[i]? with
    | some y=>r.getD i (fun _=>[]) (if qZ7 wide y then m+1 else m)
    | none=>[]
   let wl:Nat→Nat:=fun i=>match l[i]? with
    | some y=>(sW wide y).length
    | none=>0
   if k=1∨k=2 then [plc E n]
   else if k=3∨k=4 then plc E n :: r.getD 0 (fun _=>[]) (n+2)
   else if k=5 then plc E n :: s 0 (n+1)
   else if k=6 then(s 0 n).headD 0 :: (s 0 n++s 1 (n+wl 0+1))
   else if k=7 then(s 0 n).headD 0 :: (s 0 n++s 1 (n+wl 0+1)++s 2 (n+wl 0+1+wl 1+1))
   else(s 0 n).headD 0 :: s 0 n
def qQ5 (E:Env) (wide:Bool):List Ex→List (Nat→List Nat)
 | []=>[]
 | x :: l=>(fun n=>plX E wide n x) :: qQ5 E wide l
end
abbrev sPl (E:Env) (wide:Bool) (n:Nat) (y:Ex):List Nat:=plX E wide (if qZ7 wide y then n+1 else n) y
mutual
def szX:Ex→Nat
 | .mk _ _ _ _ _ l=>1+kC l
def kC:List Ex→Nat
 | []=>0
 | x :: l=>szX x+kC l
end
mutual
def htX:Ex→Nat
 | .mk _ _ _ _ _ l=>1+vJ l
def vJ:List Ex→Nat
 | []=>0
 | x :: l=>max (htX x) (vJ l)
end
structure NameOk (n:List UInt8):Prop where
 word:∃ c r,n=c :: r∧qM c=true∧∀ x∈r,yU x=true
 no:vO n=false
inductive kP:Ex→Prop
 | num (v w:Nat):v≤1000000000→w≤1000000000→kP (.mk 1 0 v w [] [])
 | var (n:List UInt8):NameOk n→kP (.mk 2 0 0 0 n [])
 | elem (n:List UInt8) (y:Ex):NameOk n→kP y→kP (.mk 3 0 0 0 n [y])
 | disk (y:Ex):kP y→kP (.mk 4 0 0 0 [] [y])
 | un (o:Nat) (y:Ex):1≤o→o≤2→kP y→kP (.mk 5 o 0 0 [] [y])
 | bin (o:Nat) (x y:Ex):3≤o→o≤16→kP x→kP y→kP (.mk 6 o 0 0 [] [x,y])
 | mux (x y z:Ex):kP x→kP y→kP z→kP (.mk 7 0 0 0 [] [x,y,z])
 | cast (w:Nat) (y:Ex):w≤1000000000→kP y→kP (.mk 8 0 0 w [] [y])
structure vX (w:Wd):Prop where
 b:w.2≠[91]
 a:w.2≠[64]
 q:w.2≠[63]
 o:w.1=4→jY w.2 true=none
theorem jE (E:Env) (wide:Bool) {x:Ex} (h:kP x):∀ n,(plX E wide n x).length=szX x:=by
 induction h with
 | num v w hv hw=>intro n;simp [plX,szX,kC]
 | var nm hn=>intro n;simp [plX,szX,kC]
 | elem nm y hn hy ih=>intro n;simp [plX,qQ5,szX,kC,ih];omega
 | disk y hy ih=>intro n;simp [plX,qQ5,szX,kC,ih];omega
 | un o y h1 h2 hy ih=>intro n;simp [plX,qQ5,szX,kC,ih];omega
 | bin o x y h1 h2 hx hy ih1 ih2=>intro n;simp [plX,qQ5,szX,kC,ih1,ih2];omega
 | mux x y z hx hy hz ih1 ih2 ih3=>intro n;simp [plX,qQ5,szX,kC,ih1,ih2,ih3];omega
 | cast w y hw hy ih=>intro n;simp [plX,qQ5,szX,kC,ih];omega
section
variable {E:Env} {n m:Nat} {d:Int} {fl:Nat}
theorem yB {x:Nd} (h:(nw E n).2≠[64]):∃ f,jI E f x (St n d fl)=some (x,St n d fl):=⟨1,by rw [jI,qF9 h]⟩
theorem yS {k:Nat} {x:Nd} (h:(nw E n).1=4→jY (nw E n).2 true=none):∃ f,qR E f k x (St n d fl)=some (x,St n d fl):=⟨1,by
 rw [qR,lH (show(St n d fl).e=0 from rfl),qU,zT];dsimp only;by_cases h4:(nw E n).1=4
 ·rw [lM h4,h h4]
 ·rw [lN h4]⟩
theorem yZ {k:Nat} {s s1:PSt} {x:Nd} {r} (h:∃ f,zR E f s=some (x,s1)) (hl:∃ f,qR E f k x s1=some r):∃ f,qN E f k s=some r:=by obtain⟨f,h⟩:=h;obtain⟨g,hl⟩:=hl;refine⟨max f g+1,?_⟩;rw [qN,qF8 (cO f g) h];exact zN7 (cN f g) hl
theorem xM {s:PSt} {x:Nd} (h:∃ f,qN E f 1 s=some (x,St m d fl)) (h0:0≤d) (h1:d≤200) (hq:(nw E m).2≠[63]):∃ f,zM E f s=some (x,St m d fl):=by obtain⟨f,h⟩:=h;refine⟨f+1,?_⟩;rw [zM,h];dsimp only;rw [wU Yo Yo,kH4 hq]
theorem kA {s s1:PSt} {x:Nd} {r} (hs:s=St n d fl) (ho:(nw E n).1=4→jY (nw E n).2 false=none) (h:∃ f,qJ E f s=some (x,s1)) (hc:∃ f,jI E f x s1=some r):∃ f,zR E f s=some r:=by
 subst hs;obtain⟨f,h⟩:=h;obtain⟨g,hc⟩:=hc;refine⟨max f g+1,?_⟩;rw [zR,qU,zT];have e:(if (nw E n).1=4 then jY (nw E n).2 false else none)=none:=by
  by_cases h4:(nw E n).1=4
  ·rw [lM h4,ho h4]
  ·rw [lN h4]
 rw [e];dsimp only;rw [zY1 (cO f g) h];exact zX9 (cN f g) hc
theorem zF3 {a b:List UInt8} {x:Nd} (h0:0≤d) (h1:d<200) (ha:(nw E n).2=a) (hne:a≠[]) (h:∃ f,zM E f (St (n+1) (d+1) fl)=some (x,St m (d+1) fl)) (hb:(nw E m).2=b) (hk:(nw E m).1≠0):∃ f,zX E f (St n d fl) a b=some (x,St (m+1) d fl):=by obtain⟨f,h⟩:=h;refine⟨f+1,?_⟩;rw [zX,wU Yo Yo];dsimp only;rw [zQ6 ha hne h1,h];dsimp only;rw [wU Yo Yo,qQ4 hb hk];dsimp only;rw [Int.add_sub_cancel]
end
def PX (E:Env) (wide:Bool) (x:Ex):Prop:=∀ (n:Nat) (d:Int) (fl:Nat),0≤d→d+2*(htX x:Int)≤200→szX x≤1000000→AtW E n (wX wide x)→vX (nw E (n+(wX wide x).length)) →
 ∃ f,zM E f (St n d fl)=some ((x,plX E wide n x),St (n+(wX wide x).length) d fl)
def OX (E:Env) (wide:Bool) (x:Ex):Prop:=∀ (n:Nat) (d:Int) (fl:Nat),0≤d→d+2*(htX x:Int)≤200→szX x≤1000000→AtW E n (wX wide x)→(nw E (n+(wX wide x).length)).2≠[91] →
 ∀ r,(∃ f,jI E f (x,plX E wide n x) (St (n+(wX wide x).length) d fl)=some r)→∃ f,zR E f (St n d fl)=some r
def SX (E:Env) (wide:Bool) (x:Ex):Prop:=∀ (n:Nat) (d:Int) (fl:Nat),0≤d→d+2*(htX x:Int)+1≤200→szX x≤1000000→AtW E n (sW wide x)→(nw E (n+(sW wide x).length)).2≠[91] →
 ∀ r,(∃ f,jI E f (x,sPl E wide n x) (St (n+(sW wide x).length) d fl)=some r)→∃ f,zR E f (St n d fl)=some r
section
variable {E:Env} {wide:Bool} {x y z:Ex}
theorem zB2:vX (4,[41]):=⟨Yd,Yd,Yd,fun _=>Yd⟩
theorem zH5:vX (4,[93]):=⟨Yd,Yd,Yd,fun _=>Yd⟩
theorem qM3:vX (4,[58]):=⟨Yd,Yd,Yd,fun _=>Yd⟩
theorem OX.p (h:OX E wide x):PX E wide x:=by intro n d fl h0 h1 hz ha hs;refine xM (yZ (h n d fl h0 h1 hz ha hs.b _ (yB hs.a)) (yS hs.o)) h0 (by have:=h1;omega) hs.q
theorem PX.par (h:PX E wide x) (hp:qZ7 wide x=true):SX E wide x:=by
 intro n d fl h0 h1 hz ha hb r hr;have e:sW wide x=(4,[40]) :: (wX wide x++[(4,[41])]):=by show jE2 _ _ _=_;unfold jE2;rw [lM hp]
 have e2:sPl E wide n x=plX E wide (n+1) x:=by show plX _ _ _ _=_;rw [lM hp]
 rw [e]at ha hr;rw [e2]at hr;obtain⟨a1,a2⟩:=ha;obtain⟨a2,a3,_⟩:=AtW.app a2;have hl:n+((4,[40]) :: (wX wide x++[(4,[41])])).length=n+1+(wX wide x).length+1:=Yp;rw [hl]at hr;have hc:=h (n+1) (d+1) fl Yo Yo hz a2 (by rw [a3];exact zB2);obtain⟨f,hw⟩:=zF3 (a:=[40]) (b:=[41]) h0 Yo (by rw [a1]) Yd hc (by rw [a3]) (by rw [a3];decide);refine kA rfl (fun _=>by rw [a1];decide) ⟨f+1,?_⟩ hr;rw [qJ,lH (show(St n d fl).e=0 from rfl),qU,zT,a1];exact hw
theorem OX.s (h:OX E wide x) (hp:qZ7 wide x=false):SX E wide x:=by
 intro n d fl h0 h1 hz ha hb r hr;have e:sW wide x=wX wide x:=by show jE2 _ _ _=_;unfold jE2;rw [lN (by rw [hp];decide)]
 have e2:sPl E wide n x=plX E wide n x:=by show plX _ _ _ _=_;rw [lN (by rw [hp];decide)]
 rw [e]at ha hr hb;rw [e2]at hr;exact h n d fl h0 Yo hz ha hb r hr
theorem OX.s' (h:OX E wide x):SX E wide x:=by
 cases hp:qZ7 wide x with
 | true=>exact h.p.par hp
 | false=>exact h.s hp
theorem SX.c (h:SX E wide x) {n:Nat} {d:Int} {fl:Nat} (h0:0≤d) (h1:d+2*(htX x:Int)+1≤200) (hz:szX x≤1000000) (ha:AtW E n (sW wide x)) (hs:vX (nw E (n+(sW wide x).length))):∃ f,zM E f (St n d fl)=some ((x,sPl E wide n x),St (n+(sW wide x).length) d fl) :=
 xM (yZ (h n d fl h0 h1 hz ha hs.b _ (yB hs.a)) (yS hs.o)) h0 Yo hs.q
end
end
section
open Go.RowKit Go.PlainAid Go.Shelf
attribute [local go_sem] Oper.semAt_some
theorem zB9 {P:Program} {F:Fence} {n:Nat} {fn:Func} {tmps:Array Value} {R:Ending→World→Prop} {b0:Nat}:∀ (Ds:List Nat) (w:World),Ds.Nodup→(∀ D∈Ds,b0≤D∧w.heap[D]?=some (.deferred (some [])))→(∀ w',Below b0 w w'→LeavesIn F n P fn tmps R [] .returning w')→LeavesInM F n P fn tmps R (Ds.map fun D=>{ target:=.collected D,args:=#[] }) .returning w
 | [],w,_,_,h=>h w (lB _ _)
 | D :: Ds,w,hn,hd,h=>by have hD:=hd D Ym;have hn':=List.nodup_cons.1 hn;refine⟨Ym,.inl ⟨D,_,rfl,run_takeDeferred hD.2,zB9 Ds _ hn'.2 (fun E hE=>?_) fun w' hb=>h w' ((yL hD.1).trans hb)⟩⟩;have hE':=hd E (by simp [hE]);exact⟨hE'.1,(World.putObj_heap_other (fun e=>hn'.1 (by rw [←e];exact hE))).trans hE'.2⟩
def Marks (b0:Nat) (ds:List Deferred) (w:World):Prop:=∃ Ds:List Nat,ds=Ds.map (fun D=>{ target:=.collected D,args:=#[] })∧Ds.Nodup∧∀ D∈Ds,b0≤D∧w.heap[D]?=some (.deferred (some []))
theorem Marks.nil (b0:Nat) (w:World):Marks b0 [] w:=⟨[],rfl,List.nodup_nil,fun D h=>by cases h⟩
theorem Marks.cons {b0:Nat} {ds:List Deferred} {w w':World} {D:Nat} (h:Marks b0 ds w) (hb:b0≤w.heap.size) (hD:w.heap.size≤D) (hd:w'.heap[D]?=some (.deferred (some []))) (hk:∀ (k:Nat) (o:Obj),w.heap[k]?=some o→o.isCells=false→w'.heap[k]?=some o):Marks b0 ({ target:=.collected D,args:=#[] } :: ds) w':=by
 obtain⟨Ds,rfl,hn,ha⟩:=h;refine⟨D :: Ds,rfl,List.nodup_cons.2 ⟨fun hm=>?_,hn⟩,fun E hE=>?_⟩
 ·have:=zO (ha D hm).2;omega
 ·rcases lU.1 hE with rfl | hE
  ·exact⟨Yo,hd⟩
  ·exact⟨(ha E hE).1,hk _ _ (ha E hE).2 rfl⟩
theorem Marks.keep {b0:Nat} {ds:List Deferred} {w w':World} (h:Marks b0 ds w) (hk:∀ (k:Nat) (o:Obj),w.heap[k]?=some o→o.isCells=false→w'.heap[k]?=some o):Marks b0 ds w':=by obtain⟨Ds,rfl,hn,ha⟩:=h;exact⟨Ds,rfl,hn,fun E hE=>⟨(ha E hE).1,hk _ _ (ha E hE).2 rfl⟩⟩
abbrev FrC (c:Nat) (w w':World):Prop:=Fr (fun q=>q=c) w w'
theorem FrC.stays {c:Nat} {P:Nat→Prop} {w w':World} {cs:Array Value} (h:FrC c w w') (hc:Bk w c 3 cs):Stays P w w':=Stays.box h hc zS5
theorem FrC.others {c:Nat} {w w':World} {cs:Array Value} (h:FrC c w w') (hc:Bk w c 3 cs):∀ (k:Nat) (o:Obj),w.heap[k]?=some o→o.isCells=false→w'.heap[k]?=some o:=fun k o hk ho=>by refine(h.block k (zO hk) fun e=>?_).trans hk;subst e;have h2:w.heap[k]?=some _:=hc;rw [hk]at h2;injection h2 with h2;subst h2;cases ho
theorem qZ2 (cs:Array Value) (w:World):Calls prog 94 #[.agg cs] w fun e w'=>e=.returned (.func (.func 120) #[] #[uQ w.heap.size 0])∧w'=w.alloc (.cells cs 31):=by
 go_enter func94,ntmps94
 go_wp2
 go_ret;exact⟨rfl,rfl⟩
theorem xN {P:Nat→Prop} {W:World} {l:Nat} {r:Loop} {o':Obj} (h:W.heap[l]?=some (.loop r)):Stays P W (W.putObj l o'):=fun b cs t fr hb _ _=>World.putObj_heap_other fun e=>by subst e;rw [h]at hb;cases hb
theorem xJ {W:World} {l b:Nat} {t:TypeId} {cs:Array Value} {o':Obj} (h:Bk W b t cs) (hne:b≠l):Bk (W.putObj l o') b t cs:=(World.putObj_heap_other hne).trans h
def qD5 (x:Ex) (S:SV):Array Value:=#[.int .u8 x.kind,.int .u8 x.op,.int .u32 x.value,.int .i64 x.width,.string (str x.name),.slice S.A S.n S.c]
theorem TX.at {P:Nat→Prop} {w:World} {x:Ex} {S:SV} (h:TX P w x S) {i:Nat} (hi:i<S.n) :
 ∃ b off y v,S.A=some ⟨b,off,none⟩∧x.subs[i]?=some y∧TX P w y v∧b<w.heap.size∧∀ j u,j<6→(qX y v)[j]?=some u→w.cell? ⟨b,off+(i*6+j),none⟩=some u:=by
 cases h with
 | mk _ _ vs ok hl hn hP rd all =>
   obtain⟨b,off,p,hA,hp,hb,hcl⟩:=rd.rd.flat (f:=fun p:Ex×SV=>qX p.1 p.2) (m:=6) (fun p=>rfl) Yo (L:=x.subs.zip vs) (i:=i) (by rw [List.length_zip,hl,Nat.min_self,←hn];exact hi);obtain⟨y,v⟩:=p;obtain⟨h1,h2⟩:=List.getElem?_zip_eq_some.1 hp;exact⟨b,off,y,v,hA,h1,all i y v h1 h2,hb,hcl⟩
theorem TX.len {P:Nat→Prop} {w:World} {x:Ex} {S:SV} (h:TX P w x S):S.n=x.subs.length:=by cases h;assumption
def jR8 (l c M b0:Nat) (J:Nat→World→Prop):Prop:=∀ k y V W,J k W→b0≤W.heap.size→k+1≤M→TX (fun _=>True) W y V→∀ j,YieldAt Fence.wide j prog l #[.agg (qD5 y V)] W fun e W'=>e=.returned (.bool true)∧J (k+1) W'∧FrC c W W'
theorem qZ3 (x:Ex):1≤szX x:=by cases x;simp [szX]
theorem zO8:∀ l:List Ex,l.length≤kC l
 | []=>by simp [kC]
 | x :: l=>by have h1:=qZ3 x;have h2:=zO8 l;simp only [kC,Yc];omega
theorem vE:∀ (l:List Ex) (j:Nat) (y:Ex),l[j]?=some y→kC (l.take j)+szX y≤kC l∧kC (l.take (j+1))=kC (l.take j)+szX y
 | [],j,y,h=>by simp at h
 | x :: l,0,y,h=>by simp at h;subst h;simp [kC]
 | x :: l,j+1,y,h=>by have:=vE l j y (by simpa using h);simp only [cR,kC];omega
theorem qJ6:∀ (N:Nat) (x:Ex) (S:SV) (n l pb c m M b0:Nat) (J:Nat→World→Prop) (W1:World),szX x≤N→1≤n→Ud (TX (fun _=>True) W1 x S)→Ud (Bk W1 pb 31 (qD5 x S))→pb≠c→b0≤W1.heap.size→m+szX x≤M→M≤1000000 →
 Ud (∀ k W,J k W→∃ cs,Bk W c 3 cs)→Ud (∀ k W W',J k W→Below b0 W W'→J k W')→Ud (jR8 l c M b0 J)→Ud (J m W1) →
 CallsIn Fence.wide n prog 120 #[.func (.yield l) #[] #[],uQ pb 0] W1 fun e W'=>(∃ v,e=.returned v)∧J (m+szX x) W'∧FrC c W1 W'
 | 0,x,S,n,l,pb,c,m,M,b0,J,W1,hN,_,_,_,_,_,_,_,_,_,_,_=>by cases x;simp [szX]at hN
 | N+1,x,S,n,l,pb,c,m,M,b0,J,W1,hN,h1n,HT,HPB,hpc,hb0,hM,hM6,HJC,HJB,HY,HJ=>by
   have IH:=Ph (qJ6 N);obtain⟨SA,Sn,Sc⟩:=S;have HL:Ud (Sn=x.subs.length):=Ph HT.o.len;have hsz:szX x=1+kC x.subs:=by cases x;rfl
   refine callsIn_of_wp_marks func120 rfl trivial ?_ rfl;simp only [ntmps120,List.size_toArray,Yc,Yn,Nat.reduceAdd,Nat.reduceSub,Array.replicate_succ,Array.replicate_zero,List.push_toArray,List.append_toArray,cF,lR];refine wpIn_wide.2 ?_;have hyb:=Ph (Bk.new W1 57 #[.func (.yield l) #[] #[]]);have hB1:Below W1.heap.size W1 (W1.alloc (.cells #[.func (.yield l) #[] #[]] 57)):=zG (lB _ _) _;have HPB1:=Ph (zD HPB.o hB1);go_upto_region 1 with fail
   generalize (W1.alloc _)=W2 at hyb hB1 HPB1 ⊢;obtain⟨yb,hybe⟩:∃ b,W1.heap.size=b:=⟨_,rfl⟩;rw [hybe]at hyb ⊢;have hypb:pb<yb:=by have:=HPB.o.lt;omega
   have x0:W2.cell? ⟨pb,0,none⟩=some (uB x.kind):=HPB1.o.cell 0;have x1:W2.cell? ⟨pb,1,none⟩=some (uB x.op):=HPB1.o.cell 1;have x2:W2.cell? ⟨pb,2,none⟩=some (uW x.value):=HPB1.o.cell 2;have x3:W2.cell? ⟨pb,3,none⟩=some (uI x.width):=HPB1.o.cell 3;have x4:W2.cell? ⟨pb,4,none⟩=some (uR x.name):=HPB1.o.cell 4;have x5:W2.cell? ⟨pb,5,none⟩=some (.slice SA Sn Sc):=HPB1.o.cell 5;have y0:W2.cell? ⟨yb,0,none⟩=some (.func (.yield l) #[] #[]):=hyb.o.cell 0;have hz2:W1.heap.size≤W2.heap.size:=hB1.size;have HT2:=Ph (HT.o.bel hB1);have HB12:=Ph hB1;obtain⟨fn,tmps,assign,body,hy,hRn⟩:=HY.o m x ⟨SA,Sn,Sc⟩ W2 (HJB.o _ _ _ HJ.o (hB1.mono hb0)) Yo Yo HT2.o (n-1);have HRn:=Ph hRn;dsimp only [qD5]at hy;clear hRn hB1;refine(wpIn_wide (n:=n)).1 ?_;gi_wp2
   refine HRn.o.mono ?_;clear hy HRn;rintro e W3 ⟨rfl,hJ3,hF3⟩;obtain⟨cs0,hcs0⟩:=HJC.o _ _ HJ.o;have HC1:=Ph hcs0;obtain⟨cc,hcc⟩:=HJC.o _ _ (HJB.o _ _ _ HJ.o (HB12.o.mono hb0));have hcl:c<W2.heap.size:=hcc.lt;have hcy:c≠yb:=by obtain⟨_,h⟩:=HJC.o _ _ HJ.o;have:=h.lt;omega
   have HT3:Ud (TX (fun _=>True) W3 x ⟨SA,Sn,Sc⟩):=Ph (HT2.o.stay (FrC.stays hF3 hcc));have HPB3:=Ph (HPB1.o.fr hF3 hpc);have HYB3:=Ph (hyb.o.fr hF3 (cX hcy));have HF3:Ud (FrC c W1 W3):=Ph ((Fr.of_below HB12.o).trans hF3);have HJ3:=Ph hJ3;clear x0 x1 x2 x3 x4 x5 y0 hJ3 hF3 hcc hcs0 hz2 HT2 HPB1 hyb HB12 HJ hcl;have x5:W3.cell? ⟨pb,5,none⟩=some (.slice SA Sn Sc):=HPB3.o.cell 5;gi_wp2
   go_wp2
   have HMM:=Ph hM;have HSZ:=Ph hsz;clear hM x5;refine wp_loop_ghost_k (fun g a w=>∃ (j:Nat) (s4 s5 s14 s15 s16 s17 s18 s19 s20 s21 s22 s23 s24:Value) (ds:List Deferred),g+j=Sn∧a=⟨#[.func (.yield l) #[] #[],uQ pb 0,uQ yb 0,undef,s4,s5,.func (.yield l) #[] #[],.agg #[uB x.kind,uB x.op,uW x.value,uI x.width,uR x.name,.slice SA Sn Sc],.bool true,.bool false,uQ pb 5,.slice SA Sn Sc,uI Sn,uI j,s14,s15,s16,s17,s18,s19,s20,s21,s22,s23,s24],ds⟩∧Ud (Marks W1.heap.size ds w)∧Ud (J (m+1+kC (x.subs.take j)) w)∧Ud (FrC c W1 w)∧Ud (Bk w yb 57 #[.func (.yield l) #[] #[]])) Sn ⟨0,_,_,_,_,_,_,_,_,_,_,_,_,_,[],rfl,rfl,Marks.nil _ _,by simpa [kC]using HJ3,HF3,HYB3⟩ ?_;clear HJ3 HF3 HYB3 HPB3 HT3;have hSn:Sn≤1000000:=by have h1:=HMM.o;have h2:=HSZ.o;have h3:=HL.o;have h4:=zO8 x.subs;omega
   rintro g a w ⟨j,s4,s5,s14,s15,s16,s17,s18,s19,s20,s21,s22,s23,s24,ds,hg,rfl,HMK,HJ,HF,HYB⟩ JJ K hJJ hK;obtain⟨cs1,hcs1⟩:=HJC.o _ _ (HJB.o _ _ _ HJ.o (lB _ _));have hcw:c<w.heap.size:=hcs1.lt;have hws:W1.heap.size≤w.heap.size:=HF.o.size;by_cases hlt:j<Sn
   ·have e1:decide ((j:Int)<(Sn:Int))=true:=by simp;omega
    have hji:(j:Int)<(Sn:Int):=Yo;have HTw:Ud (TX (fun _=>True) w x ⟨SA,Sn,Sc⟩):=Ph (HT.o.stay (FrC.stays HF.o HC1.o));obtain⟨b,off,y,v,hA,hx,hty,hb,hc⟩:=TX.at HTw.o (i:=j) hlt;obtain⟨vA,vn,vc⟩:=v;(try dsimp only at hA);subst hA;have c0:w.cell? ⟨b,off+j*6,none⟩=some (uB y.kind):=hc 0 _ Yo rfl;have c1:w.cell? ⟨b,off+j*6+1,none⟩=some (uB y.op):=hc 1 _ Yo rfl;have c2:w.cell? ⟨b,off+j*6+2,none⟩=some (uW y.value):=hc 2 _ Yo rfl;have c3:w.cell? ⟨b,off+j*6+3,none⟩=some (uI y.width):=hc 3 _ Yo rfl;have c4:w.cell? ⟨b,off+j*6+4,none⟩=some (uR y.name):=hc 4 _ Yo rfl;have c5:w.cell? ⟨b,off+j*6+5,none⟩=some (.slice vA vn vc):=hc 5 _ Yo rfl;have HX:=Ph hx;have HTY:=Ph hty;clear hx hc hty;go_upto_region 5 with fail
    have hyn:=Ph (Bk.new w 31 #[uB y.kind,uB y.op,uW y.value,uI y.width,uR y.name,.slice vA vn vc]);have hBa:Below w.heap.size w (w.alloc (.cells #[uB y.kind,uB y.op,uW y.value,uI y.width,uR y.name,.slice vA vn vc] 31)):=zG (lB _ _) _;have hza:(w.alloc (.cells #[uB y.kind,uB y.op,uW y.value,uI y.width,uR y.name,.slice vA vn vc] 31)).heap.size=w.heap.size+1:=lO _ _;generalize (w.alloc _)=W4 at hyn hBa hza ⊢;obtain⟨xb,hxb⟩:∃ b,w.heap.size=b:=⟨_,rfl⟩;rw [hxb]at hyn ⊢;have x0:W4.cell? ⟨xb,0,none⟩=some (uB y.kind):=hyn.o.cell 0;have x1:W4.cell? ⟨xb,1,none⟩=some (uB y.op):=hyn.o.cell 1;have x2:W4.cell? ⟨xb,2,none⟩=some (uW y.value):=hyn.o.cell 2;have x3:W4.cell? ⟨xb,3,none⟩=some (uI y.width):=hyn.o.cell 3;have x4:W4.cell? ⟨xb,4,none⟩=some (uR y.name):=hyn.o.cell 4;have x5:W4.cell? ⟨xb,5,none⟩=some (.slice vA vn vc):=hyn.o.cell 5;go_wp2_with fail
    refine(qZ2 #[uB y.kind,uB y.op,uW y.value,uI y.width,uR y.name,.slice vA vn vc] W4).mono ?_;rintro e W5 ⟨rfl,rfl⟩;clear x0 x1 x2 x3 x4 x5 c0 c1 c2 c3 c4 c5;go_wp2_with fail
    have heb:=Ph (Bk.new W4 31 #[uB y.kind,uB y.op,uW y.value,uI y.width,uR y.name,.slice vA vn vc]);have hBb:Below W4.heap.size W4 (W4.alloc (.cells #[uB y.kind,uB y.op,uW y.value,uI y.width,uR y.name,.slice vA vn vc] 31)):=zG (lB _ _) _;have hzb:(W4.alloc (.cells #[uB y.kind,uB y.op,uW y.value,uI y.width,uR y.name,.slice vA vn vc] 31)).heap.size=xb+2:=by rw [lO,hza,hxb]
    have hze:W4.heap.size=xb+1:=by rw [hza,hxb]
    generalize (W4.alloc _)=W5 at heb hBb hzb ⊢;rw [hze]at heb hBb;have hBab:Below w.heap.size w W5:=hBa.trans (hBb.mono Yo);have HTY5:=Ph (HTY.o.bel hBab);have HYB5:=Ph (zD HYB.o hBab);have HJ5:Ud (J (m+1+kC (x.subs.take j)) W5):=Ph (HJB.o _ _ _ HJ.o (hBab.mono Yo));have HF5:Ud (FrC c W1 W5):=Ph (HF.o.trans (Fr.of_below hBab));have HBAB:=Ph hBab;have HXI:=Ph HX.o;have hybl:yb<W5.heap.size:=by have:=HYB.o.lt;omega
    have hm5:m+1+kC (x.subs.take j)+szX y≤M:=by have h1:=HMM.o;have h2:=HSZ.o;have h3:=vE x.subs j y HX.o;omega
    have hN5:szX y≤N:=by have h2:=HSZ.o;have h3:=vE x.subs j y HX.o;omega
    have hcx:c<xb:=Yo;clear hza hze hBa hBb hBab hyn;refine(wpIn_wide (n:=6)).1 ?_;refine zF9 (α:=Ex×SV) (encs:=fun p=>#[.agg (qD5 p.1 p.2)]) rfl rfl Yo rfl trivial (enters_of func120 Yk rfl) (fun _=>rfl) (fun q=>q=c) (fun k hk=>Yo) (fun _=>1) (fun p W=>TX (fun _=>True) W p.1 p.2) M (m+1+kC (x.subs.take j)) (szX y) (fun k W=>J k W∧Bk W yb 57 #[.func (.yield l) #[] #[]]) ?hI ⟨HJ5.o,HYB5.o⟩ ?hseq ?hround ?hdone
    case hI=>exact fun k W W' h hb=>⟨HJB.o _ _ _ h.1 (hb.mono Yo),(hb.block _ hybl).trans h.2⟩
    case hseq =>
     intro l' J' W' hW hb hJI hJb hY' h0;exact IH.o y ⟨vA,vn,vc⟩ 5 l' (xb+1) c _ M W'.heap.size J' W' hN5 Yo (Ph (HTY5.o.bel hb)) (Ph ((hb.block _ Yo).trans heb.o)) Yo (lF _) hm5 hM6 (Ph fun k W hj=>HJC.o k W (hJI k W hj).1) (Ph hJb) (Ph fun k z V W hj hs hk ht q=>hY' k (z,V) W q hj hs ht hk) (Ph h0)
    case hround =>
     intro l' k p W hi hl hr hg hk;obtain⟨z,⟨zA,zn,zc⟩⟩:=p;obtain⟨hj,hyb⟩:=hi;obtain⟨r0,hr0⟩:=hr;have hlW:l'<W.heap.size:=zO hr0;simp only [qD5];gi_wp2
     refine⟨Fr.of_below (zG (lB _ _) _),fun rr=>?_⟩;have hal:Below W.heap.size W (W.alloc (.cells #[uB z.kind,uB z.op,uW z.value,uI z.width,uR z.name,.slice zA zn zc] 31)):=zG (lB _ _) _;have hr6:(W.alloc (.cells #[uB z.kind,uB z.op,uW z.value,uI z.width,uR z.name,.slice zA zn zc] 31)).heap[l']?=some (.loop r0):=(hal.block l' hlW).trans hr0;have hz6:(W.alloc (.cells #[uB z.kind,uB z.op,uW z.value,uI z.width,uR z.name,.slice zA zn zc] 31)).heap.size=W.heap.size+1:=lO _ _;have hsz6:((W.alloc (.cells #[uB z.kind,uB z.op,uW z.value,uI z.width,uR z.name,.slice zA zn zc] 31)).putObj l' (.loop rr)).heap.size=W.heap.size+1:=by simp [World.putObj]
     have HZ:Ud (Bk ((W.alloc (.cells #[uB z.kind,uB z.op,uW z.value,uI z.width,uR z.name,.slice zA zn zc] 31)).putObj l' (.loop rr)) W.heap.size 31 #[uB z.kind,uB z.op,uW z.value,uI z.width,uR z.name,.slice zA zn zc]):=Ph (xJ (Bk.new _ _ _) Yo);have HYB6:Ud (Bk ((W.alloc (.cells #[uB z.kind,uB z.op,uW z.value,uI z.width,uR z.name,.slice zA zn zc] 31)).putObj l' (.loop rr)) yb 57 #[.func (.yield l) #[] #[]]):=Ph (xJ (zD hyb hal) Yo);have hj6:J k ((W.alloc (.cells #[uB z.kind,uB z.op,uW z.value,uI z.width,uR z.name,.slice zA zn zc] 31)).putObj l' (.loop rr)):=HJB.o _ _ _ hj ((hal.mono Yo).trans (yL Yo));have ht6:TX (fun _=>True) ((W.alloc (.cells #[uB z.kind,uB z.op,uW z.value,uI z.width,uR z.name,.slice zA zn zc] 31)).putObj l' (.loop rr)) z ⟨zA,zn,zc⟩:=(hg.bel hal).stay (xN hr6);obtain⟨fn,tmps,assign,body,hy,hRn⟩:=HY.o k z ⟨zA,zn,zc⟩ _ hj6 Yo hk ht6 3;have HRn:=Ph hRn;dsimp only [qD5]at hy;clear hRn hal hr6 hr0 hyb hj6 ht6 hj hg hz6;generalize ((W.alloc (.cells #[uB z.kind,uB z.op,uW z.value,uI z.width,uR z.name,.slice zA zn zc] 31)).putObj l' (.loop rr))=U at *;generalize W.heap.size=zb at *;have z0:U.cell? ⟨zb,0,none⟩=some (uB z.kind):=HZ.o.cell 0;have z1:U.cell? ⟨zb,1,none⟩=some (uB z.op):=HZ.o.cell 1;have z2:U.cell? ⟨zb,2,none⟩=some (uW z.value):=HZ.o.cell 2;have z3:U.cell? ⟨zb,3,none⟩=some (uI z.width):=HZ.o.cell 3;have z4:U.cell? ⟨zb,4,none⟩=some (uR z.name):=HZ.o.cell 4;have z5:U.cell? ⟨zb,5,none⟩=some (.slice zA zn zc):=HZ.o.cell 5;have y0:U.cell? ⟨yb,0,none⟩=some (.func (.yield l) #[] #[]):=HYB6.o.cell 0;gi_wp2
     refine RoundIn.mono (show RoundIn (Fence.wide.inRound l') 3 _ _ _ _ _ _ _ _ from HRn.o) ?_;clear hy HRn;rintro e W3 ⟨rfl,hJ3,hF3⟩;have HJ3:=Ph hJ3;have HF3:=Ph hF3;clear hJ3 hF3 z0 z1 z2 z3 z4 z5 y0;gi_wp2
     exact⟨⟨HJ3.o,HYB6.o.fr HF3.o Yo⟩,HF3.o⟩
    case hdone =>
     intro D W hD hi hf hd;obtain⟨hj,hyb⟩:=hi;have HJ3:=Ph hj;have HYB3:=Ph hyb;have HF3:Ud (FrC c W1 W):=Ph (HF5.o.trans hf);have HMK3:Ud (Marks W1.heap.size ({ target:=.collected D,args:=#[] } :: ds) W):=Ph (Marks.cons HMK.o Yo (by have:=HBAB.o.size;omega) hd (fun k o hk ho=>FrC.others hf (zD hcs1 HBAB.o) k o ((HBAB.o.block k (zO hk)).trans hk) ho));have hws3:=hf.size;clear hj hyb hf hd;have HTK:=Ph (vE x.subs j y HXI.o).2;have hwj:IntKind.i64.wrap ((j:Int)+1)=((j+1:Nat):Int):=by rw [lL];omega
     gi_wp2
     go_wp2
     refine Handed.intro (g-1) Yo (hJJ _ _ _ ⟨j+1,_,_,_,_,_,_,_,_,_,_,_,_,_,_,Yo,rfl,HMK3,?_,HF3,HYB3⟩);have h1:=HTK.o;rw [h1,←Nat.add_assoc];exact HJ3
   ·obtain rfl:j=Sn:=by omega
    have e1:decide ((j:Int)<(j:Int))=false:=Ym;go_wp2
    obtain⟨Ds,rfl,hn,ha⟩:=HMK.o;refine zB9 (b0:=W1.heap.size) Ds w hn ha fun w' hb=>⟨_,results_none rfl _ _ _,⟨_,rfl⟩,?_,HF.o.then (G:=fun k=>W1.heap.size≤k) ⟨hb.os,hb.tape,hb.output,hb.size,fun i _ hi=>hb.block i Yo⟩ fun i h1 h2=>Yo⟩;have h1:=HJB.o _ _ _ HJ.o (hb.mono hb0);have h2:=HL.o;rw [cJ Yo]at h1;have h3:=HSZ.o;rw [h3,←Nat.add_assoc];exact h1
end
section
open Go.RowKit Go.PlainAid Go.Shelf
attribute [local go_sem] Oper.semAt_some
theorem qU3 (x:Ex) (S:SV) (k:Nat) (w:World) (HT:Ud (TX (fun _=>True) w x S)) (hk:k+szX x≤20000) :
 Calls prog 52 #[.agg (qD5 x S),uI k] w fun e w'=>e=.returned (uI ((k+szX x:Nat):Int))∧Below w.heap.size w w':=by
 refine(callsIn_wide (n:=6)).1 ?_;refine callsIn_of_wp_marks func52 rfl trivial ?_ rfl;simp only [qD5,ntmps52,List.size_toArray,Yc,Yn,Nat.reduceAdd,Nat.reduceSub,Array.replicate_succ,Array.replicate_zero,List.push_toArray,List.append_toArray,cF,lR];refine wpIn_wide.2 ?_;go_wp2
 have HE1:Ud (Bk ((w.alloc (.cells (uE x S) 31)).alloc (.cells #[uI k] 3)) w.heap.size 31 (uE x S)):=Ph ((Bk.new w 31 (uE x S)).alloc _);have hz0:(w.alloc (.cells (uE x S) 31)).heap.size=w.heap.size+1:=lO _ _;have HK1:Ud (Bk ((w.alloc (.cells (uE x S) 31)).alloc (.cells #[uI k] 3)) (w.heap.size+1) 3 #[uI k]):=Ph (by rw [←hz0];exact Bk.new _ _ _);have HB1:Ud (Below w.heap.size w ((w.alloc (.cells (uE x S) 31)).alloc (.cells #[uI k] 3))):=Ph (zG (zG (lB _ _) _) _);have hz1:((w.alloc (.cells (uE x S) 31)).alloc (.cells #[uI k] 3)).heap.size=w.heap.size+2:=by rw [lO,hz0]
 clear hz0;generalize ((World.alloc _ _))=W1 at *;obtain⟨eb,heb⟩:∃ b,w.heap.size=b:=⟨_,rfl⟩;rw [heb]at HE1 HK1 HB1 hz1 ⊢;have HT1:Ud (TX (fun _=>True) W1 x S):=Ph (HT.o.bel (heb▸HB1.o));go_step3
 go_wp2
 go_step3
 have x0:W1.cell? ⟨eb,0,none⟩=some (uB x.kind):=HE1.o.cell 0;have x1:W1.cell? ⟨eb,1,none⟩=some (uB x.op):=HE1.o.cell 1;have x2:W1.cell? ⟨eb,2,none⟩=some (uW x.value):=HE1.o.cell 2;have x3:W1.cell? ⟨eb,3,none⟩=some (uI x.width):=HE1.o.cell 3;have x4:W1.cell? ⟨eb,4,none⟩=some (uR x.name):=HE1.o.cell 4;have x5:W1.cell? ⟨eb,5,none⟩=some (.slice S.A S.n S.c):=HE1.o.cell 5;go_wp2_with fail
 refine(qZ2 (uE x S) W1).mono ?_;rintro e W2 ⟨rfl,rfl⟩;clear x0 x1 x2 x3 x4 x5;go_wp2_with fail
 have hBb:Below W1.heap.size W1 (W1.alloc (.cells (uE x S) 31)):=zG (lB _ _) _;have HE2:Ud (Bk (W1.alloc (.cells (uE x S) 31)) W1.heap.size 31 (uE x S)):=Ph (Bk.new _ _ _);have hz2:(W1.alloc (.cells (uE x S) 31)).heap.size=eb+3:=by rw [lO,hz1]
 generalize (W1.alloc _)=W2 at *;rw [hz1]at HE2 hBb;have HK2:=Ph (HK1.o.below hBb Yo);have HT2:Ud (TX (fun _=>True) W2 x S):=Ph (HT1.o.bel (hz1▸hBb));have HB2:Ud (Below eb w W2):=Ph (HB1.o.trans (hBb.mono Yo));clear hBb HK1 HT1 HB1 HE1;refine(wpIn_wide (n:=6)).1 ?_;refine zF9 (α:=Ex×SV) (encs:=fun p=>#[.agg (qD5 p.1 p.2)]) rfl rfl Yo rfl trivial (enters_of func120 Yk rfl) (fun _=>rfl) (fun q=>q=eb+1) (fun k hk=>Yo) (fun _=>1) (fun p W=>TX (fun _=>True) W p.1 p.2) (k+szX x) k (szX x) (fun m W=>Bk W (eb+1) 3 #[uI m]) ?hI HK2.o ?hseq ?hround ?hdone
 case hI=>exact fun m W W' h hb=>h.below hb Yo
 case hseq =>
  intro l' J' W' hW hb hJI hJb hY' h0;exact qJ6 (szX x) x S 5 l' (eb+2) (eb+1) k (k+szX x) W'.heap.size J' W' (lF _) Yo (Ph (HT2.o.bel hb)) (Ph (HE2.o.below hb Yo)) Yo (lF _) (lF _) Yo (Ph fun k W hj=>⟨_,hJI k W hj⟩) (Ph hJb) (Ph fun k z V W hj hs hk ht q=>hY' k (z,V) W q hj hs ht hk) (Ph h0)
 case hround =>
  intro l' m p W hi hl hr hg hm;have HI:=Ph hi;have hel:eb+1<l':=Yo;clear hi hg hr HT2 HK2 HE2 HB2;gi_wp2
  refine⟨Fr.refl _ _,?_⟩;rintro _ ⟨rr,rfl⟩;have HU:Ud (Bk (W.putObj l' (.loop rr)) (eb+1) 3 #[uI m]):=Ph (xJ HI.o Yo);clear HI;generalize (W.putObj l' (.loop rr))=U at *;have x0:U.cell? ⟨eb+1,0,none⟩=some (uI m):=HU.o.cell 0;have f0:U.frozen? ⟨eb+1,0,none⟩=false:=HU.o.frozen 0;have hwj:IntKind.i64.wrap ((m:Int)+1)=((m+1:Nat):Int):=by rw [lL];omega
  have e1:decide ((20000:Int)<((m+1:Nat):Int))=false:=Yp;have hlU:eb+1<U.heap.size:=HU.o.lt;gi_wp2
  exact⟨HU.o.put 0 _,Fr.setCell (F:=fun q=>q=eb+1) (p:=⟨eb+1,0,none⟩) (Fr.refl _ U) (.inl rfl) _⟩
 case hdone =>
  intro D W hD hi hf hd;have HI:=Ph hi;have HD:=Ph hd;have HBW:Ud (Below w.heap.size w W):=Ph (by rw [heb];exact HB2.o.trans (hf.below eb Yo (fun q hq e=>Yo)));have x0:W.cell? ⟨eb+1,0,none⟩=some (uI ((k+szX x:Nat):Int)):=hi.cell 0;clear hi hf hd HT2 HK2 HE2 HB2;gi_wp2
  go_wp2
  rw [Exit.noGoto_ret];exact⟨Ym,.inl ⟨D,_,rfl,run_takeDeferred HD.o,⟨_,results_tmp rfl _ _ _,rfl,HBW.o.trans (yL Yo)⟩⟩⟩
end
structure Pc where
 gap:List UInt8
 kind:Nat
 tok:List UInt8
def jF (l:List Pc):List UInt8:=l.flatMap fun p=>p.gap++p.tok
theorem zF (p:Pc) (l:List Pc):jF (p :: l)=p.gap++p.tok++jF l:=by simp [jF]
theorem qD (l m:List Pc):jF (l++m)=jF l++jF m:=by simp [jF]
def yI:Nat→List Pc→List Tk
 | _,[]=>[]
 | o,p :: r=>⟨p.kind,p.tok,o+p.gap.length,o+p.gap.length+p.tok.length⟩ :: yI (o+p.gap.length+p.tok.length) r
def LexOk:List Pc→List UInt8→Prop
 | [],_=>True
 | p :: r,t=>jG false (p.gap++(p.tok++(jF r++t)))=p.gap.length∧zC1 (p.tok++(jF r++t))=(p.kind,p.tok.length)∧p.kind≠0∧p.tok≠[]∧LexOk r t
theorem LexOk.app:∀ (a b:List Pc) (t:List UInt8),LexOk a (jF b++t)→LexOk b t→LexOk (a++b) t
 | [],b,t,_,h=>h
 | p :: r,b,t,h,hb=>by
   obtain⟨h1,h2,h3,h4,h5⟩:=h;rw [lR];refine⟨?_,?_,h3,h4,LexOk.app r b t h5 hb⟩
   ·rw [qD,lS];exact h1
   ·rw [qD,lS];exact h2
theorem LexOk.left:∀ (a b:List Pc) (t:List UInt8),LexOk (a++b) t→LexOk a (jF b++t)
 | [],b,t,_=>trivial
 | p :: r,b,t,h=>by rw [lR]at h;obtain⟨h1,h2,h3,h4,h5⟩:=h;rw [qD,lS]at h1 h2;exact⟨h1,h2,h3,h4,LexOk.left r b t h5⟩
theorem LexOk.right:∀ (a b:List Pc) (t:List UInt8),LexOk (a++b) t→LexOk b t
 | [],b,t,h=>h
 | p :: r,b,t,h=>LexOk.right r b t h.2.2.2.2
theorem qM4 (pre gap tok rest:List UInt8) (k:Nat) (hg:jG false (gap++(tok++rest))=gap.length) (ht:zC1 (tok++rest)=(k,tok.length)) (hk:k≠0) (hn:tok≠[]) :
 kZ (pre++(gap++(tok++rest))) pre.length=(k,pre.length+gap.length,pre.length+gap.length+tok.length,false):=by
 have d1:(pre++(gap++(tok++rest))).drop pre.length=gap++(tok++rest):=List.drop_left;have d2:(pre++(gap++(tok++rest))).drop (pre.length+gap.length)=tok++rest:=by rw [←lS,←Ya];exact List.drop_left
 have hl:0<tok.length:=List.length_pos_iff.2 hn;unfold kZ;simp only [d1,hg,d2,ht,Ya];rw [lN Yo,lN hk]
def ysP (o:Nat) (l:List Pc):List Yt:=(yI o l).map fun t=>(t.kind,t.at',t.fin,false)
theorem zT2:∀ (l:List Pc) (pre tail:List UInt8) (f:Nat),LexOk l tail→ylT (pre++(jF l++tail)) (l.length+f) pre.length=ysP pre.length l++ylT (pre++(jF l++tail)) f (pre.length+(jF l).length)
 | [],pre,tail,f,_=>by simp [ysP,yI,jF]
 | p :: r,pre,tail,f,h=>by
   obtain⟨h1,h2,h3,h4,h5⟩:=h;have e:pre++(jF (p :: r)++tail)=pre++(p.gap++(p.tok++(jF r++tail))):=by rw [zF];simp only [lS]
   have hx:=qM4 pre p.gap p.tok (jF r++tail) p.kind h1 h2 h3 h4;have ih:=zT2 r (pre++p.gap++p.tok) tail f h5;have e2:pre++p.gap++p.tok++(jF r++tail)=pre++(jF (p :: r)++tail):=by rw [zF];simp only [lS]
   rw [e2,Ya,Ya]at ih;have hf:(p :: r).length+f=(r.length+f)+1:=Yp;rw [hf];conv=>lhs;unfold ylT
   rw [e,hx];dsimp only;rw [lN h3,←e,ih];have hl:pre.length+(jF (p :: r)).length=pre.length+p.gap.length+p.tok.length+(jF r).length:=by rw [zF];simp only [Ya];omega
   rw [hl];rfl
theorem jZ7 (pre m post:List UInt8) (a b:Nat) (ha:a=pre.length) (hb:b=a+m.length):jL6 (pre++(m++post)) a b=m:=by subst ha hb;unfold jL6;rw [List.drop_left,Nat.add_sub_cancel_left,List.take_left'];rfl
theorem jE3:∀ (l:List Pc) (pre tail:List UInt8),LexOk l tail→zY (pre++(jF l++tail)) (ysP pre.length l)=yI pre.length l
 | [],pre,tail,_=>rfl
 | p :: r,pre,tail,h=>by
   obtain⟨h1,h2,h3,h4,h5⟩:=h;have ih:=jE3 r (pre++p.gap++p.tok) tail h5;have e2:pre++p.gap++p.tok++(jF r++tail)=pre++(jF (p :: r)++tail):=by rw [zF];simp only [lS]
   rw [e2,Ya,Ya]at ih;have hc:jL6 (pre++(jF (p :: r)++tail)) (pre.length+p.gap.length) (pre.length+p.gap.length+p.tok.length)=p.tok:=by
    have e3:pre++(jF (p :: r)++tail)=(pre++p.gap)++(p.tok++(jF r++tail)):=by rw [zF];simp only [lS]
    rw [e3];exact jZ7 _ _ _ _ _ (by rw [Ya]) rfl
   show zY _ ((p.kind,pre.length+p.gap.length,pre.length+p.gap.length+p.tok.length,false) :: ysP (pre.length+p.gap.length+p.tok.length) r)=_;unfold zY at ih ⊢;rw [List.filter_cons_of_pos (by simpa using h3),lY,ih];show tkY _ _ :: _=_ :: _;congr 1;unfold tkY;dsimp only;rw [hc]
theorem zQ7:∀ (l:List Pc) (t:List UInt8),LexOk l t→l.length≤(jF l).length
 | [],_,_=>lV _
 | p :: r,t,h=>by obtain⟨_,_,_,h4,h5⟩:=h;have:=zQ7 r t h5;have:=List.length_pos_iff.2 h4;rw [zF];simp only [Ya,Yc];omega
theorem jE4 (t:List UInt8) (a b:List Yt):zY t (a++b)=zY t a++zY t b:=by unfold zY;rw [List.filter_append,cB]
theorem jE5 (o:Nat) (l:List Pc):(ysP o l).find? (fun y=>y.2.2.2)=none:=List.find?_eq_none.2 fun y hy=>by unfold ysP at hy;obtain⟨t,_,rfl⟩:=List.mem_map.1 hy;simp
theorem zJ2 (l:List Pc) (tail:List UInt8) (h:LexOk l tail) (ht:jG false tail=tail.length):zY (jF l++tail) (kG (jF l++tail))=yI 0 l∧zI3 (kG (jF l++tail))=none:=by
 have hl:=zQ7 l tail h;obtain⟨f,hf⟩:∃ f,(jF l++tail).length+2=l.length+(f+1):=⟨(jF l++tail).length+1-l.length,by rw [Ya];omega⟩;have h1:=zT2 l [] tail (f+1) h;have h2:=jE3 l [] tail h;simp only [cF,Yn,Nat.zero_add]at h1 h2;have h3:kZ (jF l++tail) (jF l).length=(0,(jF l++tail).length,(jF l++tail).length,false):=by unfold kZ;simp only [List.drop_left,ht,←Ya];rw [lM trivial]
 have h4:ylT (jF l++tail) (f+1) (jF l).length=[(0,(jF l++tail).length,(jF l++tail).length,false)]:=by unfold ylT;rw [h3];simp
 have h5:kG (jF l++tail)=ysP 0 l++[(0,(jF l++tail).length,(jF l++tail).length,false)]:=by unfold kG;rw [hf,h1,h4]
 rw [h5];refine⟨?_,?_⟩
 ·rw [jE4,h2];simp [zY]
 ·unfold zI3;rw [List.find?_append,jE5];rfl
def GapOk (g:List UInt8):Prop:=∀ x,jG false (g++x)=g.length+jG false x
theorem GapOk.nil:GapOk []:=fun x=>Ym
theorem GapOk.cons {c:UInt8} {g:List UInt8} (h:yJ c=true) (hg:GapOk g):GapOk (c :: g):=fun x=>by
 have hc:¬c.toNat=35:=by intro e;unfold yJ at h;simp [e]at h
 rw [lR];simp only [jG,lN hc,lM h,hg x,Yc];omega
theorem qQ6:∀ (l x:List UInt8),(∀ c∈l,c.toNat≠10)→jG true (l++(10 :: x))=l.length+1+jG false x
 | [],x,_=>by simp [jG]
 | c :: l,x,h=>by have h1:decide (c.toNat≠10)=true:=lH (h c Ym);have ih:=qQ6 l x fun d hd=>h d (by simp [hd]);rw [lR];simp only [jG,h1,ih,Yc];omega
theorem GapOk.rem {l g:List UInt8} (h:∀ c∈l,c.toNat≠10) (hg:GapOk g):GapOk (35 :: (l++(10 :: g))):=fun x=>by have e:(35 :: (l++(10 :: g)))++x=35 :: (l++(10 :: (g++x))):=Ym;rw [e];have h35:(35:UInt8).toNat=35:=rfl;simp only [jG,lM h35,qQ6 _ _ h,hg x,Yc,Ya];omega
theorem GapOk.app {g m:List UInt8} (hg:GapOk g) (hm:GapOk m):GapOk (g++m):=fun x=>by rw [lS,hg,hm,Ya,Nat.add_assoc]
theorem GapOk.one {c:UInt8} (h:yJ c=true):GapOk [c]:=.cons h .nil
theorem GapOk.end {g:List UInt8} (h:GapOk g):jG false g=g.length:=by have:=h [];simpa [jG]using this
theorem vY {c:UInt8} (r:List UInt8) (h:yJ c=false) (h1:c.toNat≠35):jG false (c :: r)=0:=by simp [jG,lN h1,h]
theorem zT3:∀ (r rest:List UInt8),(∀ x∈r,yU x=true)→(∀ d,rest.head?=some d→yU d=false)→vF (r++rest)=r.length
 | [],[],_,_=>rfl
 | [],d :: s,_,h=>by simp [vF,h d rfl]
 | c :: r,rest,h,h2=>by rw [lR];simp only [vF,h c Ym,if_true,Yc];rw [zT3 r rest (fun x hx=>h x (by simp [hx])) h2]
theorem vK:∀ (r rest:List UInt8),(∀ x∈r,zV x=true)→(∀ d,rest.head?=some d→zV d=false)→jT (r++rest)=r.length
 | [],[],_,_=>rfl
 | [],d :: s,_,h=>by simp [jT,h d rfl]
 | c :: r,rest,h,h2=>by rw [lR];simp only [jT,h c Ym,if_true,Yc];rw [vK r rest (fun x hx=>h x (by simp [hx])) h2]
theorem zD3 {c:UInt8} (h:zV c=true):qM c=false:=by unfold zV at h;unfold qM;simp only [lZ,cC]at h;have:¬97≤c.toNat:=Yo;simp [this]
theorem zJ3 (c:UInt8) (r rest:List UInt8) (hc:qM c=true) (hr:∀ x∈r,yU x=true) (hs:∀ d,rest.head?=some d→yU d=false):zC1 ((c :: r)++rest)=(1,(c :: r).length):=by rw [lR];simp only [zC1,hc,if_true,zT3 r rest hr hs,Yc];congr 1;omega
theorem jP5 (c:UInt8) (r rest:List UInt8) (hr:∀ x∈c :: r,zV x=true) (hs:∀ d,rest.head?=some d→zV d=false∧d.toNat≠58):zC1 ((c :: r)++rest)=(2,(c :: r).length):=by
 have hc:=hr c Ym;have hd:jT (c :: (r++rest))=(c :: r).length:=vK (c :: r) rest hr fun d h=>(hs d h).1;have hdr:(c :: (r++rest)).drop (c :: r).length=rest:=by rw [←lR];exact List.drop_left
 rw [lR];simp only [zC1,zD3 hc,hc,if_true,hd,hdr,Bool.false_eq_true,if_false];cases rest with
 | nil=>rfl
 | cons d s =>
   cases s with
   | nil=>rfl
   | cons e s=>dsimp only;rw [lN fun h=>(hs d rfl).2 h.1]
theorem qQ7 (c:UInt8) (r:List UInt8) (d:UInt8) (s rest:List UInt8) (hr:∀ x∈c :: r,zV x=true) (hd:∀ x∈d :: s,zV x=true) (hs:∀ d,rest.head?=some d→zV d=false):zC1 (((c :: r)++(58 :: (d :: s)))++rest)=(3,((c :: r)++(58 :: (d :: s))).length):=by
 have hc:=hr c Ym;have h1:jT (c :: (r++(58 :: (d :: (s++rest)))))=(c :: r).length:=vK (c :: r) (58 :: (d :: (s++rest))) hr (fun x h=>by simp at h;subst h;rfl);have hdr:(c :: (r++(58 :: (d :: (s++rest))))).drop (c :: r).length=58 :: (d :: (s++rest)):=by rw [←lR];exact List.drop_left
 have h2:jT (d :: (s++rest))=(d :: s).length:=vK (d :: s) rest hd hs;have e:((c :: r)++(58 :: (d :: s)))++rest=c :: (r++(58 :: (d :: (s++rest)))):=Ym;rw [e];simp only [zC1,zD3 hc,hc,if_true,h1,hdr,Bool.false_eq_true,if_false];rw [lM ⟨rfl,hd d Ym⟩,h2];simp only [Ya,Yc];congr 1;omega
def wV (c d:UInt8):Bool:=(c == 60 && d == 60) || ((c == 62 && d == 62) || ((c == 61 && d == 61) || ((c == 33 && d == 61) || (c == 60 && d == 61))))
theorem wW (c d:UInt8) (r:List UInt8):xG (c :: d :: r)=if wV c d then 2 else if yF.contains c then 1 else 0:=by
 have e:∀ a b:UInt8,([a,b]:List UInt8).isPrefixOf (c :: d :: r)=((c == a) && (d == b)):=by intro a b;simp only [List.isPrefixOf,Bool.and_true];rw [Bool.beq_comm (a:=a),Bool.beq_comm (a:=b)]
 unfold xG yG yG yG yG yG yG wV;simp only [vT,e];cases (c == 60 && d == 60) <;> cases (c == 62 && d == 62) <;> cases (c == 61 && d == 61) <;> cases (c == 33 && d == 61) <;> cases (c == 60 && d == 61) <;> rfl
theorem zT4 (c:UInt8):xG [c]=if yF.contains c then 1 else 0:=by
 have e:∀ a b:UInt8,([a,b]:List UInt8).isPrefixOf [c]=false:=by intro a b;simp [List.isPrefixOf]
 unfold xG yG yG yG yG yG yG;simp only [vT,e];rfl
theorem jE6 (c d:UInt8) (rest:List UInt8) (h:wV c d=true) (h1:qM c=false) (h2:zV c=false):zC1 ([c,d]++rest)=(4,2):=by show zC1 (c :: d :: rest)=_;simp only [zC1,h1,h2,wW,h,if_true,Bool.false_eq_true,if_false];rfl
theorem zT5 (c:UInt8) (rest:List UInt8) (h:yF.contains c=true) (h1:qM c=false) (h2:zV c=false) (hs:∀ d,rest.head?=some d→wV c d=false):zC1 ([c]++rest)=(4,1):=by
 show zC1 (c :: rest)=_;cases rest with
 | nil=>simp only [zC1,h1,h2,zT4,h,if_true,Bool.false_eq_true,if_false];rfl
 | cons d s=>simp only [zC1,h1,h2,wW,hs d rfl,h,if_true,Bool.false_eq_true,if_false];rfl
end Go.Proofs.YtfdaebgllibphaaGreatDoor
