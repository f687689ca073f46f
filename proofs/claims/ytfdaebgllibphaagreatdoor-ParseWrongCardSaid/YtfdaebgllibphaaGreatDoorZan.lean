import Derived.Test.YtfdaebgllibphaaGreatDoorZam
set_option linter.unusedVariables false
set_option linter.unusedSimpArgs false
set_option maxRecDepth 100000
set_option maxHeartbeats 16000000
namespace Go.Proofs.YtfdaebgllibphaaGreatDoor
section
open Go.RowKit
theorem zF2 {W:World} {base n c g size j:Nat} {e:TypeId} {xs:List Value} (h:W.ownsRow base e size (.slice (some ⟨g,0,none⟩) n c) n xs) (hj:j<n*size) (u:Value):(W.setCell ⟨g,j,none⟩ u).ownsRow base e size (.slice (some ⟨g,0,none⟩) n c) n (xs.set j u):=by
 refine⟨by rw [List.length_set];exact h.1,?_⟩;rcases h.2 with⟨h0,_⟩ | ⟨g',cap,cur,h0,hb,hh,h3,h4,h5,h6⟩
 ·cases h0
 ·injection h0 with h0 _ h1;injection h0 with h0;injection h0 with h0;subst h0;refine .inr ⟨g,cap,cur.setIfInBounds j u,by rw [h1],hb,?_,h3,h4,by simp [h5],?_⟩
  ·simp [World.setCell,Array.getElem?_modify,hh]
  ·rw [←h6,Array.toList_setIfInBounds,List.take_set]
abbrev jL8 (W:World) (g o:Nat) (u0 u1 u2 u3 u4 u5:Value):World:=(((((W.setCell ⟨g,o,none⟩ u0).setCell ⟨g,o+1,none⟩ u1).setCell ⟨g,o+2,none⟩ u2).setCell ⟨g,o+3,none⟩ u3).setCell ⟨g,o+4,none⟩ u4).setCell ⟨g,o+5,none⟩ u5
theorem xX {W:World} {g o:Nat} {u0 u1 u2 u3 u4 u5:Value}:Fr (fun k=>k=g) W (jL8 W g o u0 u1 u2 u3 u4 u5) :=
 ((((((Fr.refl (fun q=>q=g) W).setCell (p:=⟨g,o,none⟩) (.inl rfl) u0).setCell (p:=⟨g,o+1,none⟩) (.inl rfl) u1).setCell (p:=⟨g,o+2,none⟩) (.inl rfl) u2).setCell (p:=⟨g,o+3,none⟩) (.inl rfl) u3).setCell (p:=⟨g,o+4,none⟩) (.inl rfl) u4).setCell (p:=⟨g,o+5,none⟩) (.inl rfl) u5
theorem kR6 (X:List Value) (a0 a1 a2 a3 a4 a5 u0 u1 u2 u3 u4 u5:Value) :
 (((((((X++[a0,a1,a2,a3,a4,a5]).set X.length u0).set (X.length+1) u1).set (X.length+2) u2).set (X.length+3) u3).set (X.length+4) u4).set (X.length+5) u5)=X++[u0,u1,u2,u3,u4,u5]:=by
 induction X with
 | nil=>rfl
 | cons x X ih =>
   have e:∀ k,(x :: X).length+k=(X.length+k)+1:=fun k=>Yp;have e0:(x :: X).length=X.length+1:=rfl;rw [e 1,e 2,e 3,e 4,e 5,e0];simp only [lR,List.set_cons_succ];rw [ih]
theorem jP3 {W:World} {base n c g:Nat} {e:TypeId} {X:List Value} {a0 a1 a2 a3 a4 a5:Value} (h:W.ownsRow base e 6 (.slice (some ⟨g,0,none⟩) (n+1) c) (n+1) (X++[a0,a1,a2,a3,a4,a5])) (hX:X.length=n*6) (u0 u1 u2 u3 u4 u5:Value) :
 (jL8 W g (n*6) u0 u1 u2 u3 u4 u5).ownsRow base e 6 (.slice (some ⟨g,0,none⟩) (n+1) c) (n+1) (X++[u0,u1,u2,u3,u4,u5]):=by
 rw [←kR6 X a0 a1 a2 a3 a4 a5,hX];exact zF2 (zF2 (zF2 (zF2 (zF2 (zF2 h Yo _) Yo _) Yo _) Yo _) Yo _) Yo _
section
variable {α β:Type} {c:α→β→List Value} {t:TypeId} {A:(Nat→Prop)→World→α→β→Prop} {B:Nat} {w:World} {l:List α} {x0 x:α} {v:β} {g n cc:Nat}
theorem zS8 {γ:Type}:∀ (l:List γ) (n:Nat),l.length=n+1→∃ l0 y,l=l0++[y]∧l0.length=n
 | [],n,h=>by simp at h
 | [y],0,_=>⟨[],y,rfl,rfl⟩
 | [y],n+1,h=>by simp at h
 | y :: z :: r,0,h=>by simp at h
 | y :: z :: r,n+1,h=>by obtain⟨l0,u,e,e2⟩:=zS8 (z :: r) n (by simpa using h);exact⟨y :: l0,u,by rw [e];rfl,by simp [e2]⟩
theorem kG9 (hc:∀ x v,(c x v).length=6):∀ (l:List α) (vs:List β),vs.length=l.length→((l.zip vs).flatMap fun p=>c p.1 p.2).length=l.length*6
 | [],_,_=>Ym
 | y :: l,[],h=>by simp at h
 | y :: l,u :: vs,h=>by have:=kG9 hc l vs (by simpa using h);simp only [List.zip_cons_cons,lQ,Ya,hc,this,Yc];omega
theorem OwnG.setLast (I:qD6 A) (hc:∀ x v,(c x v).length=6) (h:OwnG c t 6 A B w (l++[x0]) ⟨some ⟨g,0,none⟩,n+1,cc⟩) (hx:A (fun k=>B≤k∧k≠g) w x v) (u0 u1 u2 u3 u4 u5:Value) (hu:c x v=[u0,u1,u2,u3,u4,u5]) :
 OwnG c t 6 A B (jL8 w g (n*6) u0 u1 u2 u3 u4 u5) (l++[x]) ⟨some ⟨g,0,none⟩,n+1,cc⟩:=by
 obtain⟨vs,h1,h2,h3,h4⟩:=h;have hn:n=l.length:=by simpa using h2
 obtain⟨vs0,v0,rfl,hl0⟩:=zS8 vs n (by rw [h1];simp [hn]);have hlv:vs0.length=l.length:=Yo;have e:∀ (y:α) (u:β),(((l++[y]).zip (vs0++[u])).flatMap fun p=>c p.1 p.2)=((l.zip vs0).flatMap fun p=>c p.1 p.2)++c y u:=by intro y u;rw [List.zip_append hlv.symm,List.flatMap_append];simp
 have own:∀ k,(Value.slice (some ⟨g,0,none⟩) (n+1) cc).ownBlock≠some k↔k≠g:=by intro k;show some g≠some k↔_;simp [eq_comm]
 have st:∀ y u,A (fun k=>B≤k∧(Value.slice (some ⟨g,0,none⟩) (n+1) cc).ownBlock≠some k) w y u→A (fun k=>B≤k∧(Value.slice (some ⟨g,0,none⟩) (n+1) cc).ownBlock≠some k) (jL8 w g (n*6) u0 u1 u2 u3 u4 u5) y u:=fun y u hy =>
  I.stay _ w _ y u (Stays.fr xX (fun b _ hp e=>(own b).1 hp.2 e)) hy
 refine⟨vs0++[v],by simp [hlv],by simp [hn],?_,?_⟩
 ·rw [e,hu];rw [e]at h3;have h6:=hc x0 v0;match hm:c x0 v0,h6 with
  | [a0,a1,a2,a3,a4,a5],_ =>
    rw [hm]at h3;exact jP3 h3 (by rw [kG9 hc _ _ hlv,hn]) _ _ _ _ _ _
 ·intro i y u hy hu;rcases Nat.lt_or_ge i l.length with hi | hi
  ·rw [cI hi]at hy;rw [cI Yo]at hu;exact st y u (h4 i y u (by rw [cI hi];exact hy) (by rw [cI Yo];exact hu))
  ·rw [cH hi]at hy;rw [cH Yo]at hu;have hi0:i-l.length=0:=by
    rcases Nat.eq_zero_or_pos (i-l.length)with h | h
    ·exact h
    ·rw [cW Yp]at hy;cases hy
   rw [hi0]at hy;rw [hlv,hi0]at hu;simp at hy hu;subst hy hu;exact st _ _ (I.mono _ _ w _ _ (fun b _ hb=>⟨hb.1,(own b).2 hb.2⟩) hx)
theorem OwnG.blk (hc:∀ x v,(c x v).length=6) {S:SV} (h:OwnG c t 6 A B w l S) (hn:0<S.n):∃ g,S.A=some ⟨g,0,none⟩∧B≤g∧g<w.heap.size∧∀ j,j<S.n*6→(∃ u,w.cell? ⟨g,j,none⟩=some u)∧w.frozen? ⟨g,j,none⟩=false:=by
 obtain⟨vs,h1,h2,h3,h4⟩:=h;rcases h3.2 with⟨h0,_⟩ | ⟨g',cap,cur,h0,hb,hh,h5,h6,h7,h8⟩
 ·injection h0 with _ h0;omega
 ·injection h0 with h0 _ h1;refine⟨g',h0,hb,zO hh,fun j hj=>?_⟩;have hsz:j<cur.size:=by
   have:=h3.1;have h9:(cur.toList.take (S.n*6)).length=S.n*6:=by rw [h8];exact this
   rw [cL,Array.length_toList]at h9;omega
  constructor
  ·exact⟨cur[j],by simp [World.cell?,hh,hsz]⟩
  ·simp [World.frozen?,hh]
end
end
section
open Go.RowKit Go.PlainAid Go.Shelf
theorem kH1 (p:Nat) (w:World):Calls Tryz.prog 103 #[uQ p 0] w fun e w'=>∃ pb,e=.returned (.func (.func 130) #[] #[uQ pb 0])∧w.heap.size≤pb∧Bk w' pb 103 #[uQ p 0]∧Below w.heap.size w w':=by
 go_enter Tryz.func103,Tryz.ntmps103
 go_wp2_with fail
 go_ret;exact⟨w.heap.size,rfl,lF _,Bk.new w 103 _,zB⟩
def FrN (w w':World):Prop:=Fr (fun k=>∃ o,w.heap[k]?=some o∧o.isCells=false) w w'
theorem FrN.put {W:World} {l:Nat} {o o':Obj} (h:W.heap[l]?=some o) (hc:o.isCells=false):FrN W (W.putObj l o'):=(wP W l o').mono fun k _ e=>by subst e;exact⟨o,h,hc⟩
theorem FrN.not {w w':World} {k:Nat} {cs:Array Value} {t:TypeId} {fr:Nat×Nat} (h:w.heap[k]?=some (.cells cs t fr)):¬∃ o,w.heap[k]?=some o∧o.isCells=false:=by rintro⟨o,h1,h2⟩;rw [h]at h1;injection h1 with h1;subst h1;cases h2
theorem FrN.bk {w w':World} {r:Nat} {t:TypeId} {cs:Array Value} (hf:FrN w w') (h:Bk w r t cs):Bk w' r t cs:=h.fr hf (FrN.not (w':=w') h)
theorem FrN.stays {P:Nat→Prop} {w w':World} (hf:FrN w w'):Stays P w w':=fun b cs t fr hb _ _=>hf.block b (zO hb) (FrN.not (w':=w') hb)
section
variable {B:Nat} {w w':World} {p:Nat} {E:Env} {T:TV} {q:QSt}
theorem Pq.putN {l:Nat} {o o':Obj} (h:Pq B w p E T q) (hl:w.heap[l]?=some o) (hc:o.isCells=false) (hB:B≤l):Pq B (w.putObj l o') p E T q:=by obtain⟨Q,h1,h2,h3⟩:=h.ex;have hf:FrN w (w.putObj l o'):=FrN.put hl hc;have:=h.g0;have:=h.g1;refine⟨⟨Q,⟨hf.bk h1.bk,h1.rd.keeps (Keeps.fr hf fun b cs fr hb=>FrN.not (w':=w) hb),h1.ok,h1.n,h1.vr.fr (wP w l o') Yo Yo,h1.g0,h1.g1,lE h1.base hf.size⟩,?_,h3⟩,h.g0,h.g1,lE h.b hf.size⟩;refine jP h2 hf fun k hk=>?_;obtain⟨_,cs,hb⟩:=qF h2 k hk;exact FrN.not (w':=w) hb
structure LI (B:Nat) (w0:World) (p lb pb:Nat) (pre:List Yi) (W:World):Prop where
 out:∃ S:SV,Bk W lb 34 #[.slice S.A S.n S.c]∧jC7 (lb+1) W (pre.map (·.1)) S
 ptr:Bk W pb 103 #[uQ p 0]
 fr:FrQ B p w0 W
variable {w0:World} {lb pb:Nat} {pre:List Yi}
theorem LI.putN {l:Nat} {o o':Obj} (h:LI B w0 p lb pb pre w) (hl:w.heap[l]?=some o) (hc:o.isCells=false) (hB:w0.heap.size≤l):LI B w0 p lb pb pre (w.putObj l o'):=by have hf:FrN w (w.putObj l o'):=FrN.put hl hc;obtain⟨⟨S,h1,h2⟩,h3,h4⟩:=h;exact⟨⟨S,hf.bk h1,h2.stay itS yW hf.stays⟩,hf.bk h3,Fr.then h4 (wP w l o') fun i hi e=>Yo⟩
theorem LI.below (h:LI B w0 p lb pb pre w) (hb:Below w.heap.size w w'):LI B w0 p lb pb pre w':=by obtain⟨⟨S,h1,h2⟩,h3,h4⟩:=h;exact⟨⟨S,zD h1 hb,h2.stay itS yW (Stays.below hb)⟩,zD h3 hb,h4.then hb⟩
theorem LI.frq (h:LI B w0 p lb pb pre w) (hf:FrQ B p w w') (h1:p<lb) (h2:pb≠p):LI B w0 p lb pb pre w':=by
 obtain⟨⟨S,h3,h4⟩,h5,h6⟩:=h;refine⟨⟨S,hf.bk h3 Yd Yo,h4.stay itS yW fun b cs t fr hb ht hp=>hf.block b (zO hb) ?_⟩,hf.bk h5 Yd h2,h6.trans hf⟩;rintro(e | ⟨_,cs3,fr3,e⟩)
 ·omega
 ·rw [e]at hb;injection hb with hb;injection hb with _ hb;exact zS5 (hb▸ht)
theorem FrQ.keeps (hf:FrQ B p w w') (hq:Pq B w p E T q):KeepsOthers w w':=by
 refine⟨hf.size,fun k o hk hc=>(hf.block k (zO hk) ?_).trans hk⟩;rintro(rfl | ⟨_,cs,fr,e⟩)
 ·obtain⟨cs,hb⟩:=hq.bk;exact FrN.not (w':=w') hb ⟨o,hk,hc⟩
 ·exact FrN.not (w':=w') e ⟨o,hk,hc⟩
end
end
section
open Go.RowKit Go.PlainAid Go.Shelf
theorem jZ3:El Tryz.prog 34 108 6:=El.mk' (z:=.agg uS) (bytes:=104) Tryz.underlying34 Yk rfl Yo Yo
theorem zS9 (x:Sx) (v:SV×SV×SV):∀ u∈zC6 x v,u.oneCell'=true:=by intro u hu;simp only [zC6,lU,lT,or_false]at hu;rcases hu with rfl | rfl | rfl | rfl | rfl | rfl <;> rfl
theorem jZ4 (X:Sx) (S1 S2 S3:SV):stV X (S1,S2,S3)=.agg #[uB X.kind,uR X.name,.slice S1.A S1.n S1.c,uI X.bound,.slice S2.A S2.n S2.c,.slice S3.A S3.n S3.c]:=rfl
theorem FrQ.staysP {B p lb:Nat} {w w':World} (hf:FrQ B p w w') (h1:p<lb):Stays (fun k=>lb+1≤k) w w':=by
 intro b cs t fr hb ht hp;refine hf.block b (zO hb) ?_;rintro(e | ⟨_,cs3,fr3,e⟩)
 ·omega
 ·rw [e]at hb;injection hb with hb;injection hb with _ hb;exact zS5 (hb▸ht)
def kH2 (X:Sx) (V:SV×SV×SV) (P:Nat→Prop) (w:World) (y:Sx) (u:SV×SV×SV):Prop:=SxP P w y u∧SxP P w X V
theorem kR7 (X:Sx) (V:SV×SV×SV):qD6 (kH2 X V):=⟨fun P w w' y v hs h=>⟨itS.stay _ _ _ _ _ hs h.1,itS.stay _ _ _ _ _ hs h.2⟩,fun P P' w y v hp h=>⟨itS.mono _ _ _ _ _ hp h.1,itS.mono _ _ _ _ _ hp h.2⟩⟩
theorem qA8 {F:Nat→Prop} {w w':World} (hf:Fr F w w') (hF:∀ k,k<w.heap.size→F k→∃ t cs,Bk w k t cs):KeepsOthers w w' :=
 ⟨hf.size,fun k o hk hc=>(hf.block k (zO hk) (fun e=>by obtain⟨t,cs,hb⟩:=hF k (zO hk) e;exact FrN.not (w':=w') hb ⟨o,hk,hc⟩)).trans hk⟩
section
variable {B:Nat} {p:Nat} {E:Env} {T:TV}
theorem jZ5 {w U:World} {lb pb sb:Nat} {pre:List Yi} {X:Sx} {S S1 S2 S3:SV} {q1:QSt} (hpw:p<lb) (hs:Bk U sb 108 #[uB X.kind,uR X.name,.slice S1.A S1.n S1.c,uI X.bound,.slice S2.A S2.n S2.c,.slice S3.A S3.n S3.c]) (hl:Bk U lb 34 #[.slice S.A S.n S.c]) (ho:jC7 (lb+1) U (pre.map (·.1)) S) (hx:SxP (fun k=>lb+1≤k∧(Value.slice S.A S.n S.c).ownBlock≠some k) U X (S1,S2,S3))
 (hq:Pq B U p E T q1) (hr:Bk U pb 103 #[uQ p 0]) (hf:FrQ B p w U) (hbig:S.n<1000000000) (hlb:lb<sb) (hw:w.heap.size=lb) (hB:B≤lb) :
 ∃ (g c':Nat) (w6:World),(∀ ty,(Builtin.append_ #[34,34] ty #[.slice S.A S.n S.c,.slice (some ⟨U.drew.heap.size,0,none⟩) 1 1]).run Tryz.prog (U.drew.alloc (.cells uS 108))=.ok (.slice (some ⟨g,0,none⟩) (S.n+1) c') w6)∧lb+1≤g∧g<w6.heap.size ∧
  ((∃ u,w6.cell? ⟨lb,0,none⟩=some u)∧(∃ u,w6.cell? ⟨g,S.n*6,none⟩=some u)∧(∃ u,w6.cell? ⟨g,S.n*6+1,none⟩=some u)∧(∃ u,w6.cell? ⟨g,S.n*6+2,none⟩=some u)∧(∃ u,w6.cell? ⟨g,S.n*6+3,none⟩=some u)∧(∃ u,w6.cell? ⟨g,S.n*6+4,none⟩=some u)∧(∃ u,w6.cell? ⟨g,S.n*6+5,none⟩=some u)) ∧
  (w6.frozen? ⟨lb,0,none⟩=false∧w6.frozen? ⟨g,S.n*6,none⟩=false∧w6.frozen? ⟨g,S.n*6+1,none⟩=false∧w6.frozen? ⟨g,S.n*6+2,none⟩=false∧w6.frozen? ⟨g,S.n*6+3,none⟩=false∧w6.frozen? ⟨g,S.n*6+4,none⟩=false∧w6.frozen? ⟨g,S.n*6+5,none⟩=false) ∧
  (Exit.normal=Exit.normal∧KeepsOthers U ((jL8 w6 g (S.n*6) (uB X.kind) (uR X.name) (.slice S1.A S1.n S1.c) (uI X.bound) (.slice S2.A S2.n S2.c) (.slice S3.A S3.n S3.c)).setCell ⟨lb,0,none⟩ (.slice (some ⟨g,0,none⟩) (S.n+1) c'))∧LI B w p lb pb (pre++[(X,(S1,S2,S3),q1)]) ((jL8 w6 g (S.n*6) (uB X.kind) (uR X.name) (.slice S1.A S1.n S1.c) (uI X.bound) (.slice S2.A S2.n S2.c) (.slice S3.A S3.n S3.c)).setCell ⟨lb,0,none⟩ (.slice (some ⟨g,0,none⟩) (S.n+1) c'))∧Pq B ((jL8 w6 g (S.n*6) (uB X.kind) (uR X.name) (.slice S1.A S1.n S1.c) (uI X.bound) (.slice S2.A S2.n S2.c) (.slice S3.A S3.n S3.c)).setCell ⟨lb,0,none⟩ (.slice (some ⟨g,0,none⟩) (S.n+1) c')) p E T q1)∧(Exit.normal=Exit.normal∧KeepsOthers U (jL8 (w6.setCell ⟨lb,0,none⟩ (.slice (some ⟨g,0,none⟩) (S.n+1) c')) g (S.n*6) (uB X.kind) (uR X.name) (.slice S1.A S1.n S1.c) (uI X.bound) (.slice S2.A S2.n S2.c) (.slice S3.A S3.n S3.c))∧LI B w p lb pb (pre++[(X,(S1,S2,S3),q1)]) (jL8 (w6.setCell ⟨lb,0,none⟩ (.slice (some ⟨g,0,none⟩) (S.n+1) c')) g (S.n*6) (uB X.kind) (uR X.name) (.slice S1.A S1.n S1.c) (uI X.bound) (.slice S2.A S2.n S2.c) (.slice S3.A S3.n S3.c))∧Pq B (jL8 (w6.setCell ⟨lb,0,none⟩ (.slice (some ⟨g,0,none⟩) (S.n+1) c')) g (S.n*6) (uB X.kind) (uR X.name) (.slice S1.A S1.n S1.c) (uI X.bound) (.slice S2.A S2.n S2.c) (.slice S3.A S3.n S3.c)) p E T q1)∧True:=by
 have hb:Below U.heap.size U (U.drew.alloc (.cells uS 108)):=zG (lB U.heap.size U).drew _;have ho2:jC7 (lb+1) (U.drew.alloc (.cells uS 108)) (pre.map (·.1)) S:=ho.stay itS yW (Stays.below hb);have hx2:=itS.stay _ _ _ _ _ (Stays.below hb) hx;have hq2:=hq.below hb;have hl2:=zD hl hb;have hr2:=zD hr hb;have hf2:=hf.then hb;have hk2:KeepsOthers U (U.drew.alloc (.cells uS 108)):=qA8 (F:=fun _=>False) (Fr.of_below hb) fun _ _ h=>h.elim;have hx0:SxP (fun k=>lb+1≤k∧(uL S).ownBlock≠some k) (U.drew.alloc (.cells uS 108)) (.mk 0 [] [] 0 [] []) (⟨none,0,0⟩,⟨none,0,0⟩,⟨none,0,0⟩):=⟨⟨Yd,Yd,Yd,Yd⟩,RowG.nil,.nil,.nil⟩;have ho3:OwnG zC6 108 6 (kH2 X (S1,S2,S3)) (lb+1) (U.drew.alloc (.cells uS 108)) (pre.map (·.1)) S:=by obtain⟨vs,h1,h2,h3,h4⟩:=ho2;exact⟨vs,h1,h2,h3,fun i y v hy hv=>⟨h4 i y v hy hv,hx2⟩⟩
 have key:=fun ty=>OwnG.run (kR7 X (S1,S2,S3)) jZ3 yW zS9 (fun x v=>rfl) ho3 (.mk 0 [] [] 0 [] []) _ ⟨hx0,hx2⟩ (some ⟨U.drew.heap.size,0,none⟩) 1 (Rd.new U.drew uS 108) hbig (by have:=hl2.lt;omega) ty;obtain⟨A',c',w6,h1,h2,h3⟩:=key 0;obtain⟨g,rfl,hgl,hgu,hgc⟩:=OwnG.blk (fun x v=>rfl) h2 (by show 0<S.n+1;omega);have hty:∀ k,(uL S).ownBlock=some k→lb+1≤k∧∃ cs,Bk (U.drew.alloc (.cells uS 108)) k 108 cs:=fun k e=>ho2.typed e;have hx6:SxP (fun k=>lb+1≤k∧k≠g) w6 X (S1,S2,S3):=by obtain⟨vs,k1,k2,k3,k4⟩:=h2;obtain⟨vs0,v0,rfl,hl0⟩:=zS8 vs (pre.map (·.1)).length (by rw [k1];simp);have h9:=(k4 (pre.map (·.1)).length (.mk 0 [] [] 0 [] []) v0 (by rw [cH (lF _)];simp) (by rw [cH Yo,hl0];simp)).2;refine itS.mono _ _ _ _ _ (fun b _ hb=>⟨hb.1,fun e=>hb.2 ?_⟩) h9;rw [e];rfl
 have hg6:∃ cs,Bk w6 g 108 cs:=by obtain⟨_,cs,h⟩:=OwnG.typed h2 (k:=g) rfl;exact⟨cs,h⟩
 obtain⟨csg,hg6⟩:=hg6;have h2':jC7 (lb+1) w6 (pre.map (·.1)++[.mk 0 [] [] 0 [] []]) ⟨some ⟨g,0,none⟩,S.n+1,c'⟩:=by obtain⟨vs,k1,k2,k3,k4⟩:=h2;exact⟨vs,k1,k2,k3,fun i y v hy hv=>(k4 i y v hy hv).1⟩
 have hl6:Bk w6 lb 34 #[uL S]:=hl2.fr h3 (fun e=>by have:=(hty _ e).1;omega);have hr6:Bk w6 pb 103 #[uQ p 0]:=hr2.fr h3 (fun e=>by obtain⟨_,cs,h⟩:=hty _ e;exact h.ne hr2 Yd rfl);have hq6:Pq B w6 p E T q1:=hq2.data h3 fun k _ e=>by obtain⟨h,cs,h'⟩:=hty _ e;exact⟨Yo,_,cs,h',yW⟩
 have hf6:FrQ B p w w6:=Fr.then hf2 h3 fun i hi e=>by have:=(hty _ e).1;omega
 have hk6:KeepsOthers U w6:=hk2.trans (qA8 h3 fun k _ e=>by obtain⟨_,cs,h⟩:=hty _ e;exact⟨_,cs,h⟩);have hgp:g≠pb:=fun e=>by subst e;exact hg6.ne hr6 Yd rfl
 refine⟨g,c',w6,fun ty=>h1,hgl,hgu,⟨⟨_,hl6.cell 0⟩,(hgc _ (by show S.n*6<(S.n+1)*6;omega)).1,(hgc _ (by show S.n*6+1<(S.n+1)*6;omega)).1,(hgc _ (by show S.n*6+2<(S.n+1)*6;omega)).1,(hgc _ (by show S.n*6+3<(S.n+1)*6;omega)).1,(hgc _ (by show S.n*6+4<(S.n+1)*6;omega)).1,(hgc _ (by show S.n*6+5<(S.n+1)*6;omega)).1⟩,⟨hl6.frozen 0,(hgc _ (by show S.n*6<(S.n+1)*6;omega)).2,(hgc _ (by show S.n*6+1<(S.n+1)*6;omega)).2,(hgc _ (by show S.n*6+2<(S.n+1)*6;omega)).2,(hgc _ (by show S.n*6+3<(S.n+1)*6;omega)).2,(hgc _ (by show S.n*6+4<(S.n+1)*6;omega)).2,(hgc _ (by show S.n*6+5<(S.n+1)*6;omega)).2⟩,⟨rfl,?_,?_,?_⟩,⟨rfl,?_,?_,?_⟩,trivial⟩
 ·exact(hk6.trans (qA8 xX fun k _ e=>by subst e;exact⟨_,_,hg6⟩)).trans (KeepsOthers.setCell _ _ _)
 ·have hlS:=hl6.fr (xX (W:=w6) (g:=g) (o:=S.n*6) (u0:=uB X.kind) (u1:=uR X.name) (u2:=uL S1) (u3:=uI X.bound) (u4:=uL S2) (u5:=uL S3)) (fun e=>Yo);have hrS:=hr6.fr (xX (W:=w6) (g:=g) (o:=S.n*6) (u0:=uB X.kind) (u1:=uR X.name) (u2:=uL S1) (u3:=uI X.bound) (u4:=uL S2) (u5:=uL S3)) (fun e=>hgp e.symm);have hfS:=Fr.then hf6 (xX (W:=w6) (g:=g) (o:=S.n*6) (u0:=uB X.kind) (u1:=uR X.name) (u2:=uL S1) (u3:=uI X.bound) (u4:=uL S2) (u5:=uL S3)) (fun i hi e=>Yo);have hoS:=OwnG.setLast itS (fun x v=>rfl) h2' hx6 _ _ _ _ _ _ rfl;have hfl:=fun W:World=>(Fr.refl (fun k=>k=lb) W).setCell (p:=⟨lb,0,none⟩) (.inl rfl) (.slice (some ⟨g,0,none⟩) (S.n+1) c');refine⟨⟨⟨some ⟨g,0,none⟩,S.n+1,c'⟩,hlS.put 0 _,?_⟩,hrS.fr (hfl _) (fun e=>?_),Fr.then hfS (hfl _) fun i hi e=>Yo⟩
  ·rw [cB];exact hoS.stay itS yW (Stays.fr (hfl _) fun b _ hp e=>Yo)
  ·subst e;exact hlS.ne hrS Yd rfl
 ·have hqS:=hq6.data (xX (W:=w6) (g:=g) (o:=S.n*6) (u0:=uB X.kind) (u1:=uR X.name) (u2:=uL S1) (u3:=uI X.bound) (u4:=uL S2) (u5:=uL S3)) fun k _ e=>by subst e;exact⟨Yo,_,_,hg6,yW⟩
  have hlS:=hl6.fr (xX (W:=w6) (g:=g) (o:=S.n*6) (u0:=uB X.kind) (u1:=uR X.name) (u2:=uL S1) (u3:=uI X.bound) (u4:=uL S2) (u5:=uL S3)) (fun e=>Yo);exact Pq.box hqS hlS Yd Yd Yo hB ((Fr.refl (fun k=>k=lb) _).setCell (p:=⟨lb,0,none⟩) (.inl rfl) (.slice (some ⟨g,0,none⟩) (S.n+1) c'))
 ·exact(hk6.trans (KeepsOthers.setCell _ _ _)).trans (qA8 xX fun k _ e=>by rw [e];exact⟨_,_,hg6.fr ((Fr.refl (fun k=>k=lb) w6).setCell (p:=⟨lb,0,none⟩) (.inl rfl) (.slice (some ⟨g,0,none⟩) (S.n+1) c')) (fun e=>Yo)⟩)
 ·have hfl:=(Fr.refl (fun k=>k=lb) w6).setCell (p:=⟨lb,0,none⟩) (.inl rfl) (.slice (some ⟨g,0,none⟩) (S.n+1) c');have hlT:=hl6.put 0 (.slice (some ⟨g,0,none⟩) (S.n+1) c');have hrT:=hr6.fr hfl (fun e=>by subst e;exact hl6.ne hr6 Yd rfl);have h2T:=h2'.stay itS yW (Stays.fr hfl fun b _ hp e=>Yo);have hxT:=itS.stay _ _ _ _ _ (Stays.fr hfl fun b _ hp e=>Yo) hx6;have hoT:=OwnG.setLast itS (fun x v=>rfl) h2T hxT _ _ _ _ _ _ rfl;refine⟨⟨⟨some ⟨g,0,none⟩,S.n+1,c'⟩,hlT.fr xX (fun e=>Yo),?_⟩,hrT.fr xX (fun e=>hgp e.symm),Fr.then (Fr.then hf6 hfl fun i hi e=>Yo) xX fun i hi e=>Yo⟩;rw [cB];exact hoT
 ·have hfl:=(Fr.refl (fun k=>k=lb) w6).setCell (p:=⟨lb,0,none⟩) (.inl rfl) (.slice (some ⟨g,0,none⟩) (S.n+1) c');have hqT:=Pq.box hq6 hl6 Yd Yd Yo hB hfl;exact hqT.data xX fun k _ e=>by rw [e];exact⟨Yo,_,_,hg6.fr hfl (fun e=>Yo),yW⟩
end
end
section
open Go.RowKit Go.PlainAid Go.Shelf
attribute [local go_sem] Oper.semAt_some
section
variable {B:Nat} {p:Nat} {E:Env} {T:TV}
theorem kM8 (f:Nat) (q0:QSt) (lst:List Sx) (q':QSt) (hx:jM E f q0 []=some (lst,q')) (IH:∀ g,g<f→qF4 B p E T g) (w:World) (h:Hid (Pq B w p E T q0)):Calls Tryz.prog 70 #[uQ p 0] w fun e w'=>∃ S:SV,e=.returned (.slice S.A S.n S.c)∧StsP (fun k=>w.heap.size≤k) w' lst S∧PQ B w p E T q' w':=by
 have HX:=Ph hx;have HIH:=Ph IH;clear hx IH;have hpw:p<w.heap.size:=h.out.lt;have HP:=Ph (PQ.below h.out (zB (o:=.cells #[uN] 34)));have hb0:=Ph (Bk.new w 34 #[uN]);have HB0:=Ph h.out.b;refine(callsIn_wide (n:=6)).1 ?_;refine callsIn_of_wp_marks Tryz.func70 rfl trivial ?_ rfl;simp only [Tryz.ntmps70,List.size_toArray,Yc,Yn,Nat.reduceAdd,Nat.reduceSub,Array.replicate_succ,Array.replicate_zero,List.push_toArray,List.append_toArray,cF,lR];refine wpIn_wide.2 ?_;go_upto_region 2 with fail
 have hw1:(w.alloc (.cells #[uN] 34)).heap.size=w.heap.size+1:=lO _ _;generalize (w.alloc _)=w1 at *;go_wp2_with fail
 refine(kH1 p w1).mono ?_;rintro e w2 ⟨pb,rfl,hpb,hbk,hb⟩;have HP2:=Ph (HP.out.then hb);have HB2:=Ph (zD hb0.out hb);have HPB:=Ph hbk;have hs2:w1.heap.size≤w2.heap.size:=hb.size;generalize hlb:w.heap.size=lb at *;clear HP hbk hb hb0;go_wp2_with fail
 refine(wpIn_wide (n:=6)).1 ?_;refine jD7 (α:=Yi) (encs:=fun x=>#[stV x.1 x.2.1]) rfl Yo rfl trivial (enters_of Tryz.func130 Yk rfl) (fun _=>rfl) (LI B w p lb pb) (fun pre x W0 W=>GY B p E T x W0 W∧pre.length<1000000000) (fun x W=>Pq B W p E T x.2.2) (fun xs=>xs.map (·.1)=lst) (fun W=>Pq B W p E T q') ?hI ?hR ?hRf ?h0 ?hseq ?hround ?hdone
 case hI=>exact fun pre W l o o' hl hi ho hc=>hi.putN ho hc Yo
 case hR=>exact fun x W l o o' hl hi ho hc=>Pq.putN hi ho hc (by have:=HB0.out;omega)
 case hRf=>exact fun W l o o' hl hi ho hc=>Pq.putN hi ho hc (by have:=HB0.out;omega)
 case h0 =>
  intro o;have hb:Below w2.heap.size w2 ((w2.alloc (.deferred (some []))).alloc (.loop o)):=zG (zG (lB _ _) _) _;exact LI.below ⟨⟨⟨none,0,0⟩,HB2.out,OwnG.nil⟩,HPB.out,HP2.out.fr⟩ hb
 case hseq =>
  intro l J o hJI hJK hY h00;have hb:Below w2.heap.size w2 ((w2.alloc (.deferred (some []))).alloc (.loop o)):=zG (zG (lB _ _) _) _
  exact jD8 5 l pb f q0 lst q' HX.out HIH.out _ (HP2.out.pq.below hb) J
   (fun pre W W' hj ⟨q,hq⟩ hf=>hJK pre W W' hj (hf.keeps hq) ((hJI _ _ hj).frq hf hpw Yo))
   (fun pre W hj=>(hJI _ _ hj).ptr) (fun pre x W0 W h0 h1 hg hl=>hY pre x W0 W h0 h1 ⟨hg,hl⟩) h00
 case hround =>
  intro l pre x W0 W hi0 hg;obtain⟨hg,hlen⟩:=hg;obtain⟨X,⟨S1,S2,S3⟩,q1⟩:=x;obtain⟨⟨S,hA0,hown0⟩,hptr0,hfr0⟩:=hi0;have hA:Bk W lb 34 #[uL S]:=hg.pq.fr.bk hA0 Yd Yo;have hptr:=hg.pq.fr.bk hptr0 Yd Yo;have hown:=hown0.stay itS yW (hg.pq.fr.staysP hpw);have hx:SxP (fun k=>lb+1≤k∧(uL S).ownBlock≠some k) W X (S1,S2,S3):=itS.mono _ _ _ _ _ (fun b _ hb=>⟨by have:=hA0.lt;omega,hown0.fresh hb⟩) hg.s;have hfr:=hfr0.trans hg.pq.fr;have hpq:Pq B W p E T q1:=hg.pq.pq;clear hA0 hown0 hptr0 hfr0 hg;simp only [List.setIfInBounds_toArray,List.set_cons_succ,List.set_cons_zero];rw [jZ4];gi_wp2
  have hsb:=Bk.new W 108 #[uB X.kind,uR X.name,uL S1,uI X.bound,uL S2,uL S3];have hbl:Below W.heap.size W (W.alloc (.cells #[uB X.kind,uR X.name,uL S1,uI X.bound,uL S2,uL S3] 108)):=zB;refine⟨KeepsOthers.alloc _ _,fun o o' hl ho hc=>?_⟩;have hf:FrN (W.alloc (.cells #[uB X.kind,uR X.name,uL S1,uI X.bound,uL S2,uL S3] 108)) ((W.alloc (.cells #[uB X.kind,uR X.name,uL S1,uI X.bound,uL S2,uL S3] 108)).putObj l o'):=FrN.put ho hc;have HS:=Ph (hf.bk hsb);have HL:=Ph (hf.bk (zD hA hbl));have HO:=Ph ((hown.stay itS yW (Stays.below hbl)).stay itS yW hf.stays);have HX':=Ph (itS.stay _ _ _ _ _ hf.stays (itS.stay _ _ _ _ _ (Stays.below hbl) hx));have HQ:=Ph (Pq.putN (o':=o') (hpq.below hbl) ho hc (by have:=HB0.out;omega));have HR:=Ph (hf.bk (zD hptr hbl));have HF:Hid (FrQ B p w ((W.alloc (.cells #[uB X.kind,uR X.name,uL S1,uI X.bound,uL S2,uL S3] 108)).putObj l o')):=Ph (Fr.then (hfr.then hbl) (wP _ l o') fun i hi e=>Yo);have hsbl:lb<W.heap.size:=hA.lt;have hpbl:pb<W.heap.size:=hptr.lt;clear hA hptr hown hx hfr hpq hsb hbl ho hf;generalize ((W.alloc (.cells #[uB X.kind,uR X.name,uL S1,uI X.bound,uL S2,uL S3] 108)).putObj l o')=U at *;generalize W.heap.size=sb at *;have hbig:S.n<1000000000:=by have h9:S.n=(pre.map (·.1)).length:=HO.out.len;rw [lW]at h9;omega
  obtain⟨g,c',w6,hrun,hgl,hgu,hc6,hfz,hF1,hF2,hF3⟩:=jZ5 (B:=B) (E:=E) (T:=T) hpw HS.out HL.out HO.out HX'.out HQ.out HR.out HF.out hbig hsbl hlb HB0.out;have HRUN:=Ph hrun;have HF1:=Ph hF1;have HF2:=Ph hF2;have HF3:=Ph hF3;refine wpIn_block ?_;refine qF5 Yk ?hlets ?hdef ?_
  case hlets=>rintro⟨a,w',h⟩;cases h.1
  case hdef =>
   intro o ho c;simp only [List.mem_toArray,lU,lT,or_false]at ho;rcases ho with rfl | rfl | rfl | rfl | rfl | rfl | rfl | rfl <;> (intro h;cases h)
  have m2:(U.alloc (.cells uS 108)).cell? ⟨lb,0,none⟩=some (uL S):=(zD HL.out (zB (o:=.cells uS 108))).cell 0;have m0:U.drew.cell? ⟨lb,0,none⟩=some (uL S):=HL.out.cell 0;have m1:(U.drew.alloc (.cells uS 108)).cell? ⟨lb,0,none⟩=some (uL S):=(zD HL.out (zB (o:=.cells uS 108))).cell 0;have n0:U.drew.cell? ⟨sb,0,none⟩=some (uB X.kind):=HS.out.cell 0;have j0:(U.alloc (.cells uS 108)).cell? ⟨sb,0,none⟩=some (uB X.kind):=(zD HS.out (zB (o:=.cells uS 108))).cell 0;have k0:(U.drew.alloc (.cells uS 108)).cell? ⟨sb,0,none⟩=some (uB X.kind):=(zD HS.out (zB (o:=.cells uS 108))).cell 0;have n1:U.drew.cell? ⟨sb,1,none⟩=some (uR X.name):=HS.out.cell 1;have j1:(U.alloc (.cells uS 108)).cell? ⟨sb,1,none⟩=some (uR X.name):=(zD HS.out (zB (o:=.cells uS 108))).cell 1;have k1:(U.drew.alloc (.cells uS 108)).cell? ⟨sb,1,none⟩=some (uR X.name):=(zD HS.out (zB (o:=.cells uS 108))).cell 1;have n2:U.drew.cell? ⟨sb,2,none⟩=some (uL S1):=HS.out.cell 2;have j2:(U.alloc (.cells uS 108)).cell? ⟨sb,2,none⟩=some (uL S1):=(zD HS.out (zB (o:=.cells uS 108))).cell 2;have k2:(U.drew.alloc (.cells uS 108)).cell? ⟨sb,2,none⟩=some (uL S1):=(zD HS.out (zB (o:=.cells uS 108))).cell 2;have n3:U.drew.cell? ⟨sb,3,none⟩=some (uI X.bound):=HS.out.cell 3;have j3:(U.alloc (.cells uS 108)).cell? ⟨sb,3,none⟩=some (uI X.bound):=(zD HS.out (zB (o:=.cells uS 108))).cell 3;have k3:(U.drew.alloc (.cells uS 108)).cell? ⟨sb,3,none⟩=some (uI X.bound):=(zD HS.out (zB (o:=.cells uS 108))).cell 3;have n4:U.drew.cell? ⟨sb,4,none⟩=some (uL S2):=HS.out.cell 4;have j4:(U.alloc (.cells uS 108)).cell? ⟨sb,4,none⟩=some (uL S2):=(zD HS.out (zB (o:=.cells uS 108))).cell 4;have k4:(U.drew.alloc (.cells uS 108)).cell? ⟨sb,4,none⟩=some (uL S2):=(zD HS.out (zB (o:=.cells uS 108))).cell 4;have n5:U.drew.cell? ⟨sb,5,none⟩=some (uL S3):=HS.out.cell 5;have j5:(U.alloc (.cells uS 108)).cell? ⟨sb,5,none⟩=some (uL S3):=(zD HS.out (zB (o:=.cells uS 108))).cell 5;have k5:(U.drew.alloc (.cells uS 108)).cell? ⟨sb,5,none⟩=some (uL S3):=(zD HS.out (zB (o:=.cells uS 108))).cell 5;obtain⟨⟨v0,p0⟩,⟨v1,p1⟩,⟨v2,p2⟩,⟨v3,p3⟩,⟨v4,p4⟩,⟨v5,p5⟩,⟨v6,p6⟩⟩:=hc6;have hidx:(S.n:Int)<(S.n:Int)+1:=Yo;obtain⟨f0,f1,f2,f3,f4,f5,f6⟩:=hfz;clear hrun hF1 hF2 hF3 HS HL HO HX' HQ HR HF;refine lI (rs:=[0,1,3]) Yk Ym ?_;refine lC rfl (fun K hK=>?_) ?_
  ·go_simp;refine hK _ _ ?_;clear hK K;refine lI (rs:=[1,2,3]) Yk Ym ?_;refine lC rfl (fun K hK=>?_) ?_
   ·go_simp;refine hK _ _ ?_;clear hK K;refine lI (rs:=[2,3]) Yk Ym ?_;refine lC rfl (fun K hK=>?_) ?_
    ·go_simp;refine hK _ _ ?_;clear hK K;refine lI (rs:=[3]) Yk Ym ?_;refine lC rfl (fun K hK=>?_) ?_
     ·go_simp;refine hK _ _ ?_;clear hK K;refine lI (rs:=[4]) Yk Ym ?_;refine lC rfl (fun K hK=>?_) ?_
      ·refine qG rfl (.tmp 8) (.tmp 11) rfl _ _ _ rfl rfl (HRUN.out _) ?_;try go_simp
       refine hK _ _ ?_;clear hK K;refine lI (rs:=[5,7]) Yk Ym ?_;refine lC rfl (fun K hK=>?_) ?_
       ·go_simp;refine hK _ _ ?_;clear hK K;refine lI (rs:=[6,7]) Yk Ym ?_;refine lC rfl (fun K hK=>?_) ?_
        ·go_simp;refine hK _ _ ?_;clear hK K;refine lI (rs:=[7]) Yk Ym ?_;refine lC rfl (fun K hK=>?_) ?_
         ·go_simp;refine hK _ _ ?_;clear hK K;refine lJ Yk ?_ _;exact HF1.out
         exact lD
        refine lC rfl (fun K hK=>?_) ?_
        ·go_simp;refine hK _ _ ?_;clear hK K;refine lI (rs:=[6]) Yk Ym ?_;refine lC rfl (fun K hK=>?_) ?_
         ·go_simp;refine hK _ _ ?_;clear hK K;refine lJ Yk ?_ _;exact HF2.out
         exact lD
        exact lD
       refine lC rfl (fun K hK=>?_) ?_
       ·go_simp;refine hK _ _ ?_;clear hK K;refine lI (rs:=[5]) Yk Ym ?_;refine lC rfl (fun K hK=>?_) ?_
        ·go_simp;refine hK _ _ ?_;clear hK K;refine lI (rs:=[6]) Yk Ym ?_;refine lC rfl (fun K hK=>?_) ?_
         ·go_simp;refine hK _ _ ?_;clear hK K;refine lJ Yk ?_ _;exact HF2.out
         exact lD
        exact lD
       exact lD
      exact lD
     exact lD
    refine lC rfl (fun K hK=>?_) ?_
    ·go_simp;refine hK _ _ ?_;clear hK K;refine lI (rs:=[2]) Yk Ym ?_;refine lC rfl (fun K hK=>?_) ?_
     ·go_simp;refine hK _ _ ?_;clear hK K;refine lI (rs:=[4]) Yk Ym ?_;refine lC rfl (fun K hK=>?_) ?_
      ·refine qG rfl (.tmp 8) (.tmp 11) rfl _ _ _ rfl rfl (HRUN.out _) ?_;try go_simp
       refine hK _ _ ?_;clear hK K;refine lI (rs:=[5,7]) Yk Ym ?_;refine lC rfl (fun K hK=>?_) ?_
       ·go_simp;refine hK _ _ ?_;clear hK K;refine lI (rs:=[6,7]) Yk Ym ?_;refine lC rfl (fun K hK=>?_) ?_
        ·go_simp;refine hK _ _ ?_;clear hK K;refine lI (rs:=[7]) Yk Ym ?_;refine lC rfl (fun K hK=>?_) ?_
         ·go_simp;refine hK _ _ ?_;clear hK K;refine lJ Yk ?_ _;exact HF1.out
         exact lD
        refine lC rfl (fun K hK=>?_) ?_
        ·go_simp;refine hK _ _ ?_;clear hK K;refine lI (rs:=[6]) Yk Ym ?_;refine lC rfl (fun K hK=>?_) ?_
         ·go_simp;refine hK _ _ ?_;clear hK K;refine lJ Yk ?_ _;exact HF2.out
         exact lD
        exact lD
       refine lC rfl (fun K hK=>?_) ?_
       ·go_simp;refine hK _ _ ?_;clear hK K;refine lI (rs:=[5]) Yk Ym ?_;refine lC rfl (fun K hK=>?_) ?_
        ·go_simp;refine hK _ _ ?_;clear hK K;refine lI (rs:=[6]) Yk Ym ?_;refine lC rfl (fun K hK=>?_) ?_
         ·go_simp;refine hK _ _ ?_;clear hK K;refine lJ Yk ?_ _;exact HF2.out
         exact lD
        exact lD
       exact lD
      exact lD
     exact lD
    exact lD
   refine lC rfl (fun K hK=>?_) ?_
   ·go_simp;refine hK _ _ ?_;clear hK K;refine lI (rs:=[1,3]) Yk Ym ?_;refine lC rfl (fun K hK=>?_) ?_
    ·go_simp;refine hK _ _ ?_;clear hK K;refine lI (rs:=[3]) Yk Ym ?_;refine lC rfl (fun K hK=>?_) ?_
     ·go_simp;refine hK _ _ ?_;clear hK K;refine lI (rs:=[4]) Yk Ym ?_;refine lC rfl (fun K hK=>?_) ?_
      ·refine qG rfl (.tmp 8) (.tmp 11) rfl _ _ _ rfl rfl (HRUN.out _) ?_;try go_simp
       refine hK _ _ ?_;clear hK K;refine lI (rs:=[5,7]) Yk Ym ?_;refine lC rfl (fun K hK=>?_) ?_
       ·go_simp;refine hK _ _ ?_;clear hK K;refine lI (rs:=[6,7]) Yk Ym ?_;refine lC rfl (fun K hK=>?_) ?_
        ·go_simp;refine hK _ _ ?_;clear hK K;refine lI (rs:=[7]) Yk Ym ?_;refine lC rfl (fun K hK=>?_) ?_
         ·go_simp;refine hK _ _ ?_;clear hK K;refine lJ Yk ?_ _;exact HF1.out
         exact lD
        refine lC rfl (fun K hK=>?_) ?_
        ·go_simp;refine hK _ _ ?_;clear hK K;refine lI (rs:=[6]) Yk Ym ?_;refine lC rfl (fun K hK=>?_) ?_
         ·go_simp;refine hK _ _ ?_;clear hK K;refine lJ Yk ?_ _;exact HF2.out
         exact lD
        exact lD
       refine lC rfl (fun K hK=>?_) ?_
       ·go_simp;refine hK _ _ ?_;clear hK K;refine lI (rs:=[5]) Yk Ym ?_;refine lC rfl (fun K hK=>?_) ?_
        ·go_simp;refine hK _ _ ?_;clear hK K;refine lI (rs:=[6]) Yk Ym ?_;refine lC rfl (fun K hK=>?_) ?_
         ·go_simp;refine hK _ _ ?_;clear hK K;refine lJ Yk ?_ _;exact HF2.out
         exact lD
        exact lD
       exact lD
      exact lD
     exact lD
    refine lC rfl (fun K hK=>?_) ?_
    ·go_simp;refine hK _ _ ?_;clear hK K;refine lI (rs:=[1]) Yk Ym ?_;refine lC rfl (fun K hK=>?_) ?_
     ·go_simp;refine hK _ _ ?_;clear hK K;refine lI (rs:=[4]) Yk Ym ?_;refine lC rfl (fun K hK=>?_) ?_
      ·refine qG rfl (.tmp 8) (.tmp 11) rfl _ _ _ rfl rfl (HRUN.out _) ?_;try go_simp
       refine hK _ _ ?_;clear hK K;refine lI (rs:=[5,7]) Yk Ym ?_;refine lC rfl (fun K hK=>?_) ?_
       ·go_simp;refine hK _ _ ?_;clear hK K;refine lI (rs:=[6,7]) Yk Ym ?_;refine lC rfl (fun K hK=>?_) ?_
        ·go_simp;refine hK _ _ ?_;clear hK K;refine lI (rs:=[7]) Yk Ym ?_;refine lC rfl (fun K hK=>?_) ?_
         ·go_simp;refine hK _ _ ?_;clear hK K;refine lJ Yk ?_ _;exact HF1.out
         exact lD
        refine lC rfl (fun K hK=>?_) ?_
        ·go_simp;refine hK _ _ ?_;clear hK K;refine lI (rs:=[6]) Yk Ym ?_;refine lC rfl (fun K hK=>?_) ?_
         ·go_simp;refine hK _ _ ?_;clear hK K;refine lJ Yk ?_ _;exact HF2.out
         exact lD
        exact lD
       refine lC rfl (fun K hK=>?_) ?_
       ·go_simp;refine hK _ _ ?_;clear hK K;refine lI (rs:=[5]) Yk Ym ?_;refine lC rfl (fun K hK=>?_) ?_
        ·go_simp;refine hK _ _ ?_;clear hK K;refine lI (rs:=[6]) Yk Ym ?_;refine lC rfl (fun K hK=>?_) ?_
         ·go_simp;refine hK _ _ ?_;clear hK K;refine lJ Yk ?_ _;exact HF2.out
         exact lD
        exact lD
       exact lD
      exact lD
     exact lD
    exact lD
   refine lC rfl (fun K hK=>?_) ?_
   ·go_simp;refine hK _ _ ?_;clear hK K;refine lI (rs:=[1,2]) Yk Ym ?_;refine lC rfl (fun K hK=>?_) ?_
    ·go_simp;refine hK _ _ ?_;clear hK K;refine lI (rs:=[2]) Yk Ym ?_;refine lC rfl (fun K hK=>?_) ?_
     ·go_simp;refine hK _ _ ?_;clear hK K;refine lI (rs:=[4]) Yk Ym ?_;refine lC rfl (fun K hK=>?_) ?_
      ·refine qG rfl (.tmp 8) (.tmp 11) rfl _ _ _ rfl rfl (HRUN.out _) ?_;try go_simp
       refine hK _ _ ?_;clear hK K;refine lI (rs:=[5,7]) Yk Ym ?_;refine lC rfl (fun K hK=>?_) ?_
       ·go_simp;refine hK _ _ ?_;clear hK K;refine lI (rs:=[6,7]) Yk Ym ?_;refine lC rfl (fun K hK=>?_) ?_
        ·go_simp;refine hK _ _ ?_;clear hK K;refine lI (rs:=[7]) Yk Ym ?_;refine lC rfl (fun K hK=>?_) ?_
         ·go_simp;refine hK _ _ ?_;clear hK K;refine lJ Yk ?_ _;exact HF1.out
         exact lD
        refine lC rfl (fun K hK=>?_) ?_
        ·go_simp;refine hK _ _ ?_;clear hK K;refine lI (rs:=[6]) Yk Ym ?_;refine lC rfl (fun K hK=>?_) ?_
         ·go_simp;refine hK _ _ ?_;clear hK K;refine lJ Yk ?_ _;exact HF2.out
         exact lD
        exact lD
       refine lC rfl (fun K hK=>?_) ?_
       ·go_simp;refine hK _ _ ?_;clear hK K;refine lI (rs:=[5]) Yk Ym ?_;refine lC rfl (fun K hK=>?_) ?_
        ·go_simp;refine hK _ _ ?_;clear hK K;refine lI (rs:=[6]) Yk Ym ?_;refine lC rfl (fun K hK=>?_) ?_
         ·go_simp;refine hK _ _ ?_;clear hK K;refine lJ Yk ?_ _;exact HF2.out
         exact lD
        exact lD
       exact lD
      exact lD
     exact lD
    refine lC rfl (fun K hK=>?_) ?_
    ·go_simp;refine hK _ _ ?_;clear hK K;refine lI (rs:=[1]) Yk Ym ?_;refine lC rfl (fun K hK=>?_) ?_
     ·go_simp;refine hK _ _ ?_;clear hK K;refine lI (rs:=[4]) Yk Ym ?_;refine lC rfl (fun K hK=>?_) ?_
      ·refine qG rfl (.tmp 8) (.tmp 11) rfl _ _ _ rfl rfl (HRUN.out _) ?_;try go_simp
       refine hK _ _ ?_;clear hK K;refine lI (rs:=[5,7]) Yk Ym ?_;refine lC rfl (fun K hK=>?_) ?_
       ·go_simp;refine hK _ _ ?_;clear hK K;refine lI (rs:=[6,7]) Yk Ym ?_;refine lC rfl (fun K hK=>?_) ?_
        ·go_simp;refine hK _ _ ?_;clear hK K;refine lI (rs:=[7]) Yk Ym ?_;refine lC rfl (fun K hK=>?_) ?_
         ·go_simp;refine hK _ _ ?_;clear hK K;refine lJ Yk ?_ _;exact HF1.out
         exact lD
        refine lC rfl (fun K hK=>?_) ?_
        ·go_simp;refine hK _ _ ?_;clear hK K;refine lI (rs:=[6]) Yk Ym ?_;refine lC rfl (fun K hK=>?_) ?_
         ·go_simp;refine hK _ _ ?_;clear hK K;refine lJ Yk ?_ _;exact HF2.out
         exact lD
        exact lD
       refine lC rfl (fun K hK=>?_) ?_
       ·go_simp;refine hK _ _ ?_;clear hK K;refine lI (rs:=[5]) Yk Ym ?_;refine lC rfl (fun K hK=>?_) ?_
        ·go_simp;refine hK _ _ ?_;clear hK K;refine lI (rs:=[6]) Yk Ym ?_;refine lC rfl (fun K hK=>?_) ?_
         ·go_simp;refine hK _ _ ?_;clear hK K;refine lJ Yk ?_ _;exact HF2.out
         exact lD
        exact lD
       exact lD
      exact lD
     exact lD
    exact lD
   exact lD
  refine lC rfl (fun K hK=>?_) ?_
  ·go_simp;refine hK _ _ ?_;clear hK K;refine lI (rs:=[0,3]) Yk Ym ?_;refine lC rfl (fun K hK=>?_) ?_
   ·go_simp;refine hK _ _ ?_;clear hK K;refine lI (rs:=[2,3]) Yk Ym ?_;refine lC rfl (fun K hK=>?_) ?_
    ·go_simp;refine hK _ _ ?_;clear hK K;refine lI (rs:=[3]) Yk Ym ?_;refine lC rfl (fun K hK=>?_) ?_
     ·go_simp;refine hK _ _ ?_;clear hK K;refine lI (rs:=[4]) Yk Ym ?_;refine lC rfl (fun K hK=>?_) ?_
      ·refine qG rfl (.tmp 8) (.tmp 11) rfl _ _ _ rfl rfl (HRUN.out _) ?_;try go_simp
       refine hK _ _ ?_;clear hK K;refine lI (rs:=[5,7]) Yk Ym ?_;refine lC rfl (fun K hK=>?_) ?_
       ·go_simp;refine hK _ _ ?_;clear hK K;refine lI (rs:=[6,7]) Yk Ym ?_;refine lC rfl (fun K hK=>?_) ?_
        ·go_simp;refine hK _ _ ?_;clear hK K;refine lI (rs:=[7]) Yk Ym ?_;refine lC rfl (fun K hK=>?_) ?_
         ·go_simp;refine hK _ _ ?_;clear hK K;refine lJ Yk ?_ _;exact HF1.out
         exact lD
        refine lC rfl (fun K hK=>?_) ?_
        ·go_simp;refine hK _ _ ?_;clear hK K;refine lI (rs:=[6]) Yk Ym ?_;refine lC rfl (fun K hK=>?_) ?_
         ·go_simp;refine hK _ _ ?_;clear hK K;refine lJ Yk ?_ _;exact HF2.out
         exact lD
        exact lD
       refine lC rfl (fun K hK=>?_) ?_
       ·go_simp;refine hK _ _ ?_;clear hK K;refine lI (rs:=[5]) Yk Ym ?_;refine lC rfl (fun K hK=>?_) ?_
        ·go_simp;refine hK _ _ ?_;clear hK K;refine lI (rs:=[6]) Yk Ym ?_;refine lC rfl (fun K hK=>?_) ?_
         ·go_simp;refine hK _ _ ?_;clear hK K;refine lJ Yk ?_ _;exact HF2.out
         exact lD
        exact lD
       exact lD
      exact lD
     exact lD
    refine lC rfl (fun K hK=>?_) ?_
    ·go_simp;refine hK _ _ ?_;clear hK K;refine lI (rs:=[2]) Yk Ym ?_;refine lC rfl (fun K hK=>?_) ?_
     ·go_simp;refine hK _ _ ?_;clear hK K;refine lI (rs:=[4]) Yk Ym ?_;refine lC rfl (fun K hK=>?_) ?_
      ·refine qG rfl (.tmp 8) (.tmp 11) rfl _ _ _ rfl rfl (HRUN.out _) ?_;try go_simp
       refine hK _ _ ?_;clear hK K;refine lI (rs:=[5,7]) Yk Ym ?_;refine lC rfl (fun K hK=>?_) ?_
       ·go_simp;refine hK _ _ ?_;clear hK K;refine lI (rs:=[6,7]) Yk Ym ?_;refine lC rfl (fun K hK=>?_) ?_
        ·go_simp;refine hK _ _ ?_;clear hK K;refine lI (rs:=[7]) Yk Ym ?_;refine lC rfl (fun K hK=>?_) ?_
         ·go_simp;refine hK _ _ ?_;clear hK K;refine lJ Yk ?_ _;exact HF1.out
         exact lD
        refine lC rfl (fun K hK=>?_) ?_
        ·go_simp;refine hK _ _ ?_;clear hK K;refine lI (rs:=[6]) Yk Ym ?_;refine lC rfl (fun K hK=>?_) ?_
         ·go_simp;refine hK _ _ ?_;clear hK K;refine lJ Yk ?_ _;exact HF2.out
         exact lD
        exact lD
       refine lC rfl (fun K hK=>?_) ?_
       ·go_simp;refine hK _ _ ?_;clear hK K;refine lI (rs:=[5]) Yk Ym ?_;refine lC rfl (fun K hK=>?_) ?_
        ·go_simp;refine hK _ _ ?_;clear hK K;refine lI (rs:=[6]) Yk Ym ?_;refine lC rfl (fun K hK=>?_) ?_
         ·go_simp;refine hK _ _ ?_;clear hK K;refine lJ Yk ?_ _;exact HF2.out
         exact lD
        exact lD
       exact lD
      exact lD
     exact lD
    exact lD
   refine lC rfl (fun K hK=>?_) ?_
   ·go_simp;refine hK _ _ ?_;clear hK K;refine lI (rs:=[0]) Yk Ym ?_;refine lC rfl (fun K hK=>?_) ?_
    ·go_simp;refine hK _ _ ?_;clear hK K;refine lI (rs:=[2]) Yk Ym ?_;refine lC rfl (fun K hK=>?_) ?_
     ·go_simp;refine hK _ _ ?_;clear hK K;refine lI (rs:=[4]) Yk Ym ?_;refine lC rfl (fun K hK=>?_) ?_
      ·refine qG rfl (.tmp 8) (.tmp 11) rfl _ _ _ rfl rfl (HRUN.out _) ?_;try go_simp
       refine hK _ _ ?_;clear hK K;refine lI (rs:=[5,7]) Yk Ym ?_;refine lC rfl (fun K hK=>?_) ?_
       ·go_simp;refine hK _ _ ?_;clear hK K;refine lI (rs:=[6,7]) Yk Ym ?_;refine lC rfl (fun K hK=>?_) ?_
        ·go_simp;refine hK _ _ ?_;clear hK K;refine lI (rs:=[7]) Yk Ym ?_;refine lC rfl (fun K hK=>?_) ?_
         ·go_simp;refine hK _ _ ?_;clear hK K;refine lJ Yk ?_ _;exact HF1.out
         exact lD
        refine lC rfl (fun K hK=>?_) ?_
        ·go_simp;refine hK _ _ ?_;clear hK K;refine lI (rs:=[6]) Yk Ym ?_;refine lC rfl (fun K hK=>?_) ?_
         ·go_simp;refine hK _ _ ?_;clear hK K;refine lJ Yk ?_ _;exact HF2.out
         exact lD
        exact lD
       refine lC rfl (fun K hK=>?_) ?_
       ·go_simp;refine hK _ _ ?_;clear hK K;refine lI (rs:=[5]) Yk Ym ?_;refine lC rfl (fun K hK=>?_) ?_
        ·go_simp;refine hK _ _ ?_;clear hK K;refine lI (rs:=[6]) Yk Ym ?_;refine lC rfl (fun K hK=>?_) ?_
         ·go_simp;refine hK _ _ ?_;clear hK K;refine lJ Yk ?_ _;exact HF2.out
         exact lD
        exact lD
       exact lD
      exact lD
     exact lD
    exact lD
   exact lD
  refine lC rfl (fun K hK=>?_) ?_
  ·go_simp;refine hK _ _ ?_;clear hK K;refine lI (rs:=[0,1]) Yk Ym ?_;refine lC rfl (fun K hK=>?_) ?_
   ·go_simp;refine hK _ _ ?_;clear hK K;refine lI (rs:=[1,2]) Yk Ym ?_;refine lC rfl (fun K hK=>?_) ?_
    ·go_simp;refine hK _ _ ?_;clear hK K;refine lI (rs:=[2]) Yk Ym ?_;refine lC rfl (fun K hK=>?_) ?_
     ·go_simp;refine hK _ _ ?_;clear hK K;refine lI (rs:=[4]) Yk Ym ?_;refine lC rfl (fun K hK=>?_) ?_
      ·refine qG rfl (.tmp 8) (.tmp 11) rfl _ _ _ rfl rfl (HRUN.out _) ?_;try go_simp
       refine hK _ _ ?_;clear hK K;refine lI (rs:=[5,7]) Yk Ym ?_;refine lC rfl (fun K hK=>?_) ?_
       ·go_simp;refine hK _ _ ?_;clear hK K;refine lI (rs:=[6,7]) Yk Ym ?_;refine lC rfl (fun K hK=>?_) ?_
        ·go_simp;refine hK _ _ ?_;clear hK K;refine lI (rs:=[7]) Yk Ym ?_;refine lC rfl (fun K hK=>?_) ?_
         ·go_simp;refine hK _ _ ?_;clear hK K;refine lJ Yk ?_ _;exact HF1.out
         exact lD
        refine lC rfl (fun K hK=>?_) ?_
        ·go_simp;refine hK _ _ ?_;clear hK K;refine lI (rs:=[6]) Yk Ym ?_;refine lC rfl (fun K hK=>?_) ?_
         ·go_simp;refine hK _ _ ?_;clear hK K;refine lJ Yk ?_ _;exact HF2.out
         exact lD
        exact lD
       refine lC rfl (fun K hK=>?_) ?_
       ·go_simp;refine hK _ _ ?_;clear hK K;refine lI (rs:=[5]) Yk Ym ?_;refine lC rfl (fun K hK=>?_) ?_
        ·go_simp;refine hK _ _ ?_;clear hK K;refine lI (rs:=[6]) Yk Ym ?_;refine lC rfl (fun K hK=>?_) ?_
         ·go_simp;refine hK _ _ ?_;clear hK K;refine lJ Yk ?_ _;exact HF2.out
         exact lD
        exact lD
       exact lD
      exact lD
     exact lD
    refine lC rfl (fun K hK=>?_) ?_
    ·go_simp;refine hK _ _ ?_;clear hK K;refine lI (rs:=[1]) Yk Ym ?_;refine lC rfl (fun K hK=>?_) ?_
     ·go_simp;refine hK _ _ ?_;clear hK K;refine lI (rs:=[4]) Yk Ym ?_;refine lC rfl (fun K hK=>?_) ?_
      ·refine qG rfl (.tmp 8) (.tmp 11) rfl _ _ _ rfl rfl (HRUN.out _) ?_;try go_simp
       refine hK _ _ ?_;clear hK K;refine lI (rs:=[5,7]) Yk Ym ?_;refine lC rfl (fun K hK=>?_) ?_
       ·go_simp;refine hK _ _ ?_;clear hK K;refine lI (rs:=[6,7]) Yk Ym ?_;refine lC rfl (fun K hK=>?_) ?_
        ·go_simp;refine hK _ _ ?_;clear hK K;refine lI (rs:=[7]) Yk Ym ?_;refine lC rfl (fun K hK=>?_) ?_
         ·go_simp;refine hK _ _ ?_;clear hK K;refine lJ Yk ?_ _;exact HF1.out
         exact lD
        refine lC rfl (fun K hK=>?_) ?_
        ·go_simp;refine hK _ _ ?_;clear hK K;refine lI (rs:=[6]) Yk Ym ?_;refine lC rfl (fun K hK=>?_) ?_
         ·go_simp;refine hK _ _ ?_;clear hK K;refine lJ Yk ?_ _;exact HF2.out
         exact lD
        exact lD
       refine lC rfl (fun K hK=>?_) ?_
       ·go_simp;refine hK _ _ ?_;clear hK K;refine lI (rs:=[5]) Yk Ym ?_;refine lC rfl (fun K hK=>?_) ?_
        ·go_simp;refine hK _ _ ?_;clear hK K;refine lI (rs:=[6]) Yk Ym ?_;refine lC rfl (fun K hK=>?_) ?_
         ·go_simp;refine hK _ _ ?_;clear hK K;refine lJ Yk ?_ _;exact HF2.out
         exact lD
        exact lD
       exact lD
      exact lD
     exact lD
    exact lD
   refine lC rfl (fun K hK=>?_) ?_
   ·go_simp;refine hK _ _ ?_;clear hK K;refine lI (rs:=[0]) Yk Ym ?_;refine lC rfl (fun K hK=>?_) ?_
    ·go_simp;refine hK _ _ ?_;clear hK K;refine lI (rs:=[2]) Yk Ym ?_;refine lC rfl (fun K hK=>?_) ?_
     ·go_simp;refine hK _ _ ?_;clear hK K;refine lI (rs:=[4]) Yk Ym ?_;refine lC rfl (fun K hK=>?_) ?_
      ·refine qG rfl (.tmp 8) (.tmp 11) rfl _ _ _ rfl rfl (HRUN.out _) ?_;try go_simp
       refine hK _ _ ?_;clear hK K;refine lI (rs:=[5,7]) Yk Ym ?_;refine lC rfl (fun K hK=>?_) ?_
       ·go_simp;refine hK _ _ ?_;clear hK K;refine lI (rs:=[6,7]) Yk Ym ?_;refine lC rfl (fun K hK=>?_) ?_
        ·go_simp;refine hK _ _ ?_;clear hK K;refine lI (rs:=[7]) Yk Ym ?_;refine lC rfl (fun K hK=>?_) ?_
         ·go_simp;refine hK _ _ ?_;clear hK K;refine lJ Yk ?_ _;exact HF1.out
         exact lD
        refine lC rfl (fun K hK=>?_) ?_
        ·go_simp;refine hK _ _ ?_;clear hK K;refine lI (rs:=[6]) Yk Ym ?_;refine lC rfl (fun K hK=>?_) ?_
         ·go_simp;refine hK _ _ ?_;clear hK K;refine lJ Yk ?_ _;exact HF2.out
         exact lD
        exact lD
       refine lC rfl (fun K hK=>?_) ?_
       ·go_simp;refine hK _ _ ?_;clear hK K;refine lI (rs:=[5]) Yk Ym ?_;refine lC rfl (fun K hK=>?_) ?_
        ·go_simp;refine hK _ _ ?_;clear hK K;refine lI (rs:=[6]) Yk Ym ?_;refine lC rfl (fun K hK=>?_) ?_
         ·go_simp;refine hK _ _ ?_;clear hK K;refine lJ Yk ?_ _;exact HF2.out
         exact lD
        exact lD
       exact lD
      exact lD
     exact lD
    exact lD
   exact lD
  exact lD
 case hdone =>
  intro D xs W hD hS hi hq hd;obtain⟨⟨S,hA,hown⟩,h1,h2⟩:=hi;have y0:=hA.cell 0;have HDD:=Ph hd;have hf:FrN W (W.putObj D (.deferred none)):=FrN.put hd rfl;have HPQ:Hid (PQ B w p E T q' (W.putObj D (.deferred none))):=Ph ⟨Pq.putN hq hd rfl (by have:=HB0.out;omega),Fr.then h2 (wP W D _) fun i hi e=>Yo⟩;have HST:Hid (StsP (fun k=>lb≤k) (W.putObj D (.deferred none)) lst S):=Ph (hS▸((hown.stay itS yW hf.stays).sts.mono fun b _ hb=>Yo));clear hA hown h1 h2 hd hf hq;go_wp2_with fail
  exact⟨Ym,.inl ⟨D,_,rfl,run_takeDeferred HDD.out,⟨uL S,by simp [results,Tryz.results70,go_sem],S,rfl,by rw [hlb];exact HST.out,HPQ.out⟩⟩⟩
end
end
end Go.Proofs.YtfdaebgllibphaaGreatDoor
