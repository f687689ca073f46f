import Derived.Test.YtfdaebgllibphaaGreatDoorWaq
set_option linter.unusedVariables false
set_option linter.unusedSimpArgs false
set_option maxRecDepth 100000
set_option maxHeartbeats 16000000
namespace Go.Proofs.YtfdaebgllibphaaGreatDoor
open Go.Proofs.Tryz
section
open Go.RowKit Go.PlainAid
theorem ShX.exOk {x:Ex} (h:ShX x):zX3 x:=by
 cases h with
 | num v w hv hw=>exact⟨(by show(1:Nat)≤255;omega),(by show(0:Nat)≤255;omega),(by show v≤4294967295;omega),(by show(-9223372036854775808:Int)≤(w:Int);omega),(by show(w:Int)≤9223372036854775807;omega),(by show(0:Nat)≤1000000;omega),(by show(0:Nat)≤1000;omega)⟩
 | var n hn hl=>exact⟨(by show(2:Nat)≤255;omega),(by show(0:Nat)≤255;omega),(by show 0≤4294967295;omega),(by show(-9223372036854775808:Int)≤0;omega),(by show(0:Int)≤9223372036854775807;omega),(by show n.length≤1000000;omega),(by show(0:Nat)≤1000;omega)⟩
 | elem n y hn hl hy=>exact⟨(by show(3:Nat)≤255;omega),(by show(0:Nat)≤255;omega),(by show 0≤4294967295;omega),(by show(-9223372036854775808:Int)≤0;omega),(by show(0:Int)≤9223372036854775807;omega),(by show n.length≤1000000;omega),(by show(1:Nat)≤1000;omega)⟩
 | disk y hy=>exact⟨(by show(4:Nat)≤255;omega),(by show(0:Nat)≤255;omega),(by show 0≤4294967295;omega),(by show(-9223372036854775808:Int)≤0;omega),(by show(0:Int)≤9223372036854775807;omega),(by show 0≤1000000;omega),(by show(1:Nat)≤1000;omega)⟩
 | un o y h1 h2 hy=>exact⟨(by show(5:Nat)≤255;omega),(by show o≤255;omega),(by show 0≤4294967295;omega),(by show(-9223372036854775808:Int)≤0;omega),(by show(0:Int)≤9223372036854775807;omega),(by show 0≤1000000;omega),(by show(1:Nat)≤1000;omega)⟩
 | bin o x y h1 h2 hx hy=>exact⟨(by show(6:Nat)≤255;omega),(by show o≤255;omega),(by show 0≤4294967295;omega),(by show(-9223372036854775808:Int)≤0;omega),(by show(0:Int)≤9223372036854775807;omega),(by show 0≤1000000;omega),(by show(2:Nat)≤1000;omega)⟩
 | mux x y z hx hy hz=>exact⟨(by show(7:Nat)≤255;omega),(by show 0≤255;omega),(by show 0≤4294967295;omega),(by show(-9223372036854775808:Int)≤0;omega),(by show(0:Int)≤9223372036854775807;omega),(by show 0≤1000000;omega),(by show(3:Nat)≤1000;omega)⟩
 | cast w y hw hy=>exact⟨(by show(8:Nat)≤255;omega),(by show 0≤255;omega),(by show 0≤4294967295;omega),(by show(-9223372036854775808:Int)≤(w:Int);omega),(by show(w:Int)≤9223372036854775807;omega),(by show 0≤1000000;omega),(by show(1:Nat)≤1000;omega)⟩
def szd:Nat→Nat
 | 0=>1
 | d+1=>1+3*szd d
theorem jG9 (d:Nat):1≤szd d:=by cases d <;> simp [szd] <;> omega
section
variable {s h:Nat} {x y z:Ex}
theorem MdX.up {s' h':Nat} (hx:MdX s h x) (h1:s≤s') (h2:h≤h'):MdX s' h' x:=⟨hx.sh,by have:=hx.sz;omega,by have:=hx.ht;omega⟩
theorem MdX.one {k:Nat} {n:List UInt8} {v w:Nat} {o:Nat} (hx:MdX s h x) (hsh:ShX (.mk k o v w n [x])):MdX (1+3*s) (h+1) (.mk k o v w n [x]):=⟨hsh,by have:=hx.sz;simp only [szX,kC];omega,by have:=hx.ht;simp only [htX,vJ];omega⟩
theorem MdX.two {o:Nat} (hx:MdX s h x) (hy:MdX s h y) (h1:3≤o) (h2:o≤16):MdX (1+3*s) (h+1) (.mk 6 o 0 0 [] [x,y]):=⟨.bin o x y h1 h2 hx.sh hy.sh,by have:=hx.sz;have:=hy.sz;simp only [szX,kC];omega,by have:=hx.ht;have:=hy.ht;simp only [htX,vJ];omega⟩
theorem MdX.three (hx:MdX s h x) (hy:MdX s h y) (hz:MdX s h z):MdX (1+3*s) (h+1) (.mk 7 0 0 0 [] [x,y,z]):=⟨.mux x y z hx.sh hy.sh hz.sh,by have:=hx.sz;have:=hy.sz;have:=hz.sz;simp only [szX,kC];omega,by have:=hx.ht;have:=hy.ht;have:=hz.ht;simp only [htX,vJ];omega⟩
end
theorem zF6 {P:Nat→Prop} {W:World} {x:Ex} {A:Option Addr} {c:Nat} (L:List (Ex×SV)) (ok:zX3 x) (hx:x.subs=L.map fun q=>q.1) (hrd:RdT W A 31 (L.flatMap fun q=>qX q.1 q.2)) (hA:∀ b off,A=some ⟨b,off,none⟩→P b) (hL:∀ q∈L,TX P W q.1 q.2):TX P W x ⟨A,L.length,c⟩:=by
 have hz:∀ L:List (Ex×SV),((L.map fun q=>q.1).zip (L.map fun q=>q.2)).flatMap (fun p=>qX p.1 p.2)=L.flatMap fun q=>qX q.1 q.2:=fun L=>by
  induction L with
  | nil=>rfl
  | cons x P ih=>rw [lY,lY,List.zip_cons_cons,lQ,lQ,ih]
 refine .mk x _ (L.map fun q=>q.2) ok (by rw [hx,lW,lW]) (by rw [hx,lW]) hA ?_ ?_
 ·rw [hx,hz];exact hrd
 ·intro i y v hy hv;rw [hx,cS]at hy;rw [cS]at hv;cases hq:L[i]? with
  | none=>rw [hq]at hy;cases hy
  | some q =>
    rw [hq]at hy hv;injection hy with hy;injection hv with hv;subst hy hv;exact hL q (cD hq)
theorem biM (B:Nat) (o:Nat) (x y:Ex) (S V:SV) (ho:ShX (.mk 6 o 0 0 [] [x,y])) (w:World) (hB:B≤w.heap.size) (h0:Ud (TX (fun b=>B≤b) w x S)) (h1:Ud (TX (fun b=>B≤b) w y V)):Calls prog 78 #[uB o,.agg (uE x S),.agg (uE y V)] w fun e w'=>∃ U:SV,e=.returned (.agg #[uB 6,uB o,uW 0,uI 0,uT,.slice U.A U.n U.c])∧TX (fun b=>B≤b) w' (.mk 6 o 0 0 [] [x,y]) U∧Below w.heap.size w w':=by
 have hb:Ue w ((((w.alloc (.cells (uE x S) 31)).alloc (.cells (uE y V) 31)).alloc (.cells #[uB 6,uB o,uW 0,uI 0,uT,.slice (some ⟨w.heap.size+1+1+1,0,none⟩) 2 2] 31)).alloc (.cells #[uB x.kind,uB x.op,uW x.value,uI x.width,uR x.name,.slice S.A S.n S.c,uB y.kind,uB y.op,uW y.value,uI y.width,uR y.name,.slice V.A V.n V.c] 31)):=zG (zG (zG (zG (lB _ _) _) _) _) _;have h1':=(Bk.new ((w.alloc (.cells (uE x S) 31)).alloc (.cells (uE y V) 31)) 31 #[uB 6,uB o,uW 0,uI 0,uT,.slice (some ⟨w.heap.size+1+1+1,0,none⟩) 2 2]).alloc (.cells #[uB x.kind,uB x.op,uW x.value,uI x.width,uR x.name,.slice S.A S.n S.c,uB y.kind,uB y.op,uW y.value,uI y.width,uR y.name,.slice V.A V.n V.c] 31);have h2:=RdT.new (((w.alloc (.cells (uE x S) 31)).alloc (.cells (uE y V) 31)).alloc (.cells #[uB 6,uB o,uW 0,uI 0,uT,.slice (some ⟨w.heap.size+1+1+1,0,none⟩) 2 2] 31)) #[uB x.kind,uB x.op,uW x.value,uI x.width,uR x.name,.slice S.A S.n S.c,uB y.kind,uB y.op,uW y.value,uI y.width,uR y.name,.slice V.A V.n V.c] 31;simp only [lO]at h1' h2;have HB:=Ph hb;have H2:=Ph h2;obtain⟨r0,r1,r2,r3,r4,r5⟩:=zH h1';clear h1' h2 hb;go_enter func78,ntmps78
 go_wp2_with fail
 refine lK (v:=.agg #[uB 6,uB o,uW 0,uI 0,uT,.slice (some ⟨w.heap.size+1+1+1,0,none⟩) 2 2]) (by simp [results,results78,go_sem,r0,r1,r2,r3,r4,r5]) rfl ?_;refine⟨⟨some ⟨w.heap.size+1+1+1,0,none⟩,2,2⟩,rfl,zF6 [(x,S),(y,V)] ho.exOk rfl H2.o (fun b off e=>?_) (fun q hq=>?_),HB.o⟩
 ·injection e with e;injection e with e;omega
 ·simp only [lU,lT,or_false]at hq;rcases hq with rfl | rfl
  ·exact h0.o.bel HB.o
  ·exact h1.o.bel HB.o
structure Xp (w:World) (m:Nat) (D:MD) (b4 b6 b7 r wh dp:Nat) (W:World):Prop where
 q:MQ w m D W
 h4:Bk W b4 82 #[uQ m 0]
 h6:Bk W b6 3 #[uI wh]
 h7:Bk W b7 3 #[uI dp]
 hr:Bk W r 31 uZ
 l4:w.heap.size≤b4
 l6:w.heap.size≤b6
 l7:w.heap.size≤b7
 lr:w.heap.size≤r
section
variable {w W W':World} {m b4 b6 b7 r wh dp:Nat} {D:MD}
theorem Xp.below (h0:Mk w m D) (h:Xp w m D b4 b6 b7 r wh dp W) (hb:Below W.heap.size W W'):Xp w m D b4 b6 b7 r wh dp W' :=
 ⟨h.q.then h0 hb,zD h.h4 hb,zD h.h6 hb,zD h.h7 hb,zD h.hr hb,h.l4,h.l6,h.l7,h.lr⟩
theorem Xp.to (h0:Mk w m D) (h:Xp w m D b4 b6 b7 r wh dp W) (hq:MQ W m D W'):Xp w m D b4 b6 b7 r wh dp W':=by have hm:=h0.lt;have l4:=h.l4;have l6:=h.l6;have l7:=h.l7;have lr:=h.lr;exact⟨h.q.trans hq,hq.bk h.q.k h.h4 Yo,hq.bk h.q.k h.h6 Yo,hq.bk h.q.k h.h7 Yo,hq.bk h.q.k h.hr Yo,l4,l6,l7,lr⟩
end
def jH1 (d:Nat):Prop:=∀ (dp:Nat) (_:dp=d) (m:Nat) (D:MD) (k wh:Nat) (_:1≤k) (_:k≤3) (_:wh≤2) (_:1≤D.W) (w:World) (_:Ud (Mk w m D)),Calls prog 38 #[uQ m 0,uI k,uI wh,uI dp] w fun e w'=>∃ (x:Ex) (S:SV),e=.returned (.agg (uE x S))∧MdX (szd dp) (dp+1) x∧TX (fun b=>w.heap.size≤b) w' x S∧MQ w m D w'
theorem qX6 {d dp:Nat} (IH:jH1 d) (hdp:dp=d+1) (hd9:d≤9) (w:World) (m:Nat) (D:MD) (b4 b6 b7 r wh k:Nat) (hk1:1≤k) (hk3:k≤3) (hwh:wh≤2) (hW1:1≤D.W) (h0:Ud (Mk w m D)) (W:World) (h:Ud (Xp w m D b4 b6 b7 r wh dp W)):Calls prog 77 #[uI k,uQ b4 0,uQ b6 0,uQ b7 0] W fun e w'=>∃ (x:Ex) (S:SV),e=.returned (.agg (uE x S))∧MdX (szd d) (d+1) x∧TX (fun b=>r+1≤b) w' x S∧Ud (Xp w m D b4 b6 b7 r wh dp w')∧Ud (∀ P x S,TX P W x S→TX P w' x S):=by
 have hq0:MQ W m D (W.alloc (.cells uZ 31)):=(MQ.refl h.o.q.k).then h.o.q.k zB;have HX0:=Ph (h.o.below h0.o (zB (o:=.cells uZ 31)));have hR0:=Bk.new W 31 uZ;have HQ0:=Ph hq0;have HR0:=Ph hR0;have hrW:r+1≤W.heap.size:=h.o.hr.lt;have hmW:m<W.heap.size:=h.o.q.k.lt;clear hq0 hR0;have wd:IntKind.i64.wrap ((dp:Int)-1)=(d:Int):=by rw [lL];omega
 go_enter func77,ntmps77
 go_upto_region 1 with fail
 obtain⟨a,ha⟩:∃ a,W.heap.size=a:=⟨_,rfl⟩;have hs:(W.alloc (.cells uZ 31)).heap.size=a+1:=by rw [lO,ha]
 have HSZ:=Ph hs;generalize (W.alloc _)=W1 at *;rw [ha]at HR0 ⊢;have hna:a≠m:=Yo;have hra:r+1≤a:=Yo;have HWA:=Ph ha;clear ha hs hrW hmW;have x4:W1.cell? ⟨b4,0,none⟩=some (uQ m 0):=HX0.o.h4.cell 0;have x6:W1.cell? ⟨b6,0,none⟩=some (uI wh):=HX0.o.h6.cell 0;have x7:W1.cell? ⟨b7,0,none⟩=some (uI dp):=HX0.o.h7.cell 0;go_wp2_with fail
 refine(IH d rfl m D k wh hk1 hk3 hwh hW1 W1 (Ph HX0.o.q.k)).mono ?_;rintro e w2 ⟨x,S,rfl,hmd,ht,hq⟩;have HMD:=Ph hmd;have hr2:=hq.bk HX0.o.q.k HR0.o hna;have HR2:=Ph hr2;have HT:=Ph (ht.mono (P':=fun b=>a+1≤b) fun b _ hb=>by have:=HSZ.o;omega);have HQ:=Ph (HQ0.o.trans hq);clear hmd hr2 ht hq x4 x6 x7;obtain⟨f0,f1,f2,f3,f4,f5,_⟩:=zZ HR2.o;obtain⟨g0,g1,g2,g3,g4,g5⟩:=zH HR2.o;have HF:=Ph (fr6 w2 a (uB x.kind) (uB x.op) (uW x.value) (uI x.width) (uR x.name) (.slice S.A S.n S.c));have HK:=Ph (put6 (v0:=uB x.kind) (v1:=uB x.op) (v2:=uW x.value) (v3:=uI x.width) (v4:=uR x.name) (v5:=.slice S.A S.n S.c) HR2.o);go_wp2_with fail
 generalize (World.setCell _ _ _)=WF at HF HK ⊢;obtain⟨r0,r1,r2,r3,r4,r5⟩:=zH HK.o;refine lK (v:=.agg (uE x S)) (by simp [results,results77,go_sem,r0,r1,r2,r3,r4,r5]) rfl ?_;have HQF:MQ W m D WF:=HQ.o.box h.o.q.k HF.o (by have:=HWA.o;omega);refine⟨x,S,rfl,HMD.o,?_,Ph (h.o.to h0.o HQF),Ph fun P y V hy=>hy.stay (HQF.staysP h.o.q.k)⟩;exact(HT.o.stay (Stays.fr HF.o fun k _ hk e=>Yo)).mono fun k _ hk=>Yo
theorem kJ2:NameOk [97]:=⟨⟨97,[],rfl,Yd,Ym⟩,Yd⟩
theorem opw (a u:Nat) (_:a≤100) (_:u≤100):IntKind.u8.wrap ((a:Int)+(u:Int))=((a+u:Nat):Int):=by rw [IntKind.wrap_u8];omega
theorem wA (m:Nat) (D:MD) (k wh:Nat) (hk1:1≤k) (hk3:k≤3) (hwh:wh≤2) (hW1:1≤D.W) (w:World) (h:Ud (Mk w m D)):Calls prog 76 #[uQ m 0,uI k,uI wh] w fun e w'=>∃ (x:Ex) (S:SV),e=.returned (.agg (uE x S))∧MdX 1 1 x∧TX (fun b=>w.heap.size≤b) w' x S∧MQ w m D w':=(kO2 m D k wh hk1 hk3 hwh hW1 w h).mono fun e w'=>fun⟨x,S,h1,h2⟩=>⟨x,S,h1,h2⟩
theorem kO3:jH1 0:=by
 intro dp hdp m D k wh hk1 hk3 hwh hW1 w h;have HS1:Ud (1≤szd dp):=Ph (jG9 dp);have hX0:Xp w m D w.heap.size (w.heap.size+1) (w.heap.size+1+1) (w.heap.size+1+1+1) wh dp ((((w.alloc (.cells #[uQ m 0] 82)).alloc (.cells #[uI wh] 3)).alloc (.cells #[uI dp] 3)).alloc (.cells uZ 31)):=by have hB:Ue w ((((w.alloc (.cells #[uQ m 0] 82)).alloc (.cells #[uI wh] 3)).alloc (.cells #[uI dp] 3)).alloc (.cells uZ 31)):=zG (zG (zG (zG (lB _ _) _) _) _) _;have g4:=(((Bk.new w 82 #[uQ m 0]).alloc (.cells #[uI wh] 3)).alloc (.cells #[uI dp] 3)).alloc (.cells uZ 31);have g6:=((Bk.new (w.alloc (.cells #[uQ m 0] 82)) 3 #[uI wh]).alloc (.cells #[uI dp] 3)).alloc (.cells uZ 31);have g7:=(Bk.new ((w.alloc (.cells #[uQ m 0] 82)).alloc (.cells #[uI wh] 3)) 3 #[uI dp]).alloc (.cells uZ 31);have g8:=Bk.new (((w.alloc (.cells #[uQ m 0] 82)).alloc (.cells #[uI wh] 3)).alloc (.cells #[uI dp] 3)) 31 uZ;simp only [lO]at g6 g7 g8;exact⟨(MQ.refl h.o).then h.o hB,g4,g6,g7,g8,lF _,Yo,Yo,Yo⟩
 have X0:=Ph hX0;clear hX0;have edp:((dp:Int) == 0)=true:=Yp;have HDP:=Ph hdp;clear hdp;go_enter func38,ntmps38
 go_upto_region 1 with fail
 generalize ((World.alloc _ _))=W0 at X0 ⊢;obtain⟨b4,h4⟩:∃ b,w.heap.size=b:=⟨_,rfl⟩;obtain⟨b6,h6⟩:∃ b,w.heap.size+1=b:=⟨_,rfl⟩;obtain⟨b7,h7⟩:∃ b,w.heap.size+1+1=b:=⟨_,rfl⟩;obtain⟨r,hr⟩:∃ b,w.heap.size+1+1+1=b:=⟨_,rfl⟩;rw [hr,h7,h6,h4]at X0 ⊢;have hw4:Ud (w.heap.size=b4):=Ph h4;clear hr h7 h6 h4;have x4:W0.cell? ⟨b4,0,none⟩=some (uQ m 0):=X0.o.h4.cell 0;have x6:W0.cell? ⟨b6,0,none⟩=some (uI wh):=X0.o.h6.cell 0;have x7:W0.cell? ⟨b7,0,none⟩=some (uI dp):=X0.o.h7.cell 0;go_wp2_with fail
 refine(wA m D k wh hk1 hk3 hwh hW1 _ (Ph X0.o.q.k)).mono ?_;rintro e w9 ⟨x,S,rfl,hmd,ht,hq⟩;have X9:=Ph (X0.o.to h.o hq);have HMD:=Ph hmd;have HT:=Ph (ht.mono (P':=fun b=>r+1≤b) fun b _ hb=>by have:=X0.o.hr.lt;omega);clear hmd ht hq x4 x6 x7;obtain⟨f0,f1,f2,f3,f4,f5,_⟩:=zZ X9.o.hr;obtain⟨g0,g1,g2,g3,g4,g5⟩:=zH X9.o.hr;have HF:=Ph (fr6 w9 r (uB x.kind) (uB x.op) (uW x.value) (uI x.width) (uR x.name) (.slice S.A S.n S.c));have HK:=Ph (put6 (v0:=uB x.kind) (v1:=uB x.op) (v2:=uW x.value) (v3:=uI x.width) (v4:=uR x.name) (v5:=.slice S.A S.n S.c) X9.o.hr);go_wp2_with fail
 generalize (World.setCell _ _ _)=WF at HF HK ⊢;obtain⟨r0,r1,r2,r3,r4,r5⟩:=zH HK.o;refine lK (v:=.agg (uE x S)) (by simp [results,results38,go_sem,r0,r1,r2,r3,r4,r5]) rfl ?_;exact⟨x,S,rfl,HMD.o.up HS1.o Yo,(HT.o.stay (Stays.fr HF.o fun k _ hk e=>Yo)).mono (fun k _ hk=>by have:=X9.o.lr;omega),X9.o.q.box h.o HF.o X9.o.lr⟩
theorem kO4 (d:Nat) (hd9:d≤9) (IH:jH1 d):jH1 (d+1):=by
 intro dp hdp m D k wh hk1 hk3 hwh hW1 w h;have HS1:Ud (1≤szd dp):=Ph (jG9 dp);have HSD:Ud (szd dp=1+3*szd d):=Ph (by rw [hdp];rfl);have hX0:Xp w m D w.heap.size (w.heap.size+1) (w.heap.size+1+1) (w.heap.size+1+1+1) wh dp ((((w.alloc (.cells #[uQ m 0] 82)).alloc (.cells #[uI wh] 3)).alloc (.cells #[uI dp] 3)).alloc (.cells uZ 31)):=by have hB:Ue w ((((w.alloc (.cells #[uQ m 0] 82)).alloc (.cells #[uI wh] 3)).alloc (.cells #[uI dp] 3)).alloc (.cells uZ 31)):=zG (zG (zG (zG (lB _ _) _) _) _) _;have g4:=(((Bk.new w 82 #[uQ m 0]).alloc (.cells #[uI wh] 3)).alloc (.cells #[uI dp] 3)).alloc (.cells uZ 31);have g6:=((Bk.new (w.alloc (.cells #[uQ m 0] 82)) 3 #[uI wh]).alloc (.cells #[uI dp] 3)).alloc (.cells uZ 31);have g7:=(Bk.new ((w.alloc (.cells #[uQ m 0] 82)).alloc (.cells #[uI wh] 3)) 3 #[uI dp]).alloc (.cells uZ 31);have g8:=Bk.new (((w.alloc (.cells #[uQ m 0] 82)).alloc (.cells #[uI wh] 3)).alloc (.cells #[uI dp] 3)) 31 uZ;simp only [lO]at g6 g7 g8;exact⟨(MQ.refl h.o).then h.o hB,g4,g6,g7,g8,lF _,Yo,Yo,Yo⟩
 have X0:=Ph hX0;clear hX0;have edp:((dp:Int) == 0)=false:=Yp;have HDP:=Ph hdp;clear hdp;go_enter func38,ntmps38
 go_upto_region 1 with fail
 generalize ((World.alloc _ _))=W0 at X0 ⊢;obtain⟨b4,h4⟩:∃ b,w.heap.size=b:=⟨_,rfl⟩;obtain⟨b6,h6⟩:∃ b,w.heap.size+1=b:=⟨_,rfl⟩;obtain⟨b7,h7⟩:∃ b,w.heap.size+1+1=b:=⟨_,rfl⟩;obtain⟨r,hr⟩:∃ b,w.heap.size+1+1+1=b:=⟨_,rfl⟩;rw [hr,h7,h6,h4]at X0 ⊢;have hw4:Ud (w.heap.size=b4):=Ph h4;clear hr h7 h6 h4;have x4:W0.cell? ⟨b4,0,none⟩=some (uQ m 0):=X0.o.h4.cell 0;have x6:W0.cell? ⟨b6,0,none⟩=some (uI wh):=X0.o.h6.cell 0;have x7:W0.cell? ⟨b7,0,none⟩=some (uI dp):=X0.o.h7.cell 0;go_wp2_with fail
 refine(vR m D 9 Yo Yo _ (Ph X0.o.q.k)).mono ?_;rintro e w1 ⟨v,hv,rfl,hq⟩;have X1:=Ph (X0.o.to h.o hq);clear hq x4 x6 x7;clear X0;clear edp;rcases Nat.lt_or_ge v 3 with hv3 | hv3
 ·have e1:decide ((v:Int)<3)=true:=by simp;omega
  have x4:w1.cell? ⟨b4,0,none⟩=some (uQ m 0):=X1.o.h4.cell 0;have x6:w1.cell? ⟨b6,0,none⟩=some (uI wh):=X1.o.h6.cell 0;have x7:w1.cell? ⟨b7,0,none⟩=some (uI dp):=X1.o.h7.cell 0;go_wp2_with fail
  refine(wA m D k wh hk1 hk3 hwh hW1 _ (Ph X1.o.q.k)).mono ?_;rintro e w9 ⟨x,S,rfl,hmd,ht,hq⟩;have X9:=Ph (X1.o.to h.o hq);have HMD:=Ph hmd;have HT:=Ph (ht.mono (P':=fun b=>r+1≤b) fun b _ hb=>by have:=X1.o.hr.lt;omega);clear hmd ht hq x4 x6 x7;obtain⟨f0,f1,f2,f3,f4,f5,_⟩:=zZ X9.o.hr;obtain⟨g0,g1,g2,g3,g4,g5⟩:=zH X9.o.hr;have HF:=Ph (fr6 w9 r (uB x.kind) (uB x.op) (uW x.value) (uI x.width) (uR x.name) (.slice S.A S.n S.c));have HK:=Ph (put6 (v0:=uB x.kind) (v1:=uB x.op) (v2:=uW x.value) (v3:=uI x.width) (v4:=uR x.name) (v5:=.slice S.A S.n S.c) X9.o.hr);go_wp2_with fail
  generalize (World.setCell _ _ _)=WF at HF HK ⊢;obtain⟨r0,r1,r2,r3,r4,r5⟩:=zH HK.o;refine lK (v:=.agg (uE x S)) (by simp [results,results38,go_sem,r0,r1,r2,r3,r4,r5]) rfl ?_;exact⟨x,S,rfl,HMD.o.up HS1.o Yo,(HT.o.stay (Stays.fr HF.o fun k _ hk e=>Yo)).mono (fun k _ hk=>by have:=X9.o.lr;omega),X9.o.q.box h.o HF.o X9.o.lr⟩
 obtain rfl | rfl | rfl | rfl | rfl | rfl:v=3∨v=4∨v=5∨v=6∨v=7∨v=8:=Yo
 ·by_cases hk:k=1
  ·subst hk;have x4:w1.cell? ⟨b4,0,none⟩=some (uQ m 0):=X1.o.h4.cell 0;have x6:w1.cell? ⟨b6,0,none⟩=some (uI wh):=X1.o.h6.cell 0;have x7:w1.cell? ⟨b7,0,none⟩=some (uI dp):=X1.o.h7.cell 0;go_wp2_with fail
   refine(vR m D 3 Yo Yo _ (Ph X1.o.q.k)).mono ?_;rintro e w2 ⟨u,hu,rfl,hq⟩;have X2:=Ph (X1.o.to h.o hq);clear hq x4 x6 x7;obtain⟨k2,hke⟩:∃ k2:Nat,k2=1+u:=⟨_,rfl⟩;have hk21:1≤k2:=Yo;have hk23:k2≤3:=Yo;have hkk:IntKind.i64.wrap (1+(u:Int))=(k2:Int):=by rw [lL];omega
   clear hke;clear X1;have x4:w2.cell? ⟨b4,0,none⟩=some (uQ m 0):=X2.o.h4.cell 0;have x6:w2.cell? ⟨b6,0,none⟩=some (uI wh):=X2.o.h6.cell 0;have x7:w2.cell? ⟨b7,0,none⟩=some (uI dp):=X2.o.h7.cell 0;go_wp2_with fail
   refine(vR m D 4 Yo Yo _ (Ph X2.o.q.k)).mono ?_;rintro e w3 ⟨u2,hu2,rfl,hq⟩;have X3:=Ph (X2.o.to h.o hq);clear hq x4 x6 x7;obtain⟨o,hoe⟩:∃ o:Nat,o=13+u2:=⟨_,rfl⟩;have ho3:3≤o:=Yo;have ho16:o≤16:=Yo;have ho2:13+(u2:Int)=(o:Int):=Yo;clear hoe;clear X2;have x4:w3.cell? ⟨b4,0,none⟩=some (uQ m 0):=X3.o.h4.cell 0;have x6:w3.cell? ⟨b6,0,none⟩=some (uI wh):=X3.o.h6.cell 0;have x7:w3.cell? ⟨b7,0,none⟩=some (uI dp):=X3.o.h7.cell 0;go_wp2_with fail
   refine(qX6 IH HDP.o hd9 w m D b4 b6 b7 r wh k2 hk21 hk23 hwh hW1 h _ X3).mono ?_;rintro e wa ⟨y0,S0,rfl,hmd0,ht0,Xa,hk0⟩;have HMD0:=Ph hmd0;have HT0:=Ph ht0;clear hmd0 ht0 hk0 x4 x6 x7;go_wp2_with fail
   refine(qX6 IH HDP.o hd9 w m D b4 b6 b7 r wh k2 hk21 hk23 hwh hW1 h _ Xa).mono ?_;rintro e wb ⟨y1,S1,rfl,hmd1,ht1,Xb,hk1⟩;have HMD1:=Ph hmd1;have HT1:=Ph ht1;have HN:=Ph (hk1.o _ _ _ HT0.o);clear HT0;have HT0:=HN;clear HN;clear hmd1 ht1 hk1;go_wp2_with fail
   skip
   refine(biM (r+1) o y0 y1 S0 S1 (.bin o y0 y1 ho3 ho16 HMD0.o.sh HMD1.o.sh) wb Xb.o.hr.lt HT0 HT1).mono ?_;rintro e wc ⟨U,rfl,ht,hb⟩;have Xc:=Ph (Xb.o.below h.o hb);have HT:=Ph ht;clear ht hb;obtain⟨f0,f1,f2,f3,f4,f5,_⟩:=zZ Xc.o.hr;obtain⟨g0,g1,g2,g3,g4,g5⟩:=zH Xc.o.hr;have HF:=Ph (fr6 wc r (uB 6) (uB o) (uW 0) (uI 0) (uT) (.slice U.A U.n U.c));have HK:=Ph (put6 (v0:=uB 6) (v1:=uB o) (v2:=uW 0) (v3:=uI 0) (v4:=uT) (v5:=.slice U.A U.n U.c) Xc.o.hr);go_wp2_with fail
   generalize (World.setCell _ _ _)=WF at HF HK ⊢;obtain⟨r0,r1,r2,r3,r4,r5⟩:=zH HK.o;refine lK (v:=.agg #[uB 6,uB o,uW 0,uI 0,uT,.slice U.A U.n U.c]) (by simp [results,results38,go_sem,r0,r1,r2,r3,r4,r5]) rfl ?_;exact⟨.mk 6 o 0 0 [] [y0,y1],U,rfl,(by rw [HSD.o,HDP.o];exact HMD0.o.two HMD1.o ho3 ho16),(HT.o.stay (Stays.fr HF.o fun k _ hk e=>Yo)).mono (fun k _ hk=>by have:=Xc.o.lr;omega),Xc.o.q.box h.o HF.o Xc.o.lr⟩
  ·have ek:((k:Int) == 1)=false:=by simp;omega
   have x4:w1.cell? ⟨b4,0,none⟩=some (uQ m 0):=X1.o.h4.cell 0;have x6:w1.cell? ⟨b6,0,none⟩=some (uI wh):=X1.o.h6.cell 0;have x7:w1.cell? ⟨b7,0,none⟩=some (uI dp):=X1.o.h7.cell 0;go_wp2_with fail
   refine(vR m D 10 Yo Yo _ (Ph X1.o.q.k)).mono ?_;rintro e w2 ⟨u,hu,rfl,hq⟩;have X2:=Ph (X1.o.to h.o hq);clear hq x4 x6 x7;obtain⟨o,hoe⟩:∃ o:Nat,o=3+u:=⟨_,rfl⟩;have ho3:3≤o:=Yo;have ho16:o≤16:=Yo;have hoo:IntKind.u8.wrap (3+(u:Int))=(o:Int):=by rw [hoe];exact opw 3 u Yo Yo
   have ho2:(3+(u:Int)) % 256=(o:Int):=Yo;clear hoe;clear X1;have x4:w2.cell? ⟨b4,0,none⟩=some (uQ m 0):=X2.o.h4.cell 0;have x6:w2.cell? ⟨b6,0,none⟩=some (uI wh):=X2.o.h6.cell 0;have x7:w2.cell? ⟨b7,0,none⟩=some (uI dp):=X2.o.h7.cell 0;go_wp2_with fail
   refine(qX6 IH HDP.o hd9 w m D b4 b6 b7 r wh k hk1 hk3 hwh hW1 h _ X2).mono ?_;rintro e wa ⟨y0,S0,rfl,hmd0,ht0,Xa,hk0⟩;have HMD0:=Ph hmd0;have HT0:=Ph ht0;clear hmd0 ht0 hk0 x4 x6 x7;go_wp2_with fail
   refine(qX6 IH HDP.o hd9 w m D b4 b6 b7 r wh k hk1 hk3 hwh hW1 h _ Xa).mono ?_;rintro e wb ⟨y1,S1,rfl,hmd1,ht1,Xb,hk1⟩;have HMD1:=Ph hmd1;have HT1:=Ph ht1;have HN:=Ph (hk1.o _ _ _ HT0.o);clear HT0;have HT0:=HN;clear HN;clear hmd1 ht1 hk1;go_wp2_with fail
   skip
   refine(biM (r+1) o y0 y1 S0 S1 (.bin o y0 y1 ho3 ho16 HMD0.o.sh HMD1.o.sh) wb Xb.o.hr.lt HT0 HT1).mono ?_;rintro e wc ⟨U,rfl,ht,hb⟩;have Xc:=Ph (Xb.o.below h.o hb);have HT:=Ph ht;clear ht hb;obtain⟨f0,f1,f2,f3,f4,f5,_⟩:=zZ Xc.o.hr;obtain⟨g0,g1,g2,g3,g4,g5⟩:=zH Xc.o.hr;have HF:=Ph (fr6 wc r (uB 6) (uB o) (uW 0) (uI 0) (uT) (.slice U.A U.n U.c));have HK:=Ph (put6 (v0:=uB 6) (v1:=uB o) (v2:=uW 0) (v3:=uI 0) (v4:=uT) (v5:=.slice U.A U.n U.c) Xc.o.hr);go_wp2_with fail
   generalize (World.setCell _ _ _)=WF at HF HK ⊢;obtain⟨r0,r1,r2,r3,r4,r5⟩:=zH HK.o;refine lK (v:=.agg #[uB 6,uB o,uW 0,uI 0,uT,.slice U.A U.n U.c]) (by simp [results,results38,go_sem,r0,r1,r2,r3,r4,r5]) rfl ?_;exact⟨.mk 6 o 0 0 [] [y0,y1],U,rfl,(by rw [HSD.o,HDP.o];exact HMD0.o.two HMD1.o ho3 ho16),(HT.o.stay (Stays.fr HF.o fun k _ hk e=>Yo)).mono (fun k _ hk=>by have:=Xc.o.lr;omega),Xc.o.q.box h.o HF.o Xc.o.lr⟩
 ·skip
  have x4:w1.cell? ⟨b4,0,none⟩=some (uQ m 0):=X1.o.h4.cell 0;have x6:w1.cell? ⟨b6,0,none⟩=some (uI wh):=X1.o.h6.cell 0;have x7:w1.cell? ⟨b7,0,none⟩=some (uI dp):=X1.o.h7.cell 0;go_wp2_with fail
  refine(vR m D 10 Yo Yo _ (Ph X1.o.q.k)).mono ?_;rintro e w2 ⟨u,hu,rfl,hq⟩;have X2:=Ph (X1.o.to h.o hq);clear hq x4 x6 x7;obtain⟨o,hoe⟩:∃ o:Nat,o=3+u:=⟨_,rfl⟩;have ho3:3≤o:=Yo;have ho16:o≤16:=Yo;have hoo:IntKind.u8.wrap (3+(u:Int))=(o:Int):=by rw [hoe];exact opw 3 u Yo Yo
  have ho2:(3+(u:Int)) % 256=(o:Int):=Yo;clear hoe;clear X1;have x4:w2.cell? ⟨b4,0,none⟩=some (uQ m 0):=X2.o.h4.cell 0;have x6:w2.cell? ⟨b6,0,none⟩=some (uI wh):=X2.o.h6.cell 0;have x7:w2.cell? ⟨b7,0,none⟩=some (uI dp):=X2.o.h7.cell 0;go_wp2_with fail
  refine(qX6 IH HDP.o hd9 w m D b4 b6 b7 r wh k hk1 hk3 hwh hW1 h _ X2).mono ?_;rintro e wa ⟨y0,S0,rfl,hmd0,ht0,Xa,hk0⟩;have HMD0:=Ph hmd0;have HT0:=Ph ht0;clear hmd0 ht0 hk0 x4 x6 x7;go_wp2_with fail
  refine(qX6 IH HDP.o hd9 w m D b4 b6 b7 r wh k hk1 hk3 hwh hW1 h _ Xa).mono ?_;rintro e wb ⟨y1,S1,rfl,hmd1,ht1,Xb,hk1⟩;have HMD1:=Ph hmd1;have HT1:=Ph ht1;have HN:=Ph (hk1.o _ _ _ HT0.o);clear HT0;have HT0:=HN;clear HN;clear hmd1 ht1 hk1;go_wp2_with fail
  skip
  refine(biM (r+1) o y0 y1 S0 S1 (.bin o y0 y1 ho3 ho16 HMD0.o.sh HMD1.o.sh) wb Xb.o.hr.lt HT0 HT1).mono ?_;rintro e wc ⟨U,rfl,ht,hb⟩;have Xc:=Ph (Xb.o.below h.o hb);have HT:=Ph ht;clear ht hb;obtain⟨f0,f1,f2,f3,f4,f5,_⟩:=zZ Xc.o.hr;obtain⟨g0,g1,g2,g3,g4,g5⟩:=zH Xc.o.hr;have HF:=Ph (fr6 wc r (uB 6) (uB o) (uW 0) (uI 0) (uT) (.slice U.A U.n U.c));have HK:=Ph (put6 (v0:=uB 6) (v1:=uB o) (v2:=uW 0) (v3:=uI 0) (v4:=uT) (v5:=.slice U.A U.n U.c) Xc.o.hr);go_wp2_with fail
  generalize (World.setCell _ _ _)=WF at HF HK ⊢;obtain⟨r0,r1,r2,r3,r4,r5⟩:=zH HK.o;refine lK (v:=.agg #[uB 6,uB o,uW 0,uI 0,uT,.slice U.A U.n U.c]) (by simp [results,results38,go_sem,r0,r1,r2,r3,r4,r5]) rfl ?_;exact⟨.mk 6 o 0 0 [] [y0,y1],U,rfl,(by rw [HSD.o,HDP.o];exact HMD0.o.two HMD1.o ho3 ho16),(HT.o.stay (Stays.fr HF.o fun k _ hk e=>Yo)).mono (fun k _ hk=>by have:=Xc.o.lr;omega),Xc.o.q.box h.o HF.o Xc.o.lr⟩
 ·skip
  have x4:w1.cell? ⟨b4,0,none⟩=some (uQ m 0):=X1.o.h4.cell 0;have x6:w1.cell? ⟨b6,0,none⟩=some (uI wh):=X1.o.h6.cell 0;have x7:w1.cell? ⟨b7,0,none⟩=some (uI dp):=X1.o.h7.cell 0;go_wp2_with fail
  refine(qX6 IH HDP.o hd9 w m D b4 b6 b7 r wh 1 Yo Yo hwh hW1 h _ X1).mono ?_;rintro e wa ⟨y0,S0,rfl,hmd0,ht0,Xa,hk0⟩;have HMD0:=Ph hmd0;have HT0:=Ph ht0;clear hmd0 ht0 hk0 x4 x6 x7;go_wp2_with fail
  refine(qX6 IH HDP.o hd9 w m D b4 b6 b7 r wh k hk1 hk3 hwh hW1 h _ Xa).mono ?_;rintro e wb ⟨y1,S1,rfl,hmd1,ht1,Xb,hk1⟩;have HMD1:=Ph hmd1;have HT1:=Ph ht1;have HN:=Ph (hk1.o _ _ _ HT0.o);clear HT0;have HT0:=HN;clear HN;clear hmd1 ht1 hk1;go_wp2_with fail
  refine(qX6 IH HDP.o hd9 w m D b4 b6 b7 r wh k hk1 hk3 hwh hW1 h _ Xb).mono ?_;rintro e wd ⟨y2,S2,rfl,hmd2,ht2,Xd,hk2⟩;have HMD2:=Ph hmd2;have HT2:=Ph ht2;have HN:=Ph (hk2.o _ _ _ HT0.o);clear HT0;have HT0:=HN;clear HN;have HN:=Ph (hk2.o _ _ _ HT1.o);clear HT1;have HT1:=HN;clear HN;clear hmd2 ht2 hk2;have Xc:=Ph (Xd.o.below h.o (zB (o:=.cells #[uB y0.kind,uB y0.op,uW y0.value,uI y0.width,uR y0.name,.slice S0.A S0.n S0.c,uB y1.kind,uB y1.op,uW y1.value,uI y1.width,uR y1.name,.slice S1.A S1.n S1.c,uB y2.kind,uB y2.op,uW y2.value,uI y2.width,uR y2.name,.slice S2.A S2.n S2.c] 31)));have hrd:=RdT.new wd #[uB y0.kind,uB y0.op,uW y0.value,uI y0.width,uR y0.name,.slice S0.A S0.n S0.c,uB y1.kind,uB y1.op,uW y1.value,uI y1.width,uR y1.name,.slice S1.A S1.n S1.c,uB y2.kind,uB y2.op,uW y2.value,uI y2.width,uR y2.name,.slice S2.A S2.n S2.c] 31;have HMD:=Ph (show MdX (szd dp) (dp+1) (.mk 7 0 0 0 [] [y0,y1,y2]) from by rw [HSD.o,HDP.o];exact(HMD0.o.three HMD1.o HMD2.o));have HT:=Ph (zF6 (P:=fun b=>r+1≤b) (c:=3) (x:=.mk 7 0 0 0 [] [y0,y1,y2]) [(y0,S0),(y1,S1),(y2,S2)] HMD.o.sh.exOk rfl hrd (fun b off e=>by injection e with e;injection e with e;have:=Xd.o.hr.lt;omega) (fun q hq=>by
   simp only [lU,lT,or_false]at hq;rcases hq with rfl | rfl | rfl
   ·exact HT0.o.bel zB
   ·exact HT1.o.bel zB
   ·exact HT2.o.bel zB))
  clear hrd;obtain⟨f0,f1,f2,f3,f4,f5,_⟩:=zZ Xc.o.hr;obtain⟨g0,g1,g2,g3,g4,g5⟩:=zH Xc.o.hr;have HF:=Ph (fr6 (wd.alloc (.cells #[uB y0.kind,uB y0.op,uW y0.value,uI y0.width,uR y0.name,.slice S0.A S0.n S0.c,uB y1.kind,uB y1.op,uW y1.value,uI y1.width,uR y1.name,.slice S1.A S1.n S1.c,uB y2.kind,uB y2.op,uW y2.value,uI y2.width,uR y2.name,.slice S2.A S2.n S2.c] 31)) r (uB 7) (uB 0) (uW 0) (uI 0) (uT) (.slice (some ⟨wd.heap.size,0,none⟩) 3 3));have HK:=Ph (put6 (v0:=uB 7) (v1:=uB 0) (v2:=uW 0) (v3:=uI 0) (v4:=uT) (v5:=.slice (some ⟨wd.heap.size,0,none⟩) 3 3) Xc.o.hr);go_wp2_with fail
  generalize (World.setCell _ _ _)=WF at HF HK ⊢;obtain⟨r0,r1,r2,r3,r4,r5⟩:=zH HK.o;refine lK (v:=.agg #[uB 7,uB 0,uW 0,uI 0,uT,.slice (some ⟨wd.heap.size,0,none⟩) 3 3]) (by simp [results,results38,go_sem,r0,r1,r2,r3,r4,r5]) rfl ?_;exact⟨.mk 7 0 0 0 [] [y0,y1,y2],⟨some ⟨wd.heap.size,0,none⟩,3,3⟩,rfl,HMD.o,(HT.o.stay (Stays.fr HF.o fun k _ hk e=>Yo)).mono (fun k _ hk=>by have:=Xc.o.lr;omega),Xc.o.q.box h.o HF.o Xc.o.lr⟩
 ·skip
  have x4:w1.cell? ⟨b4,0,none⟩=some (uQ m 0):=X1.o.h4.cell 0;have x6:w1.cell? ⟨b6,0,none⟩=some (uI wh):=X1.o.h6.cell 0;have x7:w1.cell? ⟨b7,0,none⟩=some (uI dp):=X1.o.h7.cell 0;go_wp2_with fail
  refine(vR m D 2 Yo Yo _ (Ph X1.o.q.k)).mono ?_;rintro e w2 ⟨t,ht,rfl,hq⟩;have X2:=Ph (X1.o.to h.o hq);clear hq x4 x6 x7;clear X1;by_cases ht0:t=0
  ·subst ht0;have x4:w2.cell? ⟨b4,0,none⟩=some (uQ m 0):=X2.o.h4.cell 0;have x6:w2.cell? ⟨b6,0,none⟩=some (uI wh):=X2.o.h6.cell 0;have x7:w2.cell? ⟨b7,0,none⟩=some (uI dp):=X2.o.h7.cell 0;go_wp2_with fail
   refine(vR m D 2 Yo Yo _ (Ph X2.o.q.k)).mono ?_;rintro e w3 ⟨u,hu,rfl,hq⟩;have X3:=Ph (X2.o.to h.o hq);clear hq x4 x6 x7;obtain⟨o,hoe⟩:∃ o:Nat,o=1+u:=⟨_,rfl⟩;have ho1:1≤o:=Yo;have ho2':o≤2:=Yo;have ho2:1+(u:Int)=(o:Int):=Yo;clear hoe;clear X2;have x4:w3.cell? ⟨b4,0,none⟩=some (uQ m 0):=X3.o.h4.cell 0;have x6:w3.cell? ⟨b6,0,none⟩=some (uI wh):=X3.o.h6.cell 0;have x7:w3.cell? ⟨b7,0,none⟩=some (uI dp):=X3.o.h7.cell 0;go_wp2_with fail
   refine(qX6 IH HDP.o hd9 w m D b4 b6 b7 r wh k hk1 hk3 hwh hW1 h _ X3).mono ?_;rintro e wa ⟨y0,S0,rfl,hmd0,ht0,Xa,hk0⟩;have HMD0:=Ph hmd0;have HT0:=Ph ht0;clear hmd0 ht0 hk0 x4 x6 x7;have Xc:=Ph (Xa.o.below h.o (zB (o:=.cells (uE y0 S0) 31)));have hrd:=RdT.new wa (uE y0 S0) 31;have HMD:=Ph (show MdX (szd dp) (dp+1) (.mk 5 o 0 0 [] [y0]) from by rw [HSD.o,HDP.o];exact(HMD0.o.one (.un o y0 ho1 ho2' HMD0.o.sh)));have HT:=Ph (zF6 (P:=fun b=>r+1≤b) (c:=1) (x:=.mk 5 o 0 0 [] [y0]) [(y0,S0)] HMD.o.sh.exOk rfl hrd (fun b off e=>by injection e with e;injection e with e;have:=Xa.o.hr.lt;omega) (fun q hq=>by
    simp only [lU,lT,or_false]at hq;rcases hq with rfl
    ·exact HT0.o.bel zB))
   clear hrd;obtain⟨f0,f1,f2,f3,f4,f5,_⟩:=zZ Xc.o.hr;obtain⟨g0,g1,g2,g3,g4,g5⟩:=zH Xc.o.hr;have HF:=Ph (fr6 (wa.alloc (.cells (uE y0 S0) 31)) r (uB 5) (uB o) (uW 0) (uI 0) (uT) (.slice (some ⟨wa.heap.size,0,none⟩) 1 1));have HK:=Ph (put6 (v0:=uB 5) (v1:=uB o) (v2:=uW 0) (v3:=uI 0) (v4:=uT) (v5:=.slice (some ⟨wa.heap.size,0,none⟩) 1 1) Xc.o.hr);go_wp2_with fail
   generalize (World.setCell _ _ _)=WF at HF HK ⊢;obtain⟨r0,r1,r2,r3,r4,r5⟩:=zH HK.o;refine lK (v:=.agg #[uB 5,uB o,uW 0,uI 0,uT,.slice (some ⟨wa.heap.size,0,none⟩) 1 1]) (by simp [results,results38,go_sem,r0,r1,r2,r3,r4,r5]) rfl ?_;exact⟨.mk 5 o 0 0 [] [y0],⟨some ⟨wa.heap.size,0,none⟩,1,1⟩,rfl,HMD.o,(HT.o.stay (Stays.fr HF.o fun k _ hk e=>Yo)).mono (fun k _ hk=>by have:=Xc.o.lr;omega),Xc.o.q.box h.o HF.o Xc.o.lr⟩
  ·have et:((t:Int) == 0)=false:=by simp;omega
   have x4:w2.cell? ⟨b4,0,none⟩=some (uQ m 0):=X2.o.h4.cell 0;have x6:w2.cell? ⟨b6,0,none⟩=some (uI wh):=X2.o.h6.cell 0;have x7:w2.cell? ⟨b7,0,none⟩=some (uI dp):=X2.o.h7.cell 0;go_wp2_with fail
   refine(vR m D 3 Yo Yo _ (Ph X2.o.q.k)).mono ?_;rintro e w3 ⟨u,hu,rfl,hq⟩;have X3:=Ph (X2.o.to h.o hq);clear hq x4 x6 x7;obtain⟨k2,hke⟩:∃ k2:Nat,k2=1+u:=⟨_,rfl⟩;have hk21:1≤k2:=Yo;have hk23:k2≤3:=Yo;have hkk:IntKind.i64.wrap (1+(u:Int))=(k2:Int):=by rw [lL];omega
   clear hke;clear X2;have x4:w3.cell? ⟨b4,0,none⟩=some (uQ m 0):=X3.o.h4.cell 0;have x6:w3.cell? ⟨b6,0,none⟩=some (uI wh):=X3.o.h6.cell 0;have x7:w3.cell? ⟨b7,0,none⟩=some (uI dp):=X3.o.h7.cell 0;go_wp2_with fail
   refine(qX6 IH HDP.o hd9 w m D b4 b6 b7 r wh k2 hk21 hk23 hwh hW1 h _ X3).mono ?_;rintro e wa ⟨y0,S0,rfl,hmd0,ht0,Xa,hk0⟩;have HMD0:=Ph hmd0;have HT0:=Ph ht0;clear hmd0 ht0 hk0 x4 x6 x7;have Xc:=Ph (Xa.o.below h.o (zB (o:=.cells (uE y0 S0) 31)));have hrd:=RdT.new wa (uE y0 S0) 31;have HMD:=Ph (show MdX (szd dp) (dp+1) (.mk 8 0 0 k [] [y0]) from by rw [HSD.o,HDP.o];exact(HMD0.o.one (.cast k y0 Yo HMD0.o.sh)));have HT:=Ph (zF6 (P:=fun b=>r+1≤b) (c:=1) (x:=.mk 8 0 0 k [] [y0]) [(y0,S0)] HMD.o.sh.exOk rfl hrd (fun b off e=>by injection e with e;injection e with e;have:=Xa.o.hr.lt;omega) (fun q hq=>by
    simp only [lU,lT,or_false]at hq;rcases hq with rfl
    ·exact HT0.o.bel zB))
   clear hrd;obtain⟨f0,f1,f2,f3,f4,f5,_⟩:=zZ Xc.o.hr;obtain⟨g0,g1,g2,g3,g4,g5⟩:=zH Xc.o.hr;have HF:=Ph (fr6 (wa.alloc (.cells (uE y0 S0) 31)) r (uB 8) (uB 0) (uW 0) (uI k) (uT) (.slice (some ⟨wa.heap.size,0,none⟩) 1 1));have HK:=Ph (put6 (v0:=uB 8) (v1:=uB 0) (v2:=uW 0) (v3:=uI k) (v4:=uT) (v5:=.slice (some ⟨wa.heap.size,0,none⟩) 1 1) Xc.o.hr);go_wp2_with fail
   generalize (World.setCell _ _ _)=WF at HF HK ⊢;obtain⟨r0,r1,r2,r3,r4,r5⟩:=zH HK.o;refine lK (v:=.agg #[uB 8,uB 0,uW 0,uI k,uT,.slice (some ⟨wa.heap.size,0,none⟩) 1 1]) (by simp [results,results38,go_sem,r0,r1,r2,r3,r4,r5]) rfl ?_;exact⟨.mk 8 0 0 k [] [y0],⟨some ⟨wa.heap.size,0,none⟩,1,1⟩,rfl,HMD.o,(HT.o.stay (Stays.fr HF.o fun k _ hk e=>Yo)).mono (fun k _ hk=>by have:=Xc.o.lr;omega),Xc.o.q.box h.o HF.o Xc.o.lr⟩
 ·have c3:=X1.o.q.cells.1;by_cases hkw:k=D.W
  ·have ekw:((k:Int) == (D.W:Int))=true:=by simp;omega
   clear hkw;by_cases hwt:wh≠1
   ·have ewt:((wh:Int) != 1)=true:=by simp;omega
    clear hwt;have x4:w1.cell? ⟨b4,0,none⟩=some (uQ m 0):=X1.o.h4.cell 0;have x6:w1.cell? ⟨b6,0,none⟩=some (uI wh):=X1.o.h6.cell 0;have x7:w1.cell? ⟨b7,0,none⟩=some (uI dp):=X1.o.h7.cell 0;go_wp2_with fail
    refine(qX6 IH HDP.o hd9 w m D b4 b6 b7 r wh 2 Yo Yo hwh hW1 h _ X1).mono ?_;rintro e wa ⟨y0,S0,rfl,hmd0,ht0,Xa,hk0⟩;have HMD0:=Ph hmd0;have HT0:=Ph ht0;clear hmd0 ht0 hk0 x4 x6 x7;have Xc:=Ph (Xa.o.below h.o (zB (o:=.cells (uE y0 S0) 31)));have hrd:=RdT.new wa (uE y0 S0) 31;have HMD:=Ph (show MdX (szd dp) (dp+1) (.mk 4 0 0 0 [] [y0]) from by rw [HSD.o,HDP.o];exact(HMD0.o.one (.disk y0 HMD0.o.sh)));have HT:=Ph (zF6 (P:=fun b=>r+1≤b) (c:=1) (x:=.mk 4 0 0 0 [] [y0]) [(y0,S0)] HMD.o.sh.exOk rfl hrd (fun b off e=>by injection e with e;injection e with e;have:=Xa.o.hr.lt;omega) (fun q hq=>by
     simp only [lU,lT,or_false]at hq;rcases hq with rfl
     ·exact HT0.o.bel zB))
    clear hrd;obtain⟨f0,f1,f2,f3,f4,f5,_⟩:=zZ Xc.o.hr;obtain⟨g0,g1,g2,g3,g4,g5⟩:=zH Xc.o.hr;have HF:=Ph (fr6 (wa.alloc (.cells (uE y0 S0) 31)) r (uB 4) (uB 0) (uW 0) (uI 0) (uT) (.slice (some ⟨wa.heap.size,0,none⟩) 1 1));have HK:=Ph (put6 (v0:=uB 4) (v1:=uB 0) (v2:=uW 0) (v3:=uI 0) (v4:=uT) (v5:=.slice (some ⟨wa.heap.size,0,none⟩) 1 1) Xc.o.hr);go_wp2_with fail
    generalize (World.setCell _ _ _)=WF at HF HK ⊢;obtain⟨r0,r1,r2,r3,r4,r5⟩:=zH HK.o;refine lK (v:=.agg #[uB 4,uB 0,uW 0,uI 0,uT,.slice (some ⟨wa.heap.size,0,none⟩) 1 1]) (by simp [results,results38,go_sem,r0,r1,r2,r3,r4,r5]) rfl ?_;exact⟨.mk 4 0 0 0 [] [y0],⟨some ⟨wa.heap.size,0,none⟩,1,1⟩,rfl,HMD.o,(HT.o.stay (Stays.fr HF.o fun k _ hk e=>Yo)).mono (fun k _ hk=>by have:=Xc.o.lr;omega),Xc.o.q.box h.o HF.o Xc.o.lr⟩
   ·have ewt:((wh:Int) != 1)=false:=by simp;omega
    clear hwt;have x4:w1.cell? ⟨b4,0,none⟩=some (uQ m 0):=X1.o.h4.cell 0;have x6:w1.cell? ⟨b6,0,none⟩=some (uI wh):=X1.o.h6.cell 0;have x7:w1.cell? ⟨b7,0,none⟩=some (uI dp):=X1.o.h7.cell 0;go_wp2_with fail
    refine(wA m D k wh hk1 hk3 hwh hW1 _ (Ph X1.o.q.k)).mono ?_;rintro e w9 ⟨x,S,rfl,hmd,ht,hq⟩;have X9:=Ph (X1.o.to h.o hq);have HMD:=Ph hmd;have HT:=Ph (ht.mono (P':=fun b=>r+1≤b) fun b _ hb=>by have:=X1.o.hr.lt;omega);clear hmd ht hq x4 x6 x7;obtain⟨f0,f1,f2,f3,f4,f5,_⟩:=zZ X9.o.hr;obtain⟨g0,g1,g2,g3,g4,g5⟩:=zH X9.o.hr;have HF:=Ph (fr6 w9 r (uB x.kind) (uB x.op) (uW x.value) (uI x.width) (uR x.name) (.slice S.A S.n S.c));have HK:=Ph (put6 (v0:=uB x.kind) (v1:=uB x.op) (v2:=uW x.value) (v3:=uI x.width) (v4:=uR x.name) (v5:=.slice S.A S.n S.c) X9.o.hr);go_wp2_with fail
    generalize (World.setCell _ _ _)=WF at HF HK ⊢;obtain⟨r0,r1,r2,r3,r4,r5⟩:=zH HK.o;refine lK (v:=.agg (uE x S)) (by simp [results,results38,go_sem,r0,r1,r2,r3,r4,r5]) rfl ?_;exact⟨x,S,rfl,HMD.o.up HS1.o Yo,(HT.o.stay (Stays.fr HF.o fun k _ hk e=>Yo)).mono (fun k _ hk=>by have:=X9.o.lr;omega),X9.o.q.box h.o HF.o X9.o.lr⟩
  ·have ekw:((k:Int) == (D.W:Int))=false:=by simp;omega
   clear hkw;have x4:w1.cell? ⟨b4,0,none⟩=some (uQ m 0):=X1.o.h4.cell 0;have x6:w1.cell? ⟨b6,0,none⟩=some (uI wh):=X1.o.h6.cell 0;have x7:w1.cell? ⟨b7,0,none⟩=some (uI dp):=X1.o.h7.cell 0;go_wp2_with fail
   refine(wA m D k wh hk1 hk3 hwh hW1 _ (Ph X1.o.q.k)).mono ?_;rintro e w9 ⟨x,S,rfl,hmd,ht,hq⟩;have X9:=Ph (X1.o.to h.o hq);have HMD:=Ph hmd;have HT:=Ph (ht.mono (P':=fun b=>r+1≤b) fun b _ hb=>by have:=X1.o.hr.lt;omega);clear hmd ht hq x4 x6 x7;obtain⟨f0,f1,f2,f3,f4,f5,_⟩:=zZ X9.o.hr;obtain⟨g0,g1,g2,g3,g4,g5⟩:=zH X9.o.hr;have HF:=Ph (fr6 w9 r (uB x.kind) (uB x.op) (uW x.value) (uI x.width) (uR x.name) (.slice S.A S.n S.c));have HK:=Ph (put6 (v0:=uB x.kind) (v1:=uB x.op) (v2:=uW x.value) (v3:=uI x.width) (v4:=uR x.name) (v5:=.slice S.A S.n S.c) X9.o.hr);go_wp2_with fail
   generalize (World.setCell _ _ _)=WF at HF HK ⊢;obtain⟨r0,r1,r2,r3,r4,r5⟩:=zH HK.o;refine lK (v:=.agg (uE x S)) (by simp [results,results38,go_sem,r0,r1,r2,r3,r4,r5]) rfl ?_;exact⟨x,S,rfl,HMD.o.up HS1.o Yo,(HT.o.stay (Stays.fr HF.o fun k _ hk e=>Yo)).mono (fun k _ hk=>by have:=X9.o.lr;omega),X9.o.q.box h.o HF.o X9.o.lr⟩
 ·have c3:=X1.o.q.cells.1;by_cases hkw:k=D.W
  ·have ekw:((k:Int) == (D.W:Int))=true:=by simp;omega
   clear hkw;by_cases hwt:wh=0
   ·have ewt:((wh:Int) == 0)=true:=by simp;omega
    clear hwt;have x4:w1.cell? ⟨b4,0,none⟩=some (uQ m 0):=X1.o.h4.cell 0;have x6:w1.cell? ⟨b6,0,none⟩=some (uI wh):=X1.o.h6.cell 0;have x7:w1.cell? ⟨b7,0,none⟩=some (uI dp):=X1.o.h7.cell 0;go_wp2_with fail
    refine(qX6 IH HDP.o hd9 w m D b4 b6 b7 r wh 2 Yo Yo hwh hW1 h _ X1).mono ?_;rintro e wa ⟨y0,S0,rfl,hmd0,ht0,Xa,hk0⟩;have HMD0:=Ph hmd0;have HT0:=Ph ht0;clear hmd0 ht0 hk0 x4 x6 x7;have Xc:=Ph (Xa.o.below h.o (zB (o:=.cells (uE y0 S0) 31)));have hrd:=RdT.new wa (uE y0 S0) 31;have HMD:=Ph (show MdX (szd dp) (dp+1) (.mk 3 0 0 0 [97] [y0]) from by rw [HSD.o,HDP.o];exact(HMD0.o.one (.elem [97] y0 kJ2 rfl HMD0.o.sh)));have HT:=Ph (zF6 (P:=fun b=>r+1≤b) (c:=1) (x:=.mk 3 0 0 0 [97] [y0]) [(y0,S0)] HMD.o.sh.exOk rfl hrd (fun b off e=>by injection e with e;injection e with e;have:=Xa.o.hr.lt;omega) (fun q hq=>by
     simp only [lU,lT,or_false]at hq;rcases hq with rfl
     ·exact HT0.o.bel zB))
    clear hrd;obtain⟨f0,f1,f2,f3,f4,f5,_⟩:=zZ Xc.o.hr;obtain⟨g0,g1,g2,g3,g4,g5⟩:=zH Xc.o.hr;have HF:=Ph (fr6 (wa.alloc (.cells (uE y0 S0) 31)) r (uB 3) (uB 0) (uW 0) (uI 0) (.string ⟨#[97]⟩) (.slice (some ⟨wa.heap.size,0,none⟩) 1 1));have HK:=Ph (put6 (v0:=uB 3) (v1:=uB 0) (v2:=uW 0) (v3:=uI 0) (v4:=.string ⟨#[97]⟩) (v5:=.slice (some ⟨wa.heap.size,0,none⟩) 1 1) Xc.o.hr);go_wp2_with fail
    generalize (World.setCell _ _ _)=WF at HF HK ⊢;obtain⟨r0,r1,r2,r3,r4,r5⟩:=zH HK.o;refine lK (v:=.agg #[uB 3,uB 0,uW 0,uI 0,.string ⟨#[97]⟩,.slice (some ⟨wa.heap.size,0,none⟩) 1 1]) (by simp [results,results38,go_sem,r0,r1,r2,r3,r4,r5]) rfl ?_;exact⟨.mk 3 0 0 0 [97] [y0],⟨some ⟨wa.heap.size,0,none⟩,1,1⟩,rfl,HMD.o,(HT.o.stay (Stays.fr HF.o fun k _ hk e=>Yo)).mono (fun k _ hk=>by have:=Xc.o.lr;omega),Xc.o.q.box h.o HF.o Xc.o.lr⟩
   ·have ewt:((wh:Int) == 0)=false:=by simp;omega
    clear hwt;have x4:w1.cell? ⟨b4,0,none⟩=some (uQ m 0):=X1.o.h4.cell 0;have x6:w1.cell? ⟨b6,0,none⟩=some (uI wh):=X1.o.h6.cell 0;have x7:w1.cell? ⟨b7,0,none⟩=some (uI dp):=X1.o.h7.cell 0;go_wp2_with fail
    refine(wA m D k wh hk1 hk3 hwh hW1 _ (Ph X1.o.q.k)).mono ?_;rintro e w9 ⟨x,S,rfl,hmd,ht,hq⟩;have X9:=Ph (X1.o.to h.o hq);have HMD:=Ph hmd;have HT:=Ph (ht.mono (P':=fun b=>r+1≤b) fun b _ hb=>by have:=X1.o.hr.lt;omega);clear hmd ht hq x4 x6 x7;obtain⟨f0,f1,f2,f3,f4,f5,_⟩:=zZ X9.o.hr;obtain⟨g0,g1,g2,g3,g4,g5⟩:=zH X9.o.hr;have HF:=Ph (fr6 w9 r (uB x.kind) (uB x.op) (uW x.value) (uI x.width) (uR x.name) (.slice S.A S.n S.c));have HK:=Ph (put6 (v0:=uB x.kind) (v1:=uB x.op) (v2:=uW x.value) (v3:=uI x.width) (v4:=uR x.name) (v5:=.slice S.A S.n S.c) X9.o.hr);go_wp2_with fail
    generalize (World.setCell _ _ _)=WF at HF HK ⊢;obtain⟨r0,r1,r2,r3,r4,r5⟩:=zH HK.o;refine lK (v:=.agg (uE x S)) (by simp [results,results38,go_sem,r0,r1,r2,r3,r4,r5]) rfl ?_;exact⟨x,S,rfl,HMD.o.up HS1.o Yo,(HT.o.stay (Stays.fr HF.o fun k _ hk e=>Yo)).mono (fun k _ hk=>by have:=X9.o.lr;omega),X9.o.q.box h.o HF.o X9.o.lr⟩
  ·have ekw:((k:Int) == (D.W:Int))=false:=by simp;omega
   clear hkw;have x4:w1.cell? ⟨b4,0,none⟩=some (uQ m 0):=X1.o.h4.cell 0;have x6:w1.cell? ⟨b6,0,none⟩=some (uI wh):=X1.o.h6.cell 0;have x7:w1.cell? ⟨b7,0,none⟩=some (uI dp):=X1.o.h7.cell 0;go_wp2_with fail
   refine(wA m D k wh hk1 hk3 hwh hW1 _ (Ph X1.o.q.k)).mono ?_;rintro e w9 ⟨x,S,rfl,hmd,ht,hq⟩;have X9:=Ph (X1.o.to h.o hq);have HMD:=Ph hmd;have HT:=Ph (ht.mono (P':=fun b=>r+1≤b) fun b _ hb=>by have:=X1.o.hr.lt;omega);clear hmd ht hq x4 x6 x7;obtain⟨f0,f1,f2,f3,f4,f5,_⟩:=zZ X9.o.hr;obtain⟨g0,g1,g2,g3,g4,g5⟩:=zH X9.o.hr;have HF:=Ph (fr6 w9 r (uB x.kind) (uB x.op) (uW x.value) (uI x.width) (uR x.name) (.slice S.A S.n S.c));have HK:=Ph (put6 (v0:=uB x.kind) (v1:=uB x.op) (v2:=uW x.value) (v3:=uI x.width) (v4:=uR x.name) (v5:=.slice S.A S.n S.c) X9.o.hr);go_wp2_with fail
   generalize (World.setCell _ _ _)=WF at HF HK ⊢;obtain⟨r0,r1,r2,r3,r4,r5⟩:=zH HK.o;refine lK (v:=.agg (uE x S)) (by simp [results,results38,go_sem,r0,r1,r2,r3,r4,r5]) rfl ?_;exact⟨x,S,rfl,HMD.o.up HS1.o Yo,(HT.o.stay (Stays.fr HF.o fun k _ hk e=>Yo)).mono (fun k _ hk=>by have:=X9.o.lr;omega),X9.o.q.box h.o HF.o X9.o.lr⟩
theorem zX1 (d:Nat) (hd:d≤9):jH1 d:=by
 induction d with
 | zero=>exact kO3
 | succ d ih=>exact kO4 d Yo (ih Yo)
end
section
open Go.RowKit Go.PlainAid
inductive ShS:Sx→Prop
 | set (n:List UInt8) (x:Ex):NameOk n→n.length=1→ShX x→ShS (.mk 1 n [x] 0 [] [])
 | put (n:List UInt8) (i x:Ex):NameOk n→n.length=1→ShX i→ShX x→ShS (.mk 2 n [i,x] 0 [] [])
 | write (b x:Ex):ShX b→ShX x→ShS (.mk 3 [] [b,x] 0 [] [])
 | flush:ShS (.mk 4 [] [] 0 [] [])
 | barrier:ShS (.mk 5 [] [] 0 [] [])
 | ifs (x:Ex) (t e:List Sx):ShX x→(∀ y∈t,ShS y)→(∀ y∈e,ShS y)→ShS (.mk 6 [] [x] 0 t e)
 | loop (x:Ex) (b:Nat) (t:List Sx):ShX x→b≤9→(∀ y∈t,ShS y)→ShS (.mk 7 [] [x] b t [])
 | call (n:List UInt8) (x:Ex):NameOk n→n.length=1→ShX x→ShS (.mk 8 n [x] 0 [] [])
theorem ShS.good {x:Sx} (h:ShS x):vP x:=by
 induction h with
 | set n x h1 h2 h3=>exact .set n x h1 h3.good
 | put n i x h1 h2 h3 h4=>exact .put n i x h1 h3.good h4.good
 | write b x h1 h2=>exact .write b x h1.good h2.good
 | flush=>exact .flush
 | barrier=>exact .barrier
 | ifs x t e h1 h2 h3 i1 i2=>exact .ifs x t e h1.good i1 i2
 | loop x b t h1 h2 h3 i1=>exact .loop x b t h1.good Yo i1
 | call n x h1 h2 h3=>exact .call n [x] h1 (fun y hy=>by simp at hy;subst hy;exact h3.good)
theorem ShS.sxOk {x:Sx} (h:ShS x):kM4 x:=by
 cases h with
 | set n x h1 h2 h3=>exact⟨(by show 1≤255;omega),(by show(-9223372036854775808:Int)≤0;omega),(by show(0:Int)≤9223372036854775807;omega),(by show n.length≤1000000;omega)⟩
 | put n i x h1 h2 h3 h4=>exact⟨(by show 2≤255;omega),(by show(-9223372036854775808:Int)≤0;omega),(by show(0:Int)≤9223372036854775807;omega),(by show n.length≤1000000;omega)⟩
 | write b x h1 h2=>exact⟨(by show 3≤255;omega),(by show(-9223372036854775808:Int)≤0;omega),(by show(0:Int)≤9223372036854775807;omega),(by show 0≤1000000;omega)⟩
 | flush=>exact⟨(by show 4≤255;omega),(by show(-9223372036854775808:Int)≤0;omega),(by show(0:Int)≤9223372036854775807;omega),(by show 0≤1000000;omega)⟩
 | barrier=>exact⟨(by show 5≤255;omega),(by show(-9223372036854775808:Int)≤0;omega),(by show(0:Int)≤9223372036854775807;omega),(by show 0≤1000000;omega)⟩
 | ifs x t e h1 h2 h3=>exact⟨(by show 6≤255;omega),(by show(-9223372036854775808:Int)≤0;omega),(by show(0:Int)≤9223372036854775807;omega),(by show 0≤1000000;omega)⟩
 | loop x b t h1 h2 h3=>exact⟨(by show 7≤255;omega),(by show(-9223372036854775808:Int)≤(b:Int);omega),(by show(b:Int)≤9223372036854775807;omega),(by show 0≤1000000;omega)⟩
 | call n x h1 h2 h3=>exact⟨(by show 8≤255;omega),(by show(-9223372036854775808:Int)≤0;omega),(by show(0:Int)≤9223372036854775807;omega),(by show n.length≤1000000;omega)⟩
def pd:Nat→Nat
 | 0=>18
 | d+1=>14+3*pd d
theorem zU6 (d:Nat):18≤pd d:=by cases d <;> simp [pd] <;> (rename_i n;induction n <;> simp [pd]at*<;> omega)
structure MdS (d:Nat) (y:Sx):Prop where
 sh:ShS y
 sz:szS y≤pd d
 ht:htS y≤4+d
structure MdL (d n:Nat) (l:List Sx):Prop where
 n:l.length≤n
 all:∀ y∈l,MdS d y
theorem jH2 (d:Nat):∀ l:List Sx,(∀ y∈l,MdS d y)→yE l≤l.length*pd d
 | [],_=>by simp [yE]
 | y :: l,h=>by have h1:=jH2 d l fun z hz=>h z (List.mem_cons_of_mem _ hz);have h2:=(h y (List.mem_cons_self ..)).sz;have h3:(l.length+1)*pd d=l.length*pd d+pd d:=Nat.succ_mul _ _;simp only [yE,Yc];omega
theorem jH3 (d:Nat):∀ l:List Sx,(∀ y∈l,MdS d y)→vL l≤4+d
 | [],_=>by simp [vL]
 | y :: l,h=>by have h1:=jH3 d l fun z hz=>h z (List.mem_cons_of_mem _ hz);have h2:=(h y (List.mem_cons_self ..)).ht;simp only [vL];omega
theorem MdL.sz {d n:Nat} {l:List Sx} (h:MdL d n l):yE l≤n*pd d:=lE (jH2 d l h.all) (Nat.mul_le_mul_right _ h.n)
theorem MdL.ht {d n:Nat} {l:List Sx} (h:MdL d n l):vL l≤4+d:=jH3 d l h.all
theorem MdL.snoc {d n:Nat} {l:List Sx} {x:Sx} (h:MdL d n l) (hx:MdS d x):MdL d (n+1) (l++[x]):=⟨by rw [Ya];have:=h.n;simp;omega,fun y hy=>by
 rcases List.mem_append.1 hy with hy | hy
 ·exact h.all y hy
 ·simp at hy;subst hy;exact hx⟩
section
variable {d a b c:Nat} {x y:Ex}
theorem MdS.write (h1:MdX (szd 2) 3 x) (h2:MdX (szd 2) 3 y) (h3:szX x≤4):MdS d (.mk 3 [] [x,y] 0 [] []):=⟨.write x y h1.sh h2.sh,by have:=h1.sz;have:=h2.sz;have:=zU6 d;simp only [szS,kC,yE];simp [szd]at *;omega,by have:=h1.ht;have:=h2.ht;simp only [htS,vJ,vL];omega⟩
theorem MdS.flush:MdS d (.mk 4 [] [] 0 [] []):=⟨.flush,by have:=zU6 d;simp [szS,kC,yE];omega,by simp [htS,vJ,vL];omega⟩
theorem MdS.barrier:MdS d (.mk 5 [] [] 0 [] []):=⟨.barrier,by have:=zU6 d;simp [szS,kC,yE];omega,by simp [htS,vJ,vL];omega⟩
theorem MdS.set {n:List UInt8} (hn:NameOk n) (hl:n.length=1) (h1:MdX (szd 2) 3 x):MdS d (.mk 1 n [x] 0 [] []):=⟨.set n x hn hl h1.sh,by have:=h1.sz;have:=zU6 d;simp only [szS,kC,yE];simp [szd]at *;omega,by have:=h1.ht;simp only [htS,vJ,vL];omega⟩
theorem MdS.put {n:List UInt8} (hn:NameOk n) (hl:n.length=1) (h1:MdX (szd 1) 2 x) (h2:MdX (szd 1) 2 y):MdS d (.mk 2 n [x,y] 0 [] []):=⟨.put n x y hn hl h1.sh h2.sh,by have:=h1.sz;have:=h2.sz;have:=zU6 d;simp only [szS,kC,yE];simp [szd]at *;omega,by have:=h1.ht;have:=h2.ht;simp only [htS,vJ,vL];omega⟩
theorem MdS.call {n:List UInt8} (hn:NameOk n) (hl:n.length=1) (h1:MdX (szd 1) 2 x):MdS d (.mk 8 n [x] 0 [] []):=⟨.call n x hn hl h1.sh,by have:=h1.sz;have:=zU6 d;simp only [szS,kC,yE];simp [szd]at *;omega,by have:=h1.ht;simp only [htS,vJ,vL];omega⟩
theorem MdS.ifs {t e:List Sx} (h1:MdX (szd 2) 3 x) (ht:MdL d 2 t) (he:MdL d 1 e):MdS (d+1) (.mk 6 [] [x] 0 t e):=⟨.ifs x t e h1.sh (fun y hy=>(ht.all y hy).sh) (fun y hy=>(he.all y hy).sh),by have:=h1.sz;have:=ht.sz;have:=he.sz;simp only [szS,kC,pd];simp [szd]at *;omega,by have:=h1.ht;have:=ht.ht;have:=he.ht;simp only [htS,vJ];omega⟩
theorem MdS.loop {t:List Sx} {k:Nat} (hs:ShX x) (h1:szX x≤3) (h2:htX x≤3) (hk:k≤9) (ht:MdL 0 3 t):MdS (d+1) (.mk 7 [] [x] k t []):=⟨.loop x k t hs hk fun y hy=>(ht.all y hy).sh,by have:=ht.sz;have:=zU6 d;simp only [szS,kC,yE];simp only [pd]at *;omega,by have:=ht.ht;simp only [htS,vJ,vL];omega⟩
end
structure Re (wr:World) (m:Nat) (D:MD) (sb:Nat) (x:Sx) (v:SV×SV×SV) (W:World):Prop where
 q:MQ wr m D W
 b:Bk W sb 108 #[uB x.kind,uR x.name,.slice v.1.A v.1.n v.1.c,uI x.bound,.slice v.2.1.A v.2.1.n v.2.1.c,.slice v.2.2.A v.2.2.n v.2.2.c]
 p:SxP (fun k=>sb+1≤k) W x v
 e:wr.heap.size=sb
theorem Re.push {w wr W:World} {m sb:Nat} {D:MD} {l:List Sx} {S:SV} {x:Sx} {v:SV×SV×SV} (h0:Mk w m D) (hq:MQ w m D wr) (ho:jC7 w.heap.size wr l S) (h:Re wr m D sb x v W) (few:S.n<1000000000) :
 ∃ A' c' w',(∀ ty,(Builtin.append_ #[34,34] ty #[.slice S.A S.n S.c,.slice (some ⟨W.heap.size,0,none⟩) 1 1]).run prog (W.alloc (.cells #[uB x.kind,uR x.name,.slice v.1.A v.1.n v.1.c,uI x.bound,.slice v.2.1.A v.2.1.n v.2.1.c,.slice v.2.2.A v.2.2.n v.2.2.c] 108))=.ok (.slice A' (S.n+1) c') w')∧jC7 w.heap.size w' (l++[x]) ⟨A',S.n+1,c'⟩∧MQ w m D w':=by
 have hsz:w.heap.size≤wr.heap.size:=hq.fr.size;have hq1:MQ wr m D (W.alloc (.cells #[uB x.kind,uR x.name,.slice v.1.A v.1.n v.1.c,uI x.bound,.slice v.2.1.A v.2.1.n v.2.1.c,.slice v.2.2.A v.2.2.n v.2.2.c] 108)):=h.q.then hq.k zB;have ho1:=ho.stay itS yW (hq1.staysP (P:=fun k=>w.heap.size≤k) hq.k);have hty:∀ k,(Value.slice S.A S.n S.c).ownBlock=some k→w.heap.size≤k∧∃ cs,Bk wr k 108 cs:=fun k hk=>by obtain⟨vs,g1,g2,g3,g4⟩:=ho;exact qF g3 k hk
 have hx:SxP (fun k=>w.heap.size≤k∧(Value.slice S.A S.n S.c).ownBlock≠some k) (W.alloc (.cells #[uB x.kind,uR x.name,.slice v.1.A v.1.n v.1.c,uI x.bound,.slice v.2.1.A v.2.1.n v.2.1.c,.slice v.2.2.A v.2.2.n v.2.2.c] 108)) x v:=itS.mono _ _ _ _ _ (fun k _ hk=>⟨by have:=h.e;omega,fun e=>by obtain⟨_,cs,hb⟩:=hty k e;have:=hb.lt;have:=h.e;omega⟩) (itS.stay _ _ _ _ _ (Stays.below zB) h.p);have key:=fun ty=>OwnG.run itS jZ3 yW zS9 (fun x v=>rfl) ho1 x v hx (some ⟨W.heap.size,0,none⟩) 1 (Rd.new W #[uB x.kind,uR x.name,.slice v.1.A v.1.n v.1.c,uI x.bound,.slice v.2.1.A v.2.1.n v.2.1.c,.slice v.2.2.A v.2.2.n v.2.2.c] 108) few (lE hsz hq1.fr.size) ty;obtain⟨A',c',w',h1,h2,h3⟩:=key 0;refine⟨A',c',w',fun ty=>h1,h2,(hq.trans hq1).data h0 h3 fun k _ e=>(hty k e).1⟩
theorem jQ3 {w wr W:World} {m:Nat} {D:MD} {l:List Sx} {S:SV} {x:Sx} {v:SV×SV×SV} (h0:Mk w m D) (hq:MQ w m D wr) (ho:jC7 w.heap.size wr l S) (hqW:MQ wr m D W) (hp:SxP (fun k=>wr.heap.size≤k) W x v) (few:S.n<1000000000) :
 ∃ A' c' w',(∀ ty,(Builtin.append_ #[34,34] ty #[.slice S.A S.n S.c,.slice (some ⟨W.heap.size,0,none⟩) 1 1]).run prog (W.alloc (.cells #[uB x.kind,uR x.name,.slice v.1.A v.1.n v.1.c,uI x.bound,.slice v.2.1.A v.2.1.n v.2.1.c,.slice v.2.2.A v.2.2.n v.2.2.c] 108))=.ok (.slice A' (S.n+1) c') w')∧jC7 w.heap.size w' (l++[x]) ⟨A',S.n+1,c'⟩∧MQ w m D w':=by
 have hsz:w.heap.size≤wr.heap.size:=hq.fr.size;have hq1:MQ wr m D (W.alloc (.cells #[uB x.kind,uR x.name,.slice v.1.A v.1.n v.1.c,uI x.bound,.slice v.2.1.A v.2.1.n v.2.1.c,.slice v.2.2.A v.2.2.n v.2.2.c] 108)):=hqW.then hq.k zB;have ho1:=ho.stay itS yW (hq1.staysP (P:=fun k=>w.heap.size≤k) hq.k);have hty:∀ k,(Value.slice S.A S.n S.c).ownBlock=some k→w.heap.size≤k∧∃ cs,Bk wr k 108 cs:=fun k hk=>by obtain⟨vs,g1,g2,g3,g4⟩:=ho;exact qF g3 k hk
 have hx:SxP (fun k=>w.heap.size≤k∧(Value.slice S.A S.n S.c).ownBlock≠some k) (W.alloc (.cells #[uB x.kind,uR x.name,.slice v.1.A v.1.n v.1.c,uI x.bound,.slice v.2.1.A v.2.1.n v.2.1.c,.slice v.2.2.A v.2.2.n v.2.2.c] 108)) x v:=itS.mono _ _ _ _ _ (fun k _ hk=>⟨Yo,fun e=>by obtain⟨_,cs,hb⟩:=hty k e;have:=hb.lt;omega⟩) (itS.stay _ _ _ _ _ (Stays.below zB) hp);have key:=fun ty=>OwnG.run itS jZ3 yW zS9 (fun x v=>rfl) ho1 x v hx (some ⟨W.heap.size,0,none⟩) 1 (Rd.new W #[uB x.kind,uR x.name,.slice v.1.A v.1.n v.1.c,uI x.bound,.slice v.2.1.A v.2.1.n v.2.1.c,.slice v.2.2.A v.2.2.n v.2.2.c] 108) few (lE hsz hq1.fr.size) ty;obtain⟨A',c',w',h1,h2,h3⟩:=key 0;exact⟨A',c',w',fun ty=>h1,h2,(hq.trans hq1).data h0 h3 fun k _ e=>(hty k e).1⟩
structure Rm (wr:World) (m:Nat) (D:MD) (sb:Nat) (W:World):Prop where
 q:MQ wr m D W
 b:Bk W sb 108 uS
 e:wr.heap.size=sb
section
variable {wr W W':World} {m sb:Nat} {D:MD}
theorem Rm.to (h:Rm wr m D sb W) (h0:Mk wr m D) (hq:MQ W m D W'):Rm wr m D sb W':=⟨h.q.trans hq,hq.bk h.q.k h.b (by have:=h0.lt;have:=h.e;omega),h.e⟩
theorem Rm.below (h:Rm wr m D sb W) (h0:Mk wr m D) (hb:Below W.heap.size W W'):Rm wr m D sb W':=⟨h.q.then h0 hb,zD h.b hb,h.e⟩
theorem Rm.fill (h:Rm wr m D sb W) (h0:Mk wr m D) {x:Sx} {v:SV×SV×SV} (hf:Fr (fun k=>k=sb) W W') (hb:Bk W' sb 108 #[uB x.kind,uR x.name,.slice v.1.A v.1.n v.1.c,uI x.bound,.slice v.2.1.A v.2.1.n v.2.1.c,.slice v.2.2.A v.2.2.n v.2.2.c]) (hp:SxP (fun k=>sb+1≤k) W x v):Re wr m D sb x v W' :=
 ⟨h.q.box h0 hf (Nat.le_of_eq h.e),hb,itS.stay _ _ _ _ _ (Stays.fr hf fun k _ hk e=>Yo) hp,h.e⟩
end
def kO5 (d:Nat):Prop:=∀ (dp:Nat) (_:dp=d) (m:Nat) (D:MD) (most:Nat) (_:most≤5) (_:1≤D.W) (w:World) (_:Ud (Mk w m D)),Calls prog 39 #[uQ m 0,uI most,uI dp] w fun e w'=>∃ (l:List Sx) (S:SV),e=.returned (.slice S.A S.n S.c)∧MdL dp most l∧jC7 w.heap.size w' l S∧MQ w m D w'
end
section
open Go.RowKit Go.PlainAid
theorem kB2 (o:Nat):(biT o).length≤3:=(jT7 (o % 17) (Nat.mod_lt _ Yo)).2 |> fun h=>by
 have e:biT (o % 17)=biT o:=by unfold biT;rw [Nat.mod_mod]
 rwa [e]at h
theorem kB3 (o:Nat):(unT o).length≤1:=by
 have h:∀ k,k<3→(unT k).length≤1:=Yd;have e:unT (o % 3)=unT o:=by unfold unT;rw [Nat.mod_mod]
 have:=h (o % 3) (Nat.mod_lt _ Yo);rwa [e]at this
theorem jS {x:Ex} (h:ShX x) (wide:Bool):(zP wide x).length≤14*szX x:=by
 induction h with
 | num v w hv hw=>have h1:=jO v hv;have h2:=jO w hw;simp [zP,yD,szX,kC,h1,h2]
 | var n hn hl=>simp [zP,yD,szX,kC,hl]
 | elem n y hn hl hy ih=>simp [zP,yD,szX,kC,hl];omega
 | disk y hy ih=>simp [zP,yD,szX,kC,qA6];omega
 | un o y h1 h2 hy ih =>
   have e1:=kB3 o;have e2:=kS wide y (zP wide y);simp [zP,yD,szX,kC];omega
 | bin o x y h1 h2 hx hy i1 i2 =>
   have e1:=kB2 o;have e2:=kS wide y (zP wide y);have e3:=kS wide x (zP wide x);simp [zP,yD,szX,kC];omega
 | mux x y z hx hy hz i1 i2 i3 =>
   have e1:=kS wide x (zP wide x);have e2:=kS wide y (zP wide y);have e3:=kS wide z (zP wide z);simp [zP,yD,szX,kC,kL2,kL3];omega
 | cast w y hw hy ih =>
   have e1:=jO w hw;have e2:=kS wide y (zP wide y);simp [zP,yD,szX,kC,kL4,e1];omega
theorem jQ4 {x:Ex} (h:ShX x):szX x≤50000→xH x:=by
 have key:∀ {y:Ex},ShX y→szX y≤50000→∀ wide,(zP wide y).length≤1000000:=fun hy hz wide=>by have:=jS hy wide;omega
 induction h with
 | num v w hv hw=>exact fun _=>jY6 v w hv hw
 | var n hn hl=>exact fun _=>jY7 n
 | elem n y hn hl hy ih =>
   intro hz;simp only [szX,kC]at hz;exact jO6 n Yo y (key hy Yo) (ih Yo)
 | disk y hy ih =>
   intro hz;simp only [szX,kC]at hz;exact jO7 y (key hy Yo) (ih Yo)
 | un o y h1 h2 hy ih =>
   intro hz;simp only [szX,kC]at hz;exact kG2 o h1 h2 y (key hy Yo) (ih Yo)
 | bin o x y h1 h2 hx hy i1 i2 =>
   intro hz;simp only [szX,kC]at hz;exact jY9 o h1 h2 x y (key hx Yo) (key hy Yo) (i1 Yo) (i2 Yo)
 | mux x y z hx hy hz i1 i2 i3 =>
   intro hz2;simp only [szX,kC]at hz2;exact jY8 x y z (key hx Yo) (key hy Yo) (key hz Yo) (i1 Yo) (i2 Yo) (i3 Yo)
 | cast w y hw hy ih =>
   intro hz;simp only [szX,kC]at hz;exact jO8 w hw y (key hy Yo) (ih Yo)
theorem qH1:∀ (l:List (List UInt8)) (M:Nat),(∀ t∈l,t.length≤M)→(qT l).length≤l.length*(M+1)
 | [],M,_=>by simp [qT]
 | [x],M,h=>by have:=h x Ym;simp [qT];omega
 | x :: y :: l,M,h=>by have h1:=qH1 (y :: l) M fun t ht=>h t (List.mem_cons_of_mem _ ht);have h2:=h x Ym;show(x++[44]++qT (y :: l)).length≤_;simp only [Ya,Yc,Yn]at h1 ⊢;rw [Nat.succ_mul];omega
theorem wZ (wide:Bool) (x:Sx) (l:List Sx):kF wide (x :: l)=jH wide x++[32,35,32,10]++kF wide l:=by rw [kF,show bs " # \n" = [32,35,32,10] from by decide]
theorem zY6 (wide:Bool):∀ (l m:List Sx),kF wide (l++m)=kF wide l++kF wide m
 | [],m=>by simp [kF]
 | x :: l,m=>by rw [lR,wZ,wZ,zY6 wide l m];simp
theorem vB (wide:Bool) (l:List Sx):jJ wide l=[123]++kF wide l++[125]:=rfl
theorem qH2 {y:Sx} (h:ShS y) (wide:Bool):(jH wide y).length≤24*szS y:=by
 have all:∀ (l:List Sx),(∀ y∈l,(jH wide y).length+4≤24*szS y)→(kF wide l).length≤24*yE l:=by
  intro l;induction l with
  | nil=>intro _;simp [kF]
  | cons x l ih =>
    intro h;have h1:=ih fun y hy=>h y (List.mem_cons_of_mem _ hy);have h2:=h x Ym;rw [wZ];simp only [Ya,Yc,Yn,yE];omega
 suffices h:(jH wide y).length+4≤24*szS y by omega
 induction h with
 | set n x h1 h2 h3=>have:=jS h3 wide;simp [jH,szS,kC,yE,h2];omega
 | put n i x h1 h2 h3 h4=>have:=jS h3 wide;have:=jS h4 wide;simp [jH,szS,kC,yE,h2];omega
 | write b x h1 h2 =>
   have:=jS h1 wide;have:=jS h2 wide;have e:(bs "write ").length=6:=Yd;simp [jH,szS,kC,yE,qT,e];omega
 | flush=>have e:(bs "flush").length=5:=by decide
          simp [jH,szS,kC,yE,e]
 | barrier=>have e:(bs "barrier").length=7:=by decide
            simp [jH,szS,kC,yE,e]
 | ifs x t e h1 h2 h3 i1 i2 =>
   have a1:=jS h1 wide;have a2:=all t i1;have a3:=all e i2;have e1:(bs "if ").length=3:=Yd;have e2:(bs "else").length=4:=Yd;by_cases hc:e≠[]∨wide=true
   ·simp [jH,szS,kC,hc,e1,e2];omega
   ·simp [jH,szS,kC,hc,e1];omega
 | loop x b t h1 h2 h3 i1 =>
   have a1:=jS h1 wide;have a2:=all t i1;have e1:(bs "while ").length=6:=Yd;have e2:(bs " bound ").length=7:=Yd;have e3:=jO b h2;simp [jH,szS,kC,yE,e1,e2,e3];omega
 | call n x h1 h2 h3 =>
   have a1:=jS h3 wide;have e1:(bs "call ").length=5:=Yd;simp [jH,szS,kC,yE,qT,e1,h2];omega
theorem xQ {l:List Sx} (h:∀ y∈l,ShS y) (wide:Bool):(kF wide l).length≤28*yE l:=by
 induction l with
 | nil=>simp [kF]
 | cons x l ih =>
   have h1:=ih fun y hy=>h y (List.mem_cons_of_mem _ hy);have h2:=qH2 (h x Ym) wide;have h3:1≤szS x:=by cases x;simp only [szS];omega
   rw [wZ];simp only [Ya,Yc,Yn,yE];omega
theorem ShS.few {y:Sx} (h:ShS y):y.exprs.length≤2:=by cases h <;> simp [Sx.exprs]
theorem ShS.exprs {y:Sx} (h:ShS y):∀ x∈y.exprs,ShX x:=by cases h <;> intro z hz <;> simp [Sx.exprs]at hz <;> (try rcases hz with rfl | rfl) <;> (try subst hz) <;> assumption
theorem kB4 {y:Sx} {x:Ex} (h:x∈y.exprs):szX x≤szS y:=by
 obtain⟨k,n,es,b,t,e⟩:=y;have key:∀ l:List Ex,x∈l→szX x≤kC l:=by
  intro l;induction l with
  | nil=>intro h;cases h
  | cons z l ih =>
    intro h;simp only [kC];rcases lU.1 h with rfl | h
    ·omega
    ·have:=ih h;omega
 have:=key es h;simp only [szS];omega
theorem qC1 {l:List Sx} {y:Sx} (h:y∈l):szS y≤yE l:=by
 induction l with
 | nil=>cases h
 | cons z l ih =>
   simp only [yE];rcases lU.1 h with rfl | h
   ·omega
   ·have:=ih h;omega
theorem jH4:∀ l:List Sx,l.length≤yE l
 | []=>by simp [yE]
 | x :: l=>by
   have h1:=jH4 l;have h3:1≤szS x:=by cases x;simp only [szS];omega
   simp only [yE,Yc];omega
theorem qH3:∀ (l:List Sx) (k:Nat),yE (l.take k)≤yE l
 | [],k=>Ym
 | x :: l,0=>by simp [yE]
 | x :: l,k+1=>by have h1:=qH3 l k;simp only [cR,yE];omega
end
end Go.Proofs.YtfdaebgllibphaaGreatDoor
