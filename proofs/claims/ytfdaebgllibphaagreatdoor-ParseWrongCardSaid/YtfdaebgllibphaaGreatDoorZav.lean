import Derived.Test.YtfdaebgllibphaaGreatDoorZau
set_option linter.unusedVariables false
set_option linter.unusedSimpArgs false
set_option maxRecDepth 100000
set_option maxHeartbeats 16000000
namespace Go.Proofs.YtfdaebgllibphaaGreatDoor
section
open Go.RowKit Go.PlainAid
theorem nmM (s:ByteArray) (w:World):Calls Tryz.prog 79 #[.string s] w fun e w'=>e=.returned (.agg #[uB 2,uB 0,uW 0,uI 0,.string s,uN])∧Below w.heap.size w w':=by
 have HB0:Hid (Below w.heap.size w (w.alloc (.cells #[uB 2,uB 0,uW 0,uI 0,.string s,uN] 31))):=zB;have h0:=Bk.new w 31 #[uB 2,uB 0,uW 0,uI 0,.string s,uN];obtain⟨r0,r1,r2,r3,r4,r5⟩:=zH h0;clear h0;go_enter Tryz.func79,Tryz.ntmps79
 go_wp2_with fail
 refine lK (v:=.agg #[uB 2,uB 0,uW 0,uI 0,.string s,uN]) (by simp [results,Tryz.results79,go_sem,r0,r1,r2,r3,r4,r5]) rfl ?_;exact⟨rfl,HB0.out⟩
theorem nuM (v:Int) (k:Int) (w:World):Calls Tryz.prog 37 #[uW v,uI k] w fun e w'=>e=.returned (.agg #[uB 1,uB 0,uW v,uI k,uT,uN])∧Below w.heap.size w w':=by
 have HB0:Hid (Below w.heap.size w (w.alloc (.cells #[uB 1,uB 0,uW v,uI k,uT,uN] 31))):=zB;have h0:=Bk.new w 31 #[uB 1,uB 0,uW v,uI k,uT,uN];obtain⟨r0,r1,r2,r3,r4,r5⟩:=zH h0;clear h0;go_enter Tryz.func37,Tryz.ntmps37
 go_wp2_with fail
 refine lK (v:=.agg #[uB 1,uB 0,uW v,uI k,uT,uN]) (by simp [results,Tryz.results37,go_sem,r0,r1,r2,r3,r4,r5]) rfl ?_;exact⟨rfl,HB0.out⟩
theorem kJ1:NameOk [120]:=⟨⟨120,[],rfl,Yd,Ym⟩,Yd⟩
structure Lf (w:World) (m:Nat) (D:MD) (r:Nat) (S:SV) (l:List Dx) (W:World):Prop where
 q:MQ w m D W
 o:OwnN w.heap.size W S l
 n:l.length≤7
 b:Bk W r 31 uZ
 r:w.heap.size≤r
theorem Lf.below {w W W':World} {m r:Nat} {D:MD} {S:SV} {l:List Dx} (h0:Mk w m D) (h:Lf w m D r S l W) (hb:Below W.heap.size W W'):Lf w m D r S l W' :=
 ⟨h.q.then h0 hb,h.o.fr (Fr.of_below (F:=fun _=>False) hb) (fun _ _ _ _ e=>e),h.n,zD h.b hb,h.r⟩
theorem Lf.app {w W:World} {m r:Nat} {D:MD} {S:SV} {l:List Dx} (h0:Mk w m D) (h:Lf w m D r S l W) (l2:List Dx) (A:Option Addr) (n c:Nat) (hr:Rd W A (l2.flatMap fun d=>yX d ())) (hn:n=l2.length) (ok:∀ d∈l2,DOk d) (few:l.length+l2.length≤7) :
 ∃ A' c' w',(∀ ty,(Builtin.append_ #[25,25] ty #[.slice S.A S.n S.c,.slice A n c]).run Tryz.prog W=.ok (.slice A' (S.n+n) c') w')∧Lf w m D r ⟨A',S.n+n,c'⟩ (l++l2) w':=by
 have hsz:w.heap.size≤W.heap.size:=h.q.fr.size;obtain⟨A',c',w',h1,h2,h3⟩:=h.o.app hsz l2 A n c hr hn ok (by have:=h.o.2.1;omega);refine⟨A',c',w',h1,h.q.data h0 h3 (fun k _ e=>(h.o.typed e).1),h2,by rw [Ya];exact few,h.b.fr h3 (fun e=>?_),h.r⟩;obtain⟨_,cs,hk⟩:=h.o.typed e;exact hk.ne h.b Yd rfl
theorem MQ.cells {w W:World} {m:Nat} {D:MD} (h:MQ w m D W):W.cell? ⟨m,3,none⟩=some (uI D.W)∧W.cell? ⟨m,4,none⟩=some (.slice D.I.A D.I.n D.I.c)∧W.cell? ⟨m,5,none⟩=some (.slice D.G.A D.G.n D.G.c)∧W.cell? ⟨m,6,none⟩=some (.slice D.V.A D.V.n D.V.c)∧W.cell? ⟨m,24,none⟩=some (.bool D.par)∧∃ A c,W.cell? ⟨m,15,none⟩=some (.slice A D.np c):=by obtain⟨cs,a,hb⟩:=h.k.ex;obtain⟨A,c,hp⟩:=hb.pr;exact⟨(hb.bk.cell 3).trans hb.wd,(hb.bk.cell 4).trans hb.i,(hb.bk.cell 5).trans hb.g,(hb.bk.cell 6).trans hb.v,(hb.bk.cell 24).trans hb.par,A,c,(hb.bk.cell 15).trans hp⟩
theorem kO1:∀ v k:Nat,v<8→k≤3→∃ q:Nat,q≤9∧bits .and .u32 (v:Int) ((2 ^ k-1) % 4294967296)=(q:Int):=by have key:∀ v<8,∀ k<4,0≤bits .and .u32 ((v:Nat):Int) ((2 ^ (k:Nat)-1) % 4294967296)∧bits .and .u32 ((v:Nat):Int) ((2 ^ (k:Nat)-1) % 4294967296)≤9:=Yd;intro v k hv hk;obtain⟨h1,h2⟩:=key v hv k Yo;exact⟨(bits .and .u32 (v:Int) ((2 ^ k-1) % 4294967296)).toNat,Yo,Yo⟩
structure Ln (w:World) (m:Nat) (D:MD) (r:Nat) (S:SV) (l:List Dx) (M:SV) (ml:List (List UInt8)) (W:World):Prop where
 lf:Lf w m D r S l W
 o:OwnM w.heap.size W M ml
theorem Ln.below {w W W':World} {m r:Nat} {D:MD} {S:SV} {l:List Dx} {M:SV} {ml:List (List UInt8)} (h0:Mk w m D) (h:Ln w m D r S l M ml W) (hb:Below W.heap.size W W'):Ln w m D r S l M ml W' :=
 ⟨h.lf.below h0 hb,h.o.fr (Fr.of_below (F:=fun _=>False) hb) (fun _ _ _ _ e=>e)⟩
theorem Ln.push {w W:World} {m r:Nat} {D:MD} {S:SV} {l:List Dx} {M:SV} {ml:List (List UInt8)} (h0:Mk w m D) (h:Ln w m D r S l M ml W) (s:List UInt8) (A:Option Addr) (c:Nat) (hr:Rd W A [uR s]) (ok:NameOk s∧s.length=1) (few:M.n<1000000000) :
 ∃ A' c' w',(∀ ty,(Builtin.append_ #[68,68] ty #[.slice M.A M.n M.c,.slice A 1 c]).run Tryz.prog W=.ok (.slice A' (M.n+1) c') w')∧Ln w m D r S l ⟨A',M.n+1,c'⟩ (ml++[s]) w':=by
 have hsz:w.heap.size≤W.heap.size:=h.lf.q.fr.size;obtain⟨A',c',w',h1,h2,h3⟩:=h.o.push hsz s A c hr ok few;refine⟨A',c',w',h1,⟨⟨h.lf.q.data h0 h3 (fun k _ e=>(h.o.typed e).1),h.lf.o.fr h3 (fun k cs hk _ e=>?_),h.lf.n,h.lf.b.fr h3 (fun e=>?_),h.lf.r⟩,h2⟩⟩
 ·obtain⟨_,cs',hk'⟩:=h.o.typed e;exact hk'.ne hk Yd rfl
 ·obtain⟨_,cs,hk⟩:=h.o.typed e;exact hk.ne h.lf.b Yd rfl
structure Le (w:World) (m:Nat) (D:MD) (r:Nat) (M:SV) (ml:List (List UInt8)) (W:World):Prop where
 q:MQ w m D W
 o:OwnM w.heap.size W M ml
 b:Bk W r 31 uZ
 r:w.heap.size≤r
theorem Le.to {w W W':World} {m r:Nat} {D:MD} {M:SV} {ml:List (List UInt8)} (h0:Mk w m D) (h:Le w m D r M ml W) (hr:r≠m) (hq:MQ W m D W'):Le w m D r M ml W':=by refine⟨h.q.trans hq,h.o.fr hq.fr (fun k cs hk _ e=>?_),hq.bk h.q.k h.b hr,h.r⟩;subst e;obtain⟨c,a,hb⟩:=h.q.k.ex;exact hk.ne hb.bk Yd rfl
theorem Le.below {w W W':World} {m r:Nat} {D:MD} {M:SV} {ml:List (List UInt8)} (h0:Mk w m D) (h:Le w m D r M ml W) (hb:Below W.heap.size W W'):Le w m D r M ml W' :=
 ⟨h.q.then h0 hb,h.o.fr (Fr.of_below (F:=fun _=>False) hb) (fun _ _ _ _ e=>e),zD h.b hb,h.r⟩
theorem kO2 (m:Nat) (D:MD) (k wh:Nat) (hk1:1≤k) (hk3:k≤3) (hwh:wh≤2) (hW1:1≤D.W) (w:World) (h:Hid (Mk w m D)):Calls Tryz.prog 76 #[uQ m 0,uI k,uI wh] w fun e w'=>∃ (x:Ex) (S:SV),e=.returned (.agg (qX x S).toArray)∧MdX 1 1 x∧TX (fun b=>w.heap.size≤b) w' x S∧MQ w m D w':=by
 have hQ0:MQ w m D (w.alloc (.cells uZ 31)):=(MQ.refl h.out).then h.out zB;have hR0:=Bk.new w 31 uZ;have hz:(w.alloc (.cells uZ 31)).heap.size=w.heap.size+1:=lO _ _;have hmw:m<w.heap.size:=h.out.lt;obtain⟨PW,hPW⟩:∃ P:Nat→Prop,P=fun b=>w.heap.size≤b:=⟨_,rfl⟩;rw [←hPW];clear hPW;have HQ:=Ph hQ0;have HR:=Ph hR0;clear hQ0 hR0;go_enter Tryz.func76,Tryz.ntmps76
 go_upto_region 2 with fail
 generalize (w.alloc _)=W0 at *;obtain⟨r,hr⟩:∃ r,w.heap.size=r:=⟨_,rfl⟩;rw [hr]at HR ⊢;have hwr:w.heap.size≤r:=Nat.le_of_eq hr;have hrm:r≠m:=Yo;have HWR:=Ph hwr;clear hr hz hmw hwr;obtain⟨c3,c4,c5,c6,c24,Ap,cp,c15⟩:=HQ.out.cells;go_wp2_with fail
 refine(qX3 D.I.A D.I.n D.I.c (D.Il.flatMap fun d=>yX d ()) W0 (Ph HQ.out.k.is.rd.rd) (Ph (by rw [zJ9,HQ.out.k.is.n])) (Ph (zK1 _)) (by have:=HQ.out.k.is.n;have:=HQ.out.k.is.few;omega)).mono ?_;rintro e w1 ⟨A,c,rfl,hown,hb⟩;have HL:Hid (Lf w m D r ⟨A,D.I.n,c⟩ D.Il w1):=Ph ⟨HQ.out.then h.out hb,⟨qG9 hown HQ.out.fr.size,HQ.out.k.is.n,HQ.out.k.is.ok⟩,by have:=HQ.out.k.is.few;omega,zD HR.out hb,HWR.out⟩;have HL2:Hid (D.Il.length≤2):=Ph HQ.out.k.is.few;clear hown hb HQ HR c3 c4 c5 c6 c24 c15;go_upto_if 19 with fail
 go_cut [8] (fun v8 wx=>∃ (S:SV) (l:List Dx),v8=.slice S.A S.n S.c∧Hid (Lf w m D r S l wx)∧Hid (l.length≤4))
 case first =>
  by_cases hc:wh≠1
  ·have e1:((wh:Int) != 1)=true:=by simp;omega
   clear hc;obtain⟨c3,c4,c5,c6,c24,Ap,cp,c15⟩:=HL.out.q.cells;obtain⟨A',c',w2,hrun,hlf⟩:=HL.out.app h.out D.Gl D.G.A D.G.n D.G.c HL.out.q.k.gs.rd.rd HL.out.q.k.gs.n HL.out.q.k.gs.ok (by have:=HL.out.q.k.gs.few;have:=HL2.out;omega);have HRUN:=Ph hrun;have HLn:=Ph hlf;have HF:=Ph (show(D.Il++D.Gl).length≤4 by rw [Ya];have:=HL.out.q.k.gs.few;have:=HL2.out;omega);clear hrun hlf;go_wp2_with (at_builtin;refine jL rfl (.tmp 20) (.tmp 25) rfl _ _ _ rfl rfl (HRUN.out _) ?_)
   go_meet
   exact⟨_,_,rfl,HLn,HF⟩
  ·have e1:((wh:Int) != 1)=false:=by simp;omega
   clear hc;go_wp2_with fail
   go_meet
   exact⟨_,_,rfl,HL,Ph (by have:=HL2.out;omega)⟩
 case rest =>
 obtain⟨S19,L19,rfl,HLn,HFn⟩:=hcut;clear HL HL2;have HL:=HLn;have HL2:=HFn;clear HLn HFn;generalize wc=W19 at *;go_upto_if 28 with fail
 go_cut [8] (fun v8 wx=>∃ (S:SV) (l:List Dx),v8=.slice S.A S.n S.c∧Hid (Lf w m D r S l wx)∧Hid (l.length≤7))
 case first =>
  by_cases hc:wh=0
  ·have e1:((wh:Int) == 0)=true:=by simp;omega
   clear hc;obtain⟨c3,c4,c5,c6,c24,Ap,cp,c15⟩:=HL.out.q.cells;obtain⟨A',c',w2,hrun,hlf⟩:=HL.out.app h.out D.Vl D.V.A D.V.n D.V.c HL.out.q.k.vs.rd.rd HL.out.q.k.vs.n HL.out.q.k.vs.ok (by have:=HL.out.q.k.vs.few;have:=HL2.out;omega);have HRUN:=Ph hrun;have HLn:=Ph hlf;have HF:=Ph (show(L19++D.Vl).length≤6 by rw [Ya];have:=HL.out.q.k.vs.few;have:=HL2.out;omega);clear hrun hlf;have HWd:Hid (1≤D.W∧D.W≤3):=Ph ⟨hW1,HL.out.q.k.w3⟩;clear HL HL2;obtain⟨d3,d4,d5,d6,d24,Ap2,cp2,d15⟩:=HLn.out.q.cells;generalize hl:L19++D.Vl=L20 at *;generalize hn:S19.n+D.V.n=n20 at *;clear hl hn;rcases Bool.eq_false_or_eq_true D.par with hp | hp
   ·rw [hp]at d24;have HL3:Hid (Lf w m D r ⟨A',n20,c'⟩ L20 (w2.alloc (.cells #[.string (str [120]),uI D.W,uI 0] 87))):=Ph (HLn.out.below h.out zB);have hrd:Rd (w2.alloc (.cells #[.string (str [120]),uI D.W,uI 0] 87)) (some ⟨w2.heap.size,0,none⟩) ([(⟨[120],D.W,0⟩:Dx)].flatMap fun d=>yX d ()):=Rd.new _ _ _;obtain⟨A3,c3',w3,hrun3,hlf3⟩:=HL3.out.app h.out [⟨[120],D.W,0⟩] _ 1 1 hrd rfl (fun d hd=>by simp at hd;subst hd;have hw:=HWd.out;exact⟨kJ1,rfl,(by show(1:Int)≤(D.W:Int);omega),(by show(D.W:Int)≤3;omega)⟩) (by have:=HF.out;simp;omega);have HRUN3:=Ph hrun3;have HL4:=Ph hlf3;have HF4:Hid ((L20++[(⟨[120],D.W,0⟩:Dx)]).length≤7):=Ph (by rw [Ya];have:=HF.out;simp;omega);clear hrun3 hlf3 hrd c3 c4 c5 c24 c15;go_wp2_with (at_builtin;first | refine jL rfl (.tmp 29) (.tmp 34) rfl _ _ _ rfl rfl (HRUN.out _) ?_ | refine jL rfl (.tmp 40) (.tmp 47) rfl _ _ _ rfl rfl (HRUN3.out _) ?_)
    go_meet
    exact⟨_,_,rfl,HL4,HF4⟩
   ·rw [hp]at d24;clear c3 c4 c5 c24 c15;have HF4:Hid (L20.length≤7):=Ph (by have:=HF.out;omega);go_wp2_with (at_builtin;refine jL rfl (.tmp 29) (.tmp 34) rfl _ _ _ rfl rfl (HRUN.out _) ?_)
    go_meet
    exact⟨_,_,rfl,HLn,HF4⟩
  ·have e1:((wh:Int) == 0)=false:=by simp;omega
   clear hc;go_wp2_with fail
   go_meet
   exact⟨_,_,rfl,HL,Ph (by have:=HL2.out;omega)⟩
 case rest =>
 obtain⟨S28,L28,rfl,HLn,HFn⟩:=hcut;clear HL HL2;have HL:=HLn;have HL2:=HFn;clear HLn HFn;generalize wc=W28 at *;obtain⟨SA,Sn,Sc⟩:=S28;have HSn:Hid (Sn=L28.length):=Ph HL.out.o.2.1;have hSn7:Sn≤7:=by have:=HSn.out;have:=HL2.out;omega
 have HN0:Hid (Ln w m D r ⟨SA,Sn,Sc⟩ L28 zK [] W28):=Ph ⟨HL.out,World.ownsRow_nil _ _ _ _,rfl,fun s hs=>by cases hs⟩;clear HL HL2;go_wp2_with fail
 go_loopw [7,51] (fun v7 v51 wr=>∃ (j:Nat) (M:SV) (ml:List (List UInt8)),j≤Sn∧v51=uI j∧v7=.slice M.A M.n M.c∧M.n≤j∧Hid (Ln w m D r ⟨SA,Sn,Sc⟩ L28 M ml wr)) (fun _ v51 _=>Sn-(intOf v51).toNat)
 case atStart=>exact⟨0,zK,[],lV _,rfl,rfl,lF _,HN0⟩
 case round =>
  obtain⟨j,M,ml,hj,rfl,rfl,hMj,HN⟩:=hrel;clear HN0;by_cases hlt:j<Sn
  ·have e1:decide ((j:Int)<(Sn:Int))=true:=by simp;omega
   have hji:(j:Int)<(Sn:Int):=Yo;have wj:IntKind.i64.wrap ((j:Int)+1)=((j+1:Nat):Int):=by rw [lL];omega
   obtain⟨bb,off,d,hA,hx,hbb,hc⟩:=Rd.flat (f:=fun d=>yX d ()) (m:=3) (fun _=>rfl) Yo (i:=j) (RdT.of_own HN.out.lf.o.1).rd (by rw [←HSn.out];exact hlt);subst hA;have hdk:=HN.out.lf.o.2.2 d (cD hx);have c0:wr.cell? ⟨bb,off+j*3,none⟩=some (uR d.name):=hc 0 _ Yo rfl;have c1:wr.cell? ⟨bb,off+j*3+1,none⟩=some (uI d.width):=hc 1 _ Yo rfl;have c2:wr.cell? ⟨bb,off+j*3+2,none⟩=some (uI d.size):=hc 2 _ Yo rfl;clear hc hx;have HDK:=Ph hdk;clear hdk;by_cases hw:d.width=(k:Int)
   ·rw [hw]at c1;have HN1:=Ph ((HN.out.below h.out (zB (o:=.cells #[uR d.name,uI k,uI d.size] 87))).below h.out (zB (o:=.cells #[uR d.name] 9)));have hz:(wr.alloc (.cells #[uR d.name,uI k,uI d.size] 87)).heap.size=wr.heap.size+1:=lO _ _;have hrd:=Rd.new (wr.alloc (.cells #[uR d.name,uI k,uI d.size] 87)) #[uR d.name] 9;rw [hz]at hrd;obtain⟨A',c',w3,hrun,hln⟩:=HN1.out.push h.out d.name _ 1 hrd ⟨HDK.out.n,HDK.out.l⟩ Yo;have HRUN:=Ph hrun;have HN2:=Ph hln;clear hrun hln hrd hz HN1;go_wp2_with (at_builtin;refine jL rfl (.tmp 59) (.tmp 62) rfl _ _ _ rfl rfl (HRUN.out _) ?_)
    go_roundw
    case rel=>exact⟨j+1,_,_,Yo,by go_num,rfl,by show M.n+1≤j+1;omega,HN2⟩
    case measure=>simp [intOf];omega
   ·have ew:(d.width == (k:Int))=false:=by simp;exact hw
    have HN1:=Ph (HN.out.below h.out (zB (o:=.cells #[uR d.name,uI d.width,uI d.size] 87)));go_wp2_with fail
    go_roundw
    case rel=>exact⟨j+1,_,_,Yo,by go_num,rfl,by show M.n≤j+1;omega,HN1⟩
    case measure=>simp [intOf];omega
  ·obtain rfl:j=Sn:=by omega
   have e1:decide ((j:Int)<(j:Int))=false:=Ym;have HE:Hid (Le w m D r M ml wr):=Ph ⟨HN.out.lf.q,HN.out.o,HN.out.lf.b,HN.out.lf.r⟩;clear HN;generalize wr=W9 at *;go_wp2_with fail
   refine(vR m D 8 Yo Yo _ (Ph HE.out.q.k)).mono ?_;rintro e w4 ⟨v,hv,rfl,hq⟩;have HE4:=Ph (HE.out.to h.out hrm hq);clear hq HE;obtain⟨f0,f1,f2,f3,f4,f5,_⟩:=zZ HE4.out.b;by_cases hc:2<v∧0<M.n
   ·have ec1:decide ((v:Int)>2)=true:=by simp;omega
    have ec2:decide ((M.n:Int)>0)=true:=Yp;have en:((M.n:Int) == 0)=false:=Yp;obtain⟨r7,hr7⟩:∃ r7:Nat,v % M.n=r7:=⟨_,rfl⟩;have hlt7:r7<M.n:=by rw [←hr7];exact Nat.mod_lt _ hc.2
    have et:(v:Int).tmod (M.n:Int)=(r7:Int):=by rw [←hr7,Int.ofNat_tmod]
    have e70:(0:Int)≤(r7:Int):=Yo;have e71:(r7:Int)<(M.n:Int):=Yo;obtain⟨bb,off,nm,hA,hx,hcl⟩:=Rd.getm (RdT.of_own HE4.out.o.1).rd HE4.out.o.2.1.symm hlt7;have HNM:=Ph (HE4.out.o.2.2 nm (cD hx));have HX:=Ph hx;clear hx hr7;rw [hA]at *;go_wp2_with fail
    refine(nmM _ _).mono ?_;rintro e w5 ⟨rfl,hb5⟩;have HE5:=Ph (HE4.out.below h.out hb5);clear hb5 HE4 hcl f0 f1 f2 f3 f4 f5;obtain⟨f0,f1,f2,f3,f4,f5,_⟩:=zZ HE5.out.b;obtain⟨g0,g1,g2,g3,g4,g5⟩:=zH HE5.out.b;have HF:=Ph (fr6 w5 r (uB 2) (uB 0) (uW 0) (uI 0) (uR nm) (uN));have HK:=Ph (put6 (v0:=uB 2) (v1:=uB 0) (v2:=uW 0) (v3:=uI 0) (v4:=uR nm) (v5:=uN) HE5.out.b);go_wp2_with fail
    generalize (World.setCell _ _ _)=WF at HF HK ⊢;obtain⟨r0,r1,r2,r3,r4,r5⟩:=zH HK.out;refine lK (v:=.agg #[uB 2,uB 0,uW 0,uI 0,uR nm,uN]) (by simp [results,Tryz.results76,go_sem,r0,r1,r2,r3,r4,r5]) rfl ?_;have hsh:ShX (.mk 2 0 0 0 nm []):=.var nm HNM.out.1 HNM.out.2;exact⟨.mk 2 0 0 0 nm [],zK,rfl,⟨hsh,by simp [szX,kC],by simp [htX,vJ]⟩,TX.leaf ⟨by show(2:Nat)≤255;omega,by show(0:Nat)≤255;omega,by show(0:Nat)≤4294967295;omega,by show(-9223372036854775808:Int)≤0;omega,by show(0:Int)≤9223372036854775807;omega,by show nm.length≤1000000;have:=HNM.out.2;omega,by show(0:Nat)≤1000;omega⟩ rfl,HE5.out.q.box h.out HF.out HE5.out.r⟩
   ·obtain⟨q,hq9,hqe⟩:=kO1 v k hv hk3;obtain⟨q',hq9',hqe'⟩:∃ q':Nat,q'≤9∧bits .and .u32 (v:Int) ((2 ^ k-1) % 4294967296)=(q':Int):=⟨q,hq9,hqe⟩;have HQE:=Ph hqe';clear hqe hqe' hq9;by_cases hc2:2<v
    ·have ec1:decide ((v:Int)>2)=true:=by simp;omega
     have ec2:decide ((M.n:Int)>0)=false:=Yp;go_wp2_with fail
     rw [HQE.out];refine(nuM _ _ _).mono ?_;rintro e w5 ⟨rfl,hb5⟩;have HE5:=Ph (HE4.out.below h.out hb5);clear hb5 HE4 f0 f1 f2 f3 f4 f5;obtain⟨f0,f1,f2,f3,f4,f5,_⟩:=zZ HE5.out.b;obtain⟨g0,g1,g2,g3,g4,g5⟩:=zH HE5.out.b;have HF:=Ph (fr6 w5 r (uB 1) (uB 0) (uW q') (uI k) (uT) (uN));have HK:=Ph (put6 (v0:=uB 1) (v1:=uB 0) (v2:=uW q') (v3:=uI k) (v4:=uT) (v5:=uN) HE5.out.b);go_wp2_with fail
     generalize (World.setCell _ _ _)=WF at HF HK ⊢;obtain⟨r0,r1,r2,r3,r4,r5⟩:=zH HK.out;refine lK (v:=.agg #[uB 1,uB 0,uW q',uI k,uT,uN]) (by simp [results,Tryz.results76,go_sem,r0,r1,r2,r3,r4,r5]) rfl ?_;have hsh:ShX (.mk 1 0 q' k [] []):=.num q' k hq9' Yo;exact⟨.mk 1 0 q' k [] [],zK,rfl,⟨hsh,by simp [szX,kC],by simp [htX,vJ]⟩,TX.leaf ⟨by show(1:Nat)≤255;omega,by show(0:Nat)≤255;omega,by show q'≤4294967295;omega,by show(-9223372036854775808:Int)≤(k:Int);omega,by show(k:Int)≤9223372036854775807;omega,by show(0:Nat)≤1000000;omega,by show(0:Nat)≤1000;omega⟩ rfl,HE5.out.q.box h.out HF.out HE5.out.r⟩
    ·have ec1:decide ((v:Int)>2)=false:=by simp;omega
     go_wp2_with fail
     rw [HQE.out];refine(nuM _ _ _).mono ?_;rintro e w5 ⟨rfl,hb5⟩;have HE5:=Ph (HE4.out.below h.out hb5);clear hb5 HE4 f0 f1 f2 f3 f4 f5;obtain⟨f0,f1,f2,f3,f4,f5,_⟩:=zZ HE5.out.b;obtain⟨g0,g1,g2,g3,g4,g5⟩:=zH HE5.out.b;have HF:=Ph (fr6 w5 r (uB 1) (uB 0) (uW q') (uI k) (uT) (uN));have HK:=Ph (put6 (v0:=uB 1) (v1:=uB 0) (v2:=uW q') (v3:=uI k) (v4:=uT) (v5:=uN) HE5.out.b);go_wp2_with fail
     generalize (World.setCell _ _ _)=WF at HF HK ⊢;obtain⟨r0,r1,r2,r3,r4,r5⟩:=zH HK.out;refine lK (v:=.agg #[uB 1,uB 0,uW q',uI k,uT,uN]) (by simp [results,Tryz.results76,go_sem,r0,r1,r2,r3,r4,r5]) rfl ?_;have hsh:ShX (.mk 1 0 q' k [] []):=.num q' k hq9' Yo;exact⟨.mk 1 0 q' k [] [],zK,rfl,⟨hsh,by simp [szX,kC],by simp [htX,vJ]⟩,TX.leaf ⟨by show(1:Nat)≤255;omega,by show(0:Nat)≤255;omega,by show q'≤4294967295;omega,by show(-9223372036854775808:Int)≤(k:Int);omega,by show(k:Int)≤9223372036854775807;omega,by show(0:Nat)≤1000000;omega,by show(0:Nat)≤1000;omega⟩ rfl,HE5.out.q.box h.out HF.out HE5.out.r⟩
end
end Go.Proofs.YtfdaebgllibphaaGreatDoor
