import Derived.Test.YtfdaebgllibphaaGreatDoorWar
set_option linter.unusedVariables false
set_option linter.unusedSimpArgs false
set_option maxRecDepth 100000
set_option maxHeartbeats 16000000
namespace Go.Proofs.YtfdaebgllibphaaGreatDoor
open Go.Proofs.Tryz
section
open Go.RowKit Go.PlainAid
theorem RowG.at {α β:Type} {c:α→β→List Value} {t:TypeId} {A:(Nat→Prop)→World→α→β→Prop} {P:Nat→Prop} {w:World} {l:List α} {S:SV} {m:Nat} (hc:∀ x v,(c x v).length=m) (hm:0<m) (h:RowG c t A P w l S) {i:Nat} (hi:i<S.n) :
 ∃ b off y v,S.A=some ⟨b,off,none⟩∧l[i]?=some y∧A P w y v∧b<w.heap.size∧∀ j u,j<m→(c y v)[j]?=some u→w.cell? ⟨b,off+(i*m+j),none⟩=some u:=by
 cases h with
 | mk vs hl hn hP rd all =>
   obtain⟨b,off,p,hA,hp,hb,hcl⟩:=rd.rd.flat (f:=fun p:α×β=>c p.1 p.2) (m:=m) (fun p=>hc _ _) hm (L:=l.zip vs) (i:=i) (by rw [List.length_zip,hl,Nat.min_self,←hn];exact hi);obtain⟨y,v⟩:=p;obtain⟨h1,h2⟩:=List.getElem?_zip_eq_some.1 hp;exact⟨b,off,y,v,hA,h1,all i y v h1 h2,hb,hcl⟩
theorem StsP.at {P:Nat→Prop} {w:World} {l:List Sx} {S:SV} (h:StsP P w l S) {i:Nat} (hi:i<S.n) :
 ∃ b off y v,S.A=some ⟨b,off,none⟩∧l[i]?=some y∧SxP P w y v∧b<w.heap.size∧∀ j u,j<6→(zC6 y v)[j]?=some u→w.cell? ⟨b,off+(i*6+j),none⟩=some u:=by
 cases h with
 | mk _ _ vs hl hn hP rd ok ex th el =>
   obtain⟨b,off,p,hA,hp,hb,hcl⟩:=rd.rd.flat (f:=fun p:Sx×(SV×SV×SV)=>zC6 p.1 p.2) (m:=6) (fun p=>rfl) Yo (L:=l.zip vs) (i:=i) (by rw [List.length_zip,hl,Nat.min_self,←hn];exact hi);obtain⟨y,v⟩:=p;obtain⟨h1,h2⟩:=List.getElem?_zip_eq_some.1 hp;exact⟨b,off,y,v,hA,h1,⟨ok i y v h1 h2,ex i y v h1 h2,th i y v h1 h2,el i y v h1 h2⟩,hb,hcl⟩
def OwnT (B:Nat) (w:World) (S:SV) (l:List (List UInt8)):Prop:=w.ownsRow B 9 1 (.slice S.A S.n S.c) S.n (l.map fun s=>uR s)∧S.n=l.length
theorem OwnT.typed {B:Nat} {w:World} {S:SV} {l:List (List UInt8)} (h:OwnT B w S l) {k:Nat} (hk:(Value.slice S.A S.n S.c).ownBlock=some k):B≤k∧∃ cs,Bk w k 9 cs:=qF h.1 k hk
theorem OwnT.below {B:Nat} {w w':World} {S:SV} {l:List (List UInt8)} (h:OwnT B w S l) (hb:Below w.heap.size w w'):OwnT B w' S l:=⟨jP h.1 (Fr.of_below (F:=fun _=>False) hb) (fun _ _ e=>e),h.2⟩
theorem OwnT.push {B:Nat} {w:World} {S:SV} {l:List (List UInt8)} (h:OwnT B w S l) (hB:B≤w.heap.size) (s:List UInt8) (A:Option Addr) (c:Nat) (hr:Rd w A [uR s]) (few:S.n<1000000000) :
 ∃ A' c' w',(∀ ty,(Builtin.append_ #[68,68] ty #[.slice S.A S.n S.c,.slice A 1 c]).run prog w=.ok (.slice A' (S.n+1) c') w')∧OwnT B w' ⟨A',S.n+1,c'⟩ (l++[s])∧Fr (fun k=>(Value.slice S.A S.n S.c).ownBlock=some k) w w':=by
 obtain⟨A',c',w',hrun,ho,hg,hat⟩:=zG6 kI5 0 B _ S.n _ h.1 A 1 c [uR s] hr rfl (by simp [Value.oneCell']) Yo hB;refine⟨A',c',w',fun ty=>hrun,⟨?_,by rw [Ya,←h.2];rfl⟩,(Fr.refl _ _).grown hg (fun k hk=>.inl hk)⟩;rw [cB];exact ho
theorem OwnT.cell {B:Nat} {w:World} {S:SV} {l:List (List UInt8)} (h:OwnT B w S l) {i:Nat} {t:List UInt8} (hi:l[i]?=some t):∃ b off,S.A=some ⟨b,off,none⟩∧w.cell? ⟨b,off+i,none⟩=some (uR t)∧(i:Int)<(S.n:Int)∧b<w.heap.size:=by
 have hlt:i<l.length:=by
  rcases Nat.lt_or_ge i l.length with h | h
  ·exact h
  ·rw [cW h]at hi;cases hi
 obtain⟨b,off,x,h1,h2,h3⟩:=Rd.getm (k:=i) (Rd.of_own h.1) rfl hlt;rw [hi]at h2;injection h2 with h2;subst h2;exact⟨b,off,h1,h3,by have:=h.2;omega,World.block_lt_of_cell? w _ h3⟩
theorem kB5 {B n c s:Nat} {w:World} {e:TypeId} {A:Option Addr} {xs:List Value} (h:w.ownsRow B e s (.slice A n c) n xs):n≤c:=by
 rcases h.2 with⟨h0,h1⟩ | ⟨g,cap,cur,h0,_,_,h1,_⟩
 ·omega
 ·injection h0 with _ _ h0;omega
theorem zU7 (l:List (List UInt8)):(l.map str).map (·.data.toList)=l:=by
 induction l with
 | nil=>rfl
 | cons x l ih=>rw [lY,lY,ih];rfl
theorem zO5:∀ l:List (List UInt8),Lib.join l [44]=qT l
 | []=>rfl
 | [x]=>by simp [Lib.join,qT]
 | x :: y :: l=>by have h:=zO5 (y :: l);show Lib.join (x :: y :: l) [44]=x++[44]++qT (y :: l);rw [←h];simp [Lib.join]
theorem kB6 {B:Nat} {w:World} {S:SV} {l:List (List UInt8)} (h:Ud (OwnT B w S l)) (hl:(qT l).length≤1000000) (hn:l.length≤1000):Calls prog 40 #[.slice S.A S.n S.c,.string ⟨#[44]⟩] w fun e w'=>e=.returned (.string (str (qT l)))∧Below w.heap.size w w':=by
 cases l with
 | nil =>
   have h0:S.n=0:=h.o.2;rw [h0];exact(Tryz.strings_Join_none S.A S.c _ w).mono fun e w' h=>⟨h.1,h.2▸lB _ _⟩
 | cons x l =>
   obtain⟨b,off,hA,hc,hlt,hb⟩:=h.o.cell (i:=0) (t:=x) rfl;have hcap:=kB5 h.o.1;have hlen:=h.o.2;rw [hA];have h1:=Tryz.strings_Join b off S.c ((x :: l).map str) ⟨#[44]⟩ w (fun j y hj=>by
    rw [cS]at hj;cases hq:(x :: l)[j]? with
    | none=>rw [hq]at hj;cases hj
    | some t =>
      rw [hq]at hj;injection hj with hj;subst hj;obtain⟨b',off',hA',hc',_,_⟩:=h.o.cell hq;rw [hA]at hA';injection hA' with hA';injection hA' with e1 e2;subst e1 e2;exact hc') hb (by rw [lW];omega) (by rw [lW,←hlen];exact hcap) (by
      rw [zU7];show(Lib.join _ [44]).length≤_;rw [zO5];omega)
   rw [lW,←hlen]at h1;refine h1.mono ?_;rintro e w' ⟨rfl,hb⟩;refine⟨?_,hb⟩;show Ending.returned (.string ⟨(Lib.join _ [44]).toArray⟩)=_;rw [zU7,zO5];rfl
def zC4 (l:List Sx):Prop:=∀ (wide:Bool) (S:SV) (P:Nat→Prop) (W:World),Ud (StsP P W l S)→Calls prog 28 #[.slice S.A S.n S.c,.bool wide] W fun e w'=>e=.returned (.string (str (jJ wide l)))∧Below W.heap.size W w'
theorem zP8 {B:Nat} (w:World) (n:Nat) (h:B≤w.heap.size):Below B w (w.drewN n):=((Fr.refl (fun _=>False) w).drewN n).below B h (fun _ _ e=>e)
theorem jU9:bs "write " = [119,114,105,116,101,32]:=Yd
theorem jV1:bs "flush" = [102,108,117,115,104]:=Yd
theorem jV2:bs "barrier" = [98,97,114,114,105,101,114]:=Yd
theorem jV3:bs "if " = [105,102,32]:=Yd
theorem jV4:bs "else" = [101,108,115,101]:=Yd
theorem qH4:bs "while " = [119,104,105,108,101,32]:=Yd
theorem qH5:bs " bound " = [32,98,111,117,110,100,32]:=Yd
theorem qH6:bs "call " = [99,97,108,108,32]:=Yd
theorem TX.te {P:Nat→Prop} {w:World} {x:Ex} {S:SV} (h:TX P w x S):TE w x S:=h.toAt (fun _ _=>lV _)
theorem kB7 (l:List Sx) (hs:Ud (∀ y∈l,ShS y)) (hz:yE l≤30000) (IH:Ud (∀ y∈l,zC4 y.thn∧zC4 y.els)):zC4 l:=by
 intro wide S P W hT;obtain⟨SA,Sn,Sc⟩:=S;have HLN:Ud (Sn=l.length):=Ph hT.o.len;have hn:Sn≤30000:=by have h1:=HLN.o;have h2:=jH4 l;omega
 have HB:Ud (∀ k,(kF wide (l.take k)).length≤840000):=Ph fun k=>by have h1:=xQ (l:=l.take k) (fun y hy=>hs.o y (List.mem_of_mem_take hy)) wide;have h2:=qH3 l k;omega
 have HZL:=Ph hz;clear hz;go_enter func28,ntmps28
 go_wp2_with fail
 go_loopw [5,13] (fun v5 v13 wr=>∃ k:Nat,k≤Sn∧v13=uI k∧v5=.string (str ([123]++kF wide (l.take k)))∧Ud (Below W.heap.size W wr)) (fun _ v13 _=>Sn-(intOf v13).toNat)
 case atStart=>exact⟨0,lV _,rfl,rfl,Ph (lB _ _)⟩
 case round =>
  obtain⟨k,hk,rfl,rfl,HW⟩:=hrel;have hU:=HB.o k;obtain⟨U,hUe⟩:∃ u,[123]++kF wide (l.take k)=u:=⟨_,rfl⟩;have hUl:U.length≤840001:=by rw [←hUe];simp only [Ya,Yc,Yn];omega
  have HU:=Ph hUe;rw [hUe];clear hU hUe;by_cases hlt:k<Sn
  ·have e1:decide ((k:Int)<(Sn:Int))=true:=by simp;omega
   have hki:(k:Int)<(Sn:Int):=Yo;have wk:IntKind.i64.wrap ((k:Int)+1)=((k+1:Nat):Int):=by rw [lL];omega
   obtain⟨bb,off,y,v,hA,hx,hsx,hbb,hc⟩:=(hT.o.stay (Stays.below HW.o)).at (i:=k) hlt;(try dsimp only at hA);subst hA;have HSX:=Ph hsx;have HX:=Ph hx;have HSH:Ud (ShS y):=Ph (hs.o y (cD hx));have HIH:Ud (zC4 y.thn∧zC4 y.els):=Ph (IH.o y (cD hx));obtain⟨⟨eA,en,ec⟩,⟨tA,tn,tc⟩,⟨lA,ln,lc⟩⟩:=v;have c0:wr.cell? ⟨bb,off+k*6,none⟩=some (uB y.kind):=hc 0 _ Yo rfl;have c1:wr.cell? ⟨bb,off+k*6+1,none⟩=some (uR y.name):=hc 1 _ Yo rfl;have c2:wr.cell? ⟨bb,off+k*6+2,none⟩=some (.slice eA en ec):=hc 2 _ Yo rfl;have c3:wr.cell? ⟨bb,off+k*6+3,none⟩=some (uI y.bound):=hc 3 _ Yo rfl;have c4:wr.cell? ⟨bb,off+k*6+4,none⟩=some (.slice tA tn tc):=hc 4 _ Yo rfl;have c5:wr.cell? ⟨bb,off+k*6+5,none⟩=some (.slice lA ln lc):=hc 5 _ Yo rfl;have HEN:Ud (en=y.exprs.length∧y.exprs.length≤2):=Ph ⟨HSX.o.ex.len,HSH.o.few⟩;have hen:en≤2:=by have:=HEN.o;omega
   clear hc hx hsx hbb;go_upto_region 6 with fail
   have HK1:=Ph (Bk.new wr 108 #[uB y.kind,uR y.name,.slice eA en ec,uI y.bound,.slice tA tn tc,.slice lA ln lc]);have HW1:Ud (Below W.heap.size W (wr.alloc (.cells #[uB y.kind,uR y.name,.slice eA en ec,uI y.bound,.slice tA tn tc,.slice lA ln lc] 108))):=Ph (HW.o.trans (zB.mono HW.o.size));have HS1:Ud (SxP P (wr.alloc (.cells #[uB y.kind,uR y.name,.slice eA en ec,uI y.bound,.slice tA tn tc,.slice lA ln lc] 108)) y (⟨eA,en,ec⟩,⟨tA,tn,tc⟩,⟨lA,ln,lc⟩)):=Ph (itS.stay _ _ _ _ _ (Stays.below zB) HSX.o);generalize (wr.alloc _)=W1 at HK1 HW1 HS1 ⊢;obtain⟨sb,hsb⟩:∃ b,wr.heap.size=b:=⟨_,rfl⟩;rw [hsb]at HK1 ⊢;clear hsb c0 c1 c2 c3 c4 c5 HSX HW hT;have HZY:Ud (∀ x∈y.exprs,ShX x∧szX x≤50000):=Ph fun x hx=>⟨HSH.o.exprs x hx,by have:=kB4 hx;have:=qC1 (cD HX.o);have:=HZL.o;omega⟩;obtain⟨g0,g1,g2,g3,g4,g5⟩:=zH HK1.o;go_wp2_with fail
   go_loopw [8,20] (fun v8 v20 wi=>∃ (j:Nat) (S8:SV),j≤en∧v20=uI j∧v8=.slice S8.A S8.n S8.c∧Ud (OwnT W1.heap.size wi S8 ((y.exprs.take j).map (zP wide)))∧Ud (Below W1.heap.size W1 wi)) (fun _ v20 _=>en-(intOf v20).toNat)
   case atStart=>exact⟨0,zK,lV _,rfl,rfl,Ph ⟨World.ownsRow_nil _ _ _ _,rfl⟩,Ph (lB _ _)⟩
   case round =>
    obtain⟨j,S8,hj,rfl,rfl,HO,HI⟩:=hrel;clear g0 g1 g2 g3 g4 g5;have HKi:=Ph (zD HK1.o HI.o);obtain⟨g0,g1,g2,g3,g4,g5⟩:=zH HKi.o;by_cases hjl:j<en
    ·have e2:decide ((j:Int)<(en:Int))=true:=by simp;omega
     have hji:(j:Int)<(en:Int):=Yo;have wj:IntKind.i64.wrap ((j:Int)+1)=((j+1:Nat):Int):=by rw [lL];omega
     obtain⟨bx,ox,x,⟨vA,vn,vc⟩,hxA,hxx,htx,hxb,hxc⟩:=(HS1.o.ex.stay itX qW (Stays.below HI.o)).at wO Yo (i:=j) hjl;(try dsimp only at hxA);subst hxA;have HTE:=Ph htx.te;obtain⟨hsh,hsz⟩:=HZY.o x (cD hxx);have HTX:=Ph (jQ4 hsh hsz);have HTK:Ud ((y.exprs.take (j+1)).map (zP wide)=(y.exprs.take j).map (zP wide)++[zP wide x]):=Ph (by rw [List.take_add_one,hxx];simp);have c0:wr.cell? ⟨bx,ox+j*6,none⟩=some (uB x.kind):=hxc 0 _ Yo rfl;have c1:wr.cell? ⟨bx,ox+j*6+1,none⟩=some (uB x.op):=hxc 1 _ Yo rfl;have c2:wr.cell? ⟨bx,ox+j*6+2,none⟩=some (uW x.value):=hxc 2 _ Yo rfl;have c3:wr.cell? ⟨bx,ox+j*6+3,none⟩=some (uI x.width):=hxc 3 _ Yo rfl;have c4:wr.cell? ⟨bx,ox+j*6+4,none⟩=some (uR x.name):=hxc 4 _ Yo rfl;have c5:wr.cell? ⟨bx,ox+j*6+5,none⟩=some (.slice vA vn vc):=hxc 5 _ Yo rfl;clear hxc hxx htx hxb hsh hsz;go_upto_region 9 with fail
     have HK2:=Ph (Bk.new wr 31 #[uB x.kind,uB x.op,uW x.value,uI x.width,uR x.name,.slice vA vn vc]);have HI2:Ud (Below wr.heap.size wr (wr.alloc (.cells #[uB x.kind,uB x.op,uW x.value,uI x.width,uR x.name,.slice vA vn vc] 31))):=Ph zB;generalize (wr.alloc _)=W3 at HK2 HI2 ⊢;obtain⟨xb,hxb⟩:∃ b,wr.heap.size=b:=⟨_,rfl⟩;have HXB:Ud (W1.heap.size≤wr.heap.size):=Ph HI.o.size;rw [hxb]at HK2 ⊢;clear hxb c0 c1 c2 c3 c4 c5;obtain⟨c0,c1,c2,c3,c4,c5⟩:=zH HK2.o;go_wp2_with fail
     refine(HTX.o wide ⟨vA,vn,vc⟩ W3 (Ph (HTE.o.bel HI2.o))).mono ?_;rintro e w4 ⟨rfl,hb4⟩;have HI4:=Ph (HI.o.trans ((zU HI2.o hb4).mono HI.o.size));have HO4:=Ph (HO.o.below (zU HI2.o hb4));clear c0 c1 c2 c3 c4 c5 g0 g1 g2 g3 g4 g5 hb4 HTX HTE HK2 HI2;obtain⟨t,ht⟩:∃ t,zP wide x=t:=⟨_,rfl⟩;rw [ht]at HTK ⊢;clear ht;have hro:Rd (w4.alloc (.cells #[uR t] 9)) (some ⟨w4.heap.size,0,none⟩) [uR t]:=Rd.new _ _ _;have hsn:S8.n<1000000000:=by have h1:=HO.o.2;rw [lW,cL]at h1;omega
     obtain⟨A',c',w5,hrun,hown,hfr⟩:=(HO4.o.below zB).push (lE HI4.o.size (by rw [lO];omega)) t (some ⟨w4.heap.size,0,none⟩) 1 hro hsn;have HRUN:=Ph hrun;have HO5:=Ph (HTK.o▸hown);have HI5:Ud (Below W1.heap.size W1 w5):=Ph (HI4.o.trans (((Fr.of_below (F:=fun k=>(Value.slice S8.A S8.n S8.c).ownBlock=some k) zB).trans hfr).below _ HI4.o.size (fun k hk e=>by have:=(HO4.o.typed e).1;omega)));clear hrun hown hfr hro hsn HO4 HI4 HO;go_wp2_with (at_builtin;refine jL rfl (.tmp 24) (.tmp 28) rfl _ _ _ rfl rfl (HRUN.o _) ?_)
     go_roundw
     case rel=>exact⟨j+1,_,Yo,by go_num,rfl,HO5,HI5⟩
     case measure=>simp [intOf];omega
    ·obtain rfl:j=en:=by omega
     have e2:decide ((j:Int)<(j:Int))=false:=Ym;have HES:Ud (OwnT W1.heap.size wr S8 (y.exprs.map (zP wide))):=Ph (by have h:=HO.o;rw [cJ (by have:=HEN.o.1;omega)]at h;exact h);clear HO;obtain⟨qA,qn,qc⟩:=S8;have hTL:(jH wide y).length≤720000:=by have h1:=qH2 HSH.o wide;have h2:=qC1 (cD HX.o);have h3:=HZL.o;omega
     have HF:Ud (∀ (w':World) (p:Addr) (u:Value),Below wr.heap.size wr w'→wr.cell? p=some u→w'.cell? p=some u):=Ph fun w' p u hb h=>((Fr.of_below (F:=fun _=>False) hb).cell (World.block_lt_of_cell? wr _ h) (fun e=>e)).trans h;have HTH:Ud (∀ w',Below wr.heap.size wr w'→StsP P w' y.thn ⟨tA,tn,tc⟩∧StsP P w' y.els ⟨lA,ln,lc⟩):=Ph fun w' hb=>⟨HS1.o.th.stay (Stays.below (HI.o.trans (hb.mono HI.o.size))),HS1.o.el.stay (Stays.below (HI.o.trans (hb.mono HI.o.size)))⟩;have HLE:Ud (ln=y.els.length):=Ph HS1.o.el.len;clear HS1 HK1 HKi;go_upto_block 4 with fail
     go_cut [5] from 14 to 134 (fun v5 wx=>v5=.string (str (U++jH wide y))∧Ud (Below W1.heap.size W1 wx))
     case first =>
      rename_i J1 K1 hR1 hM1;revert hR1 hM1;repeat (rename ∀ (a':Act) (w':World),_→_=>hZ;clear hZ)
      intro hR1 hM1;have hsh:=HSH.o;clear HSH HZY HLN HB HZL HX IH hs;cases hsh with
      | set n x h1 h2 h3 =>
        obtain⟨t0,ht0⟩:∃ t,zP wide x=t:=⟨_,rfl⟩;replace g0:wr.cell? ⟨sb,0,none⟩=some (uB 1):=g0;have E:jH wide (.mk 1 n [x] 0 [] [])=n++[61]++t0:=by rw [←ht0];simp [jH,qT,jJ,jU9,jV1,jV2,jV3,jV4,qH4,qH5,qH6]
        have hl:=hTL;rw [E]at hl;simp only [Ya,Yc,Yn]at hl;have HEt:Ud (OwnT W1.heap.size wr ⟨qA,qn,qc⟩ [t0]):=Ph (by have h:=HES.o;rw [←ht0];exact h);clear ht0;clear HES;obtain rfl:qn=1:=HEt.o.2;obtain⟨qb0,qo0,hq0,d0,hd0,_⟩:=HEt.o.cell (i:=0) (t:=t0) rfl;(try dsimp only at hq0);subst hq0;have d0:wr.cell? ⟨qb0,qo0,none⟩=some (uR t0):=d0;clear hd0;replace g1:wr.cell? ⟨sb,1,none⟩=some (uR n):=g1;have R1:∀ w,(Op.stringOp .add (str n) (⟨#[61]⟩:ByteArray)).run prog w=.ok (.string (str (n++[61]))) w:=zQ (n) ([61]) (by first | omega | (simp only [Ya,Yc,Yn];try omega));obtain⟨U1,hU1⟩:∃ u,n++[61]=u:=⟨_,rfl⟩;have hL1:U1.length=(n.length)+(1):=by rw [←hU1];simp only [Ya,Yc,Yn];try omega
        rw [hU1]at R1;have R2:∀ w,(Op.stringOp .add (str U1) (str t0)).run prog w=.ok (.string (str (U1++t0))) w:=zQ (U1) (t0) (by first | omega | (simp only [Ya,Yc,Yn];try omega));obtain⟨U2,hU2⟩:∃ u,U1++t0=u:=⟨_,rfl⟩;have hL2:U2.length=(U1.length)+(t0.length):=by rw [←hU2];simp only [Ya,Yc,Yn];try omega
        rw [hU2]at R2;have RV:∀ w,(Op.stringOp .add (str U) (str U2)).run prog w=.ok (.string (str (U++U2))) w:=zQ _ _ (by first | omega | (simp only [Ya,Yc,Yn];try omega));obtain⟨V,hV⟩:∃ u,U++U2=u:=⟨_,rfl⟩;rw [hV]at RV;have HE:Ud (U++jH wide _=V):=Ph (by rw [E,←hV,←hU2,←hU1]);clear hV E hU1 hL1 hU2 hL2 hTL hl hUl;go_upto_region 13 with fail
        go_quiet (fail)
        go_wp2_with fail
        go_meet
        exact⟨by rw [HE.o],Ph (HI.o.trans (zP8 wr nq HI.o.size))⟩
      | put n i x h1 h2 h3 h4 =>
        obtain⟨t0,ht0⟩:∃ t,zP wide i=t:=⟨_,rfl⟩;obtain⟨t1,ht1⟩:∃ t,zP wide x=t:=⟨_,rfl⟩;replace g0:wr.cell? ⟨sb,0,none⟩=some (uB 2):=g0;have E:jH wide (.mk 2 n [i,x] 0 [] [])=n++[91]++t0++[93,61]++t1:=by rw [←ht0,←ht1];simp [jH,qT,jJ,jU9,jV1,jV2,jV3,jV4,qH4,qH5,qH6]
        have hl:=hTL;rw [E]at hl;simp only [Ya,Yc,Yn]at hl;have HEt:Ud (OwnT W1.heap.size wr ⟨qA,qn,qc⟩ [t0,t1]):=Ph (by have h:=HES.o;rw [←ht0,←ht1];exact h);clear ht0 ht1;clear HES;obtain rfl:qn=2:=HEt.o.2;obtain⟨qb0,qo0,hq0,d0,hd0,_⟩:=HEt.o.cell (i:=0) (t:=t0) rfl;(try dsimp only at hq0);subst hq0;have d0:wr.cell? ⟨qb0,qo0,none⟩=some (uR t0):=d0;clear hd0;obtain⟨qb1,qo1,hq1,d1,hd1,_⟩:=HEt.o.cell (i:=1) (t:=t1) rfl;(try dsimp only at hq1);injection hq1 with hq1;injection hq1 with hqa hqb;subst hqa hqb;have d1:wr.cell? ⟨qb0,qo0+1,none⟩=some (uR t1):=d1;clear hd1;replace g1:wr.cell? ⟨sb,1,none⟩=some (uR n):=g1;have R1:∀ w,(Op.stringOp .add (str n) (⟨#[91]⟩:ByteArray)).run prog w=.ok (.string (str (n++[91]))) w:=zQ (n) ([91]) (by first | omega | (simp only [Ya,Yc,Yn];try omega));obtain⟨U1,hU1⟩:∃ u,n++[91]=u:=⟨_,rfl⟩;have hL1:U1.length=(n.length)+(1):=by rw [←hU1];simp only [Ya,Yc,Yn];try omega
        rw [hU1]at R1;have R2:∀ w,(Op.stringOp .add (str U1) (str t0)).run prog w=.ok (.string (str (U1++t0))) w:=zQ (U1) (t0) (by first | omega | (simp only [Ya,Yc,Yn];try omega));obtain⟨U2,hU2⟩:∃ u,U1++t0=u:=⟨_,rfl⟩;have hL2:U2.length=(U1.length)+(t0.length):=by rw [←hU2];simp only [Ya,Yc,Yn];try omega
        rw [hU2]at R2;have R3:∀ w,(Op.stringOp .add (str U2) (⟨#[93,61]⟩:ByteArray)).run prog w=.ok (.string (str (U2++[93,61]))) w:=zQ (U2) ([93,61]) (by first | omega | (simp only [Ya,Yc,Yn];try omega));obtain⟨U3,hU3⟩:∃ u,U2++[93,61]=u:=⟨_,rfl⟩;have hL3:U3.length=(U2.length)+(2):=by rw [←hU3];simp only [Ya,Yc,Yn];try omega
        rw [hU3]at R3;have R4:∀ w,(Op.stringOp .add (str U3) (str t1)).run prog w=.ok (.string (str (U3++t1))) w:=zQ (U3) (t1) (by first | omega | (simp only [Ya,Yc,Yn];try omega));obtain⟨U4,hU4⟩:∃ u,U3++t1=u:=⟨_,rfl⟩;have hL4:U4.length=(U3.length)+(t1.length):=by rw [←hU4];simp only [Ya,Yc,Yn];try omega
        rw [hU4]at R4;have RV:∀ w,(Op.stringOp .add (str U) (str U4)).run prog w=.ok (.string (str (U++U4))) w:=zQ _ _ (by first | omega | (simp only [Ya,Yc,Yn];try omega));obtain⟨V,hV⟩:∃ u,U++U4=u:=⟨_,rfl⟩;rw [hV]at RV;have HE:Ud (U++jH wide _=V):=Ph (by rw [E,←hV,←hU4,←hU3,←hU2,←hU1]);clear hV E hU1 hL1 hU2 hL2 hU3 hL3 hU4 hL4 hTL hl hUl;go_upto_region 15 with fail
        go_quiet (fail)
        go_wp2_with fail
        go_meet
        exact⟨by rw [HE.o],Ph (HI.o.trans (zP8 wr nq HI.o.size))⟩
      | write b x h1 h2 =>
        obtain⟨t0,ht0⟩:∃ t,zP wide b=t:=⟨_,rfl⟩;obtain⟨t1,ht1⟩:∃ t,zP wide x=t:=⟨_,rfl⟩;replace g0:wr.cell? ⟨sb,0,none⟩=some (uB 3):=g0;have E:jH wide (.mk 3 [] [b,x] 0 [] [])=[119,114,105,116,101,32]++qT [t0,t1]:=by rw [←ht0,←ht1];simp [jH,qT,jJ,jU9,jV1,jV2,jV3,jV4,qH4,qH5,qH6]
        have hl:=hTL;rw [E]at hl;simp only [Ya,Yc,Yn]at hl;have HEt:Ud (OwnT W1.heap.size wr ⟨qA,qn,qc⟩ [t0,t1]):=Ph (by have h:=HES.o;rw [←ht0,←ht1];exact h);clear ht0 ht1;clear HES;have HJ:=Ph (kB6 HEt Yo Ym);obtain⟨c,hc⟩:∃ c,qT [t0,t1]=c:=⟨_,rfl⟩;rw [hc]at HJ E hl;clear hc;have R1:∀ w,(Op.stringOp .add (⟨#[119,114,105,116,101,32]⟩:ByteArray) (str c)).run prog w=.ok (.string (str ([119,114,105,116,101,32]++c))) w:=zQ ([119,114,105,116,101,32]) (c) (by first | omega | (simp only [Ya,Yc,Yn];try omega));obtain⟨U1,hU1⟩:∃ u,[119,114,105,116,101,32]++c=u:=⟨_,rfl⟩;have hL1:U1.length=(6)+(c.length):=by rw [←hU1];simp only [Ya,Yc,Yn];try omega
        rw [hU1]at R1;have RV:∀ w,(Op.stringOp .add (str U) (str U1)).run prog w=.ok (.string (str (U++U1))) w:=zQ _ _ (by first | omega | (simp only [Ya,Yc,Yn];try omega));obtain⟨V,hV⟩:∃ u,U++U1=u:=⟨_,rfl⟩;rw [hV]at RV;have HE:Ud (U++jH wide _=V):=Ph (by rw [E,←hV,←hU1]);clear hV E hU1 hL1 hTL hl hUl;go_wp2_with fail
        refine HJ.o.mono ?_;rintro e w6 ⟨rfl,hb⟩;go_wp2_with fail
        go_meet
        exact⟨by rw [HE.o],Ph (HI.o.trans (hb.mono HI.o.size))⟩
      | flush  =>
        replace g0:wr.cell? ⟨sb,0,none⟩=some (uB 4):=g0;have E:jH wide (.mk 4 [] [] 0 [] [])=[102,108,117,115,104]:=by simp [jH,qT,jJ,jU9,jV1,jV2,jV3,jV4,qH4,qH5,qH6]
        have hl:=hTL;rw [E]at hl;simp only [Ya,Yc,Yn]at hl;clear HES;have RV:∀ w,(Op.stringOp .add (str U) (⟨#[102,108,117,115,104]⟩:ByteArray)).run prog w=.ok (.string (str (U++[102,108,117,115,104]))) w:=zQ _ _ (by first | omega | (simp only [Ya,Yc,Yn];try omega));obtain⟨V,hV⟩:∃ u,U++[102,108,117,115,104]=u:=⟨_,rfl⟩;rw [hV]at RV;have HE:Ud (U++jH wide _=V):=Ph (by rw [E,←hV]);clear hV E hTL hl hUl;go_wp2_with fail
        go_meet
        exact⟨by rw [HE.o],Ph HI.o⟩
      | barrier  =>
        replace g0:wr.cell? ⟨sb,0,none⟩=some (uB 5):=g0;have E:jH wide (.mk 5 [] [] 0 [] [])=[98,97,114,114,105,101,114]:=by simp [jH,qT,jJ,jU9,jV1,jV2,jV3,jV4,qH4,qH5,qH6]
        have hl:=hTL;rw [E]at hl;simp only [Ya,Yc,Yn]at hl;clear HES;have RV:∀ w,(Op.stringOp .add (str U) (⟨#[98,97,114,114,105,101,114]⟩:ByteArray)).run prog w=.ok (.string (str (U++[98,97,114,114,105,101,114]))) w:=zQ _ _ (by first | omega | (simp only [Ya,Yc,Yn];try omega));obtain⟨V,hV⟩:∃ u,U++[98,97,114,114,105,101,114]=u:=⟨_,rfl⟩;rw [hV]at RV;have HE:Ud (U++jH wide _=V):=Ph (by rw [E,←hV]);clear hV E hTL hl hUl;go_wp2_with fail
        go_meet
        exact⟨by rw [HE.o],Ph HI.o⟩
      | call n x h1 h2 h3 =>
        obtain⟨t0,ht0⟩:∃ t,zP wide x=t:=⟨_,rfl⟩;replace g0:wr.cell? ⟨sb,0,none⟩=some (uB 8):=g0;have E:jH wide (.mk 8 n [x] 0 [] [])=[99,97,108,108,32]++n++[40]++qT [t0]++[41]:=by rw [←ht0];simp [jH,qT,jJ,jU9,jV1,jV2,jV3,jV4,qH4,qH5,qH6]
        have hl:=hTL;rw [E]at hl;simp only [Ya,Yc,Yn]at hl;have HEt:Ud (OwnT W1.heap.size wr ⟨qA,qn,qc⟩ [t0]):=Ph (by have h:=HES.o;rw [←ht0];exact h);clear ht0;clear HES;have HJ:=Ph (kB6 (HEt.o.below (lB _ wr).drew |> Ph) Yo Ym);obtain⟨c,hc⟩:∃ c,qT [t0]=c:=⟨_,rfl⟩;rw [hc]at HJ E hl;clear hc;replace g1:wr.cell? ⟨sb,1,none⟩=some (uR n):=g1;have R1:∀ w,(Op.stringOp .add (⟨#[99,97,108,108,32]⟩:ByteArray) (str n)).run prog w=.ok (.string (str ([99,97,108,108,32]++n))) w:=zQ ([99,97,108,108,32]) (n) (by first | omega | (simp only [Ya,Yc,Yn];try omega));obtain⟨U1,hU1⟩:∃ u,[99,97,108,108,32]++n=u:=⟨_,rfl⟩;have hL1:U1.length=(5)+(n.length):=by rw [←hU1];simp only [Ya,Yc,Yn];try omega
        rw [hU1]at R1;have R2:∀ w,(Op.stringOp .add (str U1) (⟨#[40]⟩:ByteArray)).run prog w=.ok (.string (str (U1++[40]))) w:=zQ (U1) ([40]) (by first | omega | (simp only [Ya,Yc,Yn];try omega));obtain⟨U2,hU2⟩:∃ u,U1++[40]=u:=⟨_,rfl⟩;have hL2:U2.length=(U1.length)+(1):=by rw [←hU2];simp only [Ya,Yc,Yn];try omega
        rw [hU2]at R2;have R3:∀ w,(Op.stringOp .add (str U2) (str c)).run prog w=.ok (.string (str (U2++c))) w:=zQ (U2) (c) (by first | omega | (simp only [Ya,Yc,Yn];try omega));obtain⟨U3,hU3⟩:∃ u,U2++c=u:=⟨_,rfl⟩;have hL3:U3.length=(U2.length)+(c.length):=by rw [←hU3];simp only [Ya,Yc,Yn];try omega
        rw [hU3]at R3;have R4:∀ w,(Op.stringOp .add (str U3) (⟨#[41]⟩:ByteArray)).run prog w=.ok (.string (str (U3++[41]))) w:=zQ (U3) ([41]) (by first | omega | (simp only [Ya,Yc,Yn];try omega));obtain⟨U4,hU4⟩:∃ u,U3++[41]=u:=⟨_,rfl⟩;have hL4:U4.length=(U3.length)+(1):=by rw [←hU4];simp only [Ya,Yc,Yn];try omega
        rw [hU4]at R4;have RV:∀ w,(Op.stringOp .add (str U) (str U4)).run prog w=.ok (.string (str (U++U4))) w:=zQ _ _ (by first | omega | (simp only [Ya,Yc,Yn];try omega));obtain⟨V,hV⟩:∃ u,U++U4=u:=⟨_,rfl⟩;rw [hV]at RV;have HE:Ud (U++jH wide _=V):=Ph (by rw [E,←hV,←hU4,←hU3,←hU2,←hU1]);clear hV E hU1 hL1 hU2 hL2 hU3 hL3 hU4 hL4 hTL hl hUl;have HG1:Ud (∀ w',Below wr.heap.size wr w'→w'.cell? ⟨sb,1,none⟩=some (uR n)):=Ph fun w' hb=>HF.o w' _ _ hb g1;have HBd:Ud (Below wr.heap.size wr wr.drew):=Ph (lB _ _).drew;go_upto_region 29 with fail
        clear g0 g1 g2 g3 g4 g5
        go_region_held3 (fun w'=>w'.cell? ⟨sb,1,none⟩=some (uR n))
         (first | with_reducible exact HG1.o _ HBd.o)
         (first
           | (go_at_call 40
              with_reducible refine HJ.o.mono ?_
              rintro e w6 ⟨rfl,hb1⟩;have HBn:=Ph (HBd.o.trans (hb1.mono HBd.o.size));clear HBd hb1 HJ;have HBd:=HBn;clear HBn))
        all_goals
         go_wp2_with fail
         go_meet
         exact⟨by rw [HE.o],Ph (HI.o.trans (HBd.o.mono HI.o.size))⟩
      | loop x b t h1 h2 h3 =>
        obtain⟨t0,ht0⟩:∃ t,zP wide x=t:=⟨_,rfl⟩;replace g0:wr.cell? ⟨sb,0,none⟩=some (uB 7):=g0;have E:jH wide (.mk 7 [] [x] b t [])=[119,104,105,108,101,32]++t0++[32,98,111,117,110,100,32]++qZ b++jJ wide t:=by rw [←ht0];simp [jH,qT,jJ,jU9,jV1,jV2,jV3,jV4,qH4,qH5,qH6]
        have hl:=hTL;rw [E]at hl;simp only [Ya,Yc,Yn]at hl;have HEt:Ud (OwnT W1.heap.size wr ⟨qA,qn,qc⟩ [t0]):=Ph (by have h:=HES.o;rw [←ht0];exact h);clear ht0;clear HES;obtain rfl:qn=1:=HEt.o.2;obtain⟨qb0,qo0,hq0,d0,hd0,_⟩:=HEt.o.cell (i:=0) (t:=t0) rfl;(try dsimp only at hq0);subst hq0;have d0:wr.cell? ⟨qb0,qo0,none⟩=some (uR t0):=d0;clear hd0;replace g3:wr.cell? ⟨sb,3,none⟩=some (uI b):=g3;have HDC:Ud (∀ w,Calls prog 19 #[uI b] w fun e w'=>e=.returned (.string (str (qZ b)))∧w=w'):=Ph (xS b h2);have HBC:Ud (Calls prog 28 #[.slice tA tn tc,.bool wide] wr.drew _):=Ph (HIH.o.1 wide ⟨tA,tn,tc⟩ P wr.drew (Ph (HTH.o _ (lB _ _).drew).1));obtain⟨dk,hdk⟩:∃ d,qZ b=d:=⟨_,rfl⟩;obtain⟨bt,hbt⟩:∃ d,jJ wide t=d:=⟨_,rfl⟩;have hbt2:jJ wide (Sx.mk 7 [] [x] (b:Int) t []).thn=bt:=hbt;rw [hdk]at HDC;rw [hbt2]at HBC;rw [hdk,hbt]at E hl;clear hdk hbt hbt2;have R1:∀ w,(Op.stringOp .add (⟨#[119,104,105,108,101,32]⟩:ByteArray) (str t0)).run prog w=.ok (.string (str ([119,104,105,108,101,32]++t0))) w:=zQ ([119,104,105,108,101,32]) (t0) (by first | omega | (simp only [Ya,Yc,Yn];try omega));obtain⟨U1,hU1⟩:∃ u,[119,104,105,108,101,32]++t0=u:=⟨_,rfl⟩;have hL1:U1.length=(6)+(t0.length):=by rw [←hU1];simp only [Ya,Yc,Yn];try omega
        rw [hU1]at R1;have R2:∀ w,(Op.stringOp .add (str U1) (⟨#[32,98,111,117,110,100,32]⟩:ByteArray)).run prog w=.ok (.string (str (U1++[32,98,111,117,110,100,32]))) w:=zQ (U1) ([32,98,111,117,110,100,32]) (by first | omega | (simp only [Ya,Yc,Yn];try omega));obtain⟨U2,hU2⟩:∃ u,U1++[32,98,111,117,110,100,32]=u:=⟨_,rfl⟩;have hL2:U2.length=(U1.length)+(7):=by rw [←hU2];simp only [Ya,Yc,Yn];try omega
        rw [hU2]at R2;have R3:∀ w,(Op.stringOp .add (str U2) (str dk)).run prog w=.ok (.string (str (U2++dk))) w:=zQ (U2) (dk) (by first | omega | (simp only [Ya,Yc,Yn];try omega));obtain⟨U3,hU3⟩:∃ u,U2++dk=u:=⟨_,rfl⟩;have hL3:U3.length=(U2.length)+(dk.length):=by rw [←hU3];simp only [Ya,Yc,Yn];try omega
        rw [hU3]at R3;have R4:∀ w,(Op.stringOp .add (str U3) (str bt)).run prog w=.ok (.string (str (U3++bt))) w:=zQ (U3) (bt) (by first | omega | (simp only [Ya,Yc,Yn];try omega));obtain⟨U4,hU4⟩:∃ u,U3++bt=u:=⟨_,rfl⟩;have hL4:U4.length=(U3.length)+(bt.length):=by rw [←hU4];simp only [Ya,Yc,Yn];try omega
        rw [hU4]at R4;have RV:∀ w,(Op.stringOp .add (str U) (str U4)).run prog w=.ok (.string (str (U++U4))) w:=zQ _ _ (by first | omega | (simp only [Ya,Yc,Yn];try omega));obtain⟨V,hV⟩:∃ u,U++U4=u:=⟨_,rfl⟩;rw [hV]at RV;have HE:Ud (U++jH wide _=V):=Ph (by rw [E,←hV,←hU4,←hU3,←hU2,←hU1]);clear hV E hU1 hL1 hU2 hL2 hU3 hL3 hU4 hL4 hTL hl hUl;have HSS:Ud (∀ w',Below wr.heap.size wr w'→w'.cell? ⟨qb0,qo0,none⟩=some (uR t0)∧w'.cell? ⟨sb,3,none⟩=some (uI b)∧w'.cell? ⟨sb,4,none⟩=some (.slice tA tn tc)):=Ph fun w' hb=>⟨HF.o w' _ _ hb d0,HF.o w' _ _ hb g3,HF.o w' _ _ hb g4⟩;have HBd:Ud (Below wr.heap.size wr wr.drew):=Ph (lB _ _).drew;go_upto_region 27 with fail
        clear g0 g1 g2 g3 g4 g5 d0
        go_region_held3 (fun w'=>w'.cell? ⟨qb0,qo0,none⟩=some (uR t0)∧w'.cell? ⟨sb,3,none⟩=some (uI b)∧w'.cell? ⟨sb,4,none⟩=some (.slice tA tn tc))
         (first | with_reducible exact HSS.o _ HBd.o)
         (first
           | (go_at_call 19
              with_reducible refine(HDC.o _).mono ?_
              rintro e w6 ⟨rfl,rfl⟩)
           | (go_at_call 28
              with_reducible refine HBC.o.mono ?_
              rintro e w6 ⟨rfl,hb1⟩;have HBn:=Ph (HBd.o.trans (hb1.mono HBd.o.size));clear HBd hb1 HBC;have HBd:=HBn;clear HBn))
        all_goals
         go_wp2_with fail
         go_meet
         exact⟨by rw [HE.o],Ph (HI.o.trans (HBd.o.mono HI.o.size))⟩
      | ifs x t e h1 h2 h3 =>
        obtain⟨t0,ht0⟩:∃ t,zP wide x=t:=⟨_,rfl⟩;replace g0:wr.cell? ⟨sb,0,none⟩=some (uB 6):=g0;have E:jH wide (.mk 6 [] [x] 0 t e)=[105,102,32]++t0++jJ wide t++(if e≠[]∨wide=true then [101,108,115,101]++jJ wide e else []):=by rw [←ht0];simp [jH,qT,jJ,jU9,jV1,jV2,jV3,jV4,qH4,qH5,qH6]
        have hl:=hTL;rw [E]at hl;simp only [Ya,Yc,Yn]at hl;have HEt:Ud (OwnT W1.heap.size wr ⟨qA,qn,qc⟩ [t0]):=Ph (by have h:=HES.o;rw [←ht0];exact h);clear ht0;clear HES;obtain rfl:qn=1:=HEt.o.2;obtain⟨qb0,qo0,hq0,d0,hd0,_⟩:=HEt.o.cell (i:=0) (t:=t0) rfl;(try dsimp only at hq0);subst hq0;have d0:wr.cell? ⟨qb0,qo0,none⟩=some (uR t0):=d0;clear hd0;have HBC:Ud (Calls prog 28 #[.slice tA tn tc,.bool wide] wr.drew _):=Ph (HIH.o.1 wide ⟨tA,tn,tc⟩ P wr.drew (Ph (HTH.o _ (lB _ _).drew).1));have HBE:Ud (∀ w',Below wr.heap.size wr w'→Calls prog 28 #[.slice lA ln lc,.bool wide] w' fun q w''=>q=.returned (.string (str (jJ wide e)))∧Below w'.heap.size w' w''):=Ph fun w' hb=>HIH.o.2 wide ⟨lA,ln,lc⟩ P w' (Ph (HTH.o _ hb).2);obtain⟨bt,hbt⟩:∃ d,jJ wide t=d:=⟨_,rfl⟩;obtain⟨be,hbe⟩:∃ d,jJ wide e=d:=⟨_,rfl⟩;have hbt2:jJ wide (Sx.mk 6 [] [x] 0 t e).thn=bt:=hbt;rw [hbt2]at HBC;rw [hbe]at HBE;rw [hbt,hbe]at E;have hl3:3+t0.length+bt.length≤720000:=by have h:=hTL;rw [E]at h;simp only [Ya,Yc,Yn]at h;omega
        have hl4:(e≠[]∨wide=true)→3+t0.length+bt.length+(4+be.length)≤720000:=fun hc=>by have h:=hTL;rw [E,lM hc]at h;simp only [Ya,Yc,Yn]at h;omega
        have HLe:Ud (ln=e.length):=Ph HLE.o;have HE0:=Ph E;have HT0:=Ph hTL;clear hbt hbt2 hbe hl HLE hTL;have R1:∀ w,(Op.stringOp .add (⟨#[105,102,32]⟩:ByteArray) (str t0)).run prog w=.ok (.string (str ([105,102,32]++t0))) w:=zQ ([105,102,32]) (t0) (by first | omega | (simp only [Ya,Yc,Yn];try omega));obtain⟨U1,hU1⟩:∃ u,[105,102,32]++t0=u:=⟨_,rfl⟩;have hL1:U1.length=(3)+(t0.length):=by rw [←hU1];simp only [Ya,Yc,Yn];try omega
        rw [hU1]at R1;have R2:∀ w,(Op.stringOp .add (str U1) (str bt)).run prog w=.ok (.string (str (U1++bt))) w:=zQ (U1) (bt) (by first | omega | (simp only [Ya,Yc,Yn];try omega));obtain⟨U2,hU2⟩:∃ u,U1++bt=u:=⟨_,rfl⟩;have hL2:U2.length=(U1.length)+(bt.length):=by rw [←hU2];simp only [Ya,Yc,Yn];try omega
        rw [hU2]at R2;have RV:∀ w,(Op.stringOp .add (str U) (str U2)).run prog w=.ok (.string (str (U++U2))) w:=zQ _ _ (by first | omega | (simp only [Ya,Yc,Yn];try omega));obtain⟨V1,hV1⟩:∃ u,U++U2=u:=⟨_,rfl⟩;rw [hV1]at RV;have HSS:Ud (∀ w',Below wr.heap.size wr w'→w'.cell? ⟨qb0,qo0,none⟩=some (uR t0)∧w'.cell? ⟨sb,4,none⟩=some (.slice tA tn tc)):=Ph fun w' hb=>⟨HF.o w' _ _ hb d0,HF.o w' _ _ hb g4⟩;have HG5:Ud (∀ w',Below wr.heap.size wr w'→w'.cell? ⟨sb,5,none⟩=some (.slice lA ln lc)):=Ph fun w' hb=>HF.o w' _ _ hb g5;have HBd:Ud (Below wr.heap.size wr wr.drew):=Ph (lB _ _).drew;have hV1l:V1.length=U.length+U2.length:=by rw [←hV1,Ya]
        have HEV:Ud (V1=U++([105,102,32]++t0++bt)):=Ph (by rw [←hV1,←hU2,←hU1]);have HV1l:=Ph hV1l;have HL4:=Ph hl4;have HUl:=Ph hUl;have HL2e:=Ph (And.intro hL1 hL2);have HL3:=Ph hl3;clear hV1 hU1 hU2 hV1l hl4 hUl hL1 hL2 hl3 E;go_upto_region 23 with fail
        clear g0 g1 g2 g3 g4 g5 d0
        go_region_held3 (fun w'=>w'.cell? ⟨qb0,qo0,none⟩=some (uR t0)∧w'.cell? ⟨sb,4,none⟩=some (.slice tA tn tc))
         (first | with_reducible exact HSS.o _ HBd.o)
         (first
           | (go_at_call 28
              with_reducible refine HBC.o.mono ?_
              rintro e0 w6 ⟨rfl,hb1⟩;have HBn:=Ph (HBd.o.trans (hb1.mono HBd.o.size));clear HBd hb1 HBC;have HBd:=HBn;clear HBn))
        all_goals
         have g5:=HG5.o _ HBd.o;have E:=HE0.o;by_cases hc:e≠[]∨wide=true
         ·have hl5:=HL4.o hc;have hV1l:=HV1l.o;have hUl:=HUl.o;have hL1:=HL2e.o.1;have hL2:=HL2e.o.2;have RE:∀ w,(Op.stringOp .add (⟨#[101,108,115,101]⟩:ByteArray) (str be)).run prog w=.ok (.string (str ([101,108,115,101]++be))) w:=zQ ([101,108,115,101]) (be) (by first | omega | (simp only [Ya,Yc,Yn];try omega));obtain⟨UE,hUE⟩:∃ u,[101,108,115,101]++be=u:=⟨_,rfl⟩;have hLE:UE.length=(4)+(be.length):=by rw [←hUE];simp only [Ya,Yc,Yn];try omega
          rw [hUE]at RE;have RW:∀ w,(Op.stringOp .add (str V1) (str UE)).run prog w=.ok (.string (str (V1++UE))) w:=zQ _ _ (by first | omega | (simp only [Ya,Yc,Yn];try omega));obtain⟨V,hV⟩:∃ u,V1++UE=u:=⟨_,rfl⟩;rw [hV]at RW;have HE:Ud (U++jH wide _=V):=Ph (by rw [E,lM hc,←hV,←hUE,HEV.o,←lS,←lS,←lS];try simp);clear hV hUE E hl5 hUl hLE hL1 hL2 hV1l;by_cases hw:ln=0
          ·have hwt:wide=true:=by rcases hc with h | h;exact absurd (List.length_eq_zero_iff.1 (by rw [←HLe.o];exact hw)) h;exact h
           obtain rfl:ln=0:=hw;subst hwt;clear hc;go_wp2_with fail
           refine(HBE.o _ HBd.o).mono ?_;rintro e0 w7 ⟨rfl,hb⟩;have HBn:=Ph (HBd.o.trans (hb.mono HBd.o.size));clear hb;go_wp2_with fail
           go_meet
           exact⟨by rw [HE.o],Ph (HI.o.trans (HBn.o.mono HI.o.size))⟩
          ·have e3:decide ((0:Int)<(ln:Int))=true:=by simp;omega
           have hlpos:(0:Int)<(ln:Int):=Yo;clear hc hw;go_wp2_with fail
           refine(HBE.o _ HBd.o).mono ?_;rintro e0 w7 ⟨rfl,hb⟩;have HBn:=Ph (HBd.o.trans (hb.mono HBd.o.size));clear hb;go_wp2_with fail
           go_meet
           exact⟨by rw [HE.o],Ph (HI.o.trans (HBn.o.mono HI.o.size))⟩
         ·have hwf:wide=false:=by cases wide;rfl;exact absurd (.inr rfl) hc
          have hw0:ln=0:=by
           rw [HLe.o];rcases e with _ | ⟨a,r⟩
           ·rfl
           ·exact absurd (.inl Ym) hc
          have HE:Ud (U++jH wide _=V1):=Ph (by rw [E,lN hc,HEV.o];simp);clear E hc HLe;subst hwf hw0;go_wp2_with fail
          go_meet
          exact⟨by rw [HE.o],Ph (HI.o.trans (HBd.o.mono HI.o.size))⟩
     case rest =>
     obtain⟨rfl,HIn⟩:=hcut;clear HI HF HTH HES g0 g1 g2 g3 g4 g5;generalize wc=w9 at *;have R1:∀ w,(Op.stringOp .add (str (U++jH wide y)) (⟨#[32,35,32,10]⟩:ByteArray)).run prog w=.ok (.string (str (U++jH wide y++[32,35,32,10]))) w:=zQ _ [32,35,32,10] (by rw [Ya];show U.length+_+4≤4000000;omega);have HE:Ud (U++jH wide y++[32,35,32,10]=[123]++kF wide (l.take (k+1))):=Ph (by rw [List.take_add_one,HX.o,zY6,←HU.o];show _=[123]++(kF wide (l.take k)++kF wide [y]);rw [wZ];simp [kF]);obtain⟨V1,hV1⟩:∃ u,U++jH wide y=u:=⟨_,rfl⟩;rw [hV1]at R1 HE ⊢;obtain⟨V2,hV2⟩:∃ u,V1++[32,35,32,10]=u:=⟨_,rfl⟩;rw [hV2]at R1 HE;clear hV1 hV2 hTL;have HWn:=Ph (HW1.o.trans (HIn.o.mono HW1.o.size));go_wp2_with fail
     go_roundw
     case rel=>exact⟨k+1,Yo,by go_num,by rw [HE.o],HWn⟩
     case measure=>simp [intOf];omega
  ·obtain rfl:k=Sn:=by omega
   have e1:decide ((k:Int)<(k:Int))=false:=Ym;have R1:∀ w,(Op.stringOp .add (str U) (⟨#[125]⟩:ByteArray)).run prog w=.ok (.string (str (U++[125]))) w:=zQ U [125] (by show U.length+1≤4000000;omega);obtain⟨V,hV⟩:∃ u,U++[125]=u:=⟨_,rfl⟩;have HV:Ud (jJ wide l=V):=Ph (by rw [vB,←hV,←HU.o,cJ (by rw [HLN.o];exact lF _)]);rw [hV]at R1;clear hV;go_wp2_with fail
   go_ret;exact⟨by rw [HV.o];rfl,HW.o⟩
end
section
open Go.RowKit Go.PlainAid
theorem jJ5:∀ l:List Ix,l.length≤jF9 l
 | []=>by simp [jF9]
 | x :: l=>by have:=jJ5 l;simp only [jF9,Yc];omega
theorem qU4:∀ (l:List Ix) (j:Nat) (y:Ix),l[j]?=some y→jF9 (l.drop j)=1+szX y.value+jF9 (l.drop (j+1))
 | [],j,y,h=>by simp at h
 | x :: l,0,y,h=>by simp at h;subst h;simp [jF9]
 | x :: l,j+1,y,h=>by have:=qU4 l j y (by simpa using h);simpa using this
theorem jJ6:∀ l:List Rx,l.length≤jF7 l
 | []=>by simp [jF7]
 | x :: l=>by
   have:=jJ6 l;have:1≤szR x:=by unfold szR;omega
   simp only [jF7,Yc];omega
theorem qU5:∀ (l:List Rx) (j:Nat) (y:Rx),l[j]?=some y→jF7 (l.drop j)=szR y+jF7 (l.drop (j+1))
 | [],j,y,h=>by simp at h
 | x :: l,0,y,h=>by simp at h;subst h;simp [jF7]
 | x :: l,j+1,y,h=>by have:=qU5 l j y (by simpa using h);simpa using this
theorem RowG.get7 {P:Nat→Prop} {w:World} {l:List Ix} {S:SV} (h:jT5 P w l S) {i:Nat} (hi:i<S.n) :
 ∃ b off y v,S.A=some ⟨b,off,none⟩∧l[i]?=some y∧IxP P w y v∧b<w.heap.size∧∀ j u,j<7→(jC8 y v)[j]?=some u→w.cell? ⟨b,off+(i*7+j),none⟩=some u:=RowG.at (m:=7) (fun _ _=>rfl) Yo h hi
theorem RowG.get3 {P:Nat→Prop} {w:World} {l:List Rx} {S:SV} (h:jT6 P w l S) {i:Nat} (hi:i<S.n) :
 ∃ b off y v,S.A=some ⟨b,off,none⟩∧l[i]?=some y∧RxP P w y v∧b<w.heap.size∧∀ j u,j<3→(zP2 y v)[j]?=some u→w.cell? ⟨b,off+(i*3+j),none⟩=some u:=RowG.at (m:=3) (fun _ _=>rfl) Yo h hi
theorem kK6 (x:Gx) (v:GV) (w:World) (HG:Ud (GxP (fun _=>True) w x v)) (hz:szG x≤20000) :
 Calls prog 50 #[.agg #[.int .i64 x.blocks,.int .i64 x.width,.slice v.is.A v.is.n v.is.c,.slice v.gs.A v.gs.n v.gs.c,.slice v.vs.A v.vs.n v.vs.c,.slice v.ar.A v.ar.n v.ar.c,.int .u8 x.require.kind,.int .u8 x.require.op,.int .u32 x.require.value,.int .i64 x.require.width,.string (str x.require.name),.slice v.rq.A v.rq.n v.rq.c,.slice v.ins.A v.ins.n v.ins.c,.slice v.ps.A v.ps.n v.ps.c,.slice v.wk.A v.wk.n v.wk.c,.slice v.rc.A v.rc.n v.rc.c,.int .u8 x.invariant.kind,.int .u8 x.invariant.op,.int .u32 x.invariant.value,.int .i64 x.invariant.width,.string (str x.invariant.name),.slice v.iv.A v.iv.n v.iv.c]] w fun e w'=>e=.returned (.int .i64 (szG x:Int))∧Below w.heap.size w w':=by
 obtain⟨isS,gsS,vsS,arS,rqS,⟨iA,iN,iC⟩,⟨qA,qN,qC⟩,wkS,rcS,ivS⟩:=v;dsimp only;have hB1:Ue w (w.alloc (.cells #[.int .i64 x.blocks,.int .i64 x.width,.slice isS.A isS.n isS.c,.slice gsS.A gsS.n gsS.c,.slice vsS.A vsS.n vsS.c,.slice arS.A arS.n arS.c,.int .u8 x.require.kind,.int .u8 x.require.op,.int .u32 x.require.value,.int .i64 x.require.width,.string (str x.require.name),.slice rqS.A rqS.n rqS.c,.slice iA iN iC,.slice qA qN qC,.slice wkS.A wkS.n wkS.c,.slice rcS.A rcS.n rcS.c,.int .u8 x.invariant.kind,.int .u8 x.invariant.op,.int .u32 x.invariant.value,.int .i64 x.invariant.width,.string (str x.invariant.name),.slice ivS.A ivS.n ivS.c] 36)):=zG (lB _ _) _;have HP1:=Ph (Bk.new w 36 #[.int .i64 x.blocks,.int .i64 x.width,.slice isS.A isS.n isS.c,.slice gsS.A gsS.n gsS.c,.slice vsS.A vsS.n vsS.c,.slice arS.A arS.n arS.c,.int .u8 x.require.kind,.int .u8 x.require.op,.int .u32 x.require.value,.int .i64 x.require.width,.string (str x.require.name),.slice rqS.A rqS.n rqS.c,.slice iA iN iC,.slice qA qN qC,.slice wkS.A wkS.n wkS.c,.slice rcS.A rcS.n rcS.c,.int .u8 x.invariant.kind,.int .u8 x.invariant.op,.int .u32 x.invariant.value,.int .i64 x.invariant.width,.string (str x.invariant.name),.slice ivS.A ivS.n ivS.c]);have HB1:=Ph hB1;have HG1:Ud (GxP (fun _=>True) (w.alloc (.cells #[.int .i64 x.blocks,.int .i64 x.width,.slice isS.A isS.n isS.c,.slice gsS.A gsS.n gsS.c,.slice vsS.A vsS.n vsS.c,.slice arS.A arS.n arS.c,.int .u8 x.require.kind,.int .u8 x.require.op,.int .u32 x.require.value,.int .i64 x.require.width,.string (str x.require.name),.slice rqS.A rqS.n rqS.c,.slice iA iN iC,.slice qA qN qC,.slice wkS.A wkS.n wkS.c,.slice rcS.A rcS.n rcS.c,.int .u8 x.invariant.kind,.int .u8 x.invariant.op,.int .u32 x.invariant.value,.int .i64 x.invariant.width,.string (str x.invariant.name),.slice ivS.A ivS.n ivS.c] 36)) x ⟨isS,gsS,vsS,arS,rqS,⟨iA,iN,iC⟩,⟨qA,qN,qC⟩,wkS,rcS,ivS⟩):=Ph (itG.stay _ _ _ _ _ (Stays.below hB1) HG.o);have HZ:Ud (szG x≤20000):=Ph hz;have s1:isS.n=_:=HG.o.is.len;have s2:gsS.n=_:=HG.o.gs.len;have s3:vsS.n=_:=HG.o.vs.len;have s4:arS.n=_:=HG.o.ar.len;have hzz:szG x=1+x.inputs.length+x.ghosts.length+x.vars.length+x.arrays.length+szX x.require+jF9 x.inits+jF7 x.procs+yE x.work+yE x.recover+szX x.invariant:=rfl;have HZZ:=Ph hzz;have HLN:Ud (isS.n+gsS.n+vsS.n+arS.n=x.inputs.length+x.ghosts.length+x.vars.length+x.arrays.length):=Ph Yo;have hln:isS.n+gsS.n+vsS.n+arS.n≤20000:=Yo;clear s1 s2 s3 s4 hzz hB1 hz;go_enter func50,ntmps50
 go_upto_region 1 with fail
 generalize (w.alloc _)=W1 at HP1 HB1 HG1 ⊢;obtain⟨pb,hpb⟩:∃ b,w.heap.size=b:=⟨_,rfl⟩;rw [hpb]at HP1 ⊢;have p2:W1.cell? ⟨pb,2,none⟩=some (.slice isS.A isS.n isS.c):=HP1.o.cell 2;have p3:W1.cell? ⟨pb,3,none⟩=some (.slice gsS.A gsS.n gsS.c):=HP1.o.cell 3;have p4:W1.cell? ⟨pb,4,none⟩=some (.slice vsS.A vsS.n vsS.c):=HP1.o.cell 4;have p5:W1.cell? ⟨pb,5,none⟩=some (.slice arS.A arS.n arS.c):=HP1.o.cell 5;have p6:W1.cell? ⟨pb,6,none⟩=some (.int .u8 x.require.kind):=HP1.o.cell 6;have p7:W1.cell? ⟨pb,7,none⟩=some (.int .u8 x.require.op):=HP1.o.cell 7;have p8:W1.cell? ⟨pb,8,none⟩=some (.int .u32 x.require.value):=HP1.o.cell 8;have p9:W1.cell? ⟨pb,9,none⟩=some (.int .i64 x.require.width):=HP1.o.cell 9;have p10:W1.cell? ⟨pb,10,none⟩=some (.string (str x.require.name)):=HP1.o.cell 10;have p11:W1.cell? ⟨pb,11,none⟩=some (.slice rqS.A rqS.n rqS.c):=HP1.o.cell 11;have w1:IntKind.i64.wrap ((isS.n:Int)+(gsS.n:Int))=(isS.n:Int)+(gsS.n:Int):=by rw [lL];omega
 have w2:IntKind.i64.wrap ((isS.n:Int)+(gsS.n:Int)+(vsS.n:Int))=(isS.n:Int)+(gsS.n:Int)+(vsS.n:Int):=by rw [lL];omega
 have w3:IntKind.i64.wrap ((isS.n:Int)+(gsS.n:Int)+(vsS.n:Int)+(arS.n:Int))=(isS.n:Int)+(gsS.n:Int)+(vsS.n:Int)+(arS.n:Int):=by rw [lL];omega
 obtain⟨k0,hk0,hk0'⟩:∃ k:Nat,(isS.n:Int)+(gsS.n:Int)+(vsS.n:Int)+(arS.n:Int)+1=(k:Int)∧k=isS.n+gsS.n+vsS.n+arS.n+1:=⟨isS.n+gsS.n+vsS.n+arS.n+1,Yo,rfl⟩;have HK0:=Ph hk0';have w4:IntKind.i64.wrap ((isS.n:Int)+(gsS.n:Int)+(vsS.n:Int)+(arS.n:Int)+1)=(k0:Int):=by rw [lL];omega
 have HC0:=Ph (qU3 x.require rqS k0 W1 (Ph HG1.o.rq) (by have:=HZZ.o;have:=HZ.o;have:=HLN.o;omega));dsimp only [qD5]at HC0;clear hk0' hln hk0;go_wp2_with fail
 refine HC0.o.mono ?_;rintro e W2 ⟨rfl,hb2⟩;have HP2:=Ph (zD HP1.o hb2);have HB2:Ud (Ue w W2):=Ph (zU HB1.o hb2);have HG2:Ud (GxP (fun _=>True) W2 x ⟨isS,gsS,vsS,arS,rqS,⟨iA,iN,iC⟩,⟨qA,qN,qC⟩,wkS,rcS,ivS⟩):=Ph (itG.stay _ _ _ _ _ (Stays.below hb2) HG1.o);clear hb2 HP1 HB1 HG1 HC0 w1 w2 w3 w4 p2 p3 p4 p5 p6 p7 p8 p9 p10 p11;obtain⟨k1,hk1⟩:∃ k,k0+szX x.require=k:=⟨_,rfl⟩;rw [hk1];have HK1:Ud (k1+(jF9 x.inits+jF7 x.procs+yE x.work+yE x.recover+szX x.invariant)=szG x):=Ph (by have:=HZZ.o;have:=HLN.o;have:=HK0.o;omega);clear hk1 HK0 HLN HZZ;have p12:W2.cell? ⟨pb,12,none⟩=some (.slice iA iN iC):=HP2.o.cell 12;have hin:iN≤20000:=by have h1:iN=_:=HG2.o.ins.len;have h2:=jJ5 x.inits;have h3:=HZ.o;have h4:=HK1.o;omega
 go_upto_region 2 with fail
 go_wp2_with fail
 clear p12;go_loopw [3,30] (fun v3 v30 wr=>∃ (j k:Nat),j≤iN∧v30=.int .i64 j∧v3=.int .i64 k∧Ud (k+(jF7 x.procs+yE x.work+yE x.recover+szX x.invariant+jF9 (x.inits.drop j))=szG x)∧Ud (Ue w wr)∧Ud (Bk wr pb 36 #[.int .i64 x.blocks,.int .i64 x.width,.slice isS.A isS.n isS.c,.slice gsS.A gsS.n gsS.c,.slice vsS.A vsS.n vsS.c,.slice arS.A arS.n arS.c,.int .u8 x.require.kind,.int .u8 x.require.op,.int .u32 x.require.value,.int .i64 x.require.width,.string (str x.require.name),.slice rqS.A rqS.n rqS.c,.slice iA iN iC,.slice qA qN qC,.slice wkS.A wkS.n wkS.c,.slice rcS.A rcS.n rcS.c,.int .u8 x.invariant.kind,.int .u8 x.invariant.op,.int .u32 x.invariant.value,.int .i64 x.invariant.width,.string (str x.invariant.name),.slice ivS.A ivS.n ivS.c])∧Ud (GxP (fun _=>True) wr x ⟨isS,gsS,vsS,arS,rqS,⟨iA,iN,iC⟩,⟨qA,qN,qC⟩,wkS,rcS,ivS⟩)) (fun _ v30 _=>iN-(intOf v30).toNat)
 case atStart=>exact⟨0,k1,lV _,rfl,rfl,Ph (by have:=HK1.o;rw [List.drop_zero];omega),HB2,HP2,HG2⟩
 case round =>
  obtain⟨j,k,hj,rfl,rfl,HK,HB,HP,HG⟩:=hrel;clear HB2 HP2 HG2 HK1;by_cases hlt:j<iN
  ·have e1:decide ((j:Int)<(iN:Int))=true:=by simp;omega
   have hji:(j:Int)<(iN:Int):=Yo;obtain⟨b,off,y,S,hA,hx,hty,hb,hc⟩:=RowG.get7 HG.o.ins (i:=j) hlt;(try dsimp only at hA);have c0:wr.cell? ⟨b,off+j*7,none⟩=some (.int .i64 y.block):=hc 0 _ Yo rfl;have c1:wr.cell? ⟨b,off+j*7+1,none⟩=some (.int .u8 y.value.kind):=hc 1 _ Yo rfl;have c2:wr.cell? ⟨b,off+j*7+2,none⟩=some (.int .u8 y.value.op):=hc 2 _ Yo rfl;have c3:wr.cell? ⟨b,off+j*7+3,none⟩=some (.int .u32 y.value.value):=hc 3 _ Yo rfl;have c4:wr.cell? ⟨b,off+j*7+4,none⟩=some (.int .i64 y.value.width):=hc 4 _ Yo rfl;have c5:wr.cell? ⟨b,off+j*7+5,none⟩=some (.string (str y.value.name)):=hc 5 _ Yo rfl;have c6:wr.cell? ⟨b,off+j*7+6,none⟩=some (.slice S.A S.n S.c):=hc 6 _ Yo rfl;have hdr:=qU4 x.inits j y hx;have HTY:=Ph hty.t;subst hA;clear hx hc hty;go_upto_region 5 with fail
   have hy:=Ph (Bk.new wr 90 #[.int .i64 y.block,.int .u8 y.value.kind,.int .u8 y.value.op,.int .u32 y.value.value,.int .i64 y.value.width,.string (str y.value.name),.slice S.A S.n S.c]);have hBa:Ue wr (wr.alloc (.cells #[.int .i64 y.block,.int .u8 y.value.kind,.int .u8 y.value.op,.int .u32 y.value.value,.int .i64 y.value.width,.string (str y.value.name),.slice S.A S.n S.c] 90)):=zG (lB _ _) _;generalize (wr.alloc _)=W4 at hy hBa ⊢;have hkz:k+1+szX y.value≤20000:=by have:=HK.o;have:=HZ.o;omega
   have hw1:IntKind.i64.wrap ((k:Int)+1)=((k+1:Nat):Int):=by rw [lL];omega
   have HC:=Ph (qU3 y.value S (k+1) W4 (Ph (HTY.o.bel hBa)) hkz);dsimp only [qD5]at HC;have z1:W4.cell? ⟨wr.heap.size,1,none⟩=some (.int .u8 y.value.kind):=hy.o.cell 1;have z2:W4.cell? ⟨wr.heap.size,2,none⟩=some (.int .u8 y.value.op):=hy.o.cell 2;have z3:W4.cell? ⟨wr.heap.size,3,none⟩=some (.int .u32 y.value.value):=hy.o.cell 3;have z4:W4.cell? ⟨wr.heap.size,4,none⟩=some (.int .i64 y.value.width):=hy.o.cell 4;have z5:W4.cell? ⟨wr.heap.size,5,none⟩=some (.string (str y.value.name)):=hy.o.cell 5;have z6:W4.cell? ⟨wr.heap.size,6,none⟩=some (.slice S.A S.n S.c):=hy.o.cell 6;have HBA:=Ph hBa;clear c0 c1 c2 c3 c4 c5 c6 hBa;go_wp2_with fail
   refine HC.o.mono ?_;rintro e W5 ⟨rfl,hb5⟩;have hb:=zU HBA.o hb5;have HB5:Ud (Ue w W5):=Ph (zU HB.o hb);have HP5:=Ph (zD HP.o hb);have HG5:=Ph (itG.stay _ _ _ _ _ (Stays.below hb) HG.o);clear z1 z2 z3 z4 z5 z6 hb hb5 hw1;have hw1:IntKind.i64.wrap ((j:Int)+1)=((j+1:Nat):Int):=by rw [lL];omega
   go_wp2_with fail
   go_roundw
   case rel=>exact⟨j+1,k+1+szX y.value,Yo,by go_num,Ym,Ph (by have:=HK.o;omega),HB5,HP5,HG5⟩
   case measure=>simp [intOf];omega
  ·have hjn:j=iN:=by omega
   have e1:decide ((j:Int)<(iN:Int))=false:=Yp;have HK2:Ud (k+(jF7 x.procs+yE x.work+yE x.recover+szX x.invariant)=szG x):=Ph (by have h1:=HK.o;rw [List.drop_eq_nil_of_le (by have:iN=_:=HG.o.ins.len;omega)]at h1;simpa [jF9]using h1);clear HK hjn;have p13:wr.cell? ⟨pb,13,none⟩=some (.slice qA qN qC):=HP.o.cell 13;have hpn:qN≤20000:=by have h1:qN=_:=HG.o.ps.len;have h2:=jJ6 x.procs;have h3:=HZ.o;have h4:=HK2.o;omega
   have HB2:=HB;have HP2:=HP;have HG2:=HG;clear HB HP HG;go_wp2_with fail
   go_loopw [3,43] (fun v3 v43 wr=>∃ (j k:Nat),j≤qN∧v43=.int .i64 j∧v3=.int .i64 k∧Ud (k+(yE x.work+yE x.recover+szX x.invariant+jF7 (x.procs.drop j))=szG x)∧Ud (Ue w wr)∧Ud (Bk wr pb 36 #[.int .i64 x.blocks,.int .i64 x.width,.slice isS.A isS.n isS.c,.slice gsS.A gsS.n gsS.c,.slice vsS.A vsS.n vsS.c,.slice arS.A arS.n arS.c,.int .u8 x.require.kind,.int .u8 x.require.op,.int .u32 x.require.value,.int .i64 x.require.width,.string (str x.require.name),.slice rqS.A rqS.n rqS.c,.slice iA iN iC,.slice qA qN qC,.slice wkS.A wkS.n wkS.c,.slice rcS.A rcS.n rcS.c,.int .u8 x.invariant.kind,.int .u8 x.invariant.op,.int .u32 x.invariant.value,.int .i64 x.invariant.width,.string (str x.invariant.name),.slice ivS.A ivS.n ivS.c])∧Ud (GxP (fun _=>True) wr x ⟨isS,gsS,vsS,arS,rqS,⟨iA,iN,iC⟩,⟨qA,qN,qC⟩,wkS,rcS,ivS⟩)) (fun _ v43 _=>qN-(intOf v43).toNat)
   case atStart=>exact⟨0,k,lV _,rfl,rfl,Ph (by have:=HK2.o;rw [List.drop_zero];omega),HB2,HP2,HG2⟩
   case round =>
    obtain⟨j,k,hj,rfl,rfl,HK,HB,HP,HG⟩:=hrel;clear HB2 HP2 HG2 HK2 p13;by_cases hlt:j<qN
    ·have e1:decide ((j:Int)<(qN:Int))=true:=by simp;omega
     have hji:(j:Int)<(qN:Int):=Yo;obtain⟨b,off,y,S12,hA,hx,hty,hb,hc⟩:=RowG.get3 HG.o.ps (i:=j) hlt;(try dsimp only at hA);obtain⟨S1,S2⟩:=S12;have c0:wr.cell? ⟨b,off+j*3,none⟩=some (.string (str y.name)):=hc 0 _ Yo rfl;have c1:wr.cell? ⟨b,off+j*3+1,none⟩=some (.slice S1.A S1.n S1.c):=hc 1 _ Yo rfl;have c2:wr.cell? ⟨b,off+j*3+2,none⟩=some (.slice S2.A S2.n S2.c):=hc 2 _ Yo rfl;have hdr:=qU5 x.procs j y hx;have hpl:S1.n=y.params.length:=hty.ps.len;have hsr:szR y=1+S1.n+yE y.body:=by rw [hpl];rfl
     have HSR:=Ph hsr;have HTY:=Ph hty.b;subst hA;clear hx hc hty hpl hsr;go_upto_region 10 with fail
     have hy:=Ph (Bk.new wr 93 #[.string (str y.name),.slice S1.A S1.n S1.c,.slice S2.A S2.n S2.c]);have hBa:Ue wr (wr.alloc (.cells #[.string (str y.name),.slice S1.A S1.n S1.c,.slice S2.A S2.n S2.c] 93)):=zG (lB _ _) _;generalize (wr.alloc _)=W4 at hy hBa ⊢;have hkz:k+1+S1.n+yE y.body≤20000:=by have:=HK.o;have:=HZ.o;have:=HSR.o;omega
     have hw1:IntKind.i64.wrap ((k:Int)+1)=(k:Int)+1:=by rw [lL];omega
     have hw2:IntKind.i64.wrap ((k:Int)+1+(S1.n:Int))=((k+1+S1.n:Nat):Int):=by rw [lL];omega
     have HC:=Ph (zW2 y.body S2 (k+1+S1.n) W4 (Ph (HTY.o.stay (Stays.below hBa))) hkz);have z1:W4.cell? ⟨wr.heap.size,1,none⟩=some (.slice S1.A S1.n S1.c):=hy.o.cell 1;have z2:W4.cell? ⟨wr.heap.size,2,none⟩=some (.slice S2.A S2.n S2.c):=hy.o.cell 2;have HBA:=Ph hBa;clear c0 c1 c2 hBa;go_wp2_with fail
     refine HC.o.mono ?_;rintro e W5 ⟨rfl,hb5⟩;have hb:=zU HBA.o hb5;have HB5:Ud (Ue w W5):=Ph (zU HB.o hb);have HP5:=Ph (zD HP.o hb);have HG5:=Ph (itG.stay _ _ _ _ _ (Stays.below hb) HG.o);clear z1 z2 hb hb5 hw1 hw2;have hw1:IntKind.i64.wrap ((j:Int)+1)=((j+1:Nat):Int):=by rw [lL];omega
     go_wp2_with fail
     go_roundw
     case rel=>exact⟨j+1,k+1+S1.n+yE y.body,Yo,by go_num,Ym,Ph (by have:=HK.o;have:=HSR.o;omega),HB5,HP5,HG5⟩
     case measure=>simp [intOf];omega
    ·have hjn:j=qN:=by omega
     have e1:decide ((j:Int)<(qN:Int))=false:=Yp;have HK2:Ud (k+yE x.work+yE x.recover+szX x.invariant=szG x):=Ph (by have h1:=HK.o;rw [List.drop_eq_nil_of_le (by have:qN=_:=HG.o.ps.len;omega)]at h1;simp only [jF7]at h1;omega);clear HK hjn;go_upto_region 12 with fail
     have hzz:=HZ.o;have hk2:=HK2.o;have HBC:Ud (Ue wr wr.drew):=Ph (lB _ _).drew;have HSS:Ud (∀ W,Ue wr W→W.cell? ⟨pb,14,none⟩=some (.slice wkS.A wkS.n wkS.c)∧W.cell? ⟨pb,15,none⟩=some (.slice rcS.A rcS.n rcS.c)∧W.cell? ⟨pb,16,none⟩=some (.int .u8 x.invariant.kind)∧W.cell? ⟨pb,17,none⟩=some (.int .u8 x.invariant.op)∧W.cell? ⟨pb,18,none⟩=some (.int .u32 x.invariant.value)∧W.cell? ⟨pb,19,none⟩=some (.int .i64 x.invariant.width)∧W.cell? ⟨pb,20,none⟩=some (.string (str x.invariant.name))∧W.cell? ⟨pb,21,none⟩=some (.slice ivS.A ivS.n ivS.c)):=Ph fun W h=>by have hp:=zD HP.o h;exact⟨hp.cell 14,hp.cell 15,hp.cell 16,hp.cell 17,hp.cell 18,hp.cell 19,hp.cell 20,hp.cell 21⟩
     have HC1:Ud (∀ W,Ue wr W→Calls prog 45 #[.slice wkS.A wkS.n wkS.c,.int .i64 k] W fun e w'=>e=.returned (.int .i64 ((k+yE x.work:Nat):Int))∧Ue W w'):=Ph fun W h=>zW2 x.work wkS k W (Ph (HG.o.wk.stay (Stays.below h))) Yo;have HC2:Ud (∀ W,Ue wr W→Calls prog 45 #[.slice rcS.A rcS.n rcS.c,.int .i64 ((k+yE x.work:Nat):Int)] W fun e w'=>e=.returned (.int .i64 ((k+yE x.work+yE x.recover:Nat):Int))∧Ue W w'):=Ph fun W h=>zW2 x.recover rcS (k+yE x.work) W (Ph (HG.o.rc.stay (Stays.below h))) Yo;have HC3:Ud (∀ W,Ue wr W→Calls prog 52 #[.agg (qD5 x.invariant ivS),.int .i64 ((k+yE x.work+yE x.recover:Nat):Int)] W fun e w'=>e=.returned (.int .i64 ((szG x:Nat):Int))∧Ue W w'):=Ph fun W h=>by have h3:=qU3 x.invariant ivS (k+yE x.work+yE x.recover) W (Ph (HG.o.iv.stay (Stays.below h))) Yo;rw [hk2]at h3;exact h3
     generalize hq1:k+yE x.work=q1 at HC1 HC2 HC3;generalize hq2:q1+yE x.recover=q2 at HC2 HC3;dsimp only [qD5]at HC3;clear hq1 hq2 hk2 hzz HG HP HK2
     go_region_held3 (fun W=>W.cell? ⟨pb,14,none⟩=some (.slice wkS.A wkS.n wkS.c)∧W.cell? ⟨pb,15,none⟩=some (.slice rcS.A rcS.n rcS.c)∧W.cell? ⟨pb,16,none⟩=some (.int .u8 x.invariant.kind)∧W.cell? ⟨pb,17,none⟩=some (.int .u8 x.invariant.op)∧W.cell? ⟨pb,18,none⟩=some (.int .u32 x.invariant.value)∧W.cell? ⟨pb,19,none⟩=some (.int .i64 x.invariant.width)∧W.cell? ⟨pb,20,none⟩=some (.string (str x.invariant.name))∧W.cell? ⟨pb,21,none⟩=some (.slice ivS.A ivS.n ivS.c))
      ((with_reducible exact HSS.o _ HBC.o))
      (first
        | (go_at_call 45
           with_reducible refine(HC1.o _ HBC.o).mono ?_
           rintro e v1 ⟨rfl,hb⟩;have HB1:=Ph (zU HBC.o hb);clear HBC hb HC1;have HBC:=HB1;clear HB1)
        | (go_at_call 45
           with_reducible refine(HC2.o _ HBC.o).mono ?_
           rintro e v2 ⟨rfl,hb⟩;have HB1:=Ph (zU HBC.o hb);clear HBC hb HC2;have HBC:=HB1;clear HB1)
        | (go_at_call 52
           with_reducible refine(HC3.o _ HBC.o).mono ?_
           rintro e v3 ⟨rfl,hb⟩;have HB1:=Ph (zU HBC.o hb);clear HBC hb HC3;have HBC:=HB1;clear HB1))
     all_goals
      have HBF:=Ph (zU HB.o HBC.o);go_wp2
      go_ret;exact⟨rfl,HBF.o⟩
theorem kD2 (k:Nat) (h:k≤20000) (w:World):Calls prog 49 #[uI k] w fun e w'=>e=.returned (uI k)∧w=w':=by
 go_enter func49,ntmps49
 go_wp2_with fail
 refine(jK3 k h w).mono ?_;rintro e w1 ⟨rfl,rfl⟩;go_wp2_with fail
 go_ret;exact⟨rfl,rfl⟩
theorem kT3 (x:Gx) (v:GV) (w:World) (HG:Ud (GxP (fun _=>True) w x v)) (hz:szG x≤20000) :
 Calls prog 14 #[.agg (uG x v)] w fun e w'=>e=.returned (uI (szG x:Int))∧Below w.heap.size w w':=by
 have hb:Ue w (w.alloc (.cells (uG x v) 36)):=zG (lB _ _) _;have HC:=Ph (kK6 x v _ (Ph (itG.stay _ _ _ _ _ (Stays.below hb) HG.o)) hz);have HK:=Ph (Bk.new w 36 (uG x v));have HB:=Ph hb;clear hb;go_enter func14,ntmps14
 go_upto_region 1 with fail
 generalize (w.alloc _)=W at *;obtain⟨pb,hpb⟩:∃ b,w.heap.size=b:=⟨_,rfl⟩;rw [hpb]at HK ⊢;have HRG:Ud (W.rangeAt pb 0 [uI x.blocks,uI x.width,.slice v.is.A v.is.n v.is.c,.slice v.gs.A v.gs.n v.gs.c,.slice v.vs.A v.vs.n v.vs.c,.slice v.ar.A v.ar.n v.ar.c,uB x.require.kind,uB x.require.op,uW x.require.value,uI x.require.width,uR x.require.name,.slice v.rq.A v.rq.n v.rq.c,.slice v.ins.A v.ins.n v.ins.c,.slice v.ps.A v.ps.n v.ps.c,.slice v.wk.A v.wk.n v.wk.c,.slice v.rc.A v.rc.n v.rc.c,uB x.invariant.kind,uB x.invariant.op,uW x.invariant.value,uI x.invariant.width,uR x.invariant.name,.slice v.iv.A v.iv.n v.iv.c]):=Ph (yM HK.o);go_wp2_with (refine wpList_load_mid rfl 36 (.tmp 1) rfl pb 0 rfl [uI x.blocks,uI x.width,.slice v.is.A v.is.n v.is.c,.slice v.gs.A v.gs.n v.gs.c,.slice v.vs.A v.vs.n v.vs.c,.slice v.ar.A v.ar.n v.ar.c,uB x.require.kind,uB x.require.op,uW x.require.value,uI x.require.width,uR x.require.name,.slice v.rq.A v.rq.n v.rq.c,.slice v.ins.A v.ins.n v.ins.c,.slice v.ps.A v.ps.n v.ps.c,.slice v.wk.A v.wk.n v.wk.c,.slice v.rc.A v.rc.n v.rc.c,uB x.invariant.kind,uB x.invariant.op,uW x.invariant.value,uI x.invariant.width,uR x.invariant.name,.slice v.iv.A v.iv.n v.iv.c] _ HRG.o underlying36 rfl jR ?_)
 refine HC.o.mono ?_;rintro e w2 ⟨rfl,hb2⟩;go_wp2_with fail
 refine(kD2 (szG x) hz w2).mono ?_;rintro e w3 ⟨rfl,rfl⟩;have HB3:=Ph (zU HB.o hb2);clear hb2;go_wp2_with fail
 go_ret;exact⟨rfl,HB3.o⟩
end
section
open Go.RowKit Go.PlainAid
def kV9 (y:Ix) (S:SV):Array Value:=#[uI y.block,uB y.value.kind,uB y.value.op,uW y.value.value,uI y.value.width,uR y.value.name,.slice S.A S.n S.c]
def kW1 (y:Rx) (V:SV×SV):Array Value:=#[uR y.name,.slice V.1.A V.1.n V.1.c,.slice V.2.A V.2.n V.2.c]
theorem kZ2 (l:List Ix) (S U:SV) (w:World) (hS:Ud (jT5 (fun _=>True) w l S)) (hU:Ud (jT5 (fun _=>True) w l U)) (hl9:l.length≤1000000000)
 (IH:Ud (∀ y,y∈l→∀ (V V':SV) (W:World),Ud (IxP (fun _=>True) W y V)→Ud (IxP (fun _=>True) W y V')→Calls prog 64 #[.agg (kV9 y V),.agg (kV9 y V')] W fun e w'=>e=.returned (.bool true)∧Below W.heap.size W w')) :
 Calls prog 67 #[.slice S.A S.n S.c,.slice U.A U.n U.c,uF 64] w fun e w'=>e=.returned (.bool true)∧Below w.heap.size w w':=by
 obtain⟨SA,n,Sc⟩:=S;obtain⟨UA,m,Uc⟩:=U;have HL:Ud (n=l.length):=Ph hS.o.len;have HM:Ud (m=l.length):=Ph hU.o.len;obtain rfl:n=m:=by rw [HL.o,HM.o]
 have hn1:n≤1000000000:=by have:=HL.o;omega
 go_enter func67,ntmps67
 go_wp2_with fail
 go_loopw [17] (fun v17 wr=>∃ j:Nat,j≤n∧v17=uI j∧Ud (Ue w wr)) (fun v17 _=>n-(intOf v17).toNat)
 case atStart=>exact⟨0,lV _,rfl,Ph (lB _ _)⟩
 case round =>
  obtain⟨j,hj,rfl,HB⟩:=hrel;by_cases hlt:j<n
  ·have e1:decide ((j:Int)<(n:Int))=true:=by simp;omega
   have hji:(j:Int)<(n:Int):=Yo;have hS2:=hS.o.stay itI jZ (Stays.below HB.o);have hU2:=hU.o.stay itI jZ (Stays.below HB.o);obtain⟨b,off,y,v,hA,hx,hty,hb,hc⟩:=RowG.get7 hS2 (i:=j) hlt;obtain⟨b',off',y',u,hA',hx',hty',hb',hc'⟩:=RowG.get7 hU2 (i:=j) hlt;obtain rfl:y=y':=by rw [hx]at hx';injection hx'
   obtain⟨vA,vn,vc⟩:=v;obtain⟨uA,un,uc⟩:=u;(try dsimp only at hA hA');subst hA hA';have c0:wr.cell? ⟨b,off+j*7,none⟩=some (uI y.block):=hc 0 _ Yo rfl;have c1:wr.cell? ⟨b,off+j*7+1,none⟩=some (uB y.value.kind):=hc 1 _ Yo rfl;have c2:wr.cell? ⟨b,off+j*7+2,none⟩=some (uB y.value.op):=hc 2 _ Yo rfl;have c3:wr.cell? ⟨b,off+j*7+3,none⟩=some (uW y.value.value):=hc 3 _ Yo rfl;have c4:wr.cell? ⟨b,off+j*7+4,none⟩=some (uI y.value.width):=hc 4 _ Yo rfl;have c5:wr.cell? ⟨b,off+j*7+5,none⟩=some (uR y.value.name):=hc 5 _ Yo rfl;have c6:wr.cell? ⟨b,off+j*7+6,none⟩=some (.slice vA vn vc):=hc 6 _ Yo rfl;have HI:=Ph (IH.o y (cD hx) ⟨vA,vn,vc⟩ ⟨uA,un,uc⟩);have HT1:=Ph hty;have HT2:=Ph hty';have HCU:Ud (∀ W,Ue wr W→W.cell? ⟨b',off'+j*7,none⟩=some (uI y.block)∧W.cell? ⟨b',off'+j*7+1,none⟩=some (uB y.value.kind)∧W.cell? ⟨b',off'+j*7+2,none⟩=some (uB y.value.op)∧W.cell? ⟨b',off'+j*7+3,none⟩=some (uW y.value.value)∧W.cell? ⟨b',off'+j*7+4,none⟩=some (uI y.value.width)∧W.cell? ⟨b',off'+j*7+5,none⟩=some (uR y.value.name)∧W.cell? ⟨b',off'+j*7+6,none⟩=some (.slice uA un uc)):=Ph fun W h=>⟨(h.cell (p:=⟨b',off'+j*7,none⟩) hb').trans (hc' 0 _ Yo rfl),(h.cell (p:=⟨b',off'+j*7+1,none⟩) hb').trans (hc' 1 _ Yo rfl),(h.cell (p:=⟨b',off'+j*7+2,none⟩) hb').trans (hc' 2 _ Yo rfl),(h.cell (p:=⟨b',off'+j*7+3,none⟩) hb').trans (hc' 3 _ Yo rfl),(h.cell (p:=⟨b',off'+j*7+4,none⟩) hb').trans (hc' 4 _ Yo rfl),(h.cell (p:=⟨b',off'+j*7+5,none⟩) hb').trans (hc' 5 _ Yo rfl),(h.cell (p:=⟨b',off'+j*7+6,none⟩) hb').trans (hc' 6 _ Yo rfl)⟩;clear hx hx' hc hc' hty hty' hS2 hU2;go_upto_region 6 with fail
   have hy1:=Ph (Bk.new wr 90 #[uI y.block,uB y.value.kind,uB y.value.op,uW y.value.value,uI y.value.width,uR y.value.name,.slice vA vn vc]);have hBa:Ue wr (wr.alloc (.cells #[uI y.block,uB y.value.kind,uB y.value.op,uW y.value.value,uI y.value.width,uR y.value.name,.slice vA vn vc] 90)):=zG (lB _ _) _;have hza:(wr.alloc (.cells #[uI y.block,uB y.value.kind,uB y.value.op,uW y.value.value,uI y.value.width,uR y.value.name,.slice vA vn vc] 90)).heap.size=wr.heap.size+1:=lO _ _;obtain⟨d0,d1,d2,d3,d4,d5,d6⟩:=HCU.o _ hBa;generalize (wr.alloc _)=W4 at hy1 hBa hza d0 d1 d2 d3 d4 d5 d6 ⊢;obtain⟨xb,hxb⟩:∃ b,wr.heap.size=b:=⟨_,rfl⟩;rw [hxb]at hy1 ⊢;clear c0 c1 c2 c3 c4 c5 c6;go_upto_region 7 with fail
   have hy2:=Ph (Bk.new W4 90 #[uI y.block,uB y.value.kind,uB y.value.op,uW y.value.value,uI y.value.width,uR y.value.name,.slice uA un uc]);have hBb:Ue W4 (W4.alloc (.cells #[uI y.block,uB y.value.kind,uB y.value.op,uW y.value.value,uI y.value.width,uR y.value.name,.slice uA un uc] 90)):=zG (lB _ _) _;have hy3:=Ph (zD hy1.o hBb);generalize (W4.alloc _)=W5 at hy2 hBb hy3 ⊢;have hze:W4.heap.size=xb+1:=by rw [hza,hxb]
   have hBab:Ue wr W5:=hBa.trans (hBb.mono Yo);try rw [hze]at hy2
   try rw [hze]
   have x0:W5.cell? ⟨xb,0,none⟩=some (uI y.block):=hy3.o.cell 0;have x1:W5.cell? ⟨xb,1,none⟩=some (uB y.value.kind):=hy3.o.cell 1;have x2:W5.cell? ⟨xb,2,none⟩=some (uB y.value.op):=hy3.o.cell 2;have x3:W5.cell? ⟨xb,3,none⟩=some (uW y.value.value):=hy3.o.cell 3;have x4:W5.cell? ⟨xb,4,none⟩=some (uI y.value.width):=hy3.o.cell 4;have x5:W5.cell? ⟨xb,5,none⟩=some (uR y.value.name):=hy3.o.cell 5;have x6:W5.cell? ⟨xb,6,none⟩=some (.slice vA vn vc):=hy3.o.cell 6;have z0:W5.cell? ⟨xb+1,0,none⟩=some (uI y.block):=hy2.o.cell 0;have z1:W5.cell? ⟨xb+1,1,none⟩=some (uB y.value.kind):=hy2.o.cell 1;have z2:W5.cell? ⟨xb+1,2,none⟩=some (uB y.value.op):=hy2.o.cell 2;have z3:W5.cell? ⟨xb+1,3,none⟩=some (uW y.value.value):=hy2.o.cell 3;have z4:W5.cell? ⟨xb+1,4,none⟩=some (uI y.value.width):=hy2.o.cell 4;have z5:W5.cell? ⟨xb+1,5,none⟩=some (uR y.value.name):=hy2.o.cell 5;have z6:W5.cell? ⟨xb+1,6,none⟩=some (.slice uA un uc):=hy2.o.cell 6;have HCC:=Ph (HI.o W5 (Ph (itI.stay _ _ _ _ _ ((Stays.below hBab)) HT1.o)) (Ph (itI.stay _ _ _ _ _ ((Stays.below hBab)) HT2.o)));dsimp only [kV9]at HCC;have HBB:=Ph hBab;clear d0 d1 d2 d3 d4 d5 d6 hBb hBa hBab hza;have hwj:IntKind.i64.wrap ((j:Int)+1)=((j+1:Nat):Int):=by rw [lL];omega
   go_wp2_with fail
   refine HCC.o.mono ?_;rintro e W6 ⟨rfl,hb6⟩;have HB6:Ud (Ue w W6):=Ph (HB.o.trans ((zU HBB.o hb6).mono HB.o.size));clear x0 x1 x2 x3 x4 x5 x6 z0 z1 z2 z3 z4 z5 z6 hb6;go_wp2_with fail
   go_roundw
   case rel=>exact⟨j+1,Yo,by go_num,HB6⟩
   case measure=>simp [intOf];omega
  ·obtain rfl:j=n:=by omega
   have e1:decide ((j:Int)<(j:Int))=false:=Ym;go_wp2_with fail
   go_ret;exact⟨rfl,HB.o⟩
theorem kZ3 (l:List Rx) (S U:SV) (w:World) (hS:Ud (jT6 (fun _=>True) w l S)) (hU:Ud (jT6 (fun _=>True) w l U)) (hl9:l.length≤1000000000)
 (IH:Ud (∀ y,y∈l→∀ (V V':SV×SV) (W:World),Ud (RxP (fun _=>True) W y V)→Ud (RxP (fun _=>True) W y V')→Calls prog 66 #[.agg (kW1 y V),.agg (kW1 y V')] W fun e w'=>e=.returned (.bool true)∧Below W.heap.size W w')) :
 Calls prog 68 #[.slice S.A S.n S.c,.slice U.A U.n U.c,uF 66] w fun e w'=>e=.returned (.bool true)∧Below w.heap.size w w':=by
 obtain⟨SA,n,Sc⟩:=S;obtain⟨UA,m,Uc⟩:=U;have HL:Ud (n=l.length):=Ph hS.o.len;have HM:Ud (m=l.length):=Ph hU.o.len;obtain rfl:n=m:=by rw [HL.o,HM.o]
 have hn1:n≤1000000000:=by have:=HL.o;omega
 go_enter func68,ntmps68
 go_wp2_with fail
 go_loopw [17] (fun v17 wr=>∃ j:Nat,j≤n∧v17=uI j∧Ud (Ue w wr)) (fun v17 _=>n-(intOf v17).toNat)
 case atStart=>exact⟨0,lV _,rfl,Ph (lB _ _)⟩
 case round =>
  obtain⟨j,hj,rfl,HB⟩:=hrel;by_cases hlt:j<n
  ·have e1:decide ((j:Int)<(n:Int))=true:=by simp;omega
   have hji:(j:Int)<(n:Int):=Yo;have hS2:=hS.o.stay itR zD1 (Stays.below HB.o);have hU2:=hU.o.stay itR zD1 (Stays.below HB.o);obtain⟨b,off,y,v,hA,hx,hty,hb,hc⟩:=RowG.get3 hS2 (i:=j) hlt;obtain⟨b',off',y',u,hA',hx',hty',hb',hc'⟩:=RowG.get3 hU2 (i:=j) hlt;obtain rfl:y=y':=by rw [hx]at hx';injection hx'
   obtain⟨⟨vpA,vpn,vpc⟩,⟨vqA,vqn,vqc⟩⟩:=v;obtain⟨⟨upA,upn,upc⟩,⟨uqA,uqn,uqc⟩⟩:=u;(try dsimp only at hA hA');subst hA hA';have c0:wr.cell? ⟨b,off+j*3,none⟩=some (uR y.name):=hc 0 _ Yo rfl;have c1:wr.cell? ⟨b,off+j*3+1,none⟩=some (.slice vpA vpn vpc):=hc 1 _ Yo rfl;have c2:wr.cell? ⟨b,off+j*3+2,none⟩=some (.slice vqA vqn vqc):=hc 2 _ Yo rfl;have HI:=Ph (IH.o y (cD hx) ⟨⟨vpA,vpn,vpc⟩,⟨vqA,vqn,vqc⟩⟩ ⟨⟨upA,upn,upc⟩,⟨uqA,uqn,uqc⟩⟩);have HT1:=Ph hty;have HT2:=Ph hty';have HCU:Ud (∀ W,Ue wr W→W.cell? ⟨b',off'+j*3,none⟩=some (uR y.name)∧W.cell? ⟨b',off'+j*3+1,none⟩=some (.slice upA upn upc)∧W.cell? ⟨b',off'+j*3+2,none⟩=some (.slice uqA uqn uqc)):=Ph fun W h=>⟨(h.cell (p:=⟨b',off'+j*3,none⟩) hb').trans (hc' 0 _ Yo rfl),(h.cell (p:=⟨b',off'+j*3+1,none⟩) hb').trans (hc' 1 _ Yo rfl),(h.cell (p:=⟨b',off'+j*3+2,none⟩) hb').trans (hc' 2 _ Yo rfl)⟩;clear hx hx' hc hc' hty hty' hS2 hU2;go_upto_region 6 with fail
   have hy1:=Ph (Bk.new wr 93 #[uR y.name,.slice vpA vpn vpc,.slice vqA vqn vqc]);have hBa:Ue wr (wr.alloc (.cells #[uR y.name,.slice vpA vpn vpc,.slice vqA vqn vqc] 93)):=zG (lB _ _) _;have hza:(wr.alloc (.cells #[uR y.name,.slice vpA vpn vpc,.slice vqA vqn vqc] 93)).heap.size=wr.heap.size+1:=lO _ _;obtain⟨d0,d1,d2⟩:=HCU.o _ hBa;generalize (wr.alloc _)=W4 at hy1 hBa hza d0 d1 d2 ⊢;obtain⟨xb,hxb⟩:∃ b,wr.heap.size=b:=⟨_,rfl⟩;rw [hxb]at hy1 ⊢;clear c0 c1 c2;go_upto_region 7 with fail
   have hy2:=Ph (Bk.new W4 93 #[uR y.name,.slice upA upn upc,.slice uqA uqn uqc]);have hBb:Ue W4 (W4.alloc (.cells #[uR y.name,.slice upA upn upc,.slice uqA uqn uqc] 93)):=zG (lB _ _) _;have hy3:=Ph (zD hy1.o hBb);generalize (W4.alloc _)=W5 at hy2 hBb hy3 ⊢;have hze:W4.heap.size=xb+1:=by rw [hza,hxb]
   have hBab:Ue wr W5:=hBa.trans (hBb.mono Yo);try rw [hze]at hy2
   try rw [hze]
   have x0:W5.cell? ⟨xb,0,none⟩=some (uR y.name):=hy3.o.cell 0;have x1:W5.cell? ⟨xb,1,none⟩=some (.slice vpA vpn vpc):=hy3.o.cell 1;have x2:W5.cell? ⟨xb,2,none⟩=some (.slice vqA vqn vqc):=hy3.o.cell 2;have z0:W5.cell? ⟨xb+1,0,none⟩=some (uR y.name):=hy2.o.cell 0;have z1:W5.cell? ⟨xb+1,1,none⟩=some (.slice upA upn upc):=hy2.o.cell 1;have z2:W5.cell? ⟨xb+1,2,none⟩=some (.slice uqA uqn uqc):=hy2.o.cell 2;have HCC:=Ph (HI.o W5 (Ph (itR.stay _ _ _ _ _ ((Stays.below hBab)) HT1.o)) (Ph (itR.stay _ _ _ _ _ ((Stays.below hBab)) HT2.o)));dsimp only [kW1]at HCC;have HBB:=Ph hBab;clear d0 d1 d2 hBb hBa hBab hza;have hwj:IntKind.i64.wrap ((j:Int)+1)=((j+1:Nat):Int):=by rw [lL];omega
   go_wp2_with fail
   refine HCC.o.mono ?_;rintro e W6 ⟨rfl,hb6⟩;have HB6:Ud (Ue w W6):=Ph (HB.o.trans ((zU HBB.o hb6).mono HB.o.size));clear x0 x1 x2 z0 z1 z2 hb6;go_wp2_with fail
   go_roundw
   case rel=>exact⟨j+1,Yo,by go_num,HB6⟩
   case measure=>simp [intOf];omega
  ·obtain rfl:j=n:=by omega
   have e1:decide ((j:Int)<(j:Int))=false:=Ym;go_wp2_with fail
   go_ret;exact⟨rfl,HB.o⟩
end
section
open Go.RowKit Go.PlainAid
theorem RowG.getD {P:Nat→Prop} {w:World} {l:List Dx} {S:SV} (h:zE2 P w l S) {i:Nat} (hi:i<S.n) :
 ∃ b off y v,S.A=some ⟨b,off,none⟩∧l[i]?=some y∧DxP P w y v∧b<w.heap.size∧∀ j u,j<3→(yX y v)[j]?=some u→w.cell? ⟨b,off+(i*3+j),none⟩=some u:=RowG.at (m:=3) (fun _ _=>rfl) Yo h hi
theorem eqD (l:List Dx) (S U:SV) (w:World) (hS:Ud (zE2 (fun _=>True) w l S)) (hU:Ud (zE2 (fun _=>True) w l U)) (hl9:l.length≤1000000000) :
 Calls prog 63 #[.slice S.A S.n S.c,.slice U.A U.n U.c] w fun e w'=>e=.returned (.bool true)∧Below w.heap.size w w':=by
 obtain⟨SA,n,Sc⟩:=S;obtain⟨UA,m,Uc⟩:=U;have HL:Ud (n=l.length):=Ph hS.o.len;have HM:Ud (m=l.length):=Ph hU.o.len;obtain rfl:n=m:=by rw [HL.o,HM.o]
 have hn1:n≤1000000000:=by have:=HL.o;omega
 go_enter func63,ntmps63
 go_wp2_with fail
 go_loopw [13] (fun v13 wr=>∃ j:Nat,j≤n∧v13=uI j∧Ud (Ue w wr)) (fun v13 _=>n-(intOf v13).toNat)
 case atStart=>exact⟨0,lV _,rfl,Ph (lB _ _)⟩
 case round =>
  obtain⟨j,hj,rfl,HB⟩:=hrel;by_cases hlt:j<n
  ·have e1:decide ((j:Int)<(n:Int))=true:=by simp;omega
   have hji:(j:Int)<(n:Int):=Yo;have hj0:(0:Int)≤(j:Int):=Yo;have hS2:=hS.o.stay itD qC (Stays.below HB.o);have hU2:=hU.o.stay itD qC (Stays.below HB.o);obtain⟨b,off,y,v,hA,hx,hty,hb,hc⟩:=RowG.getD hS2 (i:=j) hlt;obtain⟨b',off',y',u,hA',hx',hty',hb',hc'⟩:=RowG.getD hU2 (i:=j) hlt;obtain rfl:y=y':=by rw [hx]at hx';injection hx'
   (try dsimp only at hA hA');subst hA hA';have c0:wr.cell? ⟨b,off+j*3,none⟩=some (uR y.name):=hc 0 _ Yo rfl;have c1:wr.cell? ⟨b,off+j*3+1,none⟩=some (uI y.width):=hc 1 _ Yo rfl;have c2:wr.cell? ⟨b,off+j*3+2,none⟩=some (uI y.size):=hc 2 _ Yo rfl;have d0:wr.cell? ⟨b',off'+j*3,none⟩=some (uR y.name):=hc' 0 _ Yo rfl;have d1:wr.cell? ⟨b',off'+j*3+1,none⟩=some (uI y.width):=hc' 1 _ Yo rfl;have d2:wr.cell? ⟨b',off'+j*3+2,none⟩=some (uI y.size):=hc' 2 _ Yo rfl;clear hx hx' hc hc' hty hty' hS2 hU2;have hwj:IntKind.i64.wrap ((j:Int)+1)=((j+1:Nat):Int):=by rw [lL];omega
   go_upto_region 6 with fail
   go_quiet (fail)
   have HB2:Ud (Ue w (wr.drewN nq)):=Ph (HB.o.trans ((zP8 wr nq (lF wr.heap.size)).mono HB.o.size));clear c0 c1 c2 d0 d1 d2;generalize wr.drewN nq=W2 at HB2 ⊢;go_wp2_with fail
   go_roundw
   case rel=>exact⟨j+1,Yo,by go_num,HB2⟩
   case measure=>simp [intOf];omega
  ·obtain rfl:j=n:=by omega
   have e1:decide ((j:Int)<(j:Int))=false:=Ym;go_wp2_with fail
   go_ret;exact⟨rfl,HB.o⟩
end
end Go.Proofs.YtfdaebgllibphaaGreatDoor
