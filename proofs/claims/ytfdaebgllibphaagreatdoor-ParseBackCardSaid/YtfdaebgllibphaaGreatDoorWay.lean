/- ParseBack returns true, and its arguments read as before, for every list of bytes, every place and every number; the listed package variables start as the program's text lays them (the card ties them to it). -/
import Derived.Test.YtfdaebgllibphaaGreatDoorCards
import Derived.Test.YtfdaebgllibphaaGreatDoorTie
import Derived.ProofKit
import Derived.OpenShut
import Derived.Deep.DeepHandedRow
import Derived.Stop.LaidErr
import Derived.Shelf.Vars
import Derived.Deep.DeepWitnessRowRef
import Derived.ChangeSlices
import Derived.Deep.Slices
import Derived.ChangeMaps5
import Derived.ChangeSame
import Derived.JoinedOf
import Derived.JoinedAt
import Derived.JoinedStill
import Derived.RowKit
import Derived.Below
import Derived.Carry
import Derived.Deep.DeepLaidRun
import Derived.Test.YtfdaebgllibphaaGreatDoorWax
set_option linter.unusedVariables false
set_option linter.unusedSimpArgs false
set_option maxRecDepth 100000
set_option maxHeartbeats 16000000
namespace Go.Proofs.YtfdaebgllibphaaGreatDoor
open Go.Proofs.Tryz
section
open Go.RowKit Go.PlainAid
theorem kC6 (g:List UInt8):∀ l:List (List UInt8),Lib.join l g=kT g l
 | []=>rfl
 | [x]=>by simp [Lib.join,kT]
 | x :: y :: l=>by have h:=kC6 g (y :: l);show Lib.join (x :: y :: l) g=x++(g++kT g (y :: l));rw [←h];simp [Lib.join]
theorem kW6 {B:Nat} {w:World} {S:SV} {l:List (List UInt8)} (h:Ud (OwnT B w S l)) (hl:(kT [32] l).length≤1000000) (hn:l.length≤1000000):Calls prog 40 #[.slice S.A S.n S.c,.string ⟨#[32]⟩] w fun e w'=>e=.returned (.string (str (kT [32] l)))∧Below w.heap.size w w':=by
 cases l with
 | nil =>
   have h0:S.n=0:=h.o.2;rw [h0];exact(Tryz.strings_Join_none S.A S.c _ w).mono fun e w' h=>⟨h.1,h.2▸lB _ _⟩
 | cons x l =>
   obtain⟨b,off,hA,hc,hlt,hb⟩:=h.o.cell (i:=0) (t:=x) rfl;have hcap:=kB5 h.o.1;have hlen:=h.o.2;rw [hA];have h1:=Tryz.strings_Join b off S.c ((x :: l).map str) ⟨#[32]⟩ w (fun j y hj=>by
    rw [cS]at hj;cases hq:(x :: l)[j]? with
    | none=>rw [hq]at hj;cases hj
    | some t =>
      rw [hq]at hj;injection hj with hj;subst hj;obtain⟨b',off',hA',hc',_,_⟩:=h.o.cell hq;rw [hA]at hA';injection hA' with hA';injection hA' with e1 e2;subst e1 e2;exact hc') hb (by rw [lW];omega) (by rw [lW,←hlen];exact hcap) (by
      rw [zU7];show(Lib.join _ [32]).length≤_;rw [kC6];omega)
   rw [lW,←hlen]at h1;refine h1.mono ?_;rintro e w' ⟨rfl,hb⟩;refine⟨?_,hb⟩;show Ending.returned (.string ⟨(Lib.join _ [32]).toArray⟩)=_;rw [zU7,kC6];rfl
theorem kY1 (T:List UInt8) (tks:List Tk) (w:World) (hT:T.length≤60000) (hb:zI3 (kG T)=none) (ht:zY T (kG T)=tks) (hcut:Ud (∀ t∈tks,t.text=jL6 T t.at' t.fin∧t.at'≤t.fin∧t.fin≤T.length)) (hn:tks.length≤60000) (hj:(kT [32] (tks.map (·.text))).length≤60000) :
 Calls prog 22 #[uR T] w fun e w'=>e=.returned (.tuple #[.string (str (kT [32] (tks.map (·.text)))),uI T.length,uI 0])∧Below w.heap.size w w':=by
 have HSC:=Ph (jN4 (str T) w (by rw [jV];omega));go_enter func22,ntmps22
 go_wp2_with fail
 refine HSC.o.mono ?_;rintro e w5 ⟨hb5,hsc⟩;have hsc':(∃ a,zI3 (kG T)=some a∧e=.returned (.tuple #[uN,uI a,uI 280]))∨(zI3 (kG T)=none∧∃ A c,e=.returned (.tuple #[.slice A (zY T (kG T)).length c,uI T.length,uI 0])∧RdT w5 A 44 ((zY T (kG T)).flatMap zQ1)):=hsc;clear hsc HSC;rw [hb,ht]at hsc';rcases hsc' with⟨a,hbad,_⟩ | ⟨_,A,c,rfl,hrd⟩
 ·cases hbad
 have HRD:=Ph hrd;have HB5:=Ph hb5;clear hrd hb5 hb ht;go_wp2_with fail
 obtain⟨tn,htn⟩:∃ g,tks.length=g:=⟨_,rfl⟩;have HTN:=Ph htn;rw [htn]at hn ⊢;clear htn;go_loopw [8,23] (fun v8 v23 wi=>∃ (j:Nat) (S8:SV),j≤tn∧v23=uI j∧v8=uL S8∧Ud (OwnT w5.heap.size wi S8 ((tks.take j).map (·.text)))∧Ud (Below w5.heap.size w5 wi)) (fun _ v23 _=>tn-(intOf v23).toNat)
 case atStart=>exact⟨0,zK,lV _,rfl,rfl,Ph ⟨World.ownsRow_nil _ _ _ _,rfl⟩,Ph (lB _ _)⟩
 case round =>
  obtain⟨j,S8,hj,rfl,rfl,HO,HI⟩:=hrel;by_cases hlt:j<tn
  ·have e1:decide ((j:Int)<(tn:Int))=true:=by simp;omega
   have hji:(j:Int)<(tn:Int):=Yo;have hj0:(0:Int)≤(j:Int):=Yo;have wj:IntKind.i64.wrap ((j:Int)+1)=((j+1:Nat):Int):=by rw [lL];omega
   have hlt':j<tks.length:=by rw [HTN.o];exact hlt
   obtain⟨t,ht⟩:∃ t,tks[j]?=some t:=⟨_,cK hlt'⟩;have HTK:Ud ((tks.take (j+1)).map (·.text)=(tks.take j).map (·.text)++[t.text]):=Ph (by rw [List.take_add_one,ht];simp);obtain⟨tb,toff,hTA,htl,htc⟩:=(HRD.o.rd).cells (by
    cases tks with
    | nil=>simp at hlt'
    | cons t l=>simp [zQ1])
   subst hTA;have c0:wr.cell? ⟨tb,toff+j*3,none⟩=some (uB t.kind):=(HI.o.cell (p:=⟨tb,toff+j*3,none⟩) htl).trans (htc (j*3+0) _ (jK1 tks j t 0 _ ht rfl));have c1:wr.cell? ⟨tb,toff+j*3+1,none⟩=some (uI t.at'):=(HI.o.cell (p:=⟨tb,toff+j*3+1,none⟩) htl).trans (htc (j*3+1) _ (jK1 tks j t 1 _ ht rfl));have c2:wr.cell? ⟨tb,toff+j*3+2,none⟩=some (uI t.fin):=(HI.o.cell (p:=⟨tb,toff+j*3+2,none⟩) htl).trans (htc (j*3+2) _ (jK1 tks j t 2 _ ht rfl));obtain⟨hcx,hcl,hcf⟩:=hcut.o t (cD ht);have HTX:Ud (∀ W,Calls prog 16 #[uR T,.agg #[uB t.kind,uI t.at',uI t.fin]] W fun e w'=>e=.returned (uR t.text)∧Below W.heap.size W w'):=Ph fun W=>by have h3:=kE9 T t.kind t.at' t.fin W hcl hcf Yo;rw [←hcx]at h3;exact h3
   clear ht hlt' htc hcx hcl hcf;go_upto_region 8 with fail
   have HK2:=Ph (Bk.new wr 44 #[uB t.kind,uI t.at',uI t.fin]);have HI2:Ud (Below wr.heap.size wr (wr.alloc (.cells #[uB t.kind,uI t.at',uI t.fin] 44))):=Ph zB;generalize (wr.alloc _)=W3 at HK2 HI2 ⊢;obtain⟨xb,hxb⟩:∃ b,wr.heap.size=b:=⟨_,rfl⟩;rw [hxb]at HK2 ⊢;clear hxb c0 c1 c2;have c0:W3.cell? ⟨xb,0,none⟩=some (uB t.kind):=HK2.o.cell 0;have c1:W3.cell? ⟨xb,1,none⟩=some (uI t.at'):=HK2.o.cell 1;have c2:W3.cell? ⟨xb,2,none⟩=some (uI t.fin):=HK2.o.cell 2;go_wp2_with fail
   refine(HTX.o W3).mono ?_;rintro e w4 ⟨rfl,hb4⟩;have HI4:=Ph (HI.o.trans ((zU HI2.o hb4).mono HI.o.size));have HO4:=Ph (HO.o.below (zU HI2.o hb4));clear c0 c1 c2 hb4 HTX HK2 HI2;obtain⟨u,hu⟩:∃ u,t.text=u:=⟨_,rfl⟩;rw [hu]at HTK ⊢;clear hu;have hro:Rd (w4.alloc (.cells #[uR u] 9)) (some ⟨w4.heap.size,0,none⟩) [uR u]:=Rd.new _ _ _;have hsn:S8.n<1000000000:=by have h1:=HO.o.2;rw [lW,cL]at h1;omega
   obtain⟨A',c',w6,hrun,hown,hfr⟩:=(HO4.o.below zB).push (lE HI4.o.size (by rw [lO];omega)) u (some ⟨w4.heap.size,0,none⟩) 1 hro hsn;have HRUN:=Ph hrun;have HO5:=Ph (HTK.o▸hown);have HI5:Ud (Below w5.heap.size w5 w6):=Ph (HI4.o.trans (((Fr.of_below (F:=fun k=>(uL S8).ownBlock=some k) zB).trans hfr).below _ HI4.o.size (fun k hk e=>by have:=(HO4.o.typed e).1;omega)));clear hrun hown hfr hro hsn HO4 HI4 HO;go_wp2_with (at_builtin;refine jL rfl (.tmp 27) (.tmp 31) rfl _ _ _ rfl rfl (HRUN.o _) ?_)
   go_roundw
   case rel=>exact⟨j+1,_,Yo,by go_num,rfl,HO5,HI5⟩
   case measure=>simp [intOf];omega
  ·have hjn:j=tn:=by omega
   have e1:decide ((j:Int)<(tn:Int))=false:=Yp;have HES:Ud (OwnT w5.heap.size wr S8 (tks.map (·.text))):=Ph (by have h:=HO.o;rw [cJ (by have:=HTN.o;omega)]at h;exact h);clear HO hjn;have HJ:=Ph (kW6 HES Yo (by rw [lW,HTN.o];omega));go_wp2_with fail
   refine HJ.o.mono ?_;rintro e w6 ⟨rfl,hb6⟩;have HB6:Ud (Below w.heap.size w w6):=Ph (zU HB5.o (zU HI.o hb6));clear hb6 HJ;go_wp2_with fail
   refine lK (v:=.tuple #[.string (str (kT [32] (tks.map (·.text)))),uI T.length,uI 0]) (by simp [results,results22,go_sem]) rfl ?_;exact⟨rfl,HB6.o⟩
end
def kQ (l:List Wd):Nat:=(l.map fun x=>7+x.2.length).sum
theorem jU:kQ []=0:=rfl
theorem qO (x:Wd) (l:List Wd):kQ (x :: l)=7+x.2.length+kQ l:=by simp [kQ]
theorem jD (a b:List Wd):kQ (a++b)=kQ a+kQ b:=by simp [kQ]
theorem qS6 {g:List UInt8} (hg:g.length≤7):∀ l:List Pc,(kT g (l.map (·.tok))).length≤kQ (l.map wdP)
 | []=>lV _
 | [p]=>by simp [kT,kQ,wdP]
 | p :: q :: l=>by have h:=qS6 hg (q :: l);rw [lY,lY,kT,lY,qO,Ya,Ya];rw [lY]at h;show _≤7+p.tok.length+_;omega
theorem jV8 {o:Nat} (h:o≤16):(kK o).length≤2:=by have:∀ o:Fin 17,(kK o.1).length≤2:=Yd;exact this ⟨o,Yo⟩
theorem jV9 {o:Nat} (h1:1≤o) (h:o≤2):(kK o).length=1:=by have:o=1∨o=2:=Yo;rcases this with rfl | rfl <;> rfl
theorem zK9 (wide:Bool) (y:Ex) (t:List Wd):kQ (jE2 wide y t)≤kQ t+16:=by
 unfold jE2;split
 ·simp only [qO,jD,jU,Yc,Yn];omega
 ·omega
theorem zY8 {x:Ex} (h:ShX x) (wide:Bool):kQ (wX wide x)+22≤32*szX x:=by
 induction h with
 | num v w hv hw =>
   have h1:=jO v hv;have h2:=jO w hw;simp [wX,kQ,szX,kC,h1,h2]
 | var n hn hl=>simp [wX,kQ,szX,kC,hl]
 | elem n y hn hl hy ih =>
   simp only [wX,wXs,szX,kC,List.getD_cons_zero,qO,jD,jU,hl,Yc,Yn];simp only [qO,jD,jU,hl,Yc,Yn,lN (show ¬(3:Nat)=1 by decide),lN (show ¬(3:Nat)=2 by decide),if_true];omega
 | disk y hy ih =>
   have e:wX wide (.mk 4 0 0 0 [] [y])=(1,bs "disk") :: (4,[91]) :: (wX wide y++[(4,[93])]):=by simp [wX,wXs]
   have hd:(bs "disk").length=4:=Yd;rw [e];simp only [szX,kC,qO,jD,jU,Yc,Yn,hd];omega
 | un o y h1 h2 hy ih =>
   have e:wX wide (.mk 5 o 0 0 [] [y])=(4,kK o) :: jE2 wide y (wX wide y):=by simp [wX,wXs]
   have h3:=jV9 h1 h2;have h4:=zK9 wide y (wX wide y);rw [e];simp only [szX,kC,qO,h3];omega
 | bin o x y h1 h2 hx hy ih1 ih2 =>
   have e:wX wide (.mk 6 o 0 0 [] [x,y])=jE2 wide x (wX wide x)++(4,kK o) :: jE2 wide y (wX wide y):=by simp [wX,wXs]
   have h3:=jV8 h2;have h4:=zK9 wide x (wX wide x);have h5:=zK9 wide y (wX wide y);rw [e];simp only [szX,kC,qO,jD];omega
 | mux x y z hx hy hz ih1 ih2 ih3 =>
   have e:wX wide (.mk 7 0 0 0 [] [x,y,z])=jE2 wide x (wX wide x)++(4,[63]) :: (jE2 wide y (wX wide y)++(4,[58]) :: jE2 wide z (wX wide z)):=by simp [wX,wXs]
   have h4:=zK9 wide x (wX wide x);have h5:=zK9 wide y (wX wide y);have h6:=zK9 wide z (wX wide z);rw [e];simp only [szX,kC,qO,jD,Yc,Yn];omega
 | cast w y hw hy ih =>
   have e:wX wide (.mk 8 0 0 w [] [y])=jE2 wide y (wX wide y)++[(4,[64]),(2,qZ w)]:=by simp [wX,wXs]
   have h3:=jO w hw;have h4:=zK9 wide y (wX wide y);rw [e];simp only [szX,kC,qO,jD,jU,Yc,Yn,h3];omega
theorem zD9 (wide:Bool):∀ (l:List Sx),(∀ y∈l,kQ (wS wide y)≤32*szS y)→kQ (wSs wide l)≤32*yE l
 | [],_=>by simp [wSs,kQ,yE]
 | x :: l,h=>by have h1:=h x Ym;have h2:=zD9 wide l fun y hy=>h y (List.mem_cons_of_mem _ hy);simp only [wSs,jD,yE];omega
theorem kX7 {y:Sx} (h:ShS y) (wide:Bool):kQ (wS wide y)≤32*szS y:=by
 have l1:(bs "write").length=5:=Yd;have l2:(bs "flush").length=5:=Yd;have l3:(bs "barrier").length=7:=Yd;have l4:(bs "if").length=2:=Yd;have l5:(bs "else").length=4:=Yd;have l6:(bs "while").length=5:=Yd;have l7:(bs "bound").length=5:=Yd;have l8:(bs "call").length=4:=Yd;induction h with
 | set n x hn hl hx =>
   have e:wS wide (.mk 1 n [x] 0 [] [])=(1,n) :: (4,[61]) :: wX wide x:=by simp [wS]
   have h1:=zY8 hx wide;rw [e];simp only [szS,yE,kC,qO,Yc,Yn,hl];omega
 | put n i x hn hl hi hx =>
   have e:wS wide (.mk 2 n [i,x] 0 [] [])=(1,n) :: (4,[91]) :: (wX wide i++(4,[93]) :: (4,[61]) :: wX wide x):=by simp [wS]
   have h1:=zY8 hi wide;have h2:=zY8 hx wide;rw [e];simp only [szS,yE,kC,qO,jD,Yc,Yn,hl];omega
 | write b x hb hx =>
   have e:wS wide (.mk 3 [] [b,x] 0 [] [])=(1,bs "write") :: (wX wide b++(4,[44]) :: wX wide x):=by simp [wS]
   have h1:=zY8 hb wide;have h2:=zY8 hx wide;rw [e];simp only [szS,yE,kC,qO,jD,Yc,Yn,l1];omega
 | flush =>
   have e:wS wide (.mk 4 [] [] 0 [] [])=[(1,bs "flush")]:=by simp [wS]
   rw [e];simp only [szS,yE,kC,qO,jU,l2];omega
 | barrier =>
   have e:wS wide (.mk 5 [] [] 0 [] [])=[(1,bs "barrier")]:=by simp [wS]
   rw [e];simp only [szS,yE,kC,qO,jU,l3];omega
 | ifs x t f hx ht hf ih1 ih2 =>
   have e:wS wide (.mk 6 [] [x] 0 t f)=(1,bs "if") :: (wX wide x++((4,[123]) :: (wSs wide t++[(4,[125])])++(if f≠[]∨wide then(1,bs "else") :: ((4,[123]) :: (wSs wide f++[(4,[125])])) else []))):=by simp [wS]
   have h1:=zY8 hx wide;have h2:=zD9 wide t ih1;have h3:=zD9 wide f ih2;rw [e];simp only [szS,kC,qO,jD,jU,Yc,Yn,l4];split
   ·simp only [qO,jD,jU,Yc,Yn,l5];omega
   ·simp only [jU];omega
 | loop x b t hx hb ht ih =>
   have e:wS wide (.mk 7 [] [x] b t [])=(1,bs "while") :: (wX wide x++(1,bs "bound") :: (2,qZ b) :: (4,[123]) :: (wSs wide t++[(4,[125])])):=by simp [wS]
   have h1:=zY8 hx wide;have h2:=zD9 wide t ih;have h3:=jO b hb;rw [e];simp only [szS,yE,kC,qO,jD,jU,Yc,Yn,l6,l7,h3];omega
 | call n x hn hl hx =>
   have e:wS wide (.mk 8 n [x] 0 [] [])=(1,bs "call") :: (1,n) :: (4,[40]) :: (wX wide x++[(4,[41])]):=by simp [wS,kO]
   have h1:=zY8 hx wide;rw [e];simp only [szS,yE,kC,qO,jD,jU,Yc,Yn,l8,hl];omega
theorem kW5 {l:List Sx} (h:∀ y∈l,ShS y) (wide:Bool):kQ (wSs wide l)≤32*yE l:=zD9 wide l fun y hy=>kX7 (h y hy) wide
theorem zY9 {A:Type} {f:A→List Wd} {M:Nat}:∀ (l:List A),(∀ x∈l,kQ (f x)≤M)→kQ (l.flatMap f)≤M*l.length
 | [],_=>by simp [kQ]
 | x :: l,h=>by have h1:=h x Ym;have h2:=zY9 l fun y hy=>h y (List.mem_cons_of_mem _ hy);rw [lQ,jD,Yc,Nat.mul_succ];omega
theorem kV1 {d:Dx} (h:DOk d) {w:List UInt8} (hw:w.length≤5):kQ (wD w false d)≤36:=by obtain⟨k,hk⟩:∃ k:Nat,d.width=(k:Int):=⟨d.width.toNat,by have:=h.w1;omega⟩;have h1:=jO k (by have:=h.w3;omega);unfold wD;rw [hk];simp only [Int.toNat_natCast,qO,jU,jD,Bool.false_eq_true,if_false,Yc,Yn,h.l,h1];omega
theorem kX8 {d:Dx} (h:DOk d) (hs:∃ k:Nat,d.size=(k:Int)∧k≤9) {w:List UInt8} (hw:w.length≤5):kQ (wD w true d)≤60:=by obtain⟨k,hk⟩:∃ k:Nat,d.width=(k:Int):=⟨d.width.toNat,by have:=h.w1;omega⟩;have h1:=jO k (by have:=h.w3;omega);obtain⟨m,hm,hm9⟩:=hs;have h2:=jO m hm9;unfold wD;rw [hk,hm];simp only [Int.toNat_natCast,qO,jU,jD,if_true,Yc,Yn,h.l,h1,h2];omega
theorem kT2:∀ {l:List Dx},(∀ d∈l,DOk d∧d.size=0)→l.length≤1→kQ (zN9 l)≤24
 | [],_,_=>lV _
 | [d],h,_=>by
   have hd:=(h d Ym).1;obtain⟨k,hk⟩:∃ k:Nat,d.width=(k:Int):=⟨d.width.toNat,by have:=hd.w1;omega⟩;have h1:=jO k (by have:=hd.w3;omega);have e:zN9 [d]=[(1,d.name),(4,[58]),(2,qZ d.width.toNat)]:=by simp [zN9,jF3]
   rw [e,hk];simp only [Int.toNat_natCast,List.flatMap_nil,qO,jU,jD,Yc,Yn,hd.l,h1];omega
 | _ :: _ :: _,_,h=>by simp at h
theorem kV2 {d n:Nat} {l:List Sx} (h:MdL d n l) (wide:Bool):kQ (wB wide l)≤16+32*(n*pd d):=by have h1:=kW5 (fun y hy=>(h.all y hy).sh) wide;have h2:=h.sz;unfold wB;simp only [qO,jU,jD,Yc,Yn];omega
theorem kZ1 {u1 u2 u3 u4 u5 u6 u7 u8 u9 u10 z1 z2:Nat} (f1:u1≤36*2) (f2:u2≤36*2) (f3:u3≤36*2) (f4:u4≤60*1) (f5:u5≤200*3) (f6:u6≤7000*1) (e1:u7≤16+32*(5*(14+3*(14+3*18)))) (e2:u8≤16+32*(3*(14+3*18))) (d1:u9+22≤32*z1) (d2:z1≤13) (d3:u10+22≤32*z2) (d4:z2≤40) :
 7+6+(7+1+(7+5+(7+1+(u1+(u2+(u3+(u4+(7+7+(u9+(u5+(u6+(7+4+(u7+(7+7+(u8+(7+9+u10))))))))))))))))≤60000:=by
 simp only [←Nat.add_assoc];omega
theorem kX9 {x:Gx} (h:MadeG x) (wide:Bool):kQ (wG wide x)≤60000:=by
 obtain⟨nb,hnb,_,_⟩:=h.b;obtain⟨wd,hwd,_,_⟩:=h.w;have a1:=jO nb Yo;have a2:=jO wd Yo;have b1:=zY9 (f:=wD (bs "input") false) (M:=36) x.inputs fun d hd=>kV1 (h.is.1 d hd).1 (w:=bs "input") Yd;have b2:=zY9 (f:=wD (bs "ghost") false) (M:=36) x.ghosts fun d hd=>kV1 (h.gs.1 d hd).1 (w:=bs "ghost") Yd;have b3:=zY9 (f:=wD (bs "var") false) (M:=36) x.vars fun d hd=>kV1 (h.vs.1 d hd).1 (w:=bs "var") Yd;have b4:=zY9 (f:=wD (bs "array") true) (M:=60) x.arrays fun d hd=>kX8 (h.ar.1 d hd).1 (h.ar.1 d hd).2 (w:=bs "array") Yd;have b5:=zY9 (f:=wI wide) (M:=200) x.inits fun i hi=>by obtain⟨⟨k,h1,h2⟩,h3⟩:=h.ins.1 i hi;have h4:=zY8 h3.sh wide;have h5:=h3.sz;have h6:=jO k h2;unfold wI;rw [h1];simp only [Int.toNat_natCast,qO,Yc,Yn,h6];have h7:(bs "init").length=4:=Yd;omega
 have b6:=zY9 (f:=wR wide) (M:=7000) x.procs fun r hr=>by obtain⟨h1,h2,h3⟩:=h.ps.1 r hr;have h4:=kT2 h2.1 h2.2;have h5:=kV2 h3 wide;simp only [pd]at h5;have e:wR wide r=(1,bs "proc") :: (1,r.name) :: (4,[40]) :: (zN9 r.params++(4,[41]) :: wB wide r.body):=rfl;obtain⟨B,hB⟩:∃ B,wB wide r.body=B:=⟨_,rfl⟩;rw [e,h1];rw [hB]at h5 ⊢;simp only [qO,jD,Yc,Yn];have h7:(bs "proc").length=4:=Yd;omega
 have c1:=Nat.mul_le_mul_left 36 h.is.2;have c2:=Nat.mul_le_mul_left 36 h.gs.2;have c3:=Nat.mul_le_mul_left 36 h.vs.2;have c4:=Nat.mul_le_mul_left 60 h.ar.2;have c5:=Nat.mul_le_mul_left 200 h.ins.2;have c6:=Nat.mul_le_mul_left 7000 h.ps.2;have d1:=zY8 h.rq.sh wide;have d2:=h.rq.sz;have d3:=zY8 h.iv.sh wide;have d4:=h.iv.sz;have e1:=kV2 h.wk wide;have e2:=kV2 h.rc wide;simp only [pd]at e1 e2;have l1:(bs "device").length=6:=Yd;have l2:(bs "width").length=5:=Yd;have l3:(bs "require").length=7:=Yd;have l4:(bs "work").length=4:=Yd;have l5:(bs "recover").length=7:=Yd;have l6:(bs "invariant").length=9:=Yd;have e:wG wide x=(1,bs "device") :: (2,qZ x.blocks.toNat) :: (1,bs "width") :: (2,qZ x.width.toNat) :: (x.inputs.flatMap (wD (bs "input") false)++(x.ghosts.flatMap (wD (bs "ghost") false)++(x.vars.flatMap (wD (bs "var") false)++(x.arrays.flatMap (wD (bs "array") true)++((1,bs "require") :: (wX wide x.require++(x.inits.flatMap (wI wide)++(x.procs.flatMap (wR wide)++((1,bs "work") :: (wB wide x.work++(1,bs "recover") :: (wB wide x.recover++(1,bs "invariant") :: wX wide x.invariant))))))))))):=by unfold wG wG6 wG5 wG4 wG3 wG2 wG1;rfl
 rw [e,hnb,hwd];clear e;generalize x.inputs.flatMap (wD (bs "input") false)=t1 at b1 ⊢;generalize x.ghosts.flatMap (wD (bs "ghost") false)=t2 at b2 ⊢;generalize x.vars.flatMap (wD (bs "var") false)=t3 at b3 ⊢;generalize x.arrays.flatMap (wD (bs "array") true)=t4 at b4 ⊢;generalize x.inits.flatMap (wI wide)=t5 at b5 ⊢;generalize x.procs.flatMap (wR wide)=t6 at b6 ⊢;generalize wB wide x.work=t7 at e1 ⊢;generalize wB wide x.recover=t8 at e2 ⊢;generalize wX wide x.require=t9 at d1 ⊢;generalize wX wide x.invariant=t10 at d3 ⊢;simp only [Int.toNat_natCast,qO,jD,l1,l2,l3,l4,l5,l6,a1,a2];generalize kQ t1=u1 at *;generalize kQ t2=u2 at *;generalize kQ t3=u3 at *;generalize kQ t4=u4 at *;generalize kQ t5=u5 at *;generalize kQ t6=u6 at *;generalize kQ t7=u7 at *;generalize kQ t8=u8 at *;generalize kQ t9=u9 at *;generalize kQ t10=u10 at *;clear hnb hwd a1 a2 l1 l2 l3 l4 l5 l6;exact kZ1 (lE b1 c1) (lE b2 c2) (lE b3 c3) (lE b4 c4) (lE b5 c5) (lE b6 c6) e1 e2 d1 d2 d3 d4
theorem kV3 {x:Gx} (h:MadeG x) {P:List Pc} {wide:Bool} (hw:P.map wdP=wG wide x) {g:List UInt8} (hg:g.length≤7):(kT g (P.map (·.tok))).length≤60000:=by have h1:=qS6 hg P;rw [hw]at h1;exact lE h1 (kX9 h wide)
theorem jK4 {E:Env} {s:PSt} (h:¬(s.e=0∧s.n<E.toks.length)):zM1 E s=s:=lN h
theorem jK5 {l:List Sx} {wide:Bool} (hg:∀ y∈l,vP y) (hh:vL l≤90) (hz:yE l≤1000000) :
 ∃ (f:Nat) (q:QSt),zI3 (kG (kF wide l))=none∧jM ⟨kF wide l,zY (kF wide l) (kG (kF wide l))⟩ f ⟨⟨0,0,0,0⟩,[]⟩ []=some (l,q)∧q.s.e=0∧(zY (kF wide l) (kG (kF wide l))).length≤q.s.n:=by
 obtain⟨h1,h2,h3⟩:=jG2 (wide:=wide) l [] .nil fun y hy=>pcT (hg y hy);have hne:qX1 wide [] l≠[]:=by intro h;rw [h]at h2;simp at h2
 obtain⟨A,p,hA⟩:∃ A p,qX1 wide [] l=A++[p]:=⟨_,_,(List.dropLast_concat_getLast hne).symm⟩;rw [hA]at h1 h2 h3;rw [cB]at h2;obtain⟨hw,hp⟩:=List.append_inj' h2 rfl;have hpt:p.tok=[125]:=by injection hp with hp _;exact congrArg Prod.snd hp
 have hT:jF A++p.gap=kF wide l:=by
  rw [qD,xC,hpt,cF]at h1;have h4:(jF A++p.gap)++[125]=kF wide l++[125]:=by rw [←h1];simp
  exact List.append_cancel_right h4
 have ht:=kL6 (A:=A) (p:=p) (B:=[]) (h3 []);rw [hT]at ht;have hlen:(wSs wide l).length=A.length:=by rw [←hw,lW]
 have hat:AtW ⟨kF wide l,yI 0 A⟩ 0 (wSs wide l):=by rw [←hw];exact qM8 _ 0 _ _ 0 fun i q hq=>by rw [Nat.zero_add];exact hq
 have hend:nw ⟨kF wide l,yI 0 A⟩ (0+(wSs wide l).length)=(0,[]):=by rw [zU3,hlen,cW Yo];rfl
 have hst:Ev fun f=>jM ⟨kF wide l,yI 0 A⟩ f (Qt (0+(wSs wide l).length) 0 0 ([]++zL8 ⟨kF wide l,yI 0 A⟩ wide 0 l)) ([]++l)=some (l,Qt (0+(wSs wide l).length) 0 0 ([]++zL8 ⟨kF wide l,yI 0 A⟩ wide 0 l)):=by rw [cF];refine jF1 ?_ (by rw [hend];decide) (fun h=>by rw [hend]at h;cases h);rw [xB _ wide l fun y hy=>zD6 _ wide (hg y hy)];omega
 have hev:=kA1 (E:=⟨kF wide l,yI 0 A⟩) (d:=0) (fl:=0) (wide:=wide) l 0 [] [] _ (fun y hy=>⟨hg y hy,kN4 _ wide (hg y hy)⟩) Yo Yo hz (by simp only [Yn];omega) hat (by rw [hend];exact⟨⟨Yd,Yd,Yd,fun h=>by cases h⟩,Yd⟩) hst;obtain⟨f,hf⟩:=hev.ex;refine⟨f,Qt (0+(wSs wide l).length) 0 0 ([]++zL8 ⟨kF wide l,yI 0 A⟩ wide 0 l),ht.2,?_,rfl,?_⟩
 ·rw [ht.1];exact hf
 ·rw [ht.1,xV];show A.length≤0+(wSs wide l).length;omega
theorem jK6 {x:Ex} {wide:Bool} (hg:kP x) (hh:htX x≤90) (hz:szX x≤1000000) (hl:(zP wide x).length≤60000):∃ f,xW f ([40]++zP wide x++[41])=some (x,([40]++zP wide x++[41]).length,0):=by
 have hp:=pcE (wide:=wide) hg;obtain⟨P,hP⟩:∃ P:List Pc,(⟨[],4,[40]⟩ :: (pcX wide x++[⟨[],4,[41]⟩]):List Pc)=P:=⟨_,rfl⟩;have hcat:jF P=[40]++zP wide x++[41]:=by rw [←hP,zF,qD,hp.cat,xC];simp
 have hwd:P.map wdP=(4,[40]) :: (wX wide x++[(4,[41])]):=by rw [←hP,lY,cB,hp.wd];rfl
 have hlex:LexOk P []:=by rw [←hP];refine zW 40 .nil Yd (LexOk.app _ _ _ (hp.lex _ ?_) (zW 41 .nil Yd trivial));rw [xC];exact Safe.cons Yd Yd
 have ht:=zJ2 P [] hlex rfl;rw [cT,hcat]at ht;obtain⟨T,hT⟩:∃ T,[40]++zP wide x++[41]=T:=⟨_,rfl⟩;have hTl:T.length≤65536:=by rw [←hT];simp only [Ya,Yc,Yn];omega
 rw [hT]at ht ⊢;have hPl:P.length=0+1+(wX wide x).length+1:=by rw [←lW (f:=wdP),hwd];simp only [Ya,Yc,Yn];omega
 have hat:AtW ⟨T,yI 0 P⟩ 0 ((4,[40]) :: (wX wide x++[(4,[41])])):=by rw [←hwd];exact qM8 _ 0 _ _ 0 fun i q hq=>by rw [Nat.zero_add];exact hq
 obtain⟨a1,a2⟩:=hat;obtain⟨a2,a3,_⟩:=AtW.app a2;have hend:nw ⟨T,yI 0 P⟩ (0+1+(wX wide x).length+1)=(0,[]):=by rw [zU3,cW Yo];rfl
 have hc:=(kR8 ⟨T,yI 0 P⟩ wide hg).1 (0+1) (0+1) 0 Yo Yo hz a2 (by rw [a3];exact zB2);obtain⟨f,hw⟩:=zF3 (a:=[40]) (b:=[41]) (n:=0) (d:=0) Yo Yo (by rw [a1]) Yd hc (by rw [a3]) (by rw [a3];decide);obtain⟨f2,h2⟩:=xM (m:=0+1+(wX wide x).length+1) (d:=0) (fl:=0) (yZ (k:=1) (kA (E:=⟨T,yI 0 P⟩) (n:=0) (d:=0) (fl:=0) rfl (fun _=>by rw [a1];decide) ⟨f+1,by rw [qJ,lH (show(St 0 0 0).e=0 from rfl),qU,zT,a1];exact hw⟩ (yB (by rw [hend];decide))) (yS (by rw [hend];exact fun h=>by cases h))) Yo Yo (by rw [hend];decide);refine⟨f2,?_⟩;unfold xW;rw [lN Yo,ht.2,ht.1];dsimp only;rw [show(⟨0,0,0,0⟩:PSt)=St 0 0 0 from rfl,h2];dsimp only;have hr:zM1 ⟨T,yI 0 P⟩ (St (0+1+(wX wide x).length+1) 0 0)=St (0+1+(wX wide x).length+1) 0 0:=jK4 (by rintro⟨_,h3⟩;have h4:0+1+(wX wide x).length+1<(yI 0 P).length:=h3;rw [xV]at h4;omega);rw [hr,lM rfl]
section
open Go.RowKit Go.PlainAid
theorem kY2 (f:Nat) (t:List UInt8) (lst:List Sx) (q:QSt) (h:zI3 (kG t)=none) (hc:jM ⟨t,zY t (kG t)⟩ f ⟨⟨0,0,0,0⟩,[]⟩ []=some (lst,q)) (he:q.s.e=0) (hn:(zY t (kG t)).length≤q.s.n) (hs:t.length≤65536) (w:World) (hv:Ud (Vars w)) :
 Calls prog 69 #[uR t,uF 70] w fun e w'=>∃ (S Q:SV),e=.returned (.tuple #[.slice S.A S.n S.c,.slice Q.A Q.n Q.c,uI t.length,uI 0])∧StsP (fun k=>w.heap.size≤k) w' lst S∧FrI w w':=by
 have HS:Ud (∀ W,Calls prog 10 #[uR t] W (jN3 W t)):=Ph fun W=>jN4 (str t) W (by rw [jV];exact hs);have HC:=Ph hc;have HBD:=Ph h;have HEN:=Ph (qP8 t hs);obtain⟨T,hT⟩:∃ T,zY t (kG t)=T:=⟨_,rfl⟩;rw [hT]at HC HEN hn;have HE:=Ph he;have HNN:=Ph hn;have HT:=Ph hT;clear hc h he hn;clear hT;go_enter func69,ntmps69
 go_wp2_with fail
 refine(HS.o w).mono ?_;rintro en w1 ⟨hb,⟨a1,h1,_⟩ | ⟨h1,A,c,rfl,hrd⟩⟩
 ·have:=HBD.o;rw [h1]at this;cases this
 rw [HT.o]at hrd ⊢;have HB1:=Ph hb;have HRD:=Ph hrd;have hz1:w.heap.size≤w1.heap.size:=hb.size;clear hb h1 hrd;obtain⟨B,hB⟩:∃ B,w.heap.size=B:=⟨_,rfl⟩;obtain⟨l0,l1⟩:=hv.o.lt;have hBp:=Bk.new w1 152 #[uR t,.slice A T.length c,uI 0,uI 0,uN,uI 0,uI 0];have HP2:Ud (Pq B (w1.alloc (.cells #[uR t,.slice A T.length c,uI 0,uI 0,uN,uI 0,uI 0] 152)) w1.heap.size ⟨t,T⟩ ⟨A,T.length,c,w1.heap.size⟩ ⟨⟨0,0,0,0⟩,[]⟩):=Ph ⟨⟨⟨none,0,0⟩,⟨hBp,HRD.o.below zB,HEN.o,lV _,(hv.o.below HB1.o).below zB,Yo,Yo,by rw [lO];exact Nat.le_succ _⟩,qB7 _ _,rfl⟩,Yo,Yo,by rw [lO];omega⟩;have HB2:Ud (Ue w (w1.alloc (.cells #[uR t,.slice A T.length c,uI 0,uI 0,uN,uI 0,uI 0] 152))):=Ph (zG HB1.o _);have HBW:Ud (w.heap.size=B):=Ph hB;clear hB;clear hBp HB1 HRD l0 l1;go_upto_region 6 with fail
 have hz2:(w1.alloc (.cells #[uR t,.slice A T.length c,uI 0,uI 0,uN,uI 0,uI 0] 152)).heap.size=w1.heap.size+1:=by rw [lO]
 generalize (w1.alloc _)=W2 at HP2 HB2 hz2 ⊢;obtain⟨p,hp⟩:∃ p,w1.heap.size=p:=⟨_,rfl⟩;rw [hp]at HP2;rw [hp];have hwp:w.heap.size≤p:=Yo;have hp2:p<W2.heap.size:=Yo;clear hp hz2;have HEC:=Ph (kM8 f _ lst q HC.o (fun g _=>jE1 g) W2 HP2);go_wp2_with fail
 refine HEC.o.mono ?_;rintro en w3 ⟨S,rfl,ht,hpq⟩;have hw2:w.heap.size≤W2.heap.size:=HB2.o.size;have HX3:Ud (StsP (fun k=>w.heap.size≤k) w3 lst S):=Ph (ht.mono (fun k _ hk=>lE hw2 hk));have HP3:=Ph hpq.pq;have HB3:Ud (FrI w w3):=Ph ((FrI.of_below HB2.o).afterQ hpq.fr hwp (Nat.le_of_eq HBW.o));have hw23:W2.heap.size≤w3.heap.size:=hpq.fr.size;clear ht hpq HEC hw2;obtain⟨Q',hps,hat,hQn⟩:=HP3.o.ex;have HPS:=Ph hps;clear hps hat hQn;obtain⟨g0,g1,g2,g3,g4,g5,g6⟩:=HPS.o.cells;(try dsimp only at g0 g1 g2 g3 g4 g5 g6);have he:=HE.o;have hn:=HNN.o;have e1:((q.s.e:Int) == 0)=true:=Yp;have e2:((q.s.e:Int) != 0)=false:=Yp;have e3:decide (q.s.n<T.length)=false:=Yp;have hls:(str t).size=t.length:=jV t;clear he hn;go_upto_region 11 with fail
 go_quiet (fail)
 have HBq:=Ph (zP8 w3 nq (lF w3.heap.size));have HX5:Ud (StsP (fun k=>w.heap.size≤k) (w3.drewN nq) lst S):=Ph (HX3.o.stay (Stays.below HBq.o));have HB5:Ud (FrI w (w3.drewN nq)):=Ph (HB3.o.then HBq.o);clear g0 g1 g2 g3 g4 g5 g6;generalize w3.drewN nq=W5 at HX5 HB5 ⊢;go_wp2_with fail
 refine lK (v:=.tuple #[uL S,uL Q',uI t.length,uI 0]) (by simp [results,results69,go_sem]) rfl ?_;exact⟨S,Q',rfl,HX5.o,HB5.o⟩
theorem kX1 (f:Nat) (t:List UInt8) (lst:List Sx) (q:QSt) (h:zI3 (kG t)=none) (hc:jM ⟨t,zY t (kG t)⟩ f ⟨⟨0,0,0,0⟩,[]⟩ []=some (lst,q)) (he:q.s.e=0) (hn:(zY t (kG t)).length≤q.s.n) (hs:t.length≤65536) (w:World) (hv:Ud (Vars w)) :
 Calls prog 25 #[uR t] w fun e w'=>∃ (S:SV),e=.returned (.tuple #[.slice S.A S.n S.c,uI t.length,uI 0])∧StsP (fun k=>w.heap.size≤k) w' lst S∧FrI w w':=by
 have HR:=Ph (kY2 f t lst q h hc he hn hs w hv);clear h hc he hn;go_enter func25,ntmps25
 go_wp2_with fail
 refine HR.o.mono ?_;rintro e w1 ⟨S,Q,rfl,hx,hf⟩;have HX:=Ph hx;have HF:=Ph hf;clear hx hf HR;go_wp2_with fail
 refine lK (v:=.tuple #[uL S,uI t.length,uI 0]) (by simp [results,results25,go_sem]) rfl ?_;exact⟨S,rfl,HX.o,HF.o⟩
end
section
open Go.RowKit Go.PlainAid
theorem kD1:∀ (l:List Pc) (o:Nat),(yI o l).map (·.text)=l.map (·.tok)
 | [],_=>rfl
 | p :: l,o=>by simp [yI,kD1 l]
theorem kD3 {w:World} {r o:Nat} {a b:List Value} (h:w.rangeAt r o (a++b)):w.rangeAt r o a:=fun j v hj=>h j v (by
 rw [cI]
 ·exact hj
 ·rcases Nat.lt_or_ge j a.length with h2 | h2
  ·exact h2
  ·rw [cW h2]at hj;cases hj)
structure kY3 (x:Gx) (wide:Bool) (k:Nat) (T D G:List UInt8) (tks:List Tk):Prop where
 bad:zI3 (kG T)=none
 tk:zY T (kG T)=tks
 cut:∀ t∈tks,t.text=jL6 T t.at' t.fin∧t.at'≤t.fin∧t.fin≤T.length
 n:tks.length≤60000
 td:kT [32] (tks.map (·.text))=D
 rp:Lib.replaceAll D [32] (qJ4 k)=G
 all:∀ (i:Nat) (t:List UInt8),[T,D,G][i]?=some t→t.length≤60000∧∃ f l,PgR f t x l t.length 0∧l.length=szG x
theorem kD4 {P:List UInt8→Prop} {T D G:List UInt8} (h1:P T) (h2:P D) (h3:P G):∀ (i:Nat) (t:List UInt8),[T,D,G][i]?=some t→P t
 | 0,t,h=>by injection h with h;exact h▸h1
 | 1,t,h=>by injection h with h;exact h▸h2
 | 2,t,h=>by injection h with h;exact h▸h3
 | i+3,t,h=>by simp at h
theorem kK4 {x:Gx} (h:MadeG x) (wide:Bool) (k:Nat):∃ D G tks,kY3 x wide k (zH2 wide x) D G tks:=by
 have hp:=qG6 (wide:=wide) h.good;have hl:LexOk (pcG wide x) []:=hp.lex [] Safe.nil;have ht:=kI4 (wide:=wide) h.good h.fit;have hlen:=jK8 h wide;have hn:=zQ7 (pcG wide x) [] hl;rw [hp.cat]at hn;have e1:kT [32] ((yI 0 (pcG wide x)).map (·.text))=kT [32] ((pcG wide x).map (·.tok)):=by rw [kD1]
 have key:∀ g,kP4 g→g.length≤7→(kT g ((pcG wide x).map (·.tok))).length≤60000∧∃ f l,PgR f (kT g ((pcG wide x).map (·.tok))) x l (kT g ((pcG wide x).map (·.tok))).length 0∧l.length=szG x:=by intro g hg h7;refine⟨kV3 h hp.wd h7,?_⟩;have h2:=jR9 (P:=reG g (pcG wide x)) (wide:=wide) h.good h.fit (by rw [kW3];exact hp.wd) (kU5 hg hl);rw [kU4]at h2;exact h2
 have hT:(zH2 wide x).length≤60000∧∃ f l,PgR f (zH2 wide x) x l (zH2 wide x).length 0∧l.length=szG x:=by refine⟨hlen,?_⟩;have h2:=jR9 (P:=pcG wide x) (wide:=wide) h.good h.fit hp.wd hl;rw [hp.cat]at h2;exact h2
 have a1:=kE2 (wide:=wide) h.good h.fit;have a2:=kS9 hl k;have a3:=key [32] kU6 Yd;have a4:=key (qJ4 k) (kU8 k) (jI9 k);obtain⟨T,eT⟩:∃ T,zH2 wide x=T:=⟨_,rfl⟩;obtain⟨D,eD⟩:∃ D,kT [32] ((pcG wide x).map (·.tok))=D:=⟨_,rfl⟩;obtain⟨G,eG⟩:∃ G,kT (qJ4 k) ((pcG wide x).map (·.tok))=G:=⟨_,rfl⟩;obtain⟨tks,et⟩:∃ l,yI 0 (pcG wide x)=l:=⟨_,rfl⟩;have a5:tks.length≤60000:=by rw [←et,xV];exact lE hn hlen
 have b1:=ht.1;have b2:=ht.2.1;clear ht key hp hl hn hlen;rw [eD]at a2 a3 e1;rw [eG]at a2 a4;rw [et]at a1 b2 e1;rw [eT]at a1 hT b1 b2 ⊢;exact⟨D,G,tks,⟨b1,b2,a1,a5,e1,a2,kD4 (P:=fun t=>t.length≤60000∧∃ f l,PgR f t x l t.length 0∧l.length=szG x) hT a3 a4⟩⟩
theorem kX2 (k r:Nat) (h:k % 4=r):(#[.string ⟨#[10]⟩,.string ⟨#[32,32]⟩,.string ⟨#[32,35,32,120,32,123,10]⟩,.string ⟨#[9]⟩]:Array Value)[r]?=some (.string (str (qJ4 k))):=by unfold qJ4;rw [h];obtain rfl | rfl | rfl | rfl:r=0∨r=1∨r=2∨r=3:=Yo;all_goals rfl
theorem kT4 (T D G:List UInt8) (j:Nat) (t:List UInt8) (h:[T,D,G][j]?=some t):(#[uR T,uR D,uR G]:Array Value)[j]?=some (uR t):=by
 match j,h with
 | 0,h=>injection h with h;subst h;rfl
 | 1,h=>injection h with h;subst h;rfl
 | 2,h=>injection h with h;subst h;rfl
 | j+3,h=>simp at h
theorem kK5 {w:World} {b:Nat} {t:TypeId} {cs:Array Value} (h:Bk w b t cs) {i:Nat} {v:Value} (hv:cs[i]?=some v):w.cell? ⟨b,i,none⟩=some v:=(h.cell i).trans hv
theorem kV4 (l:List UInt8) (q:Nat) (w:World) (hv:Ud (Vars w)) (hl:l.length≤100000) :
 Calls prog 23 #[uR l,.string ⟨#[32]⟩,.string (str (qJ4 q))] w fun e w'=>e=.returned (.string (str (Lib.replaceAll l [32] (qJ4 q))))∧Below w.heap.size w w':=by
 obtain⟨m,hm⟩:=hv.o.max;have hc:=Lib.countB_le ⟨#[32]⟩ Yd (str l).size (str l) (lF _);have hls:(str l).size≤100000:=by rw [jV];exact hl
 have hr:(str (qJ4 q)).size≤7:=by rw [jV];exact jI9 q
 have hm3:=Nat.mul_le_mul hc hr;refine(Tryz.strings_ReplaceAll (str l) ⟨#[32]⟩ (str (qJ4 q)) m w Yo hm Yd Yo).mono ?_;rintro e w' ⟨rfl,hb⟩;refine⟨?_,hb⟩;rw [qE,qE];rfl
theorem kV5 (l:List UInt8) (w:World):Calls prog 27 #[.string (str ([123]++l)),.string ⟨#[123]⟩] w fun e w'=>e=.returned (uR l)∧w=w':=by refine(Tryz.strings_TrimPrefix (str ([123]++l)) ⟨#[123]⟩ w).mono ?_;rintro e w' ⟨rfl,rfl⟩;refine⟨?_,rfl⟩;show Ending.returned (.string ⟨(Lib.trimPrefix (str ([123]++l)).data.toList [123]).toArray⟩)=_;rw [qE];unfold Lib.trimPrefix Lib.hasPrefix;rw [lM (by simp [List.isPrefixOf])];rfl
theorem kV6 (l:List UInt8) (w:World) (hl:l.length≤1000000):Calls prog 26 #[.string (str (l++[125])),.string ⟨#[125]⟩] w fun e w'=>e=.returned (uR l)∧w=w':=by
 refine(Tryz.strings_TrimSuffix (str (l++[125])) ⟨#[125]⟩ w (by rw [jV,Ya,List.length_singleton];omega)).mono ?_;rintro e w' ⟨rfl,rfl⟩;refine⟨?_,rfl⟩;show Ending.returned (.string ⟨(Lib.trimSuffix (str (l++[125])).data.toList [125]).toArray⟩)=_;rw [qE];unfold Lib.trimSuffix Lib.hasSuffix;rw [lM (List.isSuffixOf_iff_suffix.2 (List.suffix_append _ _))];rw [Ya,List.length_singleton,Nat.add_sub_cancel,List.take_left']
 ·rfl
 ·rfl
theorem qS8:(prog.info? 31).map (·.size)=some 6:=Yk
theorem kT5 (A0:Option Addr) (n c0:Nat) (Lb:List UInt8) (wide:Bool) (gk:Nat) (hgk:gk≤255) (w:World) (hv:Ud (Vars w)) (hr:Ud (Rd w A0 (Lb.map fun b=>uB b.toNat))) (hl:Ud (Lb.length=n)) (hn:n≤9223372036854775807) (hc:n≤c0) :
 Calls prog 6 #[.slice A0 n c0,.bool wide,uB gk] w fun e w'=>e=.returned (.bool true)∧Below w.heap.size w w':=by
 have HAW:=Ph (kK3 w hv);go_enter func6,ntmps6
 go_wp2_with fail
 refine HAW.o.mono ?_;rintro e w1 ⟨rfl,hb1⟩;have HV1:Ud (Vars w1):=Ph (hv.o.below hb1);have HMC:=Ph (kO8 A0 n c0 Lb w1 (Ph (hr.o.below hb1)) (Ph fun hne b off e=>by obtain⟨b',off',e',hlt,_⟩:=(hr.o.below hb1).cells (by simpa using hne);rw [e]at e';injection e' with e';injection e' with e1;omega) hl hn hc);have HB1:=Ph hb1;clear hb1 HAW hv hr hl hn hc;go_wp2_with fail
 refine HMC.o.mono ?_;rintro e w2 ⟨x,v,rfl,hmg,hgx,hb2⟩;unfold zN5;have HMG:=Ph hmg;have HB2:Ud (Below w.heap.size w w2):=Ph (HB1.o.trans (hb2.mono HB1.o.size));have HV2:Ud (Vars w2):=Ph (HV1.o.below hb2);have HGX:=Ph hgx;clear hmg hgx hb2 HMC HB1 HV1;have H1G:Ud (((uG x v):Array Value).all (·.oneCell')=true):=Ph (all_oneCell_toArray (xD x v));go_upto_region 4 with(refine yN rfl 36 (.tmp 7) (.tmp 27) rfl w2 uP (uG x v) rfl rfl jR rfl H1G.o ?_)
 have HK3:=Ph (Bk.new w2 36 (uG x v));have HB3:Ud (Below w.heap.size w (w2.alloc (.cells (uG x v) 36))):=Ph (HB2.o.trans (zB.mono HB2.o.size));have HV3:Ud (Vars (w2.alloc (.cells (uG x v) 36))):=Ph (HV2.o.below zB);have HG3:Ud (GxP (fun b=>w1.heap.size≤b) (w2.alloc (.cells (uG x v) 36)) x v):=Ph (itG.stay _ _ _ _ _ (Stays.below zB) HGX.o);generalize (w2.alloc _)=W3 at HK3 HB3 HV3 HG3 ⊢;obtain⟨pb,hpb⟩:∃ b,w2.heap.size=b:=⟨_,rfl⟩;rw [hpb]at HK3 ⊢;clear hpb HB2 HV2 HGX H1G;have HRG:Ud (W3.rangeAt pb 0 [uI x.blocks,uI x.width,uL v.is,uL v.gs,uL v.vs,uL v.ar,uB x.require.kind,uB x.require.op,uW x.require.value,uI x.require.width,uR x.require.name,uL v.rq,uL v.ins,uL v.ps,uL v.wk,uL v.rc,uB x.invariant.kind,uB x.invariant.op,uW x.invariant.value,uI x.invariant.width,uR x.invariant.name,uL v.iv]):=Ph (yM HK3.o);have HTX:=Ph (kJ7 x HMG v (fun b=>w1.heap.size≤b) wide W3 HG3);go_wp2_with (refine wpList_load_mid rfl 36 (.tmp 7) rfl pb 0 rfl [uI x.blocks,uI x.width,uL v.is,uL v.gs,uL v.vs,uL v.ar,uB x.require.kind,uB x.require.op,uW x.require.value,uI x.require.width,uR x.require.name,uL v.rq,uL v.ins,uL v.ps,uL v.wk,uL v.rc,uB x.invariant.kind,uB x.invariant.op,uW x.invariant.value,uI x.invariant.width,uR x.invariant.name,uL v.iv] _ HRG.o underlying36 rfl jR ?_)
 refine HTX.o.mono ?_;rintro e w4 ⟨rfl,hb4⟩;have HB4:Ud (Below w.heap.size w w4):=Ph (HB3.o.trans (hb4.mono HB3.o.size));have HV4:Ud (Vars w4):=Ph (HV3.o.below hb4);have HK4:=Ph (zD HK3.o hb4);have HG4:Ud (GxP (fun _=>True) w4 x v):=Ph (itG.mono _ _ _ _ _ (fun _ _ _=>trivial) (itG.stay _ _ _ _ _ (Stays.below hb4) HG3.o));have HSZ:Ud (szG x≤20000):=Ph HMG.o.sz2;have HTL:=Ph (jK8 HMG.o wide);obtain⟨D,G,tks,hbk⟩:=kK4 HMG.o wide gk;obtain⟨T,hT⟩:∃ T,zH2 wide x=T:=⟨_,rfl⟩;rw [hT]at HTL hbk ⊢;have HBG:=Ph hbk;clear hb4 HTX HRG HK3 HB3 HV3 HG3 hT hbk;have HDL:Ud (D.length≤60000):=Ph (HBG.o.all 1 D rfl).1;have HTD:=Ph (kY1 T tks w4 HTL.o HBG.o.bad HBG.o.tk (Ph HBG.o.cut) HBG.o.n (by rw [HBG.o.td];exact HDL.o));rw [HBG.o.td]at HTD;go_wp2_with fail
 refine HTD.o.mono ?_;rintro e w5 ⟨rfl,hb5⟩;have HB5:Ud (Below w.heap.size w w5):=Ph (HB4.o.trans (hb5.mono HB4.o.size));have HV5:Ud (Vars w5):=Ph (HV4.o.below hb5);have HK5:=Ph (zD HK4.o hb5);have HG5:Ud (GxP (fun _=>True) w5 x v):=Ph (itG.stay _ _ _ _ _ (Stays.below hb5) HG4.o);clear hb5 HTD HB4 HV4 HK4 HG4;obtain⟨r4,hr4⟩:∃ r,gk % 4=r:=⟨_,rfl⟩;have hr44:r4<4:=Yo;have d6:(gk:Int).tmod 4=(r4:Int):=by rw [Int.tmod_eq_emod_of_nonneg Yo];omega
 have d5:(gk:Int) % 4=(r4:Int):=Yo;have d7:IntKind.u8.wrap (r4:Int)=(r4:Int):=by rw [IntKind.wrap_u8];omega
 have d8:IntKind.i64.wrap (r4:Int)=(r4:Int):=by rw [lL];omega
 have hri:(r4:Int)<(4:Int):=Yo;have hri0:(0:Int)≤(r4:Int):=Yo;have y3:(w5.alloc (.cells #[.string ⟨#[10]⟩,.string ⟨#[32,32]⟩,.string ⟨#[32,35,32,120,32,123,10]⟩,.string ⟨#[9]⟩] 9)).cell? ⟨w5.heap.size,r4,none⟩=some (.string (str (qJ4 gk))):=kK5 (Bk.new w5 9 #[.string ⟨#[10]⟩,.string ⟨#[32,32]⟩,.string ⟨#[32,35,32,120,32,123,10]⟩,.string ⟨#[9]⟩]) (kX2 gk r4 hr4);have hal:Below w5.heap.size w5 (w5.alloc (.cells #[.string ⟨#[10]⟩,.string ⟨#[32,32]⟩,.string ⟨#[32,35,32,120,32,123,10]⟩,.string ⟨#[9]⟩] 9)):=zB;have HB6:Ud (Below w.heap.size w (w5.alloc (.cells #[.string ⟨#[10]⟩,.string ⟨#[32,32]⟩,.string ⟨#[32,35,32,120,32,123,10]⟩,.string ⟨#[9]⟩] 9))):=Ph (HB5.o.trans (hal.mono HB5.o.size));have HV6:Ud (Vars (w5.alloc (.cells #[.string ⟨#[10]⟩,.string ⟨#[32,32]⟩,.string ⟨#[32,35,32,120,32,123,10]⟩,.string ⟨#[9]⟩] 9))):=Ph (HV5.o.below hal);have HK6:=Ph (zD HK5.o hal);have HG6:Ud (GxP (fun _=>True) (w5.alloc (.cells #[.string ⟨#[10]⟩,.string ⟨#[32,32]⟩,.string ⟨#[32,35,32,120,32,123,10]⟩,.string ⟨#[9]⟩] 9)) x v):=Ph (itG.stay _ _ _ _ _ (Stays.below hal) HG5.o);clear hr4 hal HB5 HV5 HK5 HG5;go_wp2_with fail
 generalize (w5.alloc _)=W6 at HB6 HV6 HK6 HG6 ⊢;clear y3;have HRP:=Ph (kV4 D gk W6 HV6 (lE HDL.o Yd));rw [HBG.o.rp]at HRP;refine HRP.o.mono ?_;rintro e w6 ⟨rfl,hb6⟩;have HB7:Ud (Below w.heap.size w w6):=Ph (HB6.o.trans (hb6.mono HB6.o.size));have HV7:Ud (Vars w6):=Ph (HV6.o.below hb6);have HK7:=Ph (zD HK6.o hb6);have HG7:Ud (GxP (fun _=>True) w6 x v):=Ph (itG.stay _ _ _ _ _ (Stays.below hb6) HG6.o);clear hb6 HRP HB6 HV6 HK6 HG6 d6 d5 d7 d8 hri hri0 hr44;have hal:Below w6.heap.size w6 (w6.alloc (.cells #[uR T,uR D,uR G] 9)):=zB;have HS8:=Ph (Bk.new w6 9 #[uR T,uR D,uR G]);have HB8:Ud (Below w.heap.size w (w6.alloc (.cells #[uR T,uR D,uR G] 9))):=Ph (HB7.o.trans (hal.mono HB7.o.size));have HV8:Ud (Vars (w6.alloc (.cells #[uR T,uR D,uR G] 9))):=Ph (HV7.o.below hal);have HK8:=Ph (zD HK7.o hal);have HG8:Ud (GxP (fun _=>True) (w6.alloc (.cells #[uR T,uR D,uR G] 9)) x v):=Ph (itG.stay _ _ _ _ _ (Stays.below hal) HG7.o);clear hal HB7 HV7 HK7 HG7;go_wp2_with fail
 generalize (w6.alloc _)=W8 at HS8 HB8 HV8 HK8 HG8 ⊢;obtain⟨sb,hsb⟩:∃ s,w6.heap.size=s:=⟨_,rfl⟩;rw [hsb]at HS8 ⊢;clear hsb;go_loopw [49] (fun v49 wi=>∃ j:Nat,j≤3∧v49=uI j∧Ud (Below W8.heap.size W8 wi)) (fun v49 _=>3-(intOf v49).toNat)
 case atStart=>exact⟨0,lV _,rfl,Ph (lB _ _)⟩
 case round =>
  obtain⟨j,hj,rfl,HI⟩:=hrel;by_cases hlt:j<3
  ·have e1:decide ((j:Int)<3)=true:=by simp;omega
   have hji:(j:Int)<(3:Int):=Yo;have hj0:(0:Int)≤(j:Int):=Yo;have wj:IntKind.i64.wrap ((j:Int)+1)=((j+1:Nat):Int):=by rw [lL];omega
   obtain⟨t,ht⟩:∃ t,[T,D,G][j]?=some t:=⟨_,cK (by simpa using hlt)⟩;have HSr:=Ph (zD HS8.o HI.o);have y3:wr.cell? ⟨sb,j,none⟩=some (uR t):=kK5 HSr.o (kT4 T D G j t ht);obtain⟨htl,f,l,hpg,hll⟩:=HBG.o.all j t ht;have HVr:Ud (Vars wr):=Ph (HV8.o.below HI.o);have HD:=Ph (jU8 f t x l t.length 0 hpg Yo wr HVr);have HTT:Ud (t.length≤60000):=Ph htl;have HLZ:Ud (l.length=szG x):=Ph hll;clear hpg ht htl hll HSr;go_wp2_with fail
   refine HD.o.mono ?_;rintro e w9 ⟨v2,Q2,rfl,hg8,hat,hq8,hfr8,hv8⟩;rw [hq8];have HI9:Ud (Below W8.heap.size W8 w9):=Ph (HI.o.trans (hfr8.below.mono HI.o.size));have HG9:Ud (GxP (fun _=>True) w9 x v2):=Ph (itG.mono _ _ _ _ _ (fun _ _ _=>trivial) hg8);clear hg8 hfr8 hv8 HD hat hq8 y3 HVr;have H2G:Ud (((c23 x v2 (.slice Q2.A l.length Q2.c)):Array Value).all (·.oneCell')=true):=Ph (all_oneCell_toArray (zY5 x v2 ⟨Q2.A,l.length,Q2.c⟩));go_upto_region 11 with(refine yN rfl 47 (.tmp 15) (.tmp 56) rfl w9 #[uI 0,uI 0,uN,uN,uN,uN,uB 0,uB 0,uW 0,uI 0,uT,uN,uN,uN,uN,uN,uB 0,uB 0,uW 0,uI 0,uT,uN,uN] (c23 x v2 (.slice Q2.A l.length Q2.c)) rfl rfl qB9 rfl H2G.o ?_)
   have hal:Below w9.heap.size w9 (w9.alloc (.cells (c23 x v2 (.slice Q2.A l.length Q2.c)) 47)):=zB;have HQ10:=Ph (Bk.new w9 47 (c23 x v2 (.slice Q2.A l.length Q2.c)));have HI10:Ud (Below W8.heap.size W8 (w9.alloc (.cells (c23 x v2 (.slice Q2.A l.length Q2.c)) 47))):=Ph (HI9.o.trans (hal.mono HI9.o.size));have HY10:Ud (GxP (fun _=>True) (w9.alloc (.cells (c23 x v2 (.slice Q2.A l.length Q2.c)) 47)) x v2):=Ph (itG.stay _ _ _ _ _ (Stays.below hal) HG9.o);generalize (w9.alloc _)=W10 at HQ10 HI10 HY10 ⊢;obtain⟨gb,hgb⟩:∃ g,w9.heap.size=g:=⟨_,rfl⟩;rw [hgb]at HQ10 ⊢;clear H2G hal hgb HI9 HG9;have HK10:=Ph (zD HK8.o HI10.o);have HG10:Ud (GxP (fun _=>True) W10 x v):=Ph (itG.stay _ _ _ _ _ (Stays.below HI10.o) HG8.o);have HSAM:Ud (∀ W,Below W10.heap.size W10 W→Calls prog 24 #[.agg (uG x v2),.agg (uG x v)] W fun e w'=>e=.returned (.bool true)∧Below W.heap.size W w'):=Ph fun W h=>kW9 x v2 v W (Ph (itG.stay _ _ _ _ _ (Stays.below h) HY10.o)) (Ph (itG.stay _ _ _ _ _ (Stays.below h) HG10.o)) HSZ.o;obtain⟨ln,hln⟩:∃ n,l.length=n:=⟨_,rfl⟩;obtain⟨tl,htl⟩:∃ n,t.length=n:=⟨_,rfl⟩;have HSTR:Ud ((str t).size=tl):=Ph (by rw [jV,htl]);have htl6:tl≤60000:=by have:=HTT.o;omega
   have HSIZ:Ud (∀ W,Below W10.heap.size W10 W→Calls prog 14 #[.agg (uG x v)] W fun e w'=>e=.returned (uI ln)∧Below W.heap.size W w'):=Ph fun W h=>by have h3:=kT3 x v W (Ph (itG.stay _ _ _ _ _ (Stays.below h) HG10.o)) HSZ.o;rw [←HLZ.o,hln]at h3;exact h3
   rw [hln]at HQ10;try rw [htl]
   have hl2:ln≤20000:=by have:=HLZ.o;have:=HSZ.o;omega
   clear hln HLZ HTT htl;have w0:IntKind.i64.wrap 0=0:=Yd;have e0:((tl:Int) != (tl:Int))=false:=Ym;have e2:((ln:Int) != (ln:Int))=false:=Ym;refine zW3 12 20 (fun W=>Below W10.heap.size W10 W) Yk Yk Yk Yd Yd (lB _ _).drew ?_;simp only [cR,List.take_zero,List.drop_succ_cons,List.drop_zero];refine⟨uI 0,Or.inl ⟨Yr,fun W hW=>?_⟩,?_⟩
   ·go_simp
   go_frame;refine⟨.bool false,Or.inl ⟨Yr,fun W hW=>?_⟩,?_⟩
   ·go_simp
   go_frame;refine⟨.bool false,Or.inl ⟨Yr,fun W hW=>?_⟩,?_⟩
   ·go_simp
   go_frame;refine⟨uI tl,Or.inl ⟨Yr,fun W hW=>?_⟩,?_⟩
   ·go_simp
   go_frame;refine⟨uR t,Or.inl ⟨Yr,fun W hW=>?_⟩,?_⟩
   ·go_simp
   go_frame;refine⟨uI tl,Or.inl ⟨Yr,fun W hW=>?_⟩,?_⟩
   ·have hst:=HSTR.o;go_simp
   go_frame;refine⟨.bool false,Or.inl ⟨Yr,fun W hW=>?_⟩,?_⟩
   ·go_simp
   go_frame;refine⟨.bool false,Or.inl ⟨Yr,fun W hW=>?_⟩,?_⟩
   ·go_simp
   go_frame;refine⟨.bool false,Or.inl ⟨Yr,fun W hW=>?_⟩,?_⟩
   ·go_simp
   go_frame;refine⟨uQ gb 0,Or.inl ⟨Yr,fun W hW=>?_⟩,?_⟩
   ·go_simp
   go_frame;refine⟨_,yieldsIf_load_mid Yr 36 (.tmp 68) rfl gb 0 rfl [uI x.blocks,uI x.width,uL v2.is,uL v2.gs,uL v2.vs,uL v2.ar,uB x.require.kind,uB x.require.op,uW x.require.value,uI x.require.width,uR x.require.name,uL v2.rq,uL v2.ins,uL v2.ps,uL v2.wk,uL v2.rc,uB x.invariant.kind,uB x.invariant.op,uW x.invariant.value,uI x.invariant.width,uR x.invariant.name,uL v2.iv] _ (fun W hW=>kD3 (b:=[.slice Q2.A ln Q2.c]) (yM (zD HQ10.o hW))) underlying36 rfl jR,?_⟩;go_frame;refine⟨_,yieldsIf_load_mid Yr 36 (.tmp 7) rfl pb 0 rfl [uI x.blocks,uI x.width,uL v.is,uL v.gs,uL v.vs,uL v.ar,uB x.require.kind,uB x.require.op,uW x.require.value,uI x.require.width,uR x.require.name,uL v.rq,uL v.ins,uL v.ps,uL v.wk,uL v.rc,uB x.invariant.kind,uB x.invariant.op,uW x.invariant.value,uI x.invariant.width,uR x.invariant.name,uL v.iv] _ (fun W hW=>yM (zD HK10.o hW)) underlying36 rfl jR,?_⟩;go_frame;refine zO4 ?_;refine wpOp_step rfl (fun K hK=>?_);rw [lM Yr];go_simp;go_at_call 24
   refine(HSAM.o _ (lB _ _).drew).mono ?_;rintro e w11 ⟨rfl,hb11⟩;have hB11:Below W10.heap.size W10 w11:=zU (lB _ _).drew hb11;refine hK _ _ ⟨hB11,?_⟩;clear hK K hb11;try go_frame
   refine⟨.bool false,Or.inl ⟨Yr,fun W hW=>?_⟩,?_⟩
   ·go_simp
   go_frame;refine⟨.bool false,Or.inl ⟨Yr,fun W hW=>?_⟩,?_⟩
   ·go_simp
   go_frame;refine⟨.bool false,Or.inl ⟨Yr,fun W hW=>?_⟩,?_⟩
   ·go_simp
   go_frame;refine⟨uQ gb 22,Or.inl ⟨Yr,fun W hW=>?_⟩,?_⟩
   ·go_simp
   go_frame;refine⟨.slice Q2.A ln Q2.c,Or.inl ⟨Yr,fun W hW=>?_⟩,?_⟩
   ·have g22:W.cell? ⟨gb,22,none⟩=some (.slice Q2.A ln Q2.c):=(zD HQ10.o hW).cell 22;go_simp
   go_frame;refine⟨uI ln,Or.inl ⟨Yr,fun W hW=>?_⟩,?_⟩
   ·go_simp
   go_frame;refine⟨_,yieldsIf_load_mid Yr 36 (.tmp 7) rfl pb 0 rfl [uI x.blocks,uI x.width,uL v.is,uL v.gs,uL v.vs,uL v.ar,uB x.require.kind,uB x.require.op,uW x.require.value,uI x.require.width,uR x.require.name,uL v.rq,uL v.ins,uL v.ps,uL v.wk,uL v.rc,uB x.invariant.kind,uB x.invariant.op,uW x.invariant.value,uI x.invariant.width,uR x.invariant.name,uL v.iv] _ (fun W hW=>yM (zD HK10.o hW)) underlying36 rfl jR,?_⟩;go_frame;refine zO4 ?_;refine wpOp_step rfl (fun K hK=>?_);rw [lM Yr];go_simp;go_at_call 14
   refine(HSIZ.o _ hB11).mono ?_;rintro e w12 ⟨rfl,hb12⟩;have hB12:Below W10.heap.size W10 w12:=zU hB11 hb12;refine hK _ _ ⟨hB12,?_⟩;clear hK K hb12 hB11;try go_frame
   refine⟨.bool false,Or.inl ⟨Yr,fun W hW=>?_⟩,?_⟩
   ·go_simp
   go_frame;refine⟨.bool false,Or.inl ⟨Yr,fun W hW=>?_⟩,?_⟩
   ·go_simp
   go_frame;refine zO4 ?_;have HI12:Ud (Below W8.heap.size W8 w12):=Ph (HI10.o.trans (hB12.mono HI10.o.size));clear hB12 HI10 HK10 HG10 HQ10 HY10 HSAM HSIZ;go_wp2_with fail
   exact⟨⟨j+1,Yo,by first | rfl | go_num | simp,HI12⟩,by simp [intOf];omega⟩
  ·have e1:decide ((j:Int)<3)=false:=by simp;omega
   have HVe:Ud (Vars wr):=Ph (HV8.o.below HI.o);have HKe:=Ph (zD HK8.o HI.o);have HGe:Ud (GxP (fun _=>True) wr x v):=Ph (itG.stay _ _ _ _ _ (Stays.below HI.o) HG8.o);have HBe:Ud (Below w.heap.size w wr):=Ph (HB8.o.trans (HI.o.mono HB8.o.size));have HB0:=Ph (jI3 (l:=x.work) (fun y hy=>(HMG.o.wk.all y hy).sh) (by have h1:=HMG.o.wk.sz;simp only [pd]at h1;omega) wide v.wk (fun _=>True) wr (Ph HGe.o.wk));obtain⟨f,q,hq1,hq2,hq3,hq4⟩:=jK5 (l:=x.work) (wide:=wide) HMG.o.good.wk HMG.o.fit.wk (by have h1:=HMG.o.wk.sz;simp only [pd]at h1;omega);have HSL:Ud ((kF wide x.work).length≤60000):=Ph (by have h1:=HMG.o.wk.sz;simp only [pd]at h1;have h2:=xQ (fun y hy=>(HMG.o.wk.all y hy).sh) wide (l:=x.work);omega);have HPS:Ud (∀ W,Ud (Vars W)→_):=Ph fun W hv=>kX1 f (kF wide x.work) x.work q hq1 hq2 hq3 hq4 (by have:=HSL.o;omega) W hv;have HIT:Ud ((zP wide x.invariant).length≤60000):=Ph (by have h1:=HMG.o.iv.sz;have h2:=jS HMG.o.iv.sh wide;omega);obtain⟨f2,hx2⟩:=jK6 (x:=x.invariant) (wide:=wide) HMG.o.good.iv HMG.o.fit.iv (by have h1:=HMG.o.iv.sz;omega) HIT.o;have HPE:Ud (∀ W,Ud (Vars W)→_):=Ph fun W hv=>qC2 f2 ([40]++zP wide x.invariant++[41]) x.invariant _ 0 hx2 (by have:=HIT.o;simp only [Ya,Yc,Yn];omega) W hv;have HTC:Ud (xH x.invariant):=Ph (jQ4 HMG.o.iv.sh (by have h1:=HMG.o.iv.sz;omega));have HZW:Ud (yE x.work≤20000):=Ph (by have h1:=HMG.o.wk.sz;simp only [pd]at h1;omega);have HZI:Ud (szX x.invariant≤20000):=Ph (by have h1:=HMG.o.iv.sz;omega);clear hq1 hq2 hq3 hq4 hx2 hlt HI HV8 HK8 HG8 HB8 HS8;have p14:wr.cell? ⟨pb,14,none⟩=some (uL v.wk):=HKe.o.cell 14;have hbt:jJ wide x.work=[123]++(kF wide x.work++[125]):=by unfold jJ;simp
   rw [hbt]at HB0;clear hbt;obtain⟨L,hL⟩:∃ L,kF wide x.work=L:=⟨_,rfl⟩;rw [hL]at HB0 HPS HSL;clear hL;have HTP:Ud (∀ W,_):=Ph fun W=>kV5 (L++[125]) W;have HTS:Ud (∀ W,_):=Ph fun W=>kV6 L W (lE HSL.o Yd);go_wp2_with fail
   refine HB0.o.mono ?_;rintro e w13 ⟨rfl,hb13⟩;have HV13:Ud (Vars w13):=Ph (HVe.o.below hb13);have HB13:Ud (Below w.heap.size w w13):=Ph (HBe.o.trans (hb13.mono HBe.o.size));have HK13:=Ph (zD HKe.o hb13);have HG13:Ud (GxP (fun _=>True) w13 x v):=Ph (itG.stay _ _ _ _ _ (Stays.below hb13) HGe.o);clear hb13 p14 HB0 HVe HBe HKe HGe;go_wp2_with fail
   refine(HTP.o w13).mono ?_;rintro e w13' ⟨rfl,rfl⟩;go_wp2_with fail
   refine(HTS.o w13).mono ?_;rintro e w13' ⟨rfl,rfl⟩;go_wp2_with fail
   refine(HPS.o w13 HV13).mono ?_;rintro e w14 ⟨S,rfl,hs14,hf14⟩;have HV14:Ud (Vars w14):=Ph (HV13.o.below hf14.below);have HB14:Ud (Below w.heap.size w w14):=Ph (HB13.o.trans (hf14.below.mono HB13.o.size));have HK14:=Ph (zD HK13.o hf14.below);have HG14:Ud (GxP (fun _=>True) w14 x v):=Ph (itG.stay _ _ _ _ _ (Stays.below hf14.below) HG13.o);have HS14:Ud (StsP (fun _=>True) w14 x.work S):=Ph (hs14.mono fun _ _ _=>trivial);clear hs14 hf14 HTP HTS HPS HV13 HB13 HK13 HG13;have HTI:=Ph (HTC.o wide v.iv w14 (Ph HG14.o.iv.te));have HRI:Ud (w14.rangeAt pb 16 [uB x.invariant.kind,uB x.invariant.op,uW x.invariant.value,uI x.invariant.width,uR x.invariant.name,uL v.iv]):=Ph (fun j u hj=>by
    have h2:=yM HK14.o (16+j) u (by rw [show 16+j=j+16 from Nat.add_comm _ _];exact hj);simpa using h2)
   go_wp2_with (refine wpList_load_mid rfl 31 (.tmp 95) rfl pb 16 rfl [uB x.invariant.kind,uB x.invariant.op,uW x.invariant.value,uI x.invariant.width,uR x.invariant.name,uL v.iv] _ HRI.o underlying31 rfl qS8 ?_)
   refine HTI.o.mono ?_;rintro e w15 ⟨rfl,hb15⟩;have HV15:Ud (Vars w15):=Ph (HV14.o.below hb15);have HB15:Ud (Below w.heap.size w w15):=Ph (HB14.o.trans (hb15.mono HB14.o.size));have HK15:=Ph (zD HK14.o hb15);have HG15:Ud (GxP (fun _=>True) w15 x v):=Ph (itG.stay _ _ _ _ _ (Stays.below hb15) HG14.o);have HS15:Ud (StsP (fun _=>True) w15 x.work S):=Ph (HS14.o.stay (Stays.below hb15));clear hb15 HTI HRI HTC HV14 HB14 HK14 HG14 HS14;obtain⟨U,hU⟩:∃ U,zP wide x.invariant=U:=⟨_,rfl⟩;rw [hU]at HIT HPE ⊢;clear hU;have hU6:=HIT.o;have R1:∀ w,(Op.stringOp .add (⟨#[40]⟩:ByteArray) (str U)).run prog w=.ok (.string (str ([40]++U))) w:=zQ [40] U (by simp only [Yc,Yn];omega);have R2:∀ w,(Op.stringOp .add (str ([40]++U)) (⟨#[41]⟩:ByteArray)).run prog w=.ok (.string (str ([40]++U++[41]))) w:=zQ ([40]++U) [41] (by simp only [Ya,Yc,Yn];omega);clear hU6;obtain⟨U1,hU1⟩:∃ U1,[40]++U=U1:=⟨_,rfl⟩;rw [hU1]at R1 R2 HPE;obtain⟨U2,hU2⟩:∃ U2,U1++[41]=U2:=⟨_,rfl⟩;rw [hU2]at R2 HPE;clear hU1 hU2;go_wp2_with fail
   refine(HPE.o w15 HV15).mono ?_;rintro e w16 ⟨S2,rfl,ht16,hb16⟩;unfold qX;have HB16:Ud (Below w.heap.size w w16):=Ph (HB15.o.trans (hb16.mono HB15.o.size));have HK16:=Ph (zD HK15.o hb16);have HG16:Ud (GxP (fun _=>True) w16 x v):=Ph (itG.stay _ _ _ _ _ (Stays.below hb16) HG15.o);have HS16:Ud (StsP (fun _=>True) w16 x.work S):=Ph (HS15.o.stay (Stays.below hb16));have HT16:Ud (TX (fun _=>True) w16 x.invariant S2):=Ph (ht16.toP.mono fun _ _ _=>trivial);clear ht16 hb16 HPE R1 R2 HV15 HB15 HK15 HG15 HS15;go_upto_region 16 with fail
   have hal:Below w16.heap.size w16 (w16.alloc (.cells (uE x.invariant S2) 31)):=zB;have HB17:Ud (Below w.heap.size w (w16.alloc (.cells (uE x.invariant S2) 31))):=Ph (HB16.o.trans (hal.mono HB16.o.size));have HK17:=Ph (zD HK16.o hal);have HG17:Ud (GxP (fun _=>True) (w16.alloc (.cells (uE x.invariant S2) 31)) x v):=Ph (itG.stay _ _ _ _ _ (Stays.below hal) HG16.o);have HS17:Ud (StsP (fun _=>True) (w16.alloc (.cells (uE x.invariant S2) 31)) x.work S):=Ph (HS16.o.stay (Stays.below hal));have HT17:Ud (TX (fun _=>True) (w16.alloc (.cells (uE x.invariant S2) 31)) x.invariant S2):=Ph (HT16.o.stay (Stays.below hal));have HX17:=Ph (Bk.new w16 31 (uE x.invariant S2));generalize (w16.alloc _)=W17 at HB17 HK17 HG17 HS17 HT17 HX17 ⊢;obtain⟨ib,hib⟩:∃ g,w16.heap.size=g:=⟨_,rfl⟩;rw [hib]at HX17 ⊢;clear hib hal HB16 HK16 HG16 HS16 HT16;have p14:W17.cell? ⟨pb,14,none⟩=some (uL v.wk):=HK17.o.cell 14;have HSS:=Ph (jK7 x.work S v.wk W17 HS17 (Ph HG17.o.wk) HZW.o);go_wp2_with fail
   refine HSS.o.mono ?_;rintro e w18 ⟨rfl,hb18⟩;have HB18:Ud (Below w.heap.size w w18):=Ph (HB17.o.trans (hb18.mono HB17.o.size));have HK18:=Ph (zD HK17.o hb18);have HG18:Ud (GxP (fun _=>True) w18 x v):=Ph (itG.stay _ _ _ _ _ (Stays.below hb18) HG17.o);have HT18:Ud (TX (fun _=>True) w18 x.invariant S2):=Ph (HT17.o.stay (Stays.below hb18));have HX18:=Ph (zD HX17.o hb18);clear hb18 HSS p14 HB17 HK17 HG17 HS17 HT17 HX17;obtain⟨x0,x1,x2,x3,x4,x5⟩:=zH HX18.o;have HRI:Ud (w18.rangeAt pb 16 [uB x.invariant.kind,uB x.invariant.op,uW x.invariant.value,uI x.invariant.width,uR x.invariant.name,uL v.iv]):=Ph (fun j u hj=>by
    have h2:=yM HK18.o (16+j) u (by rw [show 16+j=j+16 from Nat.add_comm _ _];exact hj);simpa using h2)
   have HSE:=Ph (kC8 x.invariant S2 v.iv w18 HZI.o HT18 (Ph HG18.o.iv));unfold qD5 at HSE;go_wp2_with (first | (refine vN Yr 31 (.tmp 119) rfl pb 16 rfl [uB x.invariant.kind,uB x.invariant.op,uW x.invariant.value,uI x.invariant.width,uR x.invariant.name,uL v.iv] _ HRI.o underlying31 rfl qS8 ?_))
   refine HSE.o.mono ?_;rintro e w19 ⟨rfl,hb19⟩;have HB19:Ud (Below w.heap.size w w19):=Ph (HB18.o.trans (hb19.mono HB18.o.size));go_wp2_with fail
   go_ret;exact⟨rfl,HB19.o⟩
end
section
open Go.ChangeShapes Go.WideShapes Go.ChangeAt Go.RowKit
theorem jL2 {P:Program} {w:World} {x:String×DataW Unit} {r:List (String×DataW Unit)} (h:laidMet P (x :: r) w):laidMet P r w:=by obtain⟨n,d⟩:=x;obtain⟨ps,⟨g,t,cs,f,p,q,_,_,_,_,hq,e⟩,hn,hr⟩:=h;subst e;exact⟨q,hq,(List.nodup_append.1 hn).2.1,fun b off hb=>hr b off (List.mem_append_right _ hb)⟩
theorem kS6:ownKnob prog.godebug=none:=Yk
theorem kK7:(prog.globals[3]?).map (·.type)=some 208:=Yk
theorem jS2:prog.cellsOf 208=256:=Yk
theorem kD5:prog.cellsOf 5=1:=Yk
theorem kD6:(Rows.laid_strings_asciiSpace:DataW Unit)=Lib.tabData .u8 Lib.asciiSpaceTab:=Yk
theorem kD7 {n:Int} (h:(Lit.int .u8 n).wf=true):0≤n∧n≤255:=by simp only [Lit.wf,lZ,cC]at h;exact⟨h.1,h.2⟩
noncomputable def kR2:Nat:=(World.holding prog default ⟨#[],#[],[]⟩).heap.size
def jW1 (cs:Array Value):Obj→Obj
 | .cells _ t frozen=>.cells cs t frozen
 | o=>o
end
section
open Go.ChangeShapes Go.WideShapes Go.RowKit Go.Deep
def kL7 (l:List Nat):List Value:=l.map fun(m:Nat)=>uB m
theorem kP6 {w:World} {a:Addr} {xs:List Value} (h:∀ (i:Nat) (u:Value),xs[i]?=some u→w.cell? (a.add i)=some u):Rd w (some a) xs:=by
 intro hx;obtain⟨x,l,rfl⟩:=List.exists_cons_of_ne_nil hx;obtain⟨b,off,spot⟩:=a;have h0:=h 0 x rfl;have hs:spot=none:=by simpa [Addr.add]using World.cell?_spot h0
 subst hs;have ha:∀ i:Nat,(⟨b,off,none⟩:Addr).add i=⟨b,off+i,none⟩:=fun i=>by simp [Addr.add]
 cases hh:w.heap[b]? with
 | none=>rw [ha]at h0;simp [World.cell?,hh]at h0
 | some o =>
   cases o with
   | cells cs t fr =>
     refine⟨b,off,cs,t,fr,rfl,hh,fun j u hu=>?_⟩;have h1:=h j u hu;rw [ha]at h1;simpa [World.cell?,hh]using h1
   | _=>rw [ha]at h0;simp [World.cell?,hh]at h0
section
variable {H:Type} {enc:TypeId×Value→H} {w:World} {held:Bool}
theorem kK8 {n:Nat} {v:Value} {x:DataW H×List MemPlace} (h:DataW.trod enc prog w 0 (fun _=>true) held n 22 [v]=some x):∃ (s:SV) (l:List Nat),v=.slice s.A s.n s.c∧Rd w s.A (kL7 l)∧l.length=s.n∧(∀ u∈l,u≤255)∧s.n≤maxLen∧s.n≤s.c:=by
 rcases open_ints underlying22 underlying5 Yk h with⟨hcs,_⟩ | ⟨a,len,cap,zs,hcs,_,hl,hm,hz,_,hcell,hwz⟩
 ·simp at hcs;exact⟨⟨none,0,0⟩,[],hcs,Rd.nil,rfl,fun u hu=>(by cases hu),lV _,lF _⟩
 ·simp at hcs;simp only [if_true]at hz;refine⟨⟨some a,len,cap⟩,(zs.take len).map Int.toNat,hcs,kP6 (fun i u hu=>?_),Yp,fun u hu=>?_,by dsimp only;omega,hl⟩
  ·unfold kL7 at hu;rw [List.map_map,cS,List.getElem?_take]at hu;split at hu
   ·rename_i hi;have hiz:i<zs.length:=Yo;rw [hcell i hiz,List.getD_eq_getElem?_getD,cK hiz];rw [cK hiz]at hu;have hb:=kD7 (hwz _ (List.getElem_mem hiz));have e:((zs[i].toNat:Nat):Int)=zs[i]:=Yo;simp [e]at hu;simpa using hu
   ·simp at hu
  ·obtain⟨z,hz',rfl⟩:=List.mem_map.1 hu;have:=kD7 (hwz z (List.mem_of_mem_take hz'));omega
end
theorem jL4 (l:List Nat) (h:∀ u∈l,u≤255):kL7 l=(l.map fun m=>UInt8.ofNat m).map fun b=>uB b.toNat:=by unfold kL7;rw [List.map_map];refine List.map_congr_left fun m hm=>?_;have:=h m hm;show uB m=uB ((UInt8.ofNat m).toNat:Int);rw [UInt8.toNat_ofNat_of_lt' (by show m<256;omega)]
end
section
open Go.ChangeShapes Go.WideShapes Go.ChangeAt Go.RowKit
def kT6:List (String×DataW Unit):=[("unicode/utf8.acceptRanges",Rows.laid_unicode_utf8_acceptRanges),("unicode.White_Space",Rows.laid_unicode_White_Space),("strings.asciiSpace",Rows.laid_strings_asciiSpace),("unicode/utf8.first",Rows.laid_unicode_utf8_first)]
theorem kT7 {W:World} (h:laidMet prog kT6 W) (hs:W.ShapedOpen prog):Vars W:=by
 unfold kT6 at h;have h8:=jL2 (jL2 h);rw [kD6]at h8
 exact⟨cell_of_shapedOpen_int (g:=0) (t:=3) (zero:=#[uI 0]) hs (by decide +kernel) Yk rfl Yk Yk underlying3,
  Lib.tabIs_of_head (zs:=Lib.asciiSpaceTab) jA5 kK7 underlying208 underlying5 kD5 jS2 h8⟩
noncomputable def zO6 (os:Os):World :=
 let w0:=World.holding prog os ⟨#[.cells #[.int .u16 9,.int .u16 13,.int .u16 1,.int .u16 32,.int .u16 133,.int .u16 101,.int .u16 160,.int .u16 5760,.int .u16 5600,.int .u16 8192,.int .u16 8202,.int .u16 1,.int .u16 8232,.int .u16 8233,.int .u16 1,.int .u16 8239,.int .u16 8287,.int .u16 48,.int .u16 12288,.int .u16 12288,.int .u16 1] 241,.cells #[.slice (some ⟨kR2,0,none⟩) 7 7,uN,uI 2] 239],#[],[]⟩
 { w0 with heap:=((((w0.heap.modify 2 (jW1 #[uB 128,uB 191,uB 160,uB 191,uB 128,uB 159,uB 144,uB 191,uB 128,uB 143,uB 0,uB 0,uB 0,uB 0,uB 0,uB 0,uB 0,uB 0,uB 0,uB 0,uB 0,uB 0,uB 0,uB 0,uB 0,uB 0,uB 0,uB 0,uB 0,uB 0,uB 0,uB 0])).modify 1 (jW1 #[uB 240,uB 240,uB 240,uB 240,uB 240,uB 240,uB 240,uB 240,uB 240,uB 240,uB 240,uB 240,uB 240,uB 240,uB 240,uB 240,uB 240,uB 240,uB 240,uB 240,uB 240,uB 240,uB 240,uB 240,uB 240,uB 240,uB 240,uB 240,uB 240,uB 240,uB 240,uB 240,uB 240,uB 240,uB 240,uB 240,uB 240,uB 240,uB 240,uB 240,uB 240,uB 240,uB 240,uB 240,uB 240,uB 240,uB 240,uB 240,uB 240,uB 240,uB 240,uB 240,uB 240,uB 240,uB 240,uB 240,uB 240,uB 240,uB 240,uB 240,uB 240,uB 240,uB 240,uB 240,uB 240,uB 240,uB 240,uB 240,uB 240,uB 240,uB 240,uB 240,uB 240,uB 240,uB 240,uB 240,uB 240,uB 240,uB 240,uB 240,uB 240,uB 240,uB 240,uB 240,uB 240,uB 240,uB 240,uB 240,uB 240,uB 240,uB 240,uB 240,uB 240,uB 240,uB 240,uB 240,uB 240,uB 240,uB 240,uB 240,uB 240,uB 240,uB 240,uB 240,uB 240,uB 240,uB 240,uB 240,uB 240,uB 240,uB 240,uB 240,uB 240,uB 240,uB 240,uB 240,uB 240,uB 240,uB 240,uB 240,uB 240,uB 240,uB 240,uB 240,uB 240,uB 240,uB 240,uB 240,uB 241,uB 241,uB 241,uB 241,uB 241,uB 241,uB 241,uB 241,uB 241,uB 241,uB 241,uB 241,uB 241,uB 241,uB 241,uB 241,uB 241,uB 241,uB 241,uB 241,uB 241,uB 241,uB 241,uB 241,uB 241,uB 241,uB 241,uB 241,uB 241,uB 241,uB 241,uB 241,uB 241,uB 241,uB 241,uB 241,uB 241,uB 241,uB 241,uB 241,uB 241,uB 241,uB 241,uB 241,uB 241,uB 241,uB 241,uB 241,uB 241,uB 241,uB 241,uB 241,uB 241,uB 241,uB 241,uB 241,uB 241,uB 241,uB 241,uB 241,uB 241,uB 241,uB 241,uB 241,uB 241,uB 241,uB 2,uB 2,uB 2,uB 2,uB 2,uB 2,uB 2,uB 2,uB 2,uB 2,uB 2,uB 2,uB 2,uB 2,uB 2,uB 2,uB 2,uB 2,uB 2,uB 2,uB 2,uB 2,uB 2,uB 2,uB 2,uB 2,uB 2,uB 2,uB 2,uB 2,uB 19,uB 3,uB 3,uB 3,uB 3,uB 3,uB 3,uB 3,uB 3,uB 3,uB 3,uB 3,uB 3,uB 35,uB 3,uB 3,uB 52,uB 4,uB 4,uB 4,uB 68,uB 241,uB 241,uB 241,uB 241,uB 241,uB 241,uB 241,uB 241,uB 241,uB 241,uB 241])).modify 3 (jW1 #[uB 0,uB 0,uB 0,uB 0,uB 0,uB 0,uB 0,uB 0,uB 0,uB 1,uB 1,uB 1,uB 1,uB 1,uB 0,uB 0,uB 0,uB 0,uB 0,uB 0,uB 0,uB 0,uB 0,uB 0,uB 0,uB 0,uB 0,uB 0,uB 0,uB 0,uB 0,uB 0,uB 1,uB 0,uB 0,uB 0,uB 0,uB 0,uB 0,uB 0,uB 0,uB 0,uB 0,uB 0,uB 0,uB 0,uB 0,uB 0,uB 0,uB 0,uB 0,uB 0,uB 0,uB 0,uB 0,uB 0,uB 0,uB 0,uB 0,uB 0,uB 0,uB 0,uB 0,uB 0,uB 0,uB 0,uB 0,uB 0,uB 0,uB 0,uB 0,uB 0,uB 0,uB 0,uB 0,uB 0,uB 0,uB 0,uB 0,uB 0,uB 0,uB 0,uB 0,uB 0,uB 0,uB 0,uB 0,uB 0,uB 0,uB 0,uB 0,uB 0,uB 0,uB 0,uB 0,uB 0,uB 0,uB 0,uB 0,uB 0,uB 0,uB 0,uB 0,uB 0,uB 0,uB 0,uB 0,uB 0,uB 0,uB 0,uB 0,uB 0,uB 0,uB 0,uB 0,uB 0,uB 0,uB 0,uB 0,uB 0,uB 0,uB 0,uB 0,uB 0,uB 0,uB 0,uB 0,uB 0,uB 0,uB 0,uB 0,uB 0,uB 0,uB 0,uB 0,uB 0,uB 0,uB 0,uB 0,uB 0,uB 0,uB 0,uB 0,uB 0,uB 0,uB 0,uB 0,uB 0,uB 0,uB 0,uB 0,uB 0,uB 0,uB 0,uB 0,uB 0,uB 0,uB 0,uB 0,uB 0,uB 0,uB 0,uB 0,uB 0,uB 0,uB 0,uB 0,uB 0,uB 0,uB 0,uB 0,uB 0,uB 0,uB 0,uB 0,uB 0,uB 0,uB 0,uB 0,uB 0,uB 0,uB 0,uB 0,uB 0,uB 0,uB 0,uB 0,uB 0,uB 0,uB 0,uB 0,uB 0,uB 0,uB 0,uB 0,uB 0,uB 0,uB 0,uB 0,uB 0,uB 0,uB 0,uB 0,uB 0,uB 0,uB 0,uB 0,uB 0,uB 0,uB 0,uB 0,uB 0,uB 0,uB 0,uB 0,uB 0,uB 0,uB 0,uB 0,uB 0,uB 0,uB 0,uB 0,uB 0,uB 0,uB 0,uB 0,uB 0,uB 0,uB 0,uB 0,uB 0,uB 0,uB 0,uB 0,uB 0,uB 0,uB 0,uB 0,uB 0,uB 0,uB 0,uB 0,uB 0,uB 0,uB 0,uB 0,uB 0,uB 0,uB 0,uB 0,uB 0,uB 0,uB 0,uB 0,uB 0])).modify 4 (jW1 #[.pointer (some ⟨kR2+1,0,none⟩)])) }
end
section
open Go.ChangeShapes Go.WideShapes Go.ChangeAt Go.RowKit
open Go.ChangeMaps (open_string shut_string)
theorem qO5:laidOutB prog=true:=Yk
theorem kV7 (os:Os):laidMet prog kT6 ((zO6 os).forCall (fun _ _=>0) ⟨#[],#[uN,.bool false,uB 0],[]⟩).memory :=
 laidMet_of_run3 10 Yk Yk Yk
theorem kT8 (os:Os) {H:Type} (enc:TypeId×Value→H):∃ places,DataW.whole enc prog ((zO6 os).forCall (fun _ _=>0) ⟨#[],#[uN,.bool false,uB 0],[]⟩).memory Tryz.f6.params.toList Rows.parseBackSpec.vars false #[uN,Value.bool false,uB 0].toList 8=some ([.nil,.lit (.bool false),.lit (.int .u8 0)],[],places) :=
 ⟨[],Yk⟩
theorem qT7 (os:Os) (started:os.Started) (H:Type) (enc:TypeId×Value→H) (F:Stop.Interp) :
 ReturnsInHanded {} Tryz.checked os 6 .any ((OpenSpec.ofChange Rows.parseBackSpec).preRow enc prog Tryz.f6 Rows.parseBackRow.domain false Rows.parseBackRow.laid) (((OpenSpec.ofChange Rows.parseBackSpec).at F).post enc prog Tryz.f6 false true false false):=by
 obtain⟨places,hx⟩:=kT8 os enc
 refine returnsInHanded_of_row (C:=Tryz.checked) (s:=OpenSpec.ofChange Rows.parseBackSpec) kS6 started Yk func6
  (witness_row_atRef (enc:=enc) (C:=Tryz.checked) false (zO6 os) #[uN,.bool false,uB 0] rfl Yk Yk Yk
    (OpenSpec.preRow_of_cond 8 hx Yk (fun k hk=>by cases hk) Yk (kV7 os))) ?_
 intro W base args ds gs before hval hW _ _ _ hL hSh _;have hW':=hW;obtain⟨p,q,hA0,hV,rfl,hfz,hnd⟩:=hW;have hA:DataW.TrodAll enc prog W 0 (fun _=>true) true Tryz.f6.params.toList args.toList ds p:=hA0;rw [Tryz.params6]at hA hval;obtain⟨v0,v1,v2,d0,d1,d2,p0,p1,p2,rfl,rfl,rfl,h0,h1,h2⟩:=trodAll_three hA;obtain⟨rfl,rfl⟩:=trodVars_none hV;clear hA0;simp only [cT,lS]at hW';have hlt:∀ x∈p0++(p1++p2),x.block<W.heap.size:=fun x hx=>by simpa using hW'.lt x hx
 have h0k:=h0;have h1k:=h1;have h2k:=h2;obtain⟨a0,len0,cap0,rfl⟩:=okWide_slice underlying22 (hval 0 _ v0 rfl rfl);obtain⟨b1,rfl,_,_⟩:=open_bool underlying4 (hval 1 4 v1 rfl rfl) h1;obtain⟨m2,rfl,_,_,hwf2⟩:=open_int underlying5 (hval 2 5 v2 rfl rfl) h2;have hm2:=kD7 hwf2;obtain⟨k2,rfl⟩:∃ n:Nat,m2=(n:Int):=⟨m2.toNat,Yo⟩;obtain⟨n0,hf0⟩:=h0;have hf0':DataW.trod enc prog W 0 (fun _=>true) true n0 22 [.slice a0 len0 cap0]=some (d0,p0):=by simpa [Value.cells]using hf0
 obtain⟨su,U,hsu,hu1,hu2,hu3,hu4,hu5⟩:=kK8 hf0';rw [hsu]at hf0' h0k hW' ⊢;rw [jL4 U hu3]at hu1;have hL7:laidMet prog kT6 W:=hL;refine(kT5 su.A su.n su.c (U.map fun m=>UInt8.ofNat m) b1 k2 Yo W (Ph (kT7 hL7 hSh)) (Ph hu1) (Ph (by rw [lW];exact hu2)) (by unfold maxLen at hu4;omega) hu5).mono fun e W' ⟨he,hb⟩=>?_;subst he;have hb1:∀ x∈p1,x.block<W.heap.size:=fun x hx=>hlt x (List.mem_append_right _ (List.mem_append_left _ hx));have hb2:∀ x∈p2,x.block<W.heap.size:=fun x hx=>hlt x (List.mem_append_right _ (List.mem_append_right _ hx));exact⟨_,rfl,⟨_,_,_,[],_,[],hW',trodAll_mk1 (shut_bool underlying4 _),trodAll_mk3 (Below.trod qO5 Yk (cM Yk) h0k hb (fun x hx=>hlt x (List.mem_append_left _ hx))) (Below.trod qO5 Yk (cM Yk) h1k hb hb1) (Below.trod qO5 Yk (cM Yk) h2k hb hb2),rfl,hb.frame _,fun h=>by cases h⟩⟩
theorem qC6:Rows.ParseBackSaid :=
 OpenClaim.holds_of_cond 6 Tryz.f6 rfl rfl rfl rfl rfl rfl rfl ⟨rfl,rfl,rfl,rfl,rfl⟩ rfl rfl rfl rfl rfl Yk func6 Yk
  (cM Yk) (by unfold Func.isWrapper;first | (rw [lM (by decide +kernel)];kernel_rfl) | (rw [lN (by decide +kernel)];exact⟨rfl,rfl⟩))
  (fun os started H enc _ F=>by rw [OpenClaim.pre_eq_preRow];exact qT7 os started H enc F)
theorem jK9 (f:FuncId) (fn:Func) (hf:Tryz.pinned.checked.prog.funcNamed "salvor/salvorlaw30.ParseBack" = some f) (hfn:Tryz.pinned.checked.prog.funcs[f]?=some fn) :
 false=Tryz.pinned.checked.prog.looks []∧∀ (j:Nat) t,fn.params[j]?=some t→Tryz.pinned.checked.prog.wantsStandIn t=false:=by
 obtain rfl:f=6:=Option.some.inj ((show prog.funcNamed "salvor/salvorlaw30.ParseBack" = some 6 by kernel_rfl).symm.trans hf) |>.symm;obtain rfl:fn=Tryz.f6:=(Option.some.inj (func6.symm.trans hfn)).symm;refine⟨Yk,fun j t ht=>?_⟩;rw [Tryz.params6]at ht;have hm:=Array.mem_of_getElem? ht;have hor:t=22∨t=4∨t=5:=by simpa using hm
 rcases hor with rfl | rfl | rfl
 ·exact(show prog.wantsStandIn 22=false by kernel_rfl)
 ·exact(show prog.wantsStandIn 4=false by kernel_rfl)
 ·exact(show prog.wantsStandIn 5=false by kernel_rfl)
theorem parseBack_holds:Rows.ParseBackCardSaid :=
 Claim7.holds_tied_plain_at .later [] _ _ _ _ qC6 (fun _ h=>by cases h) Yk (fun _ h=>by cases h) parseBack_row_tie rfl ⟨rfl,rfl⟩ Yk rfl jK9 Yk
end
end Go.Proofs.YtfdaebgllibphaaGreatDoor
