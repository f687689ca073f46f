import Derived.Test.YtfdaebgllibphaaGreatDoorWas
import Derived.Test.YtfdaebgllibphaaGreatDoorWav
set_option linter.unusedVariables false
set_option linter.unusedSimpArgs false
set_option maxRecDepth 100000
set_option maxHeartbeats 16000000
namespace Go.Proofs.YtfdaebgllibphaaGreatDoor
open Go.Proofs.Tryz
section
open Go.RowKit Go.PlainAid
theorem jI3 {l:List Sx} (hs:∀ y∈l,ShS y) (hz:yE l≤30000):zC4 l:=by
 have nil:zC4 []:=kB7 [] (Ph fun y hy=>by cases hy) (by simp [yE]) (Ph fun y hy=>by cases hy);have key:∀ {y:Sx},ShS y→szS y≤30000→zC4 y.thn∧zC4 y.els:=by
  intro y h;have all:∀ l:List Sx,(∀ y∈l,ShS y)→(∀ y∈l,szS y≤30000→zC4 y.thn∧zC4 y.els)→yE l≤30000→zC4 l:=fun l h1 h2 hz=>kB7 l (Ph h1) hz (Ph fun y hy=>h2 y hy (by have:=qC1 hy;omega));induction h with
  | set n x h1 h2 h3=>exact fun _=>⟨nil,nil⟩
  | put n i x h1 h2 h3 h4=>exact fun _=>⟨nil,nil⟩
  | write b x h1 h2=>exact fun _=>⟨nil,nil⟩
  | flush=>exact fun _=>⟨nil,nil⟩
  | barrier=>exact fun _=>⟨nil,nil⟩
  | call n x h1 h2 h3=>exact fun _=>⟨nil,nil⟩
  | ifs x t e h1 h2 h3 i1 i2 =>
    intro hz;simp only [szS]at hz;exact⟨all t h2 i1 Yo,all e h3 i2 Yo⟩
  | loop x b t h1 h2 h3 i1 =>
    intro hz;simp only [szS]at hz;exact⟨all t h3 i1 Yo,nil⟩
 exact kB7 l (Ph hs) hz (Ph fun y hy=>key (hs y hy) (by have:=qC1 hy;omega))
def qX7 (x:Gx):Nat→List Dx | 0=>x.inputs | 1=>x.ghosts | 2=>x.vars | _=>x.arrays
def jQ7 (v:GV):Nat→SV | 0=>v.is | 1=>v.gs | 2=>v.vs | _=>v.ar
def jV6:Nat→List UInt8 | 0=>bs "input " | 1=>bs "ghost " | 2=>bs "var " | _=>bs "array "
def xE (k:Nat) (d:Dx):List UInt8:=[10]++jV6 k++d.name++(if k=3 then [91]++qZ d.size.toNat++[93] else [])++[58]++qZ d.width.toNat
def dT (x:Gx):Nat→List UInt8 | 0=>[] | k+1=>dT x k++(qX7 x k).flatMap (xE k)
theorem kB9 (x:Gx):dT x 4=x.inputs.flatMap (wQ "input " false)++x.ghosts.flatMap (wQ "ghost " false)++x.vars.flatMap (wQ "var " false)++x.arrays.flatMap (wQ "array " true):=by
 have e0:xE 0=wQ "input " false:=funext fun d=>by unfold xE wQ;rw [show bs ("\n"++"input ")=[10]++jV6 0 from by decide];simp
 have e1:xE 1=wQ "ghost " false:=funext fun d=>by unfold xE wQ;rw [show bs ("\n"++"ghost ")=[10]++jV6 1 from by decide];simp
 have e2:xE 2=wQ "var " false:=funext fun d=>by unfold xE wQ;rw [show bs ("\n"++"var ")=[10]++jV6 2 from by decide];simp
 have e3:xE 3=wQ "array " true:=funext fun d=>by unfold xE wQ;rw [show bs ("\n"++"array ")=[10]++jV6 3 from by decide];simp
 show((([]++x.inputs.flatMap (xE 0))++x.ghosts.flatMap (xE 1))++x.vars.flatMap (xE 2))++x.arrays.flatMap (xE 3)=_;rw [e0,e1,e2,e3,cF]
def GD (d:Dx):Prop:=∃ kw ks:Nat,d.width=(kw:Int)∧d.size=(ks:Int)∧kw≤9∧ks≤9∧d.name.length=1
theorem qX8 {d:Dx} (h:DOk d) (k:Nat) (hs:d.size=(k:Int)) (hk:k≤9):GD d:=⟨d.width.toNat,k,by have:=h.w1;omega,hs,by have:=h.w3;omega,hk,h.l⟩
theorem jI4 {x:Gx} (h:MadeG x) (k:Nat):(∀ d∈qX7 x k,GD d)∧(qX7 x k).length≤2:=by
 match k with
 | 0=>exact⟨fun d hd=>qX8 (h.is.1 d hd).1 0 (h.is.1 d hd).2 Yo,h.is.2⟩
 | 1=>exact⟨fun d hd=>qX8 (h.gs.1 d hd).1 0 (h.gs.1 d hd).2 Yo,h.gs.2⟩
 | 2=>exact⟨fun d hd=>qX8 (h.vs.1 d hd).1 0 (h.vs.1 d hd).2 Yo,h.vs.2⟩
 | k+3=>exact⟨fun d hd=>by obtain⟨h1,n,h2,h3⟩:=h.ar.1 d hd;exact qX8 h1 n h2 h3,Nat.le_succ_of_le h.ar.2⟩
theorem jQ8 {P:Nat→Prop} {w:World} {x:Gx} {v:GV} (h:GxP P w x v) (k:Nat):zE2 P w (qX7 x k) (jQ7 v k):=by
 match k with
 | 0=>exact h.is
 | 1=>exact h.gs
 | 2=>exact h.vs
 | k+3=>exact h.ar
theorem qR9 (k:Nat):(jV6 k).length≤6:=by
 match k with
 | 0=>decide
 | 1=>decide
 | 2=>decide
 | k+3=>show(bs "array ").length≤6;decide
theorem jI5 {k:Nat} {d:Dx} (h:GD d):(xE k d).length≤13:=by obtain⟨kw,ks,h1,h2,h3,h4,h5⟩:=h;have e1:=jO kw h3;have e2:=jO ks h4;have e3:=qR9 k;unfold xE;rw [h1,h2];simp only [Int.toNat_natCast];split <;> simp only [Ya,Yc,Yn] <;> omega
theorem zA2 {α:Type} {f:α→List UInt8} {M:Nat}:∀ (l:List α),(∀ d∈l,(f d).length≤M)→(l.flatMap f).length≤M*l.length
 | [],_=>Ym
 | x :: l,h=>by have h1:=zA2 l fun d hd=>h d (List.mem_cons_of_mem _ hd);have h2:=h x Ym;rw [lQ,Ya,Yc,Nat.mul_succ];omega
theorem qS1 {x:Gx} (h:MadeG x) (k j:Nat):(((qX7 x k).take j).flatMap (xE k)).length≤26:=by obtain⟨h1,h2⟩:=jI4 h k;have h3:=zA2 (f:=xE k) (M:=13) ((qX7 x k).take j) fun d hd=>jI5 (h1 d (List.mem_of_mem_take hd));rw [cL]at h3;have:13*min j (qX7 x k).length≤13*2:=Nat.mul_le_mul_left _ Yo;omega
theorem qS2 {x:Gx} (h:MadeG x):∀ k,(dT x k).length≤26*k
 | 0=>by simp [dT]
 | k+1=>by have h1:=qS2 h k;have h2:=qS1 h k (qX7 x k).length;rw [List.take_length]at h2;show(dT x k++(qX7 x k).flatMap (xE k)).length≤_;rw [Ya];omega
def zK7 (wide:Bool) (i:Ix):List UInt8:=bs " init "++qZ i.block.toNat++[61]++zP wide i.value
def zH6 (wide:Bool) (r:Rx):List UInt8:=bs "\nproc "++r.name++[40]++qT (r.params.map fun d=>d.name++[58]++qZ d.width.toNat)++[41]++jJ wide r.body
def qZ9 (d:Dx):List UInt8:=d.name++[58]++qZ d.width.toNat
theorem qS3 {l:List Dx} (h:(∀ d∈l,DOk d∧d.size=0)∧l.length≤1):(qT (l.map qZ9)).length≤4:=by
 have h1:=qH1 (l.map qZ9) 3 fun t ht=>by obtain⟨d,hd,rfl⟩:=List.mem_map.1 ht;obtain⟨kw,ks,hw,hs,hkw,hks,hnm⟩:=qX8 (h.1 d hd).1 0 (h.1 d hd).2 Yo;have e1:=jO kw hkw;unfold qZ9;rw [hw];simp only [Int.toNat_natCast,Ya,Yc,Yn];omega
 rw [lW]at h1;have h2:l.length*(3+1)≤1*4:=Nat.mul_le_mul_right _ h.2;omega
theorem qH8 {r:Rx} (h:r.name=[112]∧((∀ d∈r.params,DOk d∧d.size=0)∧r.params.length≤1)∧MdL 1 3 r.body) (wide:Bool):(zH6 wide r).length≤6000:=by have h1:=qS3 h.2.1;have h2:=xQ (fun y hy=>(h.2.2.all y hy).sh) wide (l:=r.body);have h3:=h.2.2.sz;simp only [pd]at h3;have h4:(bs "\nproc ").length=6:=Yd;have h5:(qT (r.params.map fun d=>d.name++[58]++qZ d.width.toNat)).length≤4:=h1;unfold zH6;rw [vB,h.1];simp only [Ya,Yc,Yn];omega
theorem qH9 (wide:Bool) (x:Gx):zH2 wide x=bs "device "++qZ x.blocks.toNat++bs " width "++qZ x.width.toNat++dT x 4++(bs " require "++zP wide x.require)++x.inits.flatMap (zK7 wide)++x.procs.flatMap (zH6 wide)++(bs "\nwork"++jJ wide x.work++bs "recover"++jJ wide x.recover++bs "invariant "++zP wide x.invariant):=by rw [kB9];unfold zH2;have e1:(fun x:Ix=>bs " init "++qZ x.block.toNat++[61]++zP wide x.value)=zK7 wide:=rfl;have e2:(fun x:Rx=>bs "\nproc "++x.name++[40]++qT (x.params.map fun d=>d.name++[58]++qZ d.width.toNat)++[41]++jJ wide x.body)=zH6 wide:=rfl;rw [e1,e2];simp only [lS]
theorem kO9 (k:Nat) (hk:k<4):([.string ⟨#[105,110,112,117,116,32]⟩,.string ⟨#[103,104,111,115,116,32]⟩,.string ⟨#[118,97,114,32]⟩,.string ⟨#[97,114,114,97,121,32]⟩]:List Value)[k]?=some (.string (str (jV6 k))):=by
 match k,hk with
 | 0,_=>rfl
 | 1,_=>rfl
 | 2,_=>rfl
 | 3,_=>rfl
 | k+4,h=>omega
theorem jI6 (v:GV) (k:Nat) (hk:k<4):(#[.slice v.is.A v.is.n v.is.c,.slice v.gs.A v.gs.n v.gs.c,.slice v.vs.A v.vs.n v.vs.c,.slice v.ar.A v.ar.n v.ar.c]:Array Value)[k]?=some (.slice (jQ7 v k).A (jQ7 v k).n (jQ7 v k).c):=by
 match k,hk with
 | 0,_=>rfl
 | 1,_=>rfl
 | 2,_=>rfl
 | 3,_=>rfl
 | k+4,h=>omega
theorem kJ7 (x:Gx) (hm:Ud (MadeG x)) (v:GV) (P:Nat→Prop) (wide:Bool) (w:World) (hg:Ud (GxP P w x v)):Calls prog 9 #[.agg (uG x v),.bool wide] w fun e w'=>e=.returned (.string (str (zH2 wide x)))∧Below w.heap.size w w':=by
 obtain⟨nb,hnb,hnb1,hnb3⟩:=hm.o.b;obtain⟨wd,hwd,hwd1,hwd3⟩:=hm.o.w;have HNB:=Ph hnb;have HWD:=Ph hwd;clear hnb hwd;have HK0:=Ph (Bk.new w 36 (uG x v));have HB0:Ud (Below w.heap.size w (w.alloc (.cells (uG x v) 36))):=Ph zB;have HG0:Ud (GxP P (w.alloc (.cells (uG x v) 36)) x v):=Ph (itG.stay _ _ _ _ _ (Stays.below zB) hg.o);go_enter func9,ntmps9
 go_upto_region 1 with fail
 generalize (w.alloc _)=W0 at HK0 HB0 HG0 ⊢;obtain⟨pb,hpb⟩:∃ b,w.heap.size=b:=⟨_,rfl⟩;rw [hpb]at HK0 ⊢;clear hpb;obtain⟨q0,q1,q2,q3,q4,q5,q6,q7,q8,q9,q10,q11,q12,q13,q14,q15,q16,q17,q18,q19,q20,q21⟩:=zT1 HK0.o;have hnb:=HNB.o;have hwd:=HWD.o;rw [hnb]at q0;rw [hwd]at q1;clear hnb hwd;have HD1:Ud (∀ w,Calls prog 19 #[uI nb] w fun e w'=>e=.returned (.string (str (qZ nb)))∧w'=w):=Ph fun w=>(xS nb Yo w).mono fun e w' h=>⟨h.1,h.2.symm⟩;have HD2:Ud (∀ w,Calls prog 19 #[uI wd] w fun e w'=>e=.returned (.string (str (qZ wd)))∧w'=w):=Ph fun w=>(xS wd Yo w).mono fun e w' h=>⟨h.1,h.2.symm⟩;have l1:=jO nb Yo;have l2:=jO wd Yo;obtain⟨dn,hdn⟩:∃ l,qZ nb=l:=⟨_,rfl⟩;obtain⟨dw,hdw⟩:∃ l,qZ wd=l:=⟨_,rfl⟩;rw [hdn]at HD1 l1;rw [hdw]at HD2 l2;have Ra1:∀ w,(Op.stringOp .add (⟨#[100,101,118,105,99,101,32]⟩:ByteArray) (str dn)).run prog w=.ok (.string (str ([100,101,118,105,99,101,32]++dn))) w:=zQ ([100,101,118,105,99,101,32]) (dn) (by first | omega | (simp only [Ya,Yc,Yn];try omega));obtain⟨Ua1,hUa1⟩:∃ u,[100,101,118,105,99,101,32]++dn=u:=⟨_,rfl⟩;have hLa1:Ua1.length=(7)+(dn.length):=by rw [←hUa1];simp only [Ya,Yc,Yn];try omega
 rw [hUa1]at Ra1;have Ra2:∀ w,(Op.stringOp .add (str Ua1) (⟨#[32,119,105,100,116,104,32]⟩:ByteArray)).run prog w=.ok (.string (str (Ua1++[32,119,105,100,116,104,32]))) w:=zQ (Ua1) ([32,119,105,100,116,104,32]) (by first | omega | (simp only [Ya,Yc,Yn];try omega));obtain⟨Ua2,hUa2⟩:∃ u,Ua1++[32,119,105,100,116,104,32]=u:=⟨_,rfl⟩;have hLa2:Ua2.length=(Ua1.length)+(7):=by rw [←hUa2];simp only [Ya,Yc,Yn];try omega
 rw [hUa2]at Ra2;have Ra3:∀ w,(Op.stringOp .add (str Ua2) (str dw)).run prog w=.ok (.string (str (Ua2++dw))) w:=zQ (Ua2) (dw) (by first | omega | (simp only [Ya,Yc,Yn];try omega));obtain⟨Ua3,hUa3⟩:∃ u,Ua2++dw=u:=⟨_,rfl⟩;have hLa3:Ua3.length=(Ua2.length)+(dw.length):=by rw [←hUa3];simp only [Ya,Yc,Yn];try omega
 rw [hUa3]at Ra3;obtain⟨O1,hO1⟩:∃ l,Ua3=l:=⟨_,rfl⟩;have hO1l:O1.length=16:=by rw [←hO1,hLa3,hLa2,hLa1,l1,l2]
 rw [hO1]at Ra3;have HO1:Ud (bs "device "++qZ x.blocks.toNat++bs " width "++qZ x.width.toNat=O1):=Ph (by rw [HNB.o,HWD.o,←hO1,←hUa3,←hUa2,←hUa1,←hdn,←hdw,show bs "device " = [100,101,118,105,99,101,32] from Yd,show bs " width " = [32,119,105,100,116,104,32] from by decide];rfl);have HO1l:=Ph hO1l;clear hUa3 hUa2 hUa1 hLa1 hLa2 hLa3 l1 l2 hdn hdw hO1 hO1l;go_quiet ((go_at_call 19;first | with_reducible exact cZ (HD1.o _) | with_reducible exact cZ (HD2.o _)))
 clear Ra1 Ra2 Ra3 HD1 HD2;have HBq:Ud (Below w.heap.size w (W0.drewN nq)):=Ph (HB0.o.trans (zP8 W0 nq HB0.o.size));have HKq:Ud (Bk (W0.drewN nq) pb 36 (uG x v)):=Ph (zD HK0.o (zP8 W0 nq (lF _)));have HGq:Ud (GxP P (W0.drewN nq) x v):=Ph (itG.stay _ _ _ _ _ (Stays.below (zP8 W0 nq (lF _))) HG0.o);clear q0 q1 q2 q3 q4 q5 q6 q7 q8 q9 q10 q11 q12 q13 q14 q15 q16 q17 q18 q19 q20 q21 HB0 HK0 HG0;go_upto_region 2 with fail
 generalize W0.drewN nq=W1 at HBq HKq HGq ⊢;obtain⟨q0,q1,q2,q3,q4,q5,q6,q7,q8,q9,q10,q11,q12,q13,q14,q15,q16,q17,q18,q19,q20,q21⟩:=zT1 HKq.o;have HKr:=Ph (Bk.new W1 25 #[.slice v.is.A v.is.n v.is.c,.slice v.gs.A v.gs.n v.gs.c,.slice v.vs.A v.vs.n v.vs.c,.slice v.ar.A v.ar.n v.ar.c]);have HB2:Ud (Below w.heap.size w (W1.alloc (.cells #[.slice v.is.A v.is.n v.is.c,.slice v.gs.A v.gs.n v.gs.c,.slice v.vs.A v.vs.n v.vs.c,.slice v.ar.A v.ar.n v.ar.c] 25))):=Ph (HBq.o.trans (zB.mono HBq.o.size));have HK2:Ud (Bk (W1.alloc (.cells #[.slice v.is.A v.is.n v.is.c,.slice v.gs.A v.gs.n v.gs.c,.slice v.vs.A v.vs.n v.vs.c,.slice v.ar.A v.ar.n v.ar.c] 25)) pb 36 (uG x v)):=Ph (zD HKq.o zB);have HG2:Ud (GxP P (W1.alloc (.cells #[.slice v.is.A v.is.n v.is.c,.slice v.gs.A v.gs.n v.gs.c,.slice v.vs.A v.vs.n v.vs.c,.slice v.ar.A v.ar.n v.ar.c] 25)) x v):=Ph (itG.stay _ _ _ _ _ (Stays.below zB) HGq.o);go_wp2_with fail
 generalize (W1.alloc _)=W2 at HKr HB2 HK2 HG2 ⊢;obtain⟨rb,hrb⟩:∃ b,W1.heap.size=b:=⟨_,rfl⟩;rw [hrb]at HKr ⊢;clear hrb q0 q1 q2 q3 q4 q5 q6 q7 q8 q9 q10 q11 q12 q13 q14 q15 q16 q17 q18 q19 q20 q21 HBq HKq HGq;go_loopw [5,36] (fun v5 v36 wr=>∃ k:Nat,k≤4∧v36=uI k∧v5=.string (str (O1++dT x k))∧Ud (Below W2.heap.size W2 wr)) (fun _ v36 _=>4-(intOf v36).toNat)
 case atStart=>exact⟨0,Yo,rfl,by rw [show dT x 0=[] from rfl,cT],Ph (lB _ _)⟩
 case round =>
  obtain⟨k,hk,rfl,rfl,HR⟩:=hrel;by_cases hlt:k<4
  ·have e1:decide ((k:Int)<4)=true:=by simp;omega
   have hki:(k:Int)<4:=Yo;have wk:IntKind.i64.wrap ((k:Int)+1)=((k+1:Nat):Int):=by rw [lL];omega
   have r0:wr.cell? ⟨rb,k,none⟩=some (.slice (jQ7 v k).A (jQ7 v k).n (jQ7 v k).c):=((zD HKr.o HR.o).cell k).trans (jI6 v k hlt);have HRW:Ud (zE2 P wr (qX7 x k) (jQ7 v k)):=Ph ((jQ8 HG2.o k).stay itD qC (Stays.below HR.o));have HOK:=Ph (jI4 hm.o k);have HDL:Ud (∀ j,(((qX7 x k).take j).flatMap (xE k)).length≤26):=Ph (qS1 hm.o k);have hstr:=kO9 k hlt;have HNl:=Ph (qR9 k);have hdT:=qS2 hm.o k;obtain⟨O2,hO2⟩:∃ u,O1++dT x k=u:=⟨_,rfl⟩;have hO2l:O2.length≤120:=by rw [←hO2,Ya,HO1l.o];omega
   have HO2l:=Ph hO2l;have HDT:Ud (O1++dT x (k+1)=O2++(qX7 x k).flatMap (xE k)):=Ph (by rw [←hO2,dT,lS]);rw [hO2];obtain⟨nk,hnk⟩:∃ u,jV6 k=u:=⟨_,rfl⟩;have HX:Ud (∀ d,xE k d=[10]++nk++d.name++(if k=3 then [91]++qZ d.size.toNat++[93] else [])++[58]++qZ d.width.toNat):=Ph fun d=>by rw [←hnk];rfl
   obtain⟨rl,hrl⟩:∃ l,qX7 x k=l:=⟨_,rfl⟩;obtain⟨⟨rA,rn,rc⟩,hrv⟩:∃ l,jQ7 v k=l:=⟨_,rfl⟩;rw [hnk]at hstr HNl;rw [hrv]at r0 HRW;rw [hrl]at HRW HOK HDL HDT;have hrn:rn≤2:=by have h1:=HRW.o.len;have h2:=HOK.o.2;have h3:rn=rl.length:=h1;omega
   clear hO2 hdT hnk hrl hrv hO2l;go_wp2_with fail
   obtain⟨wo,hwo⟩:∃ u,u=wr:=⟨_,rfl⟩;rw [←hwo]at HR HRW r0 ⊢;clear hwo;go_loopw [5,43] (fun v5 v43 wi=>∃ j:Nat,j≤rn∧v43=uI j∧v5=.string (str (O2++(rl.take j).flatMap (xE k)))∧Ud (Below wo.heap.size wo wi)) (fun _ v43 _=>rn-(intOf v43).toNat)
   case atStart=>exact⟨0,lV _,rfl,by rw [List.take_zero,List.flatMap_nil,cT],Ph (lB _ _)⟩
   case round =>
    obtain⟨j,hj,rfl,rfl,HI⟩:=hrel;by_cases hjl:j<rn
    ·have e2:decide ((j:Int)<(rn:Int))=true:=by simp;omega
     have hji:(j:Int)<(rn:Int):=Yo;have wj:IntKind.i64.wrap ((j:Int)+1)=((j+1:Nat):Int):=by rw [lL];omega
     obtain⟨bx,ox,d,u0,hxA,hxx,_,hxb,hxc⟩:=(HRW.o.stay itD qC (Stays.below HI.o)).at (m:=3) (fun _ _=>rfl) Yo (i:=j) hjl;(try dsimp only at hxA);subst hxA;obtain⟨kw,ks,hw,hs,hkw,hks,hnm⟩:=HOK.o.1 d (cD hxx);have c0:wr.cell? ⟨bx,ox+j*3,none⟩=some (uR d.name):=hxc 0 _ Yo rfl;have c1:wr.cell? ⟨bx,ox+j*3+1,none⟩=some (uI kw):=by rw [←hw];exact hxc 1 _ Yo rfl
     have c2:wr.cell? ⟨bx,ox+j*3+2,none⟩=some (uI ks):=by rw [←hs];exact hxc 2 _ Yo rfl
     have HD1:Ud (∀ w,Calls prog 19 #[uI kw] w fun e w'=>e=.returned (.string (str (qZ kw)))∧w=w'):=Ph (xS kw hkw);have HD2:Ud (∀ w,Calls prog 19 #[uI ks] w fun e w'=>e=.returned (.string (str (qZ ks)))∧w=w'):=Ph (xS ks hks);have l1:=jO kw hkw;have l2:=jO ks hks;have hOl:=HDL.o j;have hO2l:=HO2l.o;have hNl:=HNl.o;have HTJ:Ud ((rl.take (j+1)).flatMap (xE k)=(rl.take j).flatMap (xE k)++([10]++nk++d.name++(if k=3 then [91]++qZ ks++[93] else [])++[58]++qZ kw)):=Ph (by have e:=HX.o d;rw [hw,hs]at e;simp only [Int.toNat_natCast]at e;rw [List.take_add_one,hxx,List.flatMap_append,←e];simp);obtain⟨dw,hdw⟩:∃ l,qZ kw=l:=⟨_,rfl⟩;obtain⟨ds,hds⟩:∃ l,qZ ks=l:=⟨_,rfl⟩;rw [hdw]at HD1 l1 HTJ;rw [hds]at HD2 l2 HTJ;obtain⟨O3,hO3⟩:∃ u,O2++(rl.take j).flatMap (xE k)=u:=⟨_,rfl⟩;have hO3l:O3.length≤150:=by rw [←hO3,Ya];omega
     have HO3:Ud (O2++(rl.take (j+1)).flatMap (xE k)=O3++([10]++nk++d.name++(if k=3 then [91]++ds++[93] else [])++[58]++dw)):=Ph (by rw [HTJ.o,←lS,hO3]);rw [hO3];clear hxc hxx hxb hw hs hdw hds hO3 hOl hO2l HTJ;have Rb1:∀ w,(Op.stringOp .add (⟨#[10]⟩:ByteArray) (str nk)).run prog w=.ok (.string (str ([10]++nk))) w:=zQ ([10]) (nk) (by first | omega | (simp only [Ya,Yc,Yn];try omega));obtain⟨Ub1,hUb1⟩:∃ u,[10]++nk=u:=⟨_,rfl⟩;have hLb1:Ub1.length=(1)+(nk.length):=by rw [←hUb1];simp only [Ya,Yc,Yn];try omega
     rw [hUb1]at Rb1;have Rb2:∀ w,(Op.stringOp .add (str Ub1) (str d.name)).run prog w=.ok (.string (str (Ub1++d.name))) w:=zQ (Ub1) (d.name) (by first | omega | (simp only [Ya,Yc,Yn];try omega));obtain⟨Ub2,hUb2⟩:∃ u,Ub1++d.name=u:=⟨_,rfl⟩;have hLb2:Ub2.length=(Ub1.length)+(d.name.length):=by rw [←hUb2];simp only [Ya,Yc,Yn];try omega
     rw [hUb2]at Rb2;have RVb:∀ w,(Op.stringOp .add (str O3) (str Ub2)).run prog w=.ok (.string (str (O3++Ub2))) w:=zQ _ _ (by first | omega | (simp only [Ya,Yc,Yn];try omega));obtain⟨O4,hO4⟩:∃ u,O3++Ub2=u:=⟨_,rfl⟩;rw [hO4]at RVb;have hO4l:O4.length≤170:=by rw [←hO4,Ya];omega
     have HO4:Ud (O3++([10]++nk++d.name)=O4):=Ph (by rw [←hO4,←hUb2,←hUb1]);clear hO4 hUb2 hUb1 hLb1 hLb2 hO3l hNl hnm;go_upto_region 8 with fail
     have HK3:=Ph (Bk.new wr 87 #[uR d.name,uI kw,uI ks]);have HI3:Ud (Below wo.heap.size wo (wr.alloc (.cells #[uR d.name,uI kw,uI ks] 87))):=Ph (HI.o.trans (zB.mono HI.o.size));generalize (wr.alloc _)=W3 at HK3 HI3 ⊢;obtain⟨db,hdb⟩:∃ b,wr.heap.size=b:=⟨_,rfl⟩;rw [hdb]at HK3 ⊢;clear hdb c0 c1 c2 HI;go_cut [5] from 44 to 72 (fun v5 wx=>v5=uR O4∧Ud (Below W3.heap.size W3 wx))
     case first =>
      rename_i J1 K1 hR1 hM1;revert hR1 hM1;repeat (rename ∀ (a':Act) (w':World),_→_=>hZ;clear hZ)
      intro hR1 hM1;obtain⟨g0,g1,g2⟩:=zJ HK3.o;have hdl:=HK3.o.lt;have hkz:(0:Int)≤(k:Int):=Yo;clear hlt hk;go_region_law (fail)
      all_goals
       go_wp2_with fail
       go_meet
       exact⟨rfl,Ph (by first | exact lB _ _ | exact zB | exact(lB _ _).drew | exact(zG (lB _ _).drew _) | exact(zG (lB _ _) _).drew)⟩
     case rest =>
     obtain⟨rfl,HW⟩:=hcut;generalize wc=W4 at *;have HI4:Ud (Below wo.heap.size wo W4):=Ph (HI3.o.trans (HW.o.mono HI3.o.size));obtain⟨g0,g1,g2⟩:=zJ (zD HK3.o HW.o);clear HK3 HI3 HW hstr;by_cases hk3:k=3
     ·have e3:((k:Int) == 3)=true:=by simp;omega
      have HE:=HO3.o;rw [lM hk3]at HE;have Rc1:∀ w,(Op.stringOp .add (⟨#[91]⟩:ByteArray) (str ds)).run prog w=.ok (.string (str ([91]++ds))) w:=zQ ([91]) (ds) (by first | omega | (simp only [Ya,Yc,Yn];try omega));obtain⟨Uc1,hUc1⟩:∃ u,[91]++ds=u:=⟨_,rfl⟩;have hLc1:Uc1.length=(1)+(ds.length):=by rw [←hUc1];simp only [Ya,Yc,Yn];try omega
      rw [hUc1]at Rc1;have Rc2:∀ w,(Op.stringOp .add (str Uc1) (⟨#[93]⟩:ByteArray)).run prog w=.ok (.string (str (Uc1++[93]))) w:=zQ (Uc1) ([93]) (by first | omega | (simp only [Ya,Yc,Yn];try omega));obtain⟨Uc2,hUc2⟩:∃ u,Uc1++[93]=u:=⟨_,rfl⟩;have hLc2:Uc2.length=(Uc1.length)+(1):=by rw [←hUc2];simp only [Ya,Yc,Yn];try omega
      rw [hUc2]at Rc2;have RVc:∀ w,(Op.stringOp .add (str O4) (str Uc2)).run prog w=.ok (.string (str (O4++Uc2))) w:=zQ _ _ (by first | omega | (simp only [Ya,Yc,Yn];try omega));obtain⟨O5,hO5⟩:∃ u,O4++Uc2=u:=⟨_,rfl⟩;rw [hO5]at RVc;have hO5l:O5.length≤180:=by rw [←hO5,Ya];omega
      have Rd1:∀ w,(Op.stringOp .add (⟨#[58]⟩:ByteArray) (str dw)).run prog w=.ok (.string (str ([58]++dw))) w:=zQ ([58]) (dw) (by first | omega | (simp only [Ya,Yc,Yn];try omega));obtain⟨Ud1,hUd1⟩:∃ u,[58]++dw=u:=⟨_,rfl⟩;have hLd1:Ud1.length=(1)+(dw.length):=by rw [←hUd1];simp only [Ya,Yc,Yn];try omega
      rw [hUd1]at Rd1;have RVd:∀ w,(Op.stringOp .add (str O5) (str Ud1)).run prog w=.ok (.string (str (O5++Ud1))) w:=zQ _ _ (by first | omega | (simp only [Ya,Yc,Yn];try omega));obtain⟨O6,hO6⟩:∃ u,O5++Ud1=u:=⟨_,rfl⟩;rw [hO6]at RVd;have HE2:Ud (O2++(rl.take (j+1)).flatMap (xE k)=O6):=Ph (by rw [HE,←hO6,←hUd1,←hO5,←hUc2,←hUc1,←HO4.o];simp only [lS]);clear HE hO6 hO5 hk3 hUd1 hUc2 hUc1 hLd1 hLc1 hLc2 hO5l hO4l l1 l2;go_wp2_with fail
      refine(HD2.o _).mono ?_;rintro e w' ⟨rfl,rfl⟩;go_wp2_with fail
      refine(HD1.o _).mono ?_;rintro e w' ⟨rfl,rfl⟩;go_wp2_with fail
      go_roundw
      case rel=>exact⟨j+1,Yo,by go_num,by rw [HE2.o],HI4⟩
      case measure=>simp [intOf];omega
     ·have e3:((k:Int) == 3)=false:=by simp;omega
      have HE:=HO3.o;rw [lN hk3]at HE;have Rd1:∀ w,(Op.stringOp .add (⟨#[58]⟩:ByteArray) (str dw)).run prog w=.ok (.string (str ([58]++dw))) w:=zQ ([58]) (dw) (by first | omega | (simp only [Ya,Yc,Yn];try omega));obtain⟨Ud1,hUd1⟩:∃ u,[58]++dw=u:=⟨_,rfl⟩;have hLd1:Ud1.length=(1)+(dw.length):=by rw [←hUd1];simp only [Ya,Yc,Yn];try omega
      rw [hUd1]at Rd1;have RVd:∀ w,(Op.stringOp .add (str O4) (str Ud1)).run prog w=.ok (.string (str (O4++Ud1))) w:=zQ _ _ (by first | omega | (simp only [Ya,Yc,Yn];try omega));obtain⟨O6,hO6⟩:∃ u,O4++Ud1=u:=⟨_,rfl⟩;rw [hO6]at RVd;have HE2:Ud (O2++(rl.take (j+1)).flatMap (xE k)=O6):=Ph (by rw [HE,←hO6,←hUd1,←HO4.o];simp only [lS,cF]);clear HE hO6 hk3 hUd1 hLd1 hO4l l1 l2;go_wp2_with fail
      refine(HD1.o _).mono ?_;rintro e w' ⟨rfl,rfl⟩;go_wp2_with fail
      go_roundw
      case rel=>exact⟨j+1,Yo,by go_num,by rw [HE2.o],HI4⟩
      case measure=>simp [intOf];omega
    ·obtain rfl:j=rn:=by omega
     have e2:decide ((j:Int)<(j:Int))=false:=Ym;have HE2:Ud (O2++(rl.take j).flatMap (xE k)=O1++dT x (k+1)):=Ph (by have h1:j=rl.length:=HRW.o.len;rw [HDT.o,h1,List.take_length]);rw [HE2.o];have HR2:Ud (Below W2.heap.size W2 wr):=Ph (HR.o.trans (HI.o.mono HR.o.size));go_wp2_with fail
     go_roundw
     case rel=>exact⟨k+1,Yo,by go_num,rfl,HR2⟩
     case measure=>simp [intOf];omega
  ·obtain rfl:k=4:=by omega
   obtain⟨OA,hOA⟩:∃ u,O1++dT x 4=u:=⟨_,rfl⟩;have hOAl:OA.length≤120:=by rw [←hOA,Ya,HO1l.o];have:=qS2 hm.o 4;omega
   have HOA:Ud (bs "device "++qZ x.blocks.toNat++bs " width "++qZ x.width.toNat++dT x 4=OA):=Ph (by rw [HO1.o,hOA]);rw [hOA];clear hOA HO1 HO1l;have HBc:Ud (Below w.heap.size w wr):=Ph (HB2.o.trans (HR.o.mono HB2.o.size));have HKc:=Ph (zD HK2.o HR.o);have HGc:Ud (GxP P wr x v):=Ph (itG.stay _ _ _ _ _ (Stays.below HR.o) HG2.o);clear HKr HB2 HK2 HG2 HR;have HTR:Ud (Calls prog 29 #[.agg (uE x.require v.rq),.bool wide] wr fun e w'=>e=.returned (.string (str (zP wide x.require)))∧Below wr.heap.size wr w'):=Ph (jQ4 hm.o.rq.sh (by have:=hm.o.rq.sz;omega) wide v.rq wr (Ph HGc.o.rq.te));have htl:=jS hm.o.rq.sh wide;have hts:=hm.o.rq.sz;obtain⟨tR,htR⟩:∃ u,zP wide x.require=u:=⟨_,rfl⟩;rw [htR]at HTR htl;have htl2:tR.length≤182:=Yo;clear htl hts;have Re1:∀ w,(Op.stringOp .add (⟨#[32,114,101,113,117,105,114,101,32]⟩:ByteArray) (str tR)).run prog w=.ok (.string (str ([32,114,101,113,117,105,114,101,32]++tR))) w:=zQ ([32,114,101,113,117,105,114,101,32]) (tR) (by first | omega | (simp only [Ya,Yc,Yn];try omega));obtain⟨Ue1,hUe1⟩:∃ u,[32,114,101,113,117,105,114,101,32]++tR=u:=⟨_,rfl⟩;have hLe1:Ue1.length=(9)+(tR.length):=by rw [←hUe1];simp only [Ya,Yc,Yn];try omega
   rw [hUe1]at Re1;have RVe:∀ w,(Op.stringOp .add (str OA) (str Ue1)).run prog w=.ok (.string (str (OA++Ue1))) w:=zQ _ _ (by first | omega | (simp only [Ya,Yc,Yn];try omega));obtain⟨OB,hOB⟩:∃ u,OA++Ue1=u:=⟨_,rfl⟩;rw [hOB]at RVe;have hOBl:OB.length≤400:=by rw [←hOB,Ya];omega
   have HOB:Ud (bs "device "++qZ x.blocks.toNat++bs " width "++qZ x.width.toNat++dT x 4++(bs " require "++zP wide x.require)=OB):=Ph (by rw [HOA.o,←hOB,←hUe1,←htR,show bs " require " = [32,114,101,113,117,105,114,101,32] from by decide]);clear hOB hUe1 hLe1 hOAl htl2 htR HOA;obtain⟨q0,q1,q2,q3,q4,q5,q6,q7,q8,q9,q10,q11,q12,q13,q14,q15,q16,q17,q18,q19,q20,q21⟩:=zT1 HKc.o;go_wp2_with fail
   refine HTR.o.mono ?_;rintro e w5 ⟨rfl,hb5⟩;clear HTR q0 q1 q2 q3 q4 q5 q6 q7 q8 q9 q10 q11 q12 q13 q14 q15 q16 q17 q18 q19 q20 q21;have HBn:Ud (Below w.heap.size w w5):=Ph (HBc.o.trans (hb5.mono HBc.o.size));have HKn:=Ph (zD HKc.o hb5);have HGn:Ud (GxP P w5 x v):=Ph (itG.stay _ _ _ _ _ (Stays.below hb5) HGc.o);clear HBc HKc HGc hb5;have HBc:=HBn;have HKc:=HKn;have HGc:=HGn;clear HBn HKn HGn;obtain⟨q0,q1,q2,q3,q4,q5,q6,q7,q8,q9,q10,q11,q12,q13,q14,q15,q16,q17,q18,q19,q20,q21⟩:=zT1 HKc.o;obtain⟨⟨iA,inn,ic⟩,hiv⟩:∃ s,v.ins=s:=⟨_,rfl⟩;have HIV:=Ph hiv;rw [hiv]at q12;have HRI:Ud (jT5 P w5 x.inits ⟨iA,inn,ic⟩):=Ph (hiv▸HGc.o.ins);have HIL:Ud (inn=x.inits.length∧x.inits.length≤3):=Ph ⟨HRI.o.len,hm.o.ins.2⟩;have hinn:inn≤3:=by have:=HIL.o;omega
   clear hiv;have HOBl:=Ph hOBl;clear hOBl;go_upto_region 15 with fail
   clear q0 q1 q2 q3 q4 q5 q6 q7 q8 q9 q10 q11 q13 q14 q15 q16 q17 q18 q19 q20 q21;go_wp2_with fail
   clear q12;go_loopw [5,84] (fun v5 v84 wi=>∃ k:Nat,k≤inn∧v84=uI k∧v5=.string (str (OB++(x.inits.take k).flatMap (zK7 wide)))∧Ud (Below w5.heap.size w5 wi)) (fun _ v84 _=>inn-(intOf v84).toNat)
   case atStart=>exact⟨0,lV _,rfl,by rw [List.take_zero,List.flatMap_nil,cT],Ph (lB _ _)⟩
   case round =>
    obtain⟨k,hk,rfl,rfl,HR⟩:=hrel;have HFL:Ud (∀ k,((x.inits.take k).flatMap (zK7 wide)).length≤200):=Ph fun k=>by
     have h1:=zA2 (f:=zK7 wide) (M:=64) (x.inits.take k) fun i hi=>by obtain⟨⟨kb,h2,h3⟩,h4⟩:=hm.o.ins.1 i (List.mem_of_mem_take hi);have h5:=jS h4.sh wide;have h6:=h4.sz;have h7:=jO kb h3;unfold zK7;rw [h2];have h8:(bs " init ").length=6:=Yd;simp only [Int.toNat_natCast,Ya,Yc,Yn];omega
     have h2:=hm.o.ins.2;have h3:(x.inits.take k).length≤3:=by rw [cL];omega
     have h4:64*(x.inits.take k).length≤64*3:=Nat.mul_le_mul_left _ h3;omega
    have hfl:=HFL.o k;obtain⟨O3,hO3⟩:∃ u,OB++(x.inits.take k).flatMap (zK7 wide)=u:=⟨_,rfl⟩;have hO3l:O3.length≤600:=by rw [←hO3,Ya];have:=HOBl.o;omega
    have HO3:=Ph hO3;rw [hO3];clear hO3 hfl HFL;by_cases hlt:k<inn
    ·have e1:decide ((k:Int)<(inn:Int))=true:=by simp;omega
     have hki:(k:Int)<(inn:Int):=Yo;have wk:IntKind.i64.wrap ((k:Int)+1)=((k+1:Nat):Int):=by rw [lL];omega
     obtain⟨bx,ox,i,⟨sA,sn,sc⟩,hxA,hxx,hxi,hxb,hxc⟩:=(HRI.o.stay itI jZ (Stays.below HR.o)).at (m:=7) (fun _ _=>rfl) Yo (i:=k) hlt;(try dsimp only at hxA);subst hxA;obtain⟨⟨kb,hkb,hkb9⟩,hmd⟩:=hm.o.ins.1 i (cD hxx);have c0:wr.cell? ⟨bx,ox+k*7,none⟩=some (uI kb):=by rw [←hkb];exact hxc 0 _ Yo rfl
     have c1:wr.cell? ⟨bx,ox+k*7+1,none⟩=some (uB i.value.kind):=hxc 1 _ Yo rfl;have c2:wr.cell? ⟨bx,ox+k*7+2,none⟩=some (uB i.value.op):=hxc 2 _ Yo rfl;have c3:wr.cell? ⟨bx,ox+k*7+3,none⟩=some (uW i.value.value):=hxc 3 _ Yo rfl;have c4:wr.cell? ⟨bx,ox+k*7+4,none⟩=some (uI i.value.width):=hxc 4 _ Yo rfl;have c5:wr.cell? ⟨bx,ox+k*7+5,none⟩=some (uR i.value.name):=hxc 5 _ Yo rfl;have c6:wr.cell? ⟨bx,ox+k*7+6,none⟩=some (.slice sA sn sc):=hxc 6 _ Yo rfl;have HD1:Ud (∀ w,Calls prog 19 #[uI kb] w fun e w'=>e=.returned (.string (str (qZ kb)))∧w=w'):=Ph (xS kb hkb9);have HTI:Ud (∀ W,TE W i.value ⟨sA,sn,sc⟩→Calls prog 29 #[.agg #[uB i.value.kind,uB i.value.op,uW i.value.value,uI i.value.width,uR i.value.name,.slice sA sn sc],.bool wide] W fun e w'=>e=.returned (.string (str (zP wide i.value)))∧Below W.heap.size W w'):=Ph fun W hW=>jQ4 hmd.sh (by have:=hmd.sz;omega) wide ⟨sA,sn,sc⟩ W (Ph hW);have hvl:=jS hmd.sh wide;have hvs:=hmd.sz;have l1:=jO kb hkb9;have HTE:=Ph hxi.t.te;have HTK:Ud (OB++(x.inits.take (k+1)).flatMap (zK7 wide)=O3++([32,105,110,105,116,32]++qZ kb++[61]++zP wide i.value)):=Ph (by rw [List.take_add_one,hxx,List.flatMap_append,←lS,HO3.o];unfold zK7;rw [show bs " init " = [32,105,110,105,116,32] from by decide];simp [hkb]);obtain⟨db,hdb⟩:∃ u,qZ kb=u:=⟨_,rfl⟩;obtain⟨tv,htv⟩:∃ u,zP wide i.value=u:=⟨_,rfl⟩;rw [hdb]at HD1 l1 HTK;rw [htv]at HTI hvl HTK;clear hxc hxx hxi hxb hmd hkb hdb htv;have Rb1:∀ w,(Op.stringOp .add (⟨#[32,105,110,105,116,32]⟩:ByteArray) (str db)).run prog w=.ok (.string (str ([32,105,110,105,116,32]++db))) w:=zQ ([32,105,110,105,116,32]) (db) (by first | omega | (simp only [Ya,Yc,Yn];try omega));obtain⟨Ub1,hUb1⟩:∃ u,[32,105,110,105,116,32]++db=u:=⟨_,rfl⟩;have hLb1:Ub1.length=(6)+(db.length):=by rw [←hUb1];simp only [Ya,Yc,Yn];try omega
     rw [hUb1]at Rb1;have Rb2:∀ w,(Op.stringOp .add (str Ub1) (⟨#[61]⟩:ByteArray)).run prog w=.ok (.string (str (Ub1++[61]))) w:=zQ (Ub1) ([61]) (by first | omega | (simp only [Ya,Yc,Yn];try omega));obtain⟨Ub2,hUb2⟩:∃ u,Ub1++[61]=u:=⟨_,rfl⟩;have hLb2:Ub2.length=(Ub1.length)+(1):=by rw [←hUb2];simp only [Ya,Yc,Yn];try omega
     rw [hUb2]at Rb2;have Rb3:∀ w,(Op.stringOp .add (str Ub2) (str tv)).run prog w=.ok (.string (str (Ub2++tv))) w:=zQ (Ub2) (tv) (by first | omega | (simp only [Ya,Yc,Yn];try omega));obtain⟨Ub3,hUb3⟩:∃ u,Ub2++tv=u:=⟨_,rfl⟩;have hLb3:Ub3.length=(Ub2.length)+(tv.length):=by rw [←hUb3];simp only [Ya,Yc,Yn];try omega
     rw [hUb3]at Rb3;have RVb:∀ w,(Op.stringOp .add (str O3) (str Ub3)).run prog w=.ok (.string (str (O3++Ub3))) w:=zQ _ _ (by first | omega | (simp only [Ya,Yc,Yn];try omega));obtain⟨O4,hO4⟩:∃ u,O3++Ub3=u:=⟨_,rfl⟩;rw [hO4]at RVb;have HE:Ud (OB++(x.inits.take (k+1)).flatMap (zK7 wide)=O4):=Ph (by rw [HTK.o,←hO4,←hUb3,←hUb2,←hUb1]);clear hO4 hUb3 hUb2 hUb1 hLb1 hLb2 hLb3 hvl hvs l1 hO3l HTK;go_upto_region 18 with fail
     have HKi:=Ph (Bk.new wr 90 #[uI kb,uB i.value.kind,uB i.value.op,uW i.value.value,uI i.value.width,uR i.value.name,.slice sA sn sc]);have HBi:Ud (Below wr.heap.size wr (wr.alloc (.cells #[uI kb,uB i.value.kind,uB i.value.op,uW i.value.value,uI i.value.width,uR i.value.name,.slice sA sn sc] 90))):=Ph zB;generalize (wr.alloc _)=W6 at HKi HBi ⊢;obtain⟨ib,hib⟩:∃ b,wr.heap.size=b:=⟨_,rfl⟩;have HR6:Ud (Below w5.heap.size w5 W6):=Ph (HR.o.trans (HBi.o.mono HR.o.size));have HTE6:=Ph (HTE.o.bel HBi.o);rw [hib]at HKi ⊢;clear hib c0 c1 c2 c3 c4 c5 c6;have HSS:Ud (∀ w',Below W6.heap.size W6 w'→w'.cell? ⟨ib,0,none⟩=some (uI kb)∧w'.cell? ⟨ib,1,none⟩=some (uB i.value.kind)∧w'.cell? ⟨ib,2,none⟩=some (uB i.value.op)∧w'.cell? ⟨ib,3,none⟩=some (uW i.value.value)∧w'.cell? ⟨ib,4,none⟩=some (uI i.value.width)∧w'.cell? ⟨ib,5,none⟩=some (uR i.value.name)∧w'.cell? ⟨ib,6,none⟩=some (.slice sA sn sc)):=Ph fun w' hb=>by have h:=zD HKi.o hb;exact⟨h.cell 0,h.cell 1,h.cell 2,h.cell 3,h.cell 4,h.cell 5,h.cell 6⟩
     have HBd:Ud (Below W6.heap.size W6 W6.drew):=Ph (lB _ _).drew
     go_region_held3 (fun w'=>w'.cell? ⟨ib,0,none⟩=some (uI kb)∧w'.cell? ⟨ib,1,none⟩=some (uB i.value.kind)∧w'.cell? ⟨ib,2,none⟩=some (uB i.value.op)∧w'.cell? ⟨ib,3,none⟩=some (uW i.value.value)∧w'.cell? ⟨ib,4,none⟩=some (uI i.value.width)∧w'.cell? ⟨ib,5,none⟩=some (uR i.value.name)∧w'.cell? ⟨ib,6,none⟩=some (.slice sA sn sc))
      (first | with_reducible exact HSS.o _ HBd.o)
      (first
        | (go_at_call 19
           with_reducible refine(HD1.o _).mono ?_
           rintro e w6 ⟨rfl,rfl⟩)
        | (go_at_call 29
           with_reducible refine(HTI.o _ (HTE6.o.bel HBd.o)).mono ?_
           rintro e w6 ⟨rfl,hb1⟩;have HBn:=Ph (HBd.o.trans (hb1.mono HBd.o.size));clear HBd hb1;have HBd:=HBn;clear HBn))
     all_goals
      go_wp2_with fail
      go_roundw
      case rel=>exact⟨k+1,Yo,by go_num,by rw [HE.o],Ph (HR6.o.trans (HBd.o.mono HR6.o.size))⟩
      case measure=>simp [intOf];omega
    ·obtain rfl:k=inn:=by omega
     have e1:decide ((k:Int)<(k:Int))=false:=Ym;have HO4:Ud (bs "device "++qZ x.blocks.toNat++bs " width "++qZ x.width.toNat++dT x 4++(bs " require "++zP wide x.require)++x.inits.flatMap (zK7 wide)=O3):=Ph (by rw [HOB.o,←HO3.o,cJ (by rw [HIL.o.1];exact lF _)]);have HO3l:=Ph hO3l;have hb6:=HR.o;clear HOB HO3 hO3l HRI HIL HIV HOBl;have HBn:Ud (Below w.heap.size w wr):=Ph (HBc.o.trans (hb6.mono HBc.o.size));have HKn:=Ph (zD HKc.o hb6);have HGn:Ud (GxP P wr x v):=Ph (itG.stay _ _ _ _ _ (Stays.below hb6) HGc.o);clear HBc HKc HGc hb6;have HBc:=HBn;have HKc:=HKn;have HGc:=HGn;clear HBn HKn HGn;generalize wr=wp at *;clear hk hlt;obtain⟨OC,hOC⟩:∃ u,O3=u:=⟨_,rfl⟩;rw [hOC]at HO4 HO3l ⊢;clear hOC;obtain⟨q0,q1,q2,q3,q4,q5,q6,q7,q8,q9,q10,q11,q12,q13,q14,q15,q16,q17,q18,q19,q20,q21⟩:=zT1 HKc.o;obtain⟨⟨pA,pn,pc⟩,hpv⟩:∃ s,v.ps=s:=⟨_,rfl⟩;rw [hpv]at q13;have HRP:Ud (jT6 P wp x.procs ⟨pA,pn,pc⟩):=Ph (hpv▸HGc.o.ps);have HPL:Ud (pn=x.procs.length∧x.procs.length≤1):=Ph ⟨HRP.o.len,hm.o.ps.2⟩;have hpn:pn≤1:=by have:=HPL.o;omega
     clear hpv q0 q1 q2 q3 q4 q5 q6 q7 q8 q9 q10 q11 q12 q14 q15 q16 q17 q18 q19 q20 q21;go_wp2_with fail
     clear q13;go_loopw [5,104] (fun v5 v104 wi=>∃ k:Nat,k≤pn∧v104=uI k∧v5=.string (str (OC++(x.procs.take k).flatMap (zH6 wide)))∧Ud (Below wp.heap.size wp wi)) (fun _ v104 _=>pn-(intOf v104).toNat)
     case atStart=>exact⟨0,lV _,rfl,by rw [List.take_zero,List.flatMap_nil,cT],Ph (lB _ _)⟩
     case round =>
      obtain⟨k,hk,rfl,rfl,HR⟩:=hrel;have HFL:Ud (∀ k,((x.procs.take k).flatMap (zH6 wide)).length≤6000):=Ph fun k=>by
       have h1:=zA2 (f:=zH6 wide) (M:=6000) (x.procs.take k) fun r hr=>qH8 (hm.o.ps.1 r (List.mem_of_mem_take hr)) wide;have h2:=hm.o.ps.2;have h3:(x.procs.take k).length≤1:=by rw [cL];omega
       have h4:6000*(x.procs.take k).length≤6000*1:=Nat.mul_le_mul_left _ h3;omega
      have hfl:=HFL.o k;obtain⟨O5,hO5⟩:∃ u,OC++(x.procs.take k).flatMap (zH6 wide)=u:=⟨_,rfl⟩;have hO5l:O5.length≤7000:=by rw [←hO5,Ya];have:=HO3l.o;omega
      have HO5:=Ph hO5;have HO5l:=Ph hO5l;rw [hO5];clear hO5 hfl HFL hO5l;by_cases hlt:k<pn
      ·have e1:decide ((k:Int)<(pn:Int))=true:=by simp;omega
       have hki:(k:Int)<(pn:Int):=Yo;have wk:IntKind.i64.wrap ((k:Int)+1)=((k+1:Nat):Int):=by rw [lL];omega
       obtain⟨bx,ox,r,⟨⟨aA,an,ac⟩,⟨bA,bn,bc⟩⟩,hxA,hxx,hxi,hxb,hxc⟩:=(HRP.o.stay itR zD1 (Stays.below HR.o)).at (m:=3) (fun _ _=>rfl) Yo (i:=k) hlt;(try dsimp only at hxA);subst hxA;have HMR:=Ph (hm.o.ps.1 r (cD hxx));have c0:wr.cell? ⟨bx,ox+k*3,none⟩=some (uR r.name):=hxc 0 _ Yo rfl;have c1:wr.cell? ⟨bx,ox+k*3+1,none⟩=some (.slice aA an ac):=hxc 1 _ Yo rfl;have c2:wr.cell? ⟨bx,ox+k*3+2,none⟩=some (.slice bA bn bc):=hxc 2 _ Yo rfl;have HXI:=Ph hxi;have HTK:Ud (OC++(x.procs.take (k+1)).flatMap (zH6 wide)=O5++zH6 wide r):=Ph (by rw [List.take_add_one,hxx,List.flatMap_append,←lS,HO5.o];simp);have HAN:Ud (an=r.params.length∧r.params.length≤1):=Ph ⟨hxi.ps.len,HMR.o.2.1.2⟩;have han:an≤1:=by have:=HAN.o;omega
       clear hxc hxx hxi hxb;go_upto_region 23 with fail
       have HKi:=Ph (Bk.new wr 93 #[uR r.name,.slice aA an ac,.slice bA bn bc]);have HBi:Ud (Below wr.heap.size wr (wr.alloc (.cells #[uR r.name,.slice aA an ac,.slice bA bn bc] 93))):=Ph zB;generalize (wr.alloc _)=W6 at HKi HBi ⊢;obtain⟨ib,hib⟩:∃ b,wr.heap.size=b:=⟨_,rfl⟩;have HR6:Ud (Below wp.heap.size wp W6):=Ph (HR.o.trans (HBi.o.mono HR.o.size));have HX6:Ud (RxP P W6 r (⟨aA,an,ac⟩,⟨bA,bn,bc⟩)):=Ph (itR.stay _ _ _ _ _ (Stays.below HBi.o) HXI.o);rw [hib]at HKi ⊢;clear hib c0 c1 c2 HR HBi HXI;obtain⟨g0,g1,g2⟩:=zJ HKi.o;go_wp2_with fail
       go_loopw [14,111] (fun v14 v111 wi=>∃ (j:Nat) (S8:SV),j≤an∧v111=uI j∧v14=.slice S8.A S8.n S8.c∧Ud (OwnT W6.heap.size wi S8 ((r.params.take j).map qZ9))∧Ud (Below W6.heap.size W6 wi)) (fun _ v111 _=>an-(intOf v111).toNat)
       case atStart=>exact⟨0,zK,lV _,rfl,rfl,Ph ⟨World.ownsRow_nil _ _ _ _,rfl⟩,Ph (lB _ _)⟩
       case round =>
        obtain⟨j,S8,hj,rfl,rfl,HO,HI⟩:=hrel;clear g0 g1 g2;by_cases hjl:j<an
        ·have e2:decide ((j:Int)<(an:Int))=true:=by simp;omega
         have hji:(j:Int)<(an:Int):=Yo;have wj:IntKind.i64.wrap ((j:Int)+1)=((j+1:Nat):Int):=by rw [lL];omega
         obtain⟨by',oy,d,u0,hyA,hyy,_,hyb,hyc⟩:=(HX6.o.ps.stay itD qC (Stays.below HI.o)).at (m:=3) (fun _ _=>rfl) Yo (i:=j) hjl;(try dsimp only at hyA);subst hyA;obtain⟨hdo,hd0⟩:=HMR.o.2.1.1 d (cD hyy);obtain⟨kw,ks,hw,hs,hkw,hks,hnm⟩:=qX8 hdo 0 hd0 Yo;have c0:wr.cell? ⟨by',oy+j*3,none⟩=some (uR d.name):=hyc 0 _ Yo rfl;have c1:wr.cell? ⟨by',oy+j*3+1,none⟩=some (uI kw):=by rw [←hw];exact hyc 1 _ Yo rfl
         have c2:wr.cell? ⟨by',oy+j*3+2,none⟩=some (uI d.size):=hyc 2 _ Yo rfl;have HD1:Ud (∀ w,Calls prog 19 #[uI kw] w fun e w'=>e=.returned (.string (str (qZ kw)))∧w'=w):=Ph fun w=>(xS kw hkw w).mono fun e w' h=>⟨h.1,h.2.symm⟩;have l1:=jO kw hkw;have HTJ:Ud ((r.params.take (j+1)).map qZ9=(r.params.take j).map qZ9++[d.name++[58]++qZ kw]):=Ph (by rw [List.take_add_one,hyy];simp [qZ9,hw]);obtain⟨dw,hdw⟩:∃ l,qZ kw=l:=⟨_,rfl⟩;rw [hdw]at HD1 l1 HTJ;clear hyc hyy hyb hw hs hdw hdo hd0;have Rg1:∀ w,(Op.stringOp .add (str d.name) (⟨#[58]⟩:ByteArray)).run prog w=.ok (.string (str (d.name++[58]))) w:=zQ (d.name) ([58]) (by first | omega | (simp only [Ya,Yc,Yn];try omega));obtain⟨Ug1,hUg1⟩:∃ u,d.name++[58]=u:=⟨_,rfl⟩;have hLg1:Ug1.length=(d.name.length)+(1):=by rw [←hUg1];simp only [Ya,Yc,Yn];try omega
         rw [hUg1]at Rg1;have Rg2:∀ w,(Op.stringOp .add (str Ug1) (str dw)).run prog w=.ok (.string (str (Ug1++dw))) w:=zQ (Ug1) (dw) (by first | omega | (simp only [Ya,Yc,Yn];try omega));obtain⟨Ug2,hUg2⟩:∃ u,Ug1++dw=u:=⟨_,rfl⟩;have hLg2:Ug2.length=(Ug1.length)+(dw.length):=by rw [←hUg2];simp only [Ya,Yc,Yn];try omega
         rw [hUg2]at Rg2;rw [hUg1,hUg2]at HTJ;clear hUg2 hUg1 hLg1 hLg2 l1 hnm;go_upto_region 27 with fail
         have HK7:=Ph (Bk.new wr 87 #[uR d.name,uI kw,uI d.size]);have HI7:Ud (Below W6.heap.size W6 (wr.alloc (.cells #[uR d.name,uI kw,uI d.size] 87))):=Ph (HI.o.trans (zB.mono HI.o.size));have HO7:Ud (OwnT W6.heap.size (wr.alloc (.cells #[uR d.name,uI kw,uI d.size] 87)) S8 ((r.params.take j).map qZ9)):=Ph (HO.o.below zB);generalize (wr.alloc _)=W7 at HK7 HI7 HO7 ⊢;obtain⟨db,hdb⟩:∃ b,wr.heap.size=b:=⟨_,rfl⟩;rw [hdb]at HK7 ⊢;clear hdb c0 c1 c2;have hsn:S8.n<1000000000:=by have h1:=HO.o.2;rw [lW,cL]at h1;omega
         have HOd:Ud (OwnT W6.heap.size (W7.alloc (.cells #[uR Ug2] 9)).drew S8 ((r.params.take j).map qZ9)):=Ph ((HO7.o.below zB).below (lB _ _).drew);have HId:Ud (Below W6.heap.size W6 (W7.alloc (.cells #[uR Ug2] 9)).drew):=Ph ((HI7.o.alloc HI7.o.size _).drew);clear HO HI HO7;have hro:Rd (W7.alloc (.cells #[uR Ug2] 9)).drew (some ⟨W7.heap.size,0,none⟩) [uR Ug2]:=(Rd.new _ _ _).drew;obtain⟨A',c',w5,hrun,hown,hfr⟩:=HOd.o.push HId.o.size Ug2 (some ⟨W7.heap.size,0,none⟩) 1 hro hsn;have HRUN:=Ph hrun;have HO5':=Ph (HTJ.o▸hown);have HI5:Ud (Below W6.heap.size W6 w5):=Ph (HId.o.trans (hfr.below _ HId.o.size (fun k hk e=>by have:=(HOd.o.typed e).1;omega)));clear hrun hown hfr hro hsn HOd HId HTJ;obtain⟨g0,g1,g2⟩:=zJ HK7.o;have g0d:W7.drew.cell? ⟨db,0,none⟩=some (uR d.name):=(zD HK7.o (lB _ _).drew).cell 0;have g1d:W7.drew.cell? ⟨db,1,none⟩=some (uI kw):=(zD HK7.o (lB _ _).drew).cell 1
         go_region_law (first
          | (go_simp
             go_at_call 19
             with_reducible refine(HD1.o _).mono ?_
             rintro e w6 ⟨rfl,rfl⟩)
          | (with_reducible refine qG rfl (.tmp 115) (.tmp 123) rfl _ _ _ rfl rfl (HRUN.o _) ?_))
         all_goals
          go_wp2_with fail
          go_roundw
          case rel=>exact⟨j+1,⟨A',S8.n+1,c'⟩,Yo,by go_num,rfl,HO5',HI5⟩
          case measure=>simp [intOf];omega
        ·obtain rfl:j=an:=by omega
         have e2:decide ((j:Int)<(j:Int))=false:=Ym;have HES:Ud (OwnT W6.heap.size wr S8 (r.params.map qZ9)):=Ph (by have h:=HO.o;rw [cJ (by have:=HAN.o.1;omega)]at h;exact h);have hpl:=qS3 HMR.o.2.1;have HJ:=Ph (kB6 (HES.o.below (lB _ wr).drew |> Ph) Yo (by rw [lW];have:=HAN.o.2;omega));have hsh:∀ y∈r.body,ShS y:=fun y hy=>(HMR.o.2.2.all y hy).sh;have hbz:=HMR.o.2.2.sz;simp only [pd]at hbz;have hbl:(jJ wide r.body).length≤6000:=by rw [vB];simp only [Ya,Yc,Yn];have:=xQ hsh wide;omega
         have hnm:r.name.length=1:=by rw [HMR.o.1];rfl
         have HBC:Ud (∀ W',Below wr.heap.size wr W'→Calls prog 28 #[.slice bA bn bc,.bool wide] W' fun e w'=>e=.returned (.string (str (jJ wide r.body)))∧Below W'.heap.size W' w'):=Ph fun W' hb=>jI3 hsh Yo wide ⟨bA,bn,bc⟩ P W' (Ph (HX6.o.b.stay (Stays.below (HI.o.trans (hb.mono HI.o.size)))));have HP:Ud (zH6 wide r=[10,112,114,111,99,32]++r.name++[40]++qT (r.params.map qZ9)++[41]++jJ wide r.body):=Ph (by unfold zH6;rw [show bs "\nproc " = [10,112,114,111,99,32] from by decide];rfl);obtain⟨c,hc⟩:∃ u,qT (r.params.map qZ9)=u:=⟨_,rfl⟩;obtain⟨bt,hbt⟩:∃ u,jJ wide r.body=u:=⟨_,rfl⟩;rw [hc]at HJ hpl HP;rw [hbt]at hbl HBC HP;have hO5l:=HO5l.o;clear hc hbt hsh hbz HO;have Rh1:∀ w,(Op.stringOp .add (⟨#[10,112,114,111,99,32]⟩:ByteArray) (str r.name)).run prog w=.ok (.string (str ([10,112,114,111,99,32]++r.name))) w:=zQ ([10,112,114,111,99,32]) (r.name) (by first | omega | (simp only [Ya,Yc,Yn];try omega));obtain⟨Uh1,hUh1⟩:∃ u,[10,112,114,111,99,32]++r.name=u:=⟨_,rfl⟩;have hLh1:Uh1.length=(6)+(r.name.length):=by rw [←hUh1];simp only [Ya,Yc,Yn];try omega
         rw [hUh1]at Rh1;have Rh2:∀ w,(Op.stringOp .add (str Uh1) (⟨#[40]⟩:ByteArray)).run prog w=.ok (.string (str (Uh1++[40]))) w:=zQ (Uh1) ([40]) (by first | omega | (simp only [Ya,Yc,Yn];try omega));obtain⟨Uh2,hUh2⟩:∃ u,Uh1++[40]=u:=⟨_,rfl⟩;have hLh2:Uh2.length=(Uh1.length)+(1):=by rw [←hUh2];simp only [Ya,Yc,Yn];try omega
         rw [hUh2]at Rh2;have Rh3:∀ w,(Op.stringOp .add (str Uh2) (str c)).run prog w=.ok (.string (str (Uh2++c))) w:=zQ (Uh2) (c) (by first | omega | (simp only [Ya,Yc,Yn];try omega));obtain⟨Uh3,hUh3⟩:∃ u,Uh2++c=u:=⟨_,rfl⟩;have hLh3:Uh3.length=(Uh2.length)+(c.length):=by rw [←hUh3];simp only [Ya,Yc,Yn];try omega
         rw [hUh3]at Rh3;have Rh4:∀ w,(Op.stringOp .add (str Uh3) (⟨#[41]⟩:ByteArray)).run prog w=.ok (.string (str (Uh3++[41]))) w:=zQ (Uh3) ([41]) (by first | omega | (simp only [Ya,Yc,Yn];try omega));obtain⟨Uh4,hUh4⟩:∃ u,Uh3++[41]=u:=⟨_,rfl⟩;have hLh4:Uh4.length=(Uh3.length)+(1):=by rw [←hUh4];simp only [Ya,Yc,Yn];try omega
         rw [hUh4]at Rh4;have Rh5:∀ w,(Op.stringOp .add (str Uh4) (str bt)).run prog w=.ok (.string (str (Uh4++bt))) w:=zQ (Uh4) (bt) (by first | omega | (simp only [Ya,Yc,Yn];try omega));obtain⟨Uh5,hUh5⟩:∃ u,Uh4++bt=u:=⟨_,rfl⟩;have hLh5:Uh5.length=(Uh4.length)+(bt.length):=by rw [←hUh5];simp only [Ya,Yc,Yn];try omega
         rw [hUh5]at Rh5;have RVh:∀ w,(Op.stringOp .add (str O5) (str Uh5)).run prog w=.ok (.string (str (O5++Uh5))) w:=zQ _ _ (by first | omega | (simp only [Ya,Yc,Yn];try omega));obtain⟨O6,hO6⟩:∃ u,O5++Uh5=u:=⟨_,rfl⟩;rw [hO6]at RVh;have HE:Ud (OC++(x.procs.take (k+1)).flatMap (zH6 wide)=O6):=Ph (by rw [HTK.o,HP.o,←hO6,←hUh5,←hUh4,←hUh3,←hUh2,←hUh1]);clear hO6 hUh5 hUh4 hUh3 hUh2 hUh1 hLh1 hLh2 hLh3 hLh4 hLh5 hO5l hbl hpl hnm HTK HP;have HKw:=Ph (zD HKi.o HI.o);have HSS:Ud (∀ w',Below wr.heap.size wr w'→w'.cell? ⟨ib,0,none⟩=some (uR r.name)∧w'.cell? ⟨ib,2,none⟩=some (.slice bA bn bc)):=Ph fun w' hb=>⟨(zD HKw.o hb).cell 0,(zD HKw.o hb).cell 2⟩;have HBd:Ud (Below wr.heap.size wr wr.drew):=Ph (lB _ _).drew;have HRz:Ud (Below wp.heap.size wp wr):=Ph (HR6.o.trans (HI.o.mono HR6.o.size));go_upto_region 29 with fail
         go_region_held3 (fun w'=>w'.cell? ⟨ib,0,none⟩=some (uR r.name)∧w'.cell? ⟨ib,2,none⟩=some (.slice bA bn bc))
          (first | with_reducible exact HSS.o _ HBd.o)
          (first
            | (go_at_call 40
               with_reducible refine HJ.o.mono ?_
               rintro e w6 ⟨rfl,hb1⟩;have HBn:=Ph (HBd.o.trans (hb1.mono HBd.o.size));clear HBd hb1;have HBd:=HBn;clear HBn)
            | (go_at_call 28
               with_reducible refine(HBC.o _ HBd.o).mono ?_
               rintro e w6 ⟨rfl,hb1⟩;have HBn:=Ph (HBd.o.trans (hb1.mono HBd.o.size));clear HBd hb1;have HBd:=HBn;clear HBn))
         all_goals
          go_wp2_with fail
          go_roundw
          case rel=>exact⟨k+1,Yo,by go_num,by rw [HE.o],Ph (HRz.o.trans (HBd.o.mono HRz.o.size))⟩
          case measure=>simp [intOf];omega
      ·obtain rfl:k=pn:=by omega
       have e1:decide ((k:Int)<(k:Int))=false:=Ym;have HO6:Ud (bs "device "++qZ x.blocks.toNat++bs " width "++qZ x.width.toNat++dT x 4++(bs " require "++zP wide x.require)++x.inits.flatMap (zK7 wide)++x.procs.flatMap (zH6 wide)=O5):=Ph (by rw [HO4.o,←HO5.o,cJ (by rw [HPL.o.1];exact lF _)]);have hb6:=HR.o;clear HO4 HO5 HRP HPL HO3l HR;have HBn:Ud (Below w.heap.size w wr):=Ph (HBc.o.trans (hb6.mono HBc.o.size));have HKn:=Ph (zD HKc.o hb6);have HGn:Ud (GxP P wr x v):=Ph (itG.stay _ _ _ _ _ (Stays.below hb6) HGc.o);clear HBc HKc HGc hb6;have HBc:=HBn;have HKc:=HKn;have HGc:=HGn;clear HBn HKn HGn;have hWs:∀ y∈x.work,ShS y:=fun y hy=>(hm.o.wk.all y hy).sh;have hWz:=hm.o.wk.sz;simp only [pd]at hWz;have hWl:(jJ wide x.work).length≤40000:=by rw [vB];simp only [Ya,Yc,Yn];have:=xQ hWs wide;omega
       have HW:Ud (∀ W',Below wr.heap.size wr W'→Calls prog 28 #[.slice v.wk.A v.wk.n v.wk.c,.bool wide] W' fun e w'=>e=.returned (.string (str (jJ wide x.work)))∧Below W'.heap.size W' w'):=Ph fun W' hb=>jI3 hWs Yo wide v.wk P W' (Ph (HGc.o.wk.stay (Stays.below hb)));have hRs:∀ y∈x.recover,ShS y:=fun y hy=>(hm.o.rc.all y hy).sh;have hRz:=hm.o.rc.sz;simp only [pd]at hRz;have hRl:(jJ wide x.recover).length≤40000:=by rw [vB];simp only [Ya,Yc,Yn];have:=xQ hRs wide;omega
       have HR:Ud (∀ W',Below wr.heap.size wr W'→Calls prog 28 #[.slice v.rc.A v.rc.n v.rc.c,.bool wide] W' fun e w'=>e=.returned (.string (str (jJ wide x.recover)))∧Below W'.heap.size W' w'):=Ph fun W' hb=>jI3 hRs Yo wide v.rc P W' (Ph (HGc.o.rc.stay (Stays.below hb)));have HTI:Ud (∀ W',Below wr.heap.size wr W'→Calls prog 29 #[.agg (uE x.invariant v.iv),.bool wide] W' fun e w'=>e=.returned (.string (str (zP wide x.invariant)))∧Below W'.heap.size W' w'):=Ph fun W' hb=>jQ4 hm.o.iv.sh (by have:=hm.o.iv.sz;omega) wide v.iv W' (Ph (TX.te (HGc.o.iv.stay (Stays.below hb))));have htl:=jS hm.o.iv.sh wide;have hts:=hm.o.iv.sz;have HTG:=Ph (qH9 wide x);obtain⟨bw,hbw⟩:∃ u,jJ wide x.work=u:=⟨_,rfl⟩;obtain⟨br,hbr⟩:∃ u,jJ wide x.recover=u:=⟨_,rfl⟩;obtain⟨ti,hti⟩:∃ u,zP wide x.invariant=u:=⟨_,rfl⟩;rw [hbw]at hWl HW HTG;rw [hbr]at hRl HR HTG;rw [hti]at htl HTI HTG;have hO5l:=HO5l.o;clear hbw hbr hti hWs hWz hRs hRz;have Rk1:∀ w,(Op.stringOp .add (str O5) (⟨#[10,119,111,114,107]⟩:ByteArray)).run prog w=.ok (.string (str (O5++[10,119,111,114,107]))) w:=zQ (O5) ([10,119,111,114,107]) (by first | omega | (simp only [Ya,Yc,Yn];try omega));obtain⟨Uk1,hUk1⟩:∃ u,O5++[10,119,111,114,107]=u:=⟨_,rfl⟩;have hLk1:Uk1.length=(O5.length)+(5):=by rw [←hUk1];simp only [Ya,Yc,Yn];try omega
       rw [hUk1]at Rk1;have Rk2:∀ w,(Op.stringOp .add (str Uk1) (str bw)).run prog w=.ok (.string (str (Uk1++bw))) w:=zQ (Uk1) (bw) (by first | omega | (simp only [Ya,Yc,Yn];try omega));obtain⟨Uk2,hUk2⟩:∃ u,Uk1++bw=u:=⟨_,rfl⟩;have hLk2:Uk2.length=(Uk1.length)+(bw.length):=by rw [←hUk2];simp only [Ya,Yc,Yn];try omega
       rw [hUk2]at Rk2;have Rk3:∀ w,(Op.stringOp .add (str Uk2) (⟨#[114,101,99,111,118,101,114]⟩:ByteArray)).run prog w=.ok (.string (str (Uk2++[114,101,99,111,118,101,114]))) w:=zQ (Uk2) ([114,101,99,111,118,101,114]) (by first | omega | (simp only [Ya,Yc,Yn];try omega));obtain⟨Uk3,hUk3⟩:∃ u,Uk2++[114,101,99,111,118,101,114]=u:=⟨_,rfl⟩;have hLk3:Uk3.length=(Uk2.length)+(7):=by rw [←hUk3];simp only [Ya,Yc,Yn];try omega
       rw [hUk3]at Rk3;have Rk4:∀ w,(Op.stringOp .add (str Uk3) (str br)).run prog w=.ok (.string (str (Uk3++br))) w:=zQ (Uk3) (br) (by first | omega | (simp only [Ya,Yc,Yn];try omega));obtain⟨Uk4,hUk4⟩:∃ u,Uk3++br=u:=⟨_,rfl⟩;have hLk4:Uk4.length=(Uk3.length)+(br.length):=by rw [←hUk4];simp only [Ya,Yc,Yn];try omega
       rw [hUk4]at Rk4;have Rk5:∀ w,(Op.stringOp .add (str Uk4) (⟨#[105,110,118,97,114,105,97,110,116,32]⟩:ByteArray)).run prog w=.ok (.string (str (Uk4++[105,110,118,97,114,105,97,110,116,32]))) w:=zQ (Uk4) ([105,110,118,97,114,105,97,110,116,32]) (by first | omega | (simp only [Ya,Yc,Yn];try omega));obtain⟨Uk5,hUk5⟩:∃ u,Uk4++[105,110,118,97,114,105,97,110,116,32]=u:=⟨_,rfl⟩;have hLk5:Uk5.length=(Uk4.length)+(10):=by rw [←hUk5];simp only [Ya,Yc,Yn];try omega
       rw [hUk5]at Rk5;have Rk6:∀ w,(Op.stringOp .add (str Uk5) (str ti)).run prog w=.ok (.string (str (Uk5++ti))) w:=zQ (Uk5) (ti) (by first | omega | (simp only [Ya,Yc,Yn];try omega));obtain⟨Uk6,hUk6⟩:∃ u,Uk5++ti=u:=⟨_,rfl⟩;have hLk6:Uk6.length=(Uk5.length)+(ti.length):=by rw [←hUk6];simp only [Ya,Yc,Yn];try omega
       rw [hUk6]at Rk6;have HE:Ud (zH2 wide x=Uk6):=Ph (by rw [HTG.o,HO6.o,←hUk6,←hUk5,←hUk4,←hUk3,←hUk2,←hUk1,show bs "\nwork" = [10,119,111,114,107] from Yd,show bs "recover" = [114,101,99,111,118,101,114] from Yd,show bs "invariant " = [105,110,118,97,114,105,97,110,116,32] from by decide];simp only [lS]);clear hUk6 hUk5 hUk4 hUk3 hUk2 hUk1 hLk1 hLk2 hLk3 hLk4 hLk5 hLk6 hO5l hWl hRl htl hts HTG HO6;have HSS:Ud (∀ w',Below wr.heap.size wr w'→w'.cell? ⟨pb,14,none⟩=some (.slice v.wk.A v.wk.n v.wk.c)∧w'.cell? ⟨pb,15,none⟩=some (.slice v.rc.A v.rc.n v.rc.c)∧w'.cell? ⟨pb,16,none⟩=some (uB x.invariant.kind)∧w'.cell? ⟨pb,17,none⟩=some (uB x.invariant.op)∧w'.cell? ⟨pb,18,none⟩=some (uW x.invariant.value)∧w'.cell? ⟨pb,19,none⟩=some (uI x.invariant.width)∧w'.cell? ⟨pb,20,none⟩=some (uR x.invariant.name)∧w'.cell? ⟨pb,21,none⟩=some (.slice v.iv.A v.iv.n v.iv.c)):=Ph fun w' hb=>by have h:=zD HKc.o hb;exact⟨h.cell 14,h.cell 15,h.cell 16,h.cell 17,h.cell 18,h.cell 19,h.cell 20,h.cell 21⟩
       have HBd:Ud (Below wr.heap.size wr wr.drew):=Ph (lB _ _).drew;go_upto_region 31 with fail
       go_region_held3 (fun w'=>w'.cell? ⟨pb,14,none⟩=some (.slice v.wk.A v.wk.n v.wk.c)∧w'.cell? ⟨pb,15,none⟩=some (.slice v.rc.A v.rc.n v.rc.c)∧w'.cell? ⟨pb,16,none⟩=some (uB x.invariant.kind)∧w'.cell? ⟨pb,17,none⟩=some (uB x.invariant.op)∧w'.cell? ⟨pb,18,none⟩=some (uW x.invariant.value)∧w'.cell? ⟨pb,19,none⟩=some (uI x.invariant.width)∧w'.cell? ⟨pb,20,none⟩=some (uR x.invariant.name)∧w'.cell? ⟨pb,21,none⟩=some (.slice v.iv.A v.iv.n v.iv.c))
        (first | with_reducible exact HSS.o _ HBd.o)
        (first
          | (go_at_call 28
             first
              | (with_reducible refine(HW.o _ HBd.o).mono ?_)
              | (with_reducible refine(HR.o _ HBd.o).mono ?_)
             rintro e w6 ⟨rfl,hb1⟩;have HBn:=Ph (HBd.o.trans (hb1.mono HBd.o.size));clear HBd hb1;have HBd:=HBn;clear HBn)
          | (go_at_call 29
             with_reducible refine(HTI.o _ HBd.o).mono ?_
             rintro e w6 ⟨rfl,hb1⟩;have HBn:=Ph (HBd.o.trans (hb1.mono HBd.o.size));clear HBd hb1;have HBd:=HBn;clear HBn))
       all_goals
        go_wp2_with fail
        go_ret;exact⟨by rw [HE.o];rfl,HBc.o.trans (HBd.o.mono HBc.o.size)⟩
end
section
open Go.RowKit Go.PlainAid
def kP1 (w:World) (x:Ex) (a e:Nat) (en:Ending) (w':World):Prop:=∃ S,en=.returned (.tuple #[.agg (qX x S).toArray,uI a,uI e])∧TrT w.heap.size w' x S∧Below w.heap.size w w'
theorem qC2 (f:Nat) (t:List UInt8) (x:Ex) (a e:Nat) (hx:xW f t=some (x,a,e)) (hs:t.length≤65536) (w:World) (hv:Ud (Vars w)) :
 Calls prog 20 #[uR t] w (kP1 w x a e):=by
 have HR0:=Ph (Bk.new w 31 uZ);have HB0:Ud (Ue w (w.alloc (.cells uZ 31))):=zB;have HC:=Ph (kN7 f t x a e hx hs (w.alloc (.cells uZ 31)) (Ph (hv.o.below HB0.o)));have hz:(w.alloc (.cells uZ 31)).heap.size=w.heap.size+1:=by rw [lO]
 clear hx;go_enter func20,ntmps20
 go_wp2_with fail
 generalize (w.alloc _)=W at HR0 HB0 HC hz ⊢;obtain⟨r,hr⟩:∃ r,w.heap.size=r:=⟨_,rfl⟩;rw [hr]at HR0;rw [hr];have hrW:r<W.heap.size:=Yo;have hwr:w.heap.size≤r:=Yo;clear hr hz;refine HC.o.mono ?_;rintro en w1 ⟨S,A,n,c,rfl,ht,hb⟩;unfold qX;have HR1:=Ph (zD HR0.o hb);have HB1:=Ph (zU HB0.o hb);have HX1:=Ph ht;have hw1:W.heap.size≤w1.heap.size:=hb.size;clear ht hb HC HR0;have HYB:=Ph (Bk.new w1 31 (uE x S));have HR2:=Ph (HR1.o.alloc (.cells (uE x S) 31));have HB2:=Ph (zG HB1.o (.cells (uE x S) 31));have HX2:=Ph (HX1.o.bel (zB (o:=(.cells (uE x S) 31))));have hrx:r<w1.heap.size:=Yo;clear HR1 HB1 HX1 hw1;go_upto_region 2 with fail
 generalize (w1.alloc _)=W2 at HYB HR2 HB2 HX2 ⊢;obtain⟨q,hq⟩:∃ q,w1.heap.size=q:=⟨_,rfl⟩;rw [hq]at HYB;rw [hq];have hqr:q≠r:=Yo;clear hq hrx;obtain⟨x0,x1,x2,x3,x4,x5⟩:=zH HYB.o;obtain⟨y0,y1,y2,y3,y4,y5⟩:=zH HR2.o;obtain⟨f0,f1,f2,f3,f4,f5,_⟩:=zZ HR2.o;have HF:=Ph (fr6 W2 r (uB x.kind) (uB x.op) (uW x.value) (uI x.width) (uR x.name) (uL S));have HK:=Ph (put6 (v0:=uB x.kind) (v1:=uB x.op) (v2:=uW x.value) (v3:=uI x.width) (v4:=uR x.name) (v5:=uL S) HR2.o);go_wp2_with fail
 clear y0 y1 y2 y3 y4 y5 f0 f1 f2 f3 f4 f5;generalize (World.setCell _ _ _)=WF at HF HK ⊢;obtain⟨r0,r1,r2,r3,r4,r5⟩:=zH HK.o;refine lK (v:=.tuple #[.agg (uE x S),uI a,uI e]) (by simp [results,results20,go_sem,r0,r1,r2,r3,r4,r5]) rfl ?_;exact⟨S,rfl,(HX2.o.far HF.o hrW).less (lE hwr (Nat.le_of_lt hrW)),zB6 HB2.o hwr HF.o⟩
end
section
open Go.RowKit Go.PlainAid
theorem kC1 {w:World} {o:Obj}:Below w.heap.size w (w.alloc o):=zG (lB _ _) _
theorem kQ8 (B:Nat):∀ (N:Nat) (x:Ex) (S:SV) (m:Nat) (w:World),zQ5 x≤N→zQ5 x≤m→m≤100000→Ud (TrT B w x S) →
 Calls prog 134 #[.agg #[.int .u8 x.kind,.int .u8 x.op,.int .u32 x.value,.int .i64 x.width,.string (str x.name),.slice S.A S.n S.c],.int .i64 m] w fun e w'=>e=.returned (.int .i64 (zQ5 x:Int))∧Below w.heap.size w w'
 | 0,x,S,m,w,hN,_,_,_=>by have:=zS4 x;omega
 | N+1,x,S,m,w,hN,hm,hmm,h=>by
   have IH:=Ph (kQ8 B N);obtain⟨SA,Sn,Sc⟩:=S;have hfx:=zS4 x;have HL:Ud (Sn=x.subs.length):=Ph h.o.len;have hls:(str x.name).size=x.name.length:=jV _;obtain⟨L,hL⟩:∃ L,x.name.length=L:=⟨_,rfl⟩;rw [hL]at hls hfx;obtain⟨k0,hk0⟩:∃ k,(x.kind:Int)=k:=⟨_,rfl⟩;obtain⟨k1,hk1⟩:∃ k,(x.op:Int)=k:=⟨_,rfl⟩;obtain⟨k2,hk2⟩:∃ k,(x.value:Int)=k:=⟨_,rfl⟩;obtain⟨k3,hk3⟩:∃ k,x.width=k:=⟨_,rfl⟩;rw [hk0,hk1,hk2,hk3];obtain⟨F,hF⟩:∃ F,zQ5 x=F:=⟨_,rfl⟩;rw [hF]at hfx hN hm ⊢;have HF:=Ph hF;have HFX:=Ph hfx;have hF1:1+L≤F:=Yo;have HB0:Ud (Below w.heap.size w (w.alloc (.cells #[.int .u8 k0,.int .u8 k1,.int .u32 k2,.int .i64 k3,.string (str x.name),.slice SA Sn Sc] 31))):=kC1;have HBK:=Ph (Bk.new w 31 #[.int .u8 k0,.int .u8 k1,.int .u32 k2,.int .i64 k3,.string (str x.name),.slice SA Sn Sc]);clear hk0 hk1 hk2 hk3 hfx hF hL;go_enter func134,ntmps134
   go_wp2_with fail
   generalize (w.alloc _)=W at HB0 HBK ⊢;go_loopw [5,15] (fun v5 v15 wr=>∃ (j k:Nat),j≤Sn∧v15=.int .i64 j∧v5=.int .i64 k∧Ud (k=1+L+vV (x.subs.take j))∧Ud (Below w.heap.size w wr)) (fun _ v15 _=>Sn-(intOf v15).toNat)
   case atStart=>exact⟨0,1+L,lV _,rfl,by go_num,by show _=_;simp [vV],HB0⟩
   case round =>
    obtain⟨j,k,hj,rfl,rfl,HK,HB⟩:=hrel;have hle:=qA2 x.subs j;have hkF:k≤F:=by have:=HK.o;have:=HFX.o;omega
    have e2:decide ((m:Int)<(k:Int))=false:=Yp;by_cases hlt:j<Sn
    ·have e1:decide ((j:Int)<(Sn:Int))=true:=by simp;omega
     have hji:(j:Int)<(Sn:Int):=Yo;obtain⟨b,off,y,v,hA,hx,hty,hb,hc⟩:=(h.o.bel HB.o).sub wO (i:=j) hlt;obtain⟨vA,vn,vc⟩:=v;(try dsimp only at hA);subst hA;have c0:wr.cell? ⟨b,off+j*6,none⟩=some (.int .u8 y.kind):=hc 0 _ Yo rfl;have c1:wr.cell? ⟨b,off+j*6+1,none⟩=some (.int .u8 y.op):=hc 1 _ Yo rfl;have c2:wr.cell? ⟨b,off+j*6+2,none⟩=some (.int .u32 y.value):=hc 2 _ Yo rfl;have c3:wr.cell? ⟨b,off+j*6+3,none⟩=some (.int .i64 y.width):=hc 3 _ Yo rfl;have c4:wr.cell? ⟨b,off+j*6+4,none⟩=some (.string (str y.name)):=hc 4 _ Yo rfl;have c5:wr.cell? ⟨b,off+j*6+5,none⟩=some (.slice vA vn vc):=hc 5 _ Yo rfl;have hsub:=qA3 hx;have htk:=zX7 _ _ _ hx;have hle2:=qA2 x.subs (j+1);have hk2:k+zQ5 y≤F:=by have:=HK.o;have:=HFX.o;omega
     have HK2:Ud (k+zQ5 y=1+L+vV (x.subs.take (j+1))):=Ph (by rw [htk];have:=HK.o;omega);have hyN:zQ5 y≤N:=by rw [HF.o]at hsub;omega
     have wm:IntKind.i64.wrap ((m:Int)-(k:Int))=((m-k:Nat):Int):=by rw [lL];omega
     have wk:IntKind.i64.wrap ((k:Int)+(zQ5 y:Int))=((k+zQ5 y:Nat):Int):=by rw [lL];omega
     have wj:IntKind.i64.wrap ((j:Int)+1)=((j+1:Nat):Int):=by rw [lL];have:=HL.o;have:=h.o.ok.s;omega
     have HTY:=Ph hty;clear hc hx hty hsub htk hle2 hle;have HBV:Ud (Below wr.heap.size wr (wr.alloc (.cells #[.int .u8 y.kind,.int .u8 y.op,.int .u32 y.value,.int .i64 y.width,.string (str y.name),.slice vA vn vc] 31))):=kC1;go_wp2_with fail
     refine(IH.o y ⟨vA,vn,vc⟩ (m-k) _ hyN Yo Yo (Ph (HTY.o.bel HBV.o))).mono ?_;rintro e w2 ⟨rfl,hb2⟩;have HB2:=Ph (zU (zU HB.o HBV.o) hb2);clear hb2;go_wp2_with fail
     go_roundw
     case rel=>exact⟨j+1,k+zQ5 y,Yo,by go_num,by go_num,HK2,HB2⟩
     case measure=>simp [intOf];omega
    ·obtain rfl:j=Sn:=by omega
     have e1:decide ((j:Int)<(j:Int))=false:=Ym;have HE:Ud (k=F):=Ph (by have:=HK.o;rw [HL.o,List.take_length]at this;rw [this,HFX.o]);go_wp2_with fail
     go_ret;rw [HE.o];exact⟨rfl,HB.o⟩
theorem kP2 (B:Nat) (x:Ex) (S:SV) (w:World) (hm:zQ5 x≤100000) (h:Ud (TrT B w x S)) :
 Calls prog 105 #[.agg (uE x S),uI 100000] w fun e w'=>e=.returned (.bool true)∧Below w.heap.size w w':=by
 have HB0:Ud (Ue w (w.alloc (.cells (uE x S) 31))):=kC1;have HC:=Ph (kQ8 B _ x S 100000 _ (lF _) hm (lF _) (Ph (h.o.bel HB0.o)));have e1:decide ((zQ5 x:Int)≤100000)=true:=Yp;have HM:=Ph hm;clear hm;go_enter func105,ntmps105
 go_wp2_with fail
 refine HC.o.mono ?_;rintro e w2 ⟨rfl,hb⟩;have HB2:=Ph (zU HB0.o hb);clear hb;go_wp2_with fail
 go_ret;exact⟨rfl,HB2.o⟩
end
end Go.Proofs.YtfdaebgllibphaaGreatDoor
