import Derived.Lib.LaidTab
import Derived.Deep.QuietTactic
import Derived.BigQuiet
import Derived.Deep.RegionHeld3
import Derived.Test.YtfdaebgllibphaaGreatDoorWab
set_option linter.unusedVariables false
set_option linter.unusedSimpArgs false
set_option maxRecDepth 100000
set_option maxHeartbeats 16000000
namespace Go.Proofs.YtfdaebgllibphaaGreatDoor
open Go.Proofs.Tryz
section
open Go.RowKit Go.Shelf
theorem qU7 {F:Fence} (hd:F.depth=none) (k:Nat):F.room k:=fun d h=>by rw [hd]at h;cases h
theorem qZ1 {F:Fence} (hd:F.depth=none) {m:Nat} (m':Nat) {P:Program} {l:Nat} {args:Array Value} {W:World} {R:Ending→World→Prop} (h:YieldAt F m P l args W R):YieldAt F m' P l args W R:=by obtain⟨fn,tmps,assign,body,hy,hR⟩:=h;exact⟨fn,tmps,assign,body,hy,hR.1,fun c cs _=>hR.2 c cs (qU7 hd _)⟩
theorem yL {B:Nat} {W:World} {l:Nat} {o':Obj} (h:B≤l):Below B W (W.putObj l o') :=
 ⟨rfl,rfl,rfl,by simp [World.putObj],fun k hk=>World.putObj_heap_other Yo⟩
theorem zF9 {α:Type} {F:Fence} {n:Nat} {P:Program} {g:Operand} {ps:Array Tmp} {assign body:Code} {Q:Exit→Act→World→Prop} {a:Act} {w:World}
 (hro:F.round=none) (hd:F.depth=none) (h1:1≤n) {gf:Nat} {lb:Array Value} (hg:a.eval g=.func (.func gf) #[] lb) (hFg:F.fn gf) (eg:∀ args w,(callFunc gf args).run P w=.ok (.enter gf args) w)
 {encs:α→Array Value} (hps:∀ x,(encs x).size=ps.size) (C:Nat→Prop) (hC:∀ k,C k→k<w.heap.size) (wt:α→Nat) (G:α→World→Prop) (M m0 T:Nat) (I:Nat→World→Prop)
 (hI:∀ m W W',I m W→Below w.heap.size W W'→I m W')
 (h0:I m0 w)
 (hseq:∀ (l:Nat) (J:Nat→World→Prop) (W1:World),w.heap.size≤W1.heap.size→Below w.heap.size w W1→(∀ m W,J m W→I m W)→(∀ m W W',J m W→Below W1.heap.size W W'→J m W') →
   (∀ m x W k,J m W→W1.heap.size≤W.heap.size→G x W→m+wt x≤M→YieldAt F k P l (encs x) W fun e W'=>e=.returned (.bool true)∧J (m+wt x) W'∧Fr C W W') →
   J m0 W1 →
   CallsIn F (n-1) P gf (#[.func (.yield l) #[] #[]]++lb) W1 fun e W'=>(∃ v,e=.returned v)∧J (m0+T) W'∧Fr C W1 W')
 (hround:∀ (l m:Nat) (x:α) (W:World),I m W→w.heap.size≤l→(∃ r,W.heap[l]?=some (.loop r))→G x W→m+wt x≤M→assign.wpIn (F.inRound l) (n-1-1) P (Exit.then (fun a' W'=>Fr C W W' ∧
   ∀ o',(∃ r,o'=Obj.loop r)→body.wpIn (F.inRound l) (n-1-1) P (fun e _ W3=>e=.normal∧I (m+wt x) W3∧Fr C (W'.putObj l o') W3) a' (W'.putObj l o')) (fun _ _ _=>False))
   { tmps:=(ps.zip (encs x)).foldl (fun t (p,v)=>t.setIfInBounds p v) a.tmps,defers:=[] } W)
 (hdone:∀ (D:Nat) (W:World),w.heap.size≤D→I (m0+T) W→Fr C w W→W.heap[D]?=some (.deferred (some []))→Q .normal { a with defers:={ target:=.collected D,args:=#[] } :: a.defers } W) :
 (Code.rangeFunc g ps assign body).wpIn F n P Q a w:=by
 refine wpIn_rangeFunc fun fn hfn=>?_;rw [hro];let rc:Loop:={ state:=.ready,pending:=none,fn,tmps:=a.tmps,params:=ps,assign,body,defers:=w.heap.size }
 have hl0:((w.alloc (.deferred (some []))).alloc (.loop rc)).heap[w.heap.size+1]?=some (.loop rc):=by have:=World.alloc_heap_new (w.alloc (.deferred (some []))) (.loop rc);rwa [lO]at this
 have hd0:((w.alloc (.deferred (some []))).alloc (.loop rc)).heap[w.heap.size]?=some (.deferred (some [])):=(Below.heap_alloc _ _ _ Ym).trans (World.alloc_heap_new w _);have hB0:Ue w ((w.alloc (.deferred (some []))).alloc (.loop rc)):=zG (zG (lB _ _) _) _;have hz:((w.alloc (.deferred (some []))).alloc (.loop rc)).heap.size=w.heap.size+2:=by rw [lO,lO]
 refine⟨w.heap.size+1,[{ target:=.collected w.heap.size,args:=#[] }],((w.alloc (.deferred (some []))).alloc (.loop rc)),{ target:=.fn (.func gf) lb,args:=#[.func (.yield (w.heap.size+1)) #[] #[]] },((w.alloc (.deferred (some []))).alloc (.loop rc)),gf,#[.func (.yield (w.heap.size+1)) #[] #[]]++lb,((w.alloc (.deferred (some []))).alloc (.loop rc)),
  run_enterLoop_outer fn a.tmps ps assign body,?_,?_,?_,fun _=>h1,?_⟩
 ·simp only [resolve,hg];simp [go_sem]
 ·intro f' hf';simp [Target.leads]at hf';subst hf';exact hFg
 ·simp [invoke,go_sem,eg]
 ·refine(hseq (w.heap.size+1) (fun m W=>I m W∧W.heap[w.heap.size+1]?=some (.loop rc)∧W.heap[w.heap.size]?=some (.deferred (some []))) _ (by rw [hz];omega) hB0 (fun m W h=>h.1)
   (fun m W W' h hb=>⟨hI _ _ _ h.1 (hb.mono (by rw [hz];omega)),(hb.block _ (by rw [hz];omega)).trans h.2.1,(hb.block _ (by rw [hz];omega)).trans h.2.2⟩) ?_ ⟨hI _ _ _ h0 hB0,hl0,hd0⟩).mono ?_
  ·rintro m x W k ⟨hi,hl,hdd⟩ hW1 hgx hm;have hlW:w.heap.size+1<W.heap.size:=zO hl;refine qZ1 hd k ⟨fn,_,assign,body,run_yield (P:=P) (args:=encs x) hl (hps x),roundIn_of_wpIn hfn (wpIn_mono (hround (w.heap.size+1) m x W hi Yo ⟨_,hl⟩ hgx hm) ?_)⟩;rintro e a' W' he;cases e with
   | normal =>
     obtain⟨hk,hb⟩:=he;have nC:∀ i,w.heap.size≤i→¬C i:=fun i hi hc=>by have:=hC i hc;omega
     have hl':W'.heap[w.heap.size+1]?=some (.loop rc):=(hk.block _ hlW (nC _ Yo)).trans hl;have hd':W'.heap[w.heap.size]?=some (.deferred (some [])):=(hk.block _ Yo (nC _ (lF _))).trans hdd;have hlt:w.heap.size+1<W'.heap.size:=zO hl';refine⟨_,run_beginRound hl' rfl,wpIn_mono (hb _ ⟨_,rfl⟩) ?_⟩;rintro e a3 W3 ⟨rfl,hi3,hk3⟩;have hsz:(W'.putObj (w.heap.size+1) (.loop { rc with state:=.busy })).heap.size=W'.heap.size:=by simp [World.putObj]
     have hl2:(W'.putObj (w.heap.size+1) (.loop { rc with state:=.busy })).heap[w.heap.size+1]?=some (.loop { rc with state:=.busy }):=World.putObj_heap_same hlt;have hl3:=(hk3.block _ (by rw [hsz];exact hlt) (nC _ Yo)).trans hl2;have hd3:W3.heap[w.heap.size]?=some (.deferred (some [])):=(hk3.block _ (by rw [hsz];omega) (nC _ (lF _))).trans ((World.putObj_heap_other Yo).trans hd');have hlt3:w.heap.size+1<W3.heap.size:=zO hl3;refine⟨_,_,run_endRound (P:=P) none hl3,rfl,⟨hI _ _ _ hi3 (yL Yo),World.putObj_heap_same hlt3,(World.putObj_heap_other Yo).trans hd3⟩,?_⟩;have hs3:=hk3.size;rw [hsz]at hs3;refine⟨?_,?_,?_,?_,fun i hi hf=>?_⟩
     ·exact hk3.os.trans hk.os
     ·exact hk3.tape.trans hk.tape
     ·exact hk3.output.trans hk.output
     ·have h1:=hk.size;have h2:(W3.putObj (w.heap.size+1) (.loop { rc with state:=.ready })).heap.size=W3.heap.size:=by simp [World.putObj]
      show W.heap.size≤(W3.putObj (w.heap.size+1) _).heap.size;simp only [World.putObj,Array.size_setIfInBounds];omega
     ·by_cases hil:i=w.heap.size+1
      ·subst hil;exact(World.putObj_heap_same hlt3).trans hl.symm
      ·have hsW:=hk.size;exact(World.putObj_heap_other hil).trans ((hk3.block i (by rw [hsz];omega) hf).trans ((World.putObj_heap_other hil).trans (hk.block i hi hf)))
   | ret=>exact he.elim
   | exit id=>exact he.elim
   | goto t=>exact he.elim
   | panic ch=>exact he.elim
   | outgrown=>exact he.elim
  ·rintro e W2 ⟨⟨v,rfl⟩,⟨hi,hl,hdd⟩,hf⟩;refine⟨none,_,run_endLoop (P:=P) hl (by simp [rc]),hdone _ _ (lF _) (hI _ _ _ hi (yL Yo)) ?_ (zS7 Yo hdd)⟩;refine⟨hf.os,hf.tape,hf.output,?_,fun i hi' hfi=>?_⟩
   ·have:=hf.size;rw [hz]at this;simp only [World.putObj,Array.size_setIfInBounds];omega
   ·exact(World.putObj_heap_other Yo).trans ((hf.block i (by rw [hz];omega) hfi).trans (hB0.block i hi'))
end
section
inductive Ex where
 | mk (kind op value:Nat) (width:Int) (name:List UInt8) (subs:List Ex)
def ex0:Ex:=.mk 0 0 0 0 [] []
def kK:Nat→List UInt8
 | 1=>[126] | 2=>[45] | 3=>[43] | 4=>[45] | 5=>[42] | 6=>[47] | 7=>[37] | 8=>[38] | 9=>[124] | 10=>[94] | 11=>[60,60] | 12=>[62,62] | 13=>[61,61] | 14=>[33,61] | 15=>[60] | 16=>[60,61] | _=>[]
def kD:Nat→Nat
 | 3=>5 | 4=>5 | 5=>6 | 6=>6 | 7=>6 | 8=>2 | 9=>1 | 10=>1 | 11=>4 | 12=>4 | 13=>3 | 14=>3 | 15=>3 | 16=>3 | _=>0
def isO (t:List UInt8) (two:Bool) (o:Nat):Bool:=decide (kK o=t) && (decide (0<kD o) == two)
def qD8 (t:List UInt8) (two:Bool):Nat→Nat→Option Nat
 | 0,_=>none
 | f+1,o=>if isO t two o then some o else qD8 t two f (o+1)
def jY (t:List UInt8) (two:Bool):Option Nat:=qD8 t two 16 1
def zR4:List (List UInt8):=["device","width","input","ghost","var","array","require","init","proc","work","recover","invariant","flush","barrier","write","if","else","while","bound","call","disk"].map fun s=>s.toList.map fun c=>UInt8.ofNat c.toNat
def vO (t:List UInt8):Bool:=zR4.contains t
structure PSt where
 n:Nat
 deep:Int
 fail:Nat
 e:Nat
deriving DecidableEq
structure Env where
 text:List UInt8
 toks:List Tk
abbrev Nd:=Ex×List Nat
def nd0:Nd:=(ex0,[])
def zC (E:Env) (s:PSt):Tk:=if s.e≠0 then⟨0,[],E.text.length,E.text.length⟩ else match E.toks[s.n]? with
 | some t=>t
 | none=>⟨0,[],E.text.length,E.text.length⟩
def qH (E:Env) (s:PSt) (e:Nat):PSt:=if s.e=0 then { s with fail:=(zC E s).at',e:=e } else s
def isP (E:Env) (s:PSt) (w:List UInt8):Bool:=decide ((zC E s).kind≠0) && decide ((zC E s).text=w)
def zE (s:PSt):PSt:={ s with n:=s.n+1 }
def isS (E:Env) (s:PSt) (w:List UInt8):PSt:=if isP E s w then zE s else s
def zI (E:Env) (s:PSt) (w:List UInt8):PSt:=if isP E s w then zE s else qH E s 300
def kJ (E:Env) (s:PSt):Bool:=decide ((zC E s).kind=1) && !vO (zC E s).text
def jA (E:Env) (s:PSt):List UInt8:=if kJ E s then(zC E s).text else []
def zL (E:Env) (s:PSt):PSt:=if kJ E s then zE s else qH E s 300
def jB (E:Env) (s:PSt):Nat×PSt :=
 if (zC E s).kind=2 then(if (vS (zC E s).text).2=0 then((vS (zC E s).text).1,zE s) else(0,qH E s 302)) else(0,qH E s 300)
def yH (s:PSt) (d:Int):PSt:={ s with deep:=s.deep+d }
def zC7 (E:Env) (s:PSt) (w:List UInt8):Bool:=decide ((zC E s).text=w) && decide ((zC E s).text≠[])
def zI4 (E:Env) (s:PSt) (w:List UInt8):PSt:=if zC7 E s w then(if 200≤s.deep then qH E s 301 else yH (zE s) 1) else s
def kV (E:Env) (s:PSt) (w:List UInt8):PSt:=if zC7 E s w then zI4 E s w else yH (qH E s 300) 1
def wN (E:Env) (s:PSt) (w:List UInt8):PSt:=yH (zI E s w) (-1)
def qI (kind op value:Nat) (width:Int) (name:List UInt8) (at':Nat) (l:List Nd):Nd:=(.mk kind op value width name (l.map (·.1)),at' :: l.flatMap (·.2))
def yK (x:Nd):Nat:=x.2.headD 0
def okP (s:PSt):Bool:=decide (-1000000≤s.deep) && decide (s.deep≤1000000)
def okW (l:List Nd):Bool:=decide ((l.flatMap (·.2)).length≤1000000)
section
variable (E:Env)
mutual
def zM:Nat→PSt→Option (Nd×PSt)
 | 0,_=>none
 | f+1,s=>match qN f 1 s with
   | none=>none
   | some (x,s1)=>match okP s1 with
     | false=>none
     | true=>match zC7 E s1 [63]with
       | false=>some (x,s1)
       | true=>match zM f (zI4 E s1 [63])with
         | none=>none
         | some (y,s3)=>match zM f (zI E s3 [58])with
           | none=>none
           | some (z,s5)=>match okP s5 && okW [x,y,z]with
             | false=>none
             | true=>some (qI 7 0 0 0 [] (yK x) [x,y,z],yH s5 (-1))
def qN:Nat→Nat→PSt→Option (Nd×PSt)
 | 0,_,_=>none
 | f+1,r,s=>match zR f s with
   | none=>none
   | some (x,s1)=>qR f r x s1
def qR:Nat→Nat→Nd→PSt→Option (Nd×PSt)
 | 0,_,_,_=>none
 | f+1,r,x,s=>match decide (s.e=0)with
   | false=>some (x,s)
   | true=>match (if (zC E s).kind=4 then jY (zC E s).text true else none)with
     | none=>some (x,s)
     | some op=>match decide (kD op<r)with
       | true=>some (x,s)
       | false=>match qN f (kD op+1) (zE s)with
         | none=>none
         | some (y,s2)=>match okW [x,y]with
           | false=>none
           | true=>qR f r (qI 6 op 0 0 [] (yK x) [x,y]) s2
def zR:Nat→PSt→Option (Nd×PSt)
 | 0,_=>none
 | f+1,s=>match (if (zC E s).kind=4 then jY (zC E s).text false else none)with
   | some op=>match okP s with
     | false=>none
     | true=>match zR f (kV E s (zC E s).text)with
       | none=>none
       | some (x,s2)=>match okP s2 && okW [x]with
         | false=>none
         | true=>some (qI 5 op 0 0 [] (zC E s).at' [x],yH s2 (-1))
   | none=>match qJ f s with
     | none=>none
     | some (x,s1)=>jI f x s1
def jI:Nat→Nd→PSt→Option (Nd×PSt)
 | 0,_,_=>none
 | f+1,x,s=>match isP E s [64]with
   | false=>some (x,s)
   | true=>match okW [x]with
     | false=>none
     | true=>jI f (qI 8 0 0 (jB E (zE s)).1 [] (yK x) [x]) (jB E (zE s)).2
def zX:Nat→PSt→List UInt8→List UInt8→Option (Nd×PSt)
 | 0,_,_,_=>none
 | f+1,s,a,b=>match okP s with
   | false=>none
   | true=>match zM f (kV E s a)with
     | none=>none
     | some (x,s2)=>match okP s2 with
       | false=>none
       | true=>some (x,wN E s2 b)
def qJ:Nat→PSt→Option (Nd×PSt)
 | 0,_=>none
 | f+1,s=>match decide (s.e=0)with
   | false=>some (nd0,s)
   | true=>match decide ((zC E s).kind=3)with
     | true=>match decide ((zH8 (zC E s).text).2.2=0)with
       | false=>some (nd0,qH E s 302)
       | true=>some (qI 1 0 (zH8 (zC E s).text).1 (zH8 (zC E s).text).2.1 [] (zC E s).at' [],zE s)
     | false=>match decide ((zC E s).text=[40])with
       | true=>zX f s [40] [41]
       | false=>match decide ((zC E s).text=[100,105,115,107])with
         | true=>match zX f (zE s) [91] [93]with
           | none=>none
           | some (x,s2)=>match okW [x]with
             | false=>none
             | true=>some (qI 4 0 0 0 [] (zC E s).at' [x],s2)
         | false=>match decide ((zC E (zL E s)).text=[91])with
           | true=>match zX f (zL E s) [91] [93]with
             | none=>none
             | some (x,s2)=>match okW [x]with
               | false=>none
               | true=>some (qI 3 0 0 0 (jA E s) (zC E s).at' [x],s2)
           | false=>some (qI 2 0 0 0 (jA E s) (zC E s).at' [],zL E s)
end
end
def zM1 (E:Env) (s:PSt):PSt:=if s.e=0∧s.n<E.toks.length then qH E s 300 else s
def xW (fuel:Nat) (t:List UInt8):Option (Ex×Nat×Nat) :=
 if 65536<t.length then some (ex0,0,3) else match zI3 (kG t)with
 | some a=>some (ex0,a,280)
 | none=>match zM ⟨t,zY t (kG t)⟩ fuel ⟨0,0,0,0⟩with
   | none=>none
   | some (x,s)=>if (zM1 ⟨t,zY t (kG t)⟩ s).e=0 then some (x.1,t.length,0) else some (ex0,(zM1 ⟨t,zY t (kG t)⟩ s).fail,(zM1 ⟨t,zY t (kG t)⟩ s).e)
mutual
def jM2:Ex→Ex→Bool
 | .mk a b c d e l,.mk a' b' c' d' e' l'=>decide (a=a') && (decide (b=b') && (decide (c=c') && (decide (d=d') && (decide (e=e') && zX2 l l'))))
def zX2:List Ex→List Ex→Bool
 | [],[]=>true
 | x :: l,y :: l'=>jM2 x y && zX2 l l'
 | _,_=>false
end
mutual
theorem qO9:∀ (x y:Ex),jM2 x y=true→x=y
 | .mk a b c d e l,.mk a' b' c' d' e' l',h=>by simp only [jM2,lZ,cC]at h;obtain⟨rfl,rfl,rfl,rfl,rfl,h⟩:=h;rw [qD9 l l' h]
theorem qD9:∀ (l l':List Ex),zX2 l l'=true→l=l'
 | [],[],_=>rfl
 | x :: l,y :: l',h=>by simp only [zX2,lZ]at h;rw [qO9 x y h.1,qD9 l l' h.2]
 | [],_ :: _,h=>by simp [zX2]at h
 | _ :: _,[],h=>by simp [zX2]at h
end
abbrev uP:Array Value:=#[uI 0,uI 0,uN,uN,uN,uN,uB 0,uB 0,uW 0,uI 0,uT,uN,uN,uN,uN,uN,uB 0,uB 0,uW 0,uI 0,uT,uN]
abbrev uZ:Array Value:=#[uB 0,uB 0,uW 0,uI 0,uT,uN]
abbrev uS:Array Value:=#[uB 0,uT,uN,uI 0,uN,uN]
end
section
open Go.RowKit
def Ex.kind:Ex→Nat | .mk k _ _ _ _ _=>k
def Ex.op:Ex→Nat | .mk _ o _ _ _ _=>o
def Ex.value:Ex→Nat | .mk _ _ v _ _ _=>v
def Ex.width:Ex→Int | .mk _ _ _ w _ _=>w
def Ex.name:Ex→List UInt8 | .mk _ _ _ _ n _=>n
def Ex.subs:Ex→List Ex | .mk _ _ _ _ _ l=>l
def qX (x:Ex) (S:SV):List Value:=[uB x.kind,uB x.op,uW x.value,uI x.width,uR x.name,.slice S.A S.n S.c]
def zM2 (x:Ex) (S:SV):List Value:=[uI x.kind,uI x.op,uI x.value,uI x.width,uR x.name,.slice S.A S.n S.c]
structure zX3 (x:Ex):Prop where
 k:x.kind≤255
 o:x.op≤255
 v:x.value≤4294967295
 w0:-9223372036854775808≤x.width
 w1:x.width≤9223372036854775807
 n:x.name.length≤1000000
 s:x.subs.length≤1000
inductive TreeAt (B:Nat) (c:Ex→SV→List Value) (t:TypeId) (w:World):Ex→SV→Prop where
 | mk (x:Ex) (S:SV) (vs:List SV) (ok:zX3 x) (hl:vs.length=x.subs.length) (hn:S.n=x.subs.length) (hB:∀ b off,S.A=some ⟨b,off,none⟩→B≤b) (rd:RdT w S.A t ((x.subs.zip vs).flatMap fun p=>c p.1 p.2))
    (all:∀ (i:Nat) (y:Ex) (v:SV),x.subs[i]?=some y→vs[i]?=some v→TreeAt B c t w y v):TreeAt B c t w x S
section
variable {B B2:Nat} {c:Ex→SV→List Value} {t:TypeId} {w w':World} {x:Ex} {S:SV}
theorem TreeAt.keeps (h:TreeAt B c t w x S) (hk:Keeps t w w'):TreeAt B c t w' x S:=by
 induction h with
 | mk x S vs ok hl hn hB rd all ih=>exact .mk x S vs ok hl hn hB (rd.keeps hk) fun i y v hy hv=>ih i y v hy hv
theorem TreeAt.bel (h:TreeAt B c t w x S) (hb:Below w.heap.size w w'):TreeAt B c t w' x S:=h.keeps (Keeps.below hb)
theorem TreeAt.ok (h:TreeAt B c t w x S):zX3 x:=by cases h;assumption
theorem TreeAt.len (h:TreeAt B c t w x S):S.n=x.subs.length:=by cases h;assumption
theorem TreeAt.subs (h:TreeAt B c t w x S):∃ vs:List SV,vs.length=x.subs.length∧RdT w S.A t ((x.subs.zip vs).flatMap fun p=>c p.1 p.2)∧∀ (i:Nat) (y:Ex) (v:SV),x.subs[i]?=some y→vs[i]?=some v→TreeAt B c t w y v:=by
 cases h with
 | mk x S vs ok hl hn hB rd all=>exact⟨vs,hl,rd,all⟩
theorem TreeAt.leaf (ok:zX3 x) (hs:x.subs=[]) (c0:Nat):TreeAt B c t w x ⟨none,0,c0⟩:=.mk x _ [] ok (by rw [hs];rfl) (by rw [hs];rfl) (fun _ _ h=>by cases h) (by rw [hs];exact RdT.nil) (fun i y v hy _=>by rw [hs]at hy;simp at hy)
theorem TreeAt.far (h:TreeAt B c t w x S) {r:Nat} (hf:Fr (fun k=>k=r) w w') (hr:r<B):TreeAt B c t w' x S:=by
 induction h with
 | mk x S vs ok hl hn hB rd all ih =>
   refine .mk x S vs ok hl hn hB ⟨fun hx=>?_,fun b off he=>?_⟩ fun i y v hy hv=>ih i y v hy hv
   ·obtain⟨b,off,cs,t0,fr,hA,hb,hc⟩:=rd.rd hx;have:=hB b off hA;exact⟨b,off,cs,t0,fr,hA,(hf.block b (zO hb) Yo).trans hb,hc⟩
   ·obtain⟨cs,fr,hb⟩:=rd.ty b off he;have:=hB b off he;exact⟨cs,fr,(hf.block b (zO hb) Yo).trans hb⟩
theorem TreeAt.less (h:TreeAt B c t w x S) (hb:B2≤B):TreeAt B2 c t w x S:=by
 induction h with
 | mk x S vs ok hl hn hB rd all ih=>exact .mk x S vs ok hl hn (fun b off e=>lE hb (hB b off e)) rd fun i y v hy hv=>ih i y v hy hv
theorem TreeAt.sub (hc:∀ x S,(c x S).length=6) (h:TreeAt B c t w x S) {i:Nat} (hi:i<S.n) :
 ∃ b off y v,S.A=some ⟨b,off,none⟩∧x.subs[i]?=some y∧TreeAt B c t w y v∧b<w.heap.size∧∀ j u,j<6→(c y v)[j]?=some u→w.cell? ⟨b,off+(i*6+j),none⟩=some u:=by
 cases h with
 | mk x S vs ok hl hn hB rd all =>
   obtain⟨b,off,p,hA,hp,hb,hcl⟩:=rd.rd.flat (f:=fun p:Ex×SV=>c p.1 p.2) (m:=6) (fun p=>hc _ _) Yo (L:=x.subs.zip vs) (i:=i) (by rw [List.length_zip,hl,Nat.min_self,←hn];exact hi);obtain⟨y,v⟩:=p;obtain⟨h1,h2⟩:=List.getElem?_zip_eq_some.1 hp;exact⟨b,off,y,v,hA,h1,all i y v h1 h2,hb,hcl⟩
end
theorem wO (x:Ex) (S:SV):(qX x S).length=6:=rfl
theorem qE1 (x:Ex) (S:SV):(zM2 x S).length=6:=rfl
theorem qE2 (x:Ex) (S:SV):∀ u∈qX x S,u.oneCell'=true:=by intro u hu;simp only [qX,lU,lT,or_false]at hu;rcases hu with rfl | rfl | rfl | rfl | rfl | rfl <;> rfl
theorem jA4 (x:Ex) (S:SV):∀ u∈zM2 x S,u.oneCell'=true:=by intro u hu;simp only [zM2,lU,lT,or_false]at hu;rcases hu with rfl | rfl | rfl | rfl | rfl | rfl <;> rfl
abbrev TrT (B:Nat) (w:World) (x:Ex) (S:SV):Prop:=TreeAt B qX 31 w x S
abbrev TrR (B:Nat) (w:World) (x:Ex) (S:SV):Prop:=TreeAt B zM2 144 w x S
def yV (l:List Nat):List Value:=l.map fun(n:Nat)=>uI n
structure AtsAt (w:World) (Q:SV) (l:List Nat):Prop where
 rd:RdT w Q.A 3 (yV l)
 len:l.length=Q.n
 all:∀ n∈l,n≤1000000
 small:Q.n≤100000000
theorem AtsAt.keeps {w w':World} {Q:SV} {l:List Nat} (h:AtsAt w Q l) (hk:Keeps 3 w w'):AtsAt w' Q l:=⟨h.rd.keeps hk,h.len,h.all,h.small⟩
structure NdAt (B:Nat) (w:World) (x:Nd) (S Q:SV):Prop where
 t:TrT B w x.1 S
 a:AtsAt w Q x.2
 base:B≤w.heap.size
theorem NdAt.keeps {B:Nat} {w w':World} {x:Nd} {S Q:SV} (h:NdAt B w x S Q) (hs:w.heap.size≤w'.heap.size) (h1:Keeps 31 w w') (h2:Keeps 3 w w'):NdAt B w' x S Q:=⟨h.t.keeps h1,h.a.keeps h2,lE h.base hs⟩
theorem NdAt.below {B:Nat} {w w':World} {x:Nd} {S Q:SV} (h:NdAt B w x S Q) (hb:Below w.heap.size w w'):NdAt B w' x S Q:=h.keeps hb.size (Keeps.below hb) (Keeps.below hb)
def jW9 (x:Nd) (S Q:SV):List Value:=qX x.1 S++[.slice Q.A Q.n Q.c]
abbrev uE(x:Ex)(S:SV):Array Value:=#[uB x.kind,uB x.op,uW x.value,uI x.width,uR x.name,.slice S.A S.n S.c]
end
section
open Go.RowKit Go.PlainAid
structure Vars (w:World):Prop where
 max:∃ m,w.cell? ⟨0,0,none⟩=some (uI m)
 asc:Lib.TabIs prog w "strings.asciiSpace" .u8 Lib.asciiSpaceTab
theorem jA5:prog.globalNamed "strings.asciiSpace" = some 3:=Yk
theorem Vars.lt {w:World} (h:Vars w):0<w.heap.size∧3<w.heap.size:=by
 obtain⟨⟨m,h1⟩,h2⟩:=h;refine⟨World.block_lt_of_cell? w _ h1,?_⟩;unfold Lib.TabIs World.var? at h2;rw [jA5,lP]at h2;rcases Nat.lt_or_ge 3 w.heap.size with h | h
 ·exact h
 ·rw [Array.getElem?_eq_none h]at h2;cases h2
theorem Vars.fr {F:Nat→Prop} {w w':World} (h:Vars w) (hf:Fr F w w') (h0:¬F 0) (h1:¬F 3):Vars w':=by obtain⟨l0,l1⟩:=h.lt;obtain⟨⟨m,h2⟩,h3⟩:=h;refine⟨⟨m,(hf.cell (p:=⟨0,0,none⟩) l0 h0).trans h2⟩,?_⟩;unfold Lib.TabIs World.var? at h3 ⊢;rw [jA5,lP]at h3 ⊢;rw [hf.block _ l1 h1];exact h3
theorem Vars.below {w w':World} (h:Vars w) (hb:Below w.heap.size w w'):Vars w':=h.fr (Fr.of_below (F:=fun _=>False) hb) (fun h=>h) (fun h=>h)
theorem zR5 (c:UInt8):∀ (s:List UInt8),(zC2 c s).2.2=false→Lib.index s [c]=-1∧zC2 c s=(s,[],false)
 | [],_=>⟨rfl,rfl⟩
 | b :: l,h=>by
   unfold zC2 at h ⊢;by_cases hb:b=c
   ·rw [lM hb]at h;cases h
   ·rw [lN hb]at h ⊢;obtain⟨h1,h2⟩:=zR5 c l h;have hcb:¬c=b:=fun e=>hb e.symm;refine⟨?_,by rw [h2]⟩;unfold Lib.index;rw [h1,lN (by simp [List.isPrefixOf,hcb])];rfl
theorem zR6 (c:UInt8):∀ (s:List UInt8),(zC2 c s).2.2=true→∃ n:Nat,Lib.index s [c]=(n:Int)∧s.take n=(zC2 c s).1∧s.drop (n+1)=(zC2 c s).2.1
 | [],h=>by cases h
 | b :: l,h=>by
   unfold zC2 at h ⊢;by_cases hb:b=c
   ·rw [lM hb];refine⟨0,?_,rfl,rfl⟩;subst hb;unfold Lib.index;simp [List.isPrefixOf]
   ·rw [lN hb]at h ⊢;obtain⟨n,h1,h2,h3⟩:=zR6 c l h;have hcb:¬c=b:=fun e=>hb e.symm;refine⟨n+1,?_,by rw [cR,h2],by rw [List.drop_succ_cons,h3]⟩;unfold Lib.index;rw [h1,lN (by simp [List.isPrefixOf,hcb]),lN Ym];rfl
theorem jX1 (c:UInt8) (s:List UInt8):Lib.cut s [c]=zC2 c s:=by
 unfold Lib.cut;cases h:(zC2 c s).2.2 with
 | false =>
   obtain⟨h1,h2⟩:=zR5 c s h;rw [h1,h2];rfl
 | true =>
   obtain⟨n,h1,h2,h3⟩:=zR6 c s h;rw [h1,lM Yo,Int.toNat_natCast,h2,show n+[c].length=n+1 from rfl,h3,←h]
theorem qP1 (c:UInt8):∀ (s:List UInt8),(zC2 c s).1.length≤s.length∧(zC2 c s).2.1.length≤s.length
 | []=>⟨lF _,lF _⟩
 | b :: l=>by
   have:=qP1 c l;unfold zC2;split
   ·simp
   ·simp only [Yc];omega
theorem kR3 (s:ByteArray) (w:World) (hs:s.size≤100000000) (hv:Ud (Vars w)):Calls prog 182 #[.string s,.string ⟨#[58]⟩] w fun e w'=>e=.returned (.tuple #[.string (str (zC2 58 s.data.toList).1),.string (str (zC2 58 s.data.toList).2.1),.bool (zC2 58 s.data.toList).2.2])∧Below w.heap.size w w':=by obtain⟨m,hm⟩:=hv.o.max;refine(Tryz.strings_Cut s ⟨#[58]⟩ m w Yo hm).mono ?_;rintro e w' ⟨rfl,n,rfl⟩;rw [show Lib.cut s.data.toList (⟨#[58]⟩:ByteArray).data.toList=zC2 58 s.data.toList from jX1 58 _];exact⟨rfl,zG5 _ _⟩
def qK2:List UInt8:=[32,100,101,118,105,99,101,32,119,105,100,116,104,32,105,110,112,117,116,32,103,104,111,115,116,32,118,97,114,32,97,114,114,97,121,32,114,101,113,117,105,114,101,32,105,110,105,116,32,112,114,111,99,32,119,111,114,107,32,114,101,99,111,118,101,114,32,105,110,118,97,114,105,97,110,116,32,102,108,117,115,104,32,98,97,114,114,105,101,114,32,119,114,105,116,101,32,105,102,32,101,108,115,101,32,119,104,105,108,101,32,98,111,117,110,100,32,99,97,108,108,32,100,105,115,107,32]
theorem qK3:Lib.fields qK2=zR4:=by decide +kernel
theorem qU9:∀ (j:Nat) (b:UInt8),qK2[j]?=some b→b.toNat<128:=by
 have h:∀ b∈qK2,b.toNat<128:=by decide +kernel
 intro j b hb;exact h b (cD hb)
theorem zZ5 (x:List UInt8):Lib.containsS (zR4.map str) (str x)=vO x:=by
 unfold vO;rw [Bool.eq_iff_iff,Lib.containsS_iff,List.contains_iff_mem,List.mem_map];constructor
 ·rintro⟨y,hy,e⟩;rw [←jW2 e];exact hy
 ·intro h;exact⟨x,h,rfl⟩
theorem jX2 (x:List UInt8) (w:World) (hv:Ud (Vars w)):Calls prog 132 #[uR x] w fun e w'=>e=.returned (.bool (vO x))∧Below w.heap.size w w':=by
 have hF:=Tryz.strings_Fields (str qK2) w Yd qU9 hv.o.asc;rw [show(str qK2).data.toList=qK2 from rfl,qK3]at hF;have HF:=Ph hF;have hC:∀ w',Bk w' w.heap.size 9 (zR4.map fun l=>uR l).toArray→Calls prog 146 #[.slice (some ⟨w.heap.size,0,none⟩) zR4.length zR4.length,uR x] w' fun e w''=>e=.returned (.bool (vO x))∧w''=w':=fun w' hb=>by
  have h1:=Tryz.slices_Contains_string w.heap.size 0 zR4.length zR4.length (zR4.map str) (str x) w' (by rw [lW];exact lF _) Yd (fun j hj=>by have h2:=hb.cell (0+j);rw [h2];rw [lW]at hj;simp [List.getD_eq_getElem?_getD,hj]);rw [cJ (by rw [lW];exact lF _),zZ5]at h1;exact h1
 have HC:=Ph hC;have HB:Ud (Ue w (w.alloc (.cells (zR4.map fun l=>uR l).toArray 9))):=zG (lB _ _) _;have HK:=Ph (Bk.new w 9 (zR4.map fun l=>uR l).toArray);have hx:(⟨#[32,100,101,118,105,99,101,32,119,105,100,116,104,32,105,110,112,117,116,32,103,104,111,115,116,32,118,97,114,32,97,114,114,97,121,32,114,101,113,117,105,114,101,32,105,110,105,116,32,112,114,111,99,32,119,111,114,107,32,114,101,99,111,118,101,114,32,105,110,118,97,114,105,97,110,116,32,102,108,117,115,104,32,98,97,114,114,105,101,114,32,119,114,105,116,101,32,105,102,32,101,108,115,101,32,119,104,105,108,101,32,98,111,117,110,100,32,99,97,108,108,32,100,105,115,107,32]⟩:ByteArray)=str qK2:=rfl;clear hF hC;go_enter func132,ntmps132
 go_wp2_with fail
 refine HF.o.mono ?_;rintro e w' ⟨rfl,rfl⟩;go_wp2_with fail
 refine(HC.o _ HK.o).mono ?_;rintro e w' ⟨rfl,rfl⟩;go_wp2_with fail
 go_ret;exact⟨rfl,HB.o⟩
end
section
open Go.RowKit
def zQ1 (t:Tk):List Value:=[uB t.kind,uI t.at',uI t.fin]
theorem jA6 (t:Tk):(zQ1 t).length=3:=rfl
structure kP7 (text:List UInt8) (t:Tk):Prop where
 k1:1≤t.kind
 k4:t.kind≤4
 a:t.at'<t.fin
 f:t.fin≤text.length
 t:t.text=jL6 text t.at' t.fin
structure kE3 (E:Env) (n:Nat):Prop where
 len:E.toks.length=n
 small:E.text.length≤65536
 few:n≤65536
 tok:∀ (i:Nat) (t:Tk),E.toks[i]?=some t→kP7 E.text t
structure TV where
 A:Option Addr
 n:Nat
 c:Nat
 base:Nat
def zZ6 (E:Env) (T:TV) (Q:SV) (s:PSt):Array Value:=#[uR E.text,.slice T.A T.n T.c,uI s.n,uI s.deep,.slice Q.A Q.n Q.c,uI s.fail,uI s.e]
structure Ps (w:World) (p:Nat) (E:Env) (T:TV) (Q:SV) (s:PSt):Prop where
 bk:Bk w p 152 (zZ6 E T Q s)
 rd:RdT w T.A 44 (E.toks.flatMap zQ1)
 ok:kE3 E T.n
 n:s.n≤T.n
 vr:Vars w
 g0:0≠p
 g1:3≠p
 base:T.base≤w.heap.size
section
variable {w w':World} {p:Nat} {E:Env} {T:TV} {Q:SV} {s s':PSt}
theorem Ps.below (h:Ps w p E T Q s) (hb:Below w.heap.size w w'):Ps w' p E T Q s:=⟨zD h.bk hb,h.rd.below hb,h.ok,h.n,h.vr.below hb,h.g0,h.g1,lE h.base hb.size⟩
theorem Ps.lt (h:Ps w p E T Q s):p<w.heap.size:=h.bk.lt
theorem Ps.cells (h:Ps w p E T Q s):w.cell? ⟨p,0,none⟩=some (uR E.text)∧w.cell? ⟨p,1,none⟩=some (.slice T.A T.n T.c)∧w.cell? ⟨p,2,none⟩=some (uI s.n)∧w.cell? ⟨p,3,none⟩=some (uI s.deep)∧w.cell? ⟨p,4,none⟩=some (.slice Q.A Q.n Q.c)∧w.cell? ⟨p,5,none⟩=some (uI s.fail)∧w.cell? ⟨p,6,none⟩=some (uI s.e) :=
 ⟨h.bk.cell 0,h.bk.cell 1,h.bk.cell 2,h.bk.cell 3,h.bk.cell 4,h.bk.cell 5,h.bk.cell 6⟩
theorem Ps.keeps (h:Ps w p E T Q s) (hf:Fr (fun k=>k=p) w w') {t:TypeId} (hne:152≠t):Keeps t w w':=Keeps.box hf h.bk hne
theorem Ps.nd (h:Ps w p E T Q s) (hf:Fr (fun k=>k=p) w w') {B:Nat} {x:Nd} {S R:SV} (hx:NdAt B w x S R):NdAt B w' x S R:=hx.keeps hf.size (h.keeps hf Yd) (h.keeps hf Yd)
theorem Ps.put (h:Ps w p E T Q s) (hf:Fr (fun k=>k=p) w w') (hb:Bk w' p 152 (zZ6 E T Q s')) (hn:s'.n≤T.n):Ps w' p E T Q s':=⟨hb,h.rd.keeps (h.keeps hf Yd),h.ok,hn,h.vr.fr hf h.g0 h.g1,h.g0,h.g1,lE h.base hf.size⟩
end
end
section
open Go.RowKit Go.PlainAid
theorem kE9 (t:List UInt8) (k a b:Nat) (w:World) (hab:a≤b) (hb:b≤t.length) (ht:t.length≤100000000) :
 Calls prog 16 #[uR t,kW k a b] w fun e w'=>e=.returned (.string (str (jL6 t a b)))∧Below w.heap.size w w':=by
 have hsz:=jV t;have e1:decide ((a:Int)<0)=false:=Ym;have e2:decide ((b:Int)<(a:Int))=false:=Yp;have e3:decide ((t.length:Int)<(b:Int))=false:=Yp;have hx:(str t).extract a b=str (jL6 t a b):=qK1 (str t) a b;have e3':decide (((str t).size:Int)<(b:Int))=false:=by rw [hsz];exact e3
 have hbi:(b:Int)≤((str t).size:Int):=Yo;have hbn:b≤(str t).size:=Yo;have habi:(a:Int)≤(b:Int):=Yo;clear hsz e3;unfold kW;go_enter func16,ntmps16
 go_wp2_with fail
 go_ret;exact⟨rfl,zG (lB _ _) _⟩
theorem qE5:∀ (l:List UInt8) (k:Nat) (c:UInt8),jT l=l.length→l[k]?=some c→zV c=true
 | [],k,c,_,h=>by simp at h
 | d :: r,k,c,hd,h=>by
   unfold jT at hd;cases hb:zV d with
   | false=>rw [hb]at hd;simp at hd
   | true =>
     rw [hb,lM rfl]at hd;cases k with
     | zero=>simp at h;rw [←h];exact hb
     | succ k=>exact qE5 r k c (by simpa using hd) (by simpa using h)
theorem zR8 (n:Nat) (c:UInt8) (r:List UInt8):zL7 n (c :: r)=if 1000000000<10*n+(c.toNat-48) then(0,281) else zL7 (10*n+(c.toNat-48)) r:=rfl
def kP8 (q:Nat×Nat):Value:=.tuple #[uI q.1,uI q.2]
theorem zZ8 {q q':Nat×Nat} (h:q=q'):Ending.returned (.tuple #[uI q.1,uI q.2])=.returned (kP8 q'):=by rw [h];rfl
theorem qK7 (t:List UInt8):(vS t).1≤1000000000:=by
 have:∀ (l:List UInt8) (n:Nat),n≤1000000000→(zL7 n l).1≤1000000000:=by
  intro l;induction l with
  | nil=>intro n hn;exact hn
  | cons c r ih =>
    intro n hn;rw [zR8];split
    ·omega
    ·exact ih _ Yo
 unfold vS;split
 ·exact lV _
 ·exact this _ _ Yo
theorem jB8 (s:ByteArray) (w:World) (hs:s.size≤100000000) :
 Calls prog 110 #[.string s] w fun e w'=>e=.returned (kP8 (vS s.data.toList))∧w=w':=by
 have hdl:=qK s;by_cases h0:s.data.toList=[]
 ·have e0:s.toList.isEmpty=true:=by rw [qB,h0];rfl
  have E:Ud ((0,280)=vS s.data.toList):=by show _=_;unfold vS;rw [lM (.inl h0)]
  clear h0;go_enter func110,ntmps110
  go_wp2_with fail
  go_ret2
  exact⟨zZ8 (q:=(0,280)) E.o,rfl⟩
 ·have hne:¬s.toList=[]:=by rw [qB];exact h0
  have e0:s.toList.isEmpty=false:=by simpa using hne
  have e0':(s.toList == [])=false:=by simpa using hne
  have hle:=qK4 (t:=s.data.toList) (a:=0) (lV _);have hd0:zH9 s.data.toList 0=jT s.data.toList:=by unfold zH9;rw [List.drop_zero,Nat.zero_add]
  rw [hd0,qK]at hle;obtain⟨d,hd⟩:∃ d,jT s.data.toList=d:=⟨_,rfl⟩;have HG:Ud (∀ w,Calls prog 139 #[.string s,uI 0] w fun e w'=>e=.returned (uI d)∧w=w'):=fun w=>by have h1:=qK6 s 0 w (lV _) hs;rw [hd0,hd]at h1;exact h1
  rw [hd]at hle;clear hd0;by_cases hlt:d<s.size
  ·have e1:decide ((d:Int)<(s.size:Int))=true:=by simp;omega
   have E:Ud ((0,280)=vS s.data.toList):=by show _=_;unfold vS;rw [lM (.inr Yo)]
   clear h0 hne hd hdl;go_enter func110,ntmps110
   go_wp2_with fail
   refine(HG.o _).mono ?_;rintro e w' ⟨rfl,rfl⟩;go_wp2_with fail
   go_ret2
   exact⟨zZ8 (q:=(0,280)) E.o,rfl⟩
  ·have e1:decide ((d:Int)<(s.size:Int))=false:=by simp;omega
   have HA:Ud (∀ (k:Nat) (c:UInt8),s.data.toList[k]?=some c→zV c=true):=fun k c hc=>qE5 _ k c Yo hc;have E:Ud (zL7 0 s.data.toList=vS s.data.toList):=by show _=_;unfold vS;rw [lN (fun h=>h.elim h0 (fun h=>Yo))]
   clear h0 hne hd hdl;go_enter func110,ntmps110
   go_wp2_with fail
   refine(HG.o _).mono ?_;rintro e w' ⟨rfl,rfl⟩;go_wp2_with fail
   go_loopw [4,17] (fun v4 v17 wr=>∃ k n:Nat,v17=uI k∧v4=uI n∧k≤s.size∧n≤1000000000∧Ud (zL7 n (s.data.toList.drop k)=vS s.data.toList)∧w=wr) (fun _ v17 _=>s.size-(intOf v17).toNat)
   case atStart=>exact⟨0,0,rfl,rfl,lV _,lV _,E,rfl⟩
   case round =>
    obtain⟨k,n,rfl,rfl,hk,hn,HK,rfl⟩:=hrel;clear E;by_cases hlt:k<s.size
    ·have e2:decide ((k:Int)<(s.size:Int))=true:=by simp;omega
     have hki:(k:Int)<(s.size:Int):=Yo;obtain⟨c,hc,hbc⟩:=zO9 hlt;have hg:=get_bt s k hlt;have hdc:=HA.o k c hc;have hK:=HK.o;rw [jW6 hc,zR8]at hK;unfold zV at hdc;simp only [lZ,cC]at hdc;obtain⟨d,hd⟩:∃ d,c.toNat-48=d:=⟨_,rfl⟩;have w1:IntKind.u8.wrap (bt s k-48)=(d:Int):=by rw [hbc,IntKind.wrap_u8];omega
     have w1':IntKind.u8.wrap ((c.toNat:Int)-48)=(d:Int):=by rw [IntKind.wrap_u8];omega
     have w2:IntKind.i64.wrap (d:Int)=(d:Int):=by rw [lL];omega
     have w3:IntKind.i64.wrap (10*(n:Int))=10*(n:Int):=by rw [lL];omega
     have w4:IntKind.i64.wrap (10*(n:Int)+(d:Int))=((10*n+d:Nat):Int):=by rw [lL];omega
     rw [hd]at hK;have hd9:d≤9:=Yo;obtain⟨m,hm⟩:∃ m,10*n+d=m:=⟨_,rfl⟩;rw [hm]at hK w4;have hm2:m≤100000000000:=Yo;clear hc hdc hd hm;by_cases hbig:1000000000<m
     ·have e3:decide ((1000000000:Int)<(m:Int))=true:=by simp;omega
      rw [lM hbig]at hK;have E2:Ud ((0,281)=vS s.data.toList):=hK;clear hK;go_wp2_with fail
      go_ret2
      exact⟨zZ8 (q:=(0,281)) E2.o,rfl⟩
     ·have e3:decide ((1000000000:Int)<(m:Int))=false:=by simp;omega
      rw [lN hbig]at hK;have HK2:=Ph hK;clear hK;go_wp2_with fail
      go_roundw
      case rel=>exact⟨k+1,m,by go_num,rfl,Yo,Yo,HK2,trivial⟩
      case measure=>simp [intOf];omega
    ·have e2:decide ((k:Int)<(s.size:Int))=false:=by simp;omega
     have hK:=HK.o;rw [List.drop_eq_nil_of_le (by rw [qK];omega)]at hK;have E2:Ud ((n,0)=vS s.data.toList):=hK;clear hK;go_wp2_with fail
     go_ret2
     exact⟨zZ8 (q:=(n,0)) E2.o,rfl⟩
def kP9 (q:Nat×Nat×Nat):Value:=.tuple #[uI q.1,uI q.2.1,uI q.2.2]
theorem zM3 {q q':Nat×Nat×Nat} (h:q=q'):Ending.returned (.tuple #[uI q.1,uI q.2.1,uI q.2.2])=.returned (kP9 q'):=by rw [h];rfl
theorem qP4 (t:List UInt8):(vS t).2=0∨(vS t).2=280∨(vS t).2=281:=by
 have:∀ (l:List UInt8) (n:Nat),(zL7 n l).2=0∨(zL7 n l).2=281:=by
  intro l;induction l with
  | nil=>intro n;exact .inl rfl
  | cons c r ih =>
    intro n;rw [zR8];split
    ·exact .inr rfl
    ·exact ih _
 unfold vS;split
 ·exact .inr (.inl rfl)
 ·rcases this t 0 with h | h
  ·exact .inl h
  ·exact .inr (.inr h)
theorem jX4 (t:List UInt8):(zH8 t).1≤1000000000∧(zH8 t).2.1≤1000000000:=by
 unfold zH8;split
 ·exact⟨lV _,lV _⟩
 ·split
  ·exact⟨lV _,lV _⟩
  ·exact⟨qK7 _,qK7 _⟩
theorem jS8 (s:ByteArray) (w:World) (hs:s.size≤100000000) (hv:Ud (Vars w)) :
 Calls prog 162 #[.string s] w fun e w'=>e=.returned (kP9 (zH8 s.data.toList))∧Below w.heap.size w w':=by
 have hdl:=qK s;have hC:=kR3 s w hs hv;have hlen:=qP1 58 s.data.toList
 have hL:zH8 s.data.toList=if (zC2 58 s.data.toList).2.2=false∨(vS (zC2 58 s.data.toList).1).2=280∨(vS (zC2 58 s.data.toList).2.1).2=280 then(0,0,280)
  else if (vS (zC2 58 s.data.toList).1).2≠0∨(vS (zC2 58 s.data.toList).2.1).2≠0 then(0,0,281)
  else((vS (zC2 58 s.data.toList).1).1,(vS (zC2 58 s.data.toList).2.1).1,0):=rfl
 obtain⟨⟨p,q,t⟩,hq⟩:∃ q,zC2 58 s.data.toList=q:=⟨_,rfl⟩;rw [hq]at hC hlen hL;have hp1:=jB8 (str p);have hq1:=jB8 (str q);obtain⟨⟨n,e⟩,he⟩:∃ r,vS p=r:=⟨_,rfl⟩;obtain⟨⟨m,f⟩,hf⟩:∃ r,vS q=r:=⟨_,rfl⟩;have ee:=qP4 p;have fe:=qP4 q;have HP:Ud (∀ w,Calls prog 110 #[uR p] w fun e' w'=>e'=.returned (.tuple #[uI n,uI e])∧w=w'):=fun w=>by have h1:=hp1 w (by rw [jV];have:=hlen.1;(try dsimp only at this);omega);rw [qE,he]at h1;exact h1
 have HQ:Ud (∀ w,Calls prog 110 #[uR q] w fun e' w'=>e'=.returned (.tuple #[uI m,uI f])∧w=w'):=fun w=>by have h1:=hq1 w (by rw [jV];have:=hlen.2;(try dsimp only at this);omega);rw [qE,hf]at h1;exact h1
 rw [he]at ee;rw [hf]at fe;(try dsimp only at ee fe hC hL);rw [he,hf]at hL;have HC:=Ph hC;have HL:=Ph hL;clear hp1 hq1 he hf hq hlen hL hC hdl;have pre:∀ (Z:Nat×Nat×Nat),zH8 s.data.toList=Z→Ud (Z=zH8 s.data.toList):=fun Z h=>h.symm;cases t with
 | false =>
   have E:=pre (0,0,280) (by rw [HL.o,lM (.inl rfl)]);clear ee fe;go_enter func162,ntmps162
   go_wp2_with fail
   refine HC.o.mono ?_;rintro e w1 ⟨rfl,hb⟩;have HB:=Ph hb;clear hb;go_wp2_with fail
   refine(HP.o _).mono ?_;rintro e w' ⟨rfl,rfl⟩;go_wp2_with fail
   refine(HQ.o _).mono ?_;rintro e w' ⟨rfl,rfl⟩;go_wp2_with fail
   go_ret3
   exact⟨zM3 (q:=(0,0,280)) E.o,HB.o⟩
 | true =>
   by_cases h1:e=280
   ·subst h1;have E:=pre (0,0,280) (by rw [HL.o,lM (.inr (.inl rfl))]);clear ee fe;go_enter func162,ntmps162
    go_wp2_with fail
    refine HC.o.mono ?_;rintro e w1 ⟨rfl,hb⟩;have HB:=Ph hb;clear hb;go_wp2_with fail
    refine(HP.o _).mono ?_;rintro e w' ⟨rfl,rfl⟩;go_wp2_with fail
    refine(HQ.o _).mono ?_;rintro e w' ⟨rfl,rfl⟩;go_wp2_with fail
    go_ret3
    exact⟨zM3 (q:=(0,0,280)) E.o,HB.o⟩
   ·have e1:((e:Int) == 280)=false:=by simp;omega
    by_cases h2:f=280
    ·subst h2;have E:=pre (0,0,280) (by rw [HL.o,lM (.inr (.inr rfl))]);clear ee fe;go_enter func162,ntmps162
     go_wp2_with fail
     refine HC.o.mono ?_;rintro e w1 ⟨rfl,hb⟩;have HB:=Ph hb;clear hb;go_wp2_with fail
     refine(HP.o _).mono ?_;rintro e w' ⟨rfl,rfl⟩;go_wp2_with fail
     refine(HQ.o _).mono ?_;rintro e w' ⟨rfl,rfl⟩;go_wp2_with fail
     go_ret3
     exact⟨zM3 (q:=(0,0,280)) E.o,HB.o⟩
    ·have e2:((f:Int) == 280)=false:=by simp;omega
     by_cases h3:e=0
     ·subst h3;by_cases h4:f=0
      ·subst h4;have E:=pre (n,m,0) (by rw [HL.o,lN (by rintro(h | h | h) <;> cases h),lN (by rintro(h | h) <;> exact h rfl)]);clear ee fe;go_enter func162,ntmps162
       go_wp2_with fail
       refine HC.o.mono ?_;rintro e w1 ⟨rfl,hb⟩;have HB:=Ph hb;clear hb;go_wp2_with fail
       refine(HP.o _).mono ?_;rintro e w' ⟨rfl,rfl⟩;go_wp2_with fail
       refine(HQ.o _).mono ?_;rintro e w' ⟨rfl,rfl⟩;go_wp2_with fail
       go_ret3
       exact⟨zM3 (q:=(n,m,0)) E.o,HB.o⟩
      ·have e4:((f:Int) != 0)=true:=by simp;omega
       have e5:((f:Int) == 0)=false:=Yp;have E:=pre (0,0,281) (by rw [HL.o,lN (by rintro(h | h | h) <;> first | exact h2 h | cases h),lM (.inr h4)]);clear ee fe;go_enter func162,ntmps162
       go_wp2_with fail
       refine HC.o.mono ?_;rintro e w1 ⟨rfl,hb⟩;have HB:=Ph hb;clear hb;go_wp2_with fail
       refine(HP.o _).mono ?_;rintro e w' ⟨rfl,rfl⟩;go_wp2_with fail
       refine(HQ.o _).mono ?_;rintro e w' ⟨rfl,rfl⟩;go_wp2_with fail
       go_ret3
       exact⟨zM3 (q:=(0,0,281)) E.o,HB.o⟩
     ·have e4:((e:Int) != 0)=true:=by simp;omega
      have e5:((e:Int) == 0)=false:=Yp;have E:=pre (0,0,281) (by rw [HL.o,lN (by rintro(h | h | h) <;> first | exact h1 h | exact h2 h | cases h),lM (.inl h3)]);clear ee fe;go_enter func162,ntmps162
      go_wp2_with fail
      refine HC.o.mono ?_;rintro e w1 ⟨rfl,hb⟩;have HB:=Ph hb;clear hb;go_wp2_with fail
      refine(HP.o _).mono ?_;rintro e w' ⟨rfl,rfl⟩;go_wp2_with fail
      refine(HQ.o _).mono ?_;rintro e w' ⟨rfl,rfl⟩;go_wp2_with fail
      go_ret3
      exact⟨zM3 (q:=(0,0,281)) E.o,HB.o⟩
end
section
open Go.RowKit Go.PlainAid
def nxV (t:Tk):Value:=.tuple #[kW t.kind t.at' t.fin,uR t.text]
def kM1 (E:Env):Tk:=⟨0,[],E.text.length,E.text.length⟩
theorem jB9 {t t':Tk} (h:t=t'):Ending.returned (nxV t)=.returned (nxV t'):=by rw [h]
theorem zC5 (p:Nat) (E:Env) (T:TV) (Q:SV) (s:PSt) (w:World) (h:Ud (Ps w p E T Q s)) :
 Calls prog 83 #[uQ p 0] w fun e w'=>e=.returned (nxV (zC E s))∧Below w.heap.size w w':=by
 have HB0:Ud (Ue w (w.alloc (.cells #[uB 0,uI 0,uI 0] 44))):=zG (lB _ _) _;have HX0:=Ph (Bk.new w 44 #[uB 0,uI 0,uI 0]);have HP0:=Ph (h.o.below HB0.o);have hpl:p<w.heap.size:=h.o.lt;have hlen:(str E.text).size=E.text.length:=jV _;have hle:=h.o.ok.small;by_cases h1:s.e=0∧s.n<T.n
 ·obtain⟨he,hn⟩:=h1;have hlt:s.n<E.toks.length:=by rw [h.o.ok.len];exact hn
  have htok:E.toks[s.n]?=some (E.toks[s.n]'hlt):=cK hlt;generalize E.toks[s.n]'hlt=t at htok;have hE:zC E s=t:=by unfold zC;rw [lN (fun h=>h he),htok]
  have hok:=h.o.ok.tok _ _ htok;obtain⟨o1,o2,o3,o4,o5⟩:=hok;obtain⟨tk,ttext,ta,tf⟩:=t;(try dsimp only at o1 o2 o3 o4 o5);subst o5;have HE:=Ph hE;obtain⟨tb,toff,t',hTA,ht',htb,hcl⟩:=HP0.o.rd.rd.flat (f:=zQ1) jA6 Yo (i:=s.n) hlt;rw [htok]at ht';injection ht' with ht';subst ht';have c0:=hcl 0 _ Yo rfl;have c1:=hcl 1 _ Yo rfl;have c2:=hcl 2 _ Yo rfl;(try dsimp only at c0 c1 c2);clear hE htok hlt hcl;go_enter func83,ntmps83
  go_upto_region 1 with fail
  generalize (w.alloc _)=W at HB0 HX0 HP0 c0 c1 c2 htb ⊢;obtain⟨q,hq⟩:∃ q,w.heap.size=q:=⟨_,rfl⟩;rw [hq]at HX0 ⊢;have hne:p≠q:=Yo;have hqw:w.heap.size≤q:=Yo;clear hq hpl;obtain⟨y0,y1,y2,y3,y4,y5,y6⟩:=HP0.o.cells;have e1:((s.e:Int) != 0)=false:=Yp;have e2:decide ((T.n:Int)≤(s.n:Int))=false:=Yp;have hTn:(s.n:Int)<(T.n:Int):=Yo;rw [hTA]at y1;go_cut [21] (fun v21 wx=>v21=.bool false∧∃ m,wx=W.drewN m)
  case first =>
   go_quiet (fail)
   go_wp2
   go_meet
   exact⟨by rw [lG Yo],_,rfl⟩
  case rest =>
  obtain⟨rfl,m,rfl⟩:=hcut;have HB1:Ud (Ue w (W.drewN m)):=jA1 HB0.o m;have HX1:=Ph (HX0.o.drewN m);have HP1:Ud (Ps (W.drewN m) p E T Q s):=HP0.o.below (zG5 W m);have htb1:tb<(W.drewN m).heap.size:=htb;have d0:(W.drewN m).cell? ⟨tb,toff+s.n*3,none⟩=_:=c0;have d1:(W.drewN m).cell? ⟨tb,toff+s.n*3+1,none⟩=_:=c1;have d2:(W.drewN m).cell? ⟨tb,toff+s.n*3+2,none⟩=_:=c2;clear y0 y1 y2 y3 y4 y5 y6 HB0 HX0 HP0 h c0 c1 c2 htb;generalize W.drewN m=W1 at HB1 HX1 HP1 d0 d1 d2 htb1 ⊢;have hpl1:p<W1.heap.size:=HP1.o.lt;have hql1:q<W1.heap.size:=HX1.o.lt;obtain⟨y0,y1,y2,y3,y4,y5,y6⟩:=HP1.o.cells;rw [hTA]at y1;go_upto_region 3 with fail
  have HBn:Ud (Ue W1 (W1.alloc (.cells #[uB tk,uI ta,uI tf] 44)).drew):=(zG (lB _ _) _).drew;have HN:=Ph (Bk.new W1 44 #[uB tk,uI ta,uI tf]).drew;go_region
  go_upto_region 4 with fail
  have hqn:q≠W1.heap.size:=Yo;have hpn:p≠W1.heap.size:=Yo;generalize (W1.alloc (.cells #[uB tk,uI ta,uI tf] 44)).drew=W3 at HBn HN ⊢;have HBQ:=Ph (HX1.o.below HBn.o hql1);have HBP:=Ph (HP1.o.bk.below HBn.o hpl1);have HBB:=Ph (zU HB1.o HBn.o);generalize W1.heap.size=q2 at HN hqn hpn ⊢;clear d0 d1 d2 y0 y1 y2 y3 y4 y5 y6 HB1 HX1 HP1 HBn hpl1 hql1 htb1;have x0:=HBQ.o.cell 0;have x1:=HBQ.o.cell 1;have x2:=HBQ.o.cell 2;obtain⟨z0,z1,z2⟩:=qE4 HBQ.o;obtain⟨n0,n1,n2⟩:=zJ HN.o;have y0:W3.cell? ⟨p,0,none⟩=some (uR E.text):=HBP.o.cell 0;have HT:=Ph fun w=>kE9 E.text tk ta tf w Yo o4 Yo;dsimp only [kW]at HT;have HBX:=HN
  go_region_held3 (fun w'=>w'.cell? ⟨q2,0,none⟩=some (uB tk)∧w'.cell? ⟨q2,1,none⟩=some (uI ta)∧w'.cell? ⟨q2,2,none⟩=some (uI tf)∧w'.cell? ⟨p,0,none⟩=some (uR E.text))
   (first | with_reducible exact⟨HBX.o.cell 0,HBX.o.cell 1,HBX.o.cell 2,HBP.o.cell 0⟩ | exact⟨HBX.o.cell 0,HBX.o.cell 1,HBX.o.cell 2,HBP.o.cell 0⟩ | exact⟨(jS7 HBX.o (cX hqn)).cell 0,(jS7 HBX.o (cX hqn)).cell 1,(jS7 HBX.o (cX hqn)).cell 2,(jS7 HBP.o hne).cell 0⟩)
   (first
     | (go_at_call 16
        with_reducible refine(HT.o _).mono ?_
        rintro e w5 ⟨rfl,hb5⟩
        first
         | (have HBX':=Ph (HBX.o.drew.below hb5 HBX.o.lt)
            have HBP':=Ph (HBP.o.drew.below hb5 HBP.o.lt);have HBQ':=Ph (HBQ.o.drew.below hb5 HBQ.o.lt);have HBB':=Ph (zU HBB.o.drew hb5))
         | (have HBX':=Ph ((jS7 HBX.o (cX hqn)).drew.below hb5 (jS7 HBX.o (cX hqn)).lt)
            have HBP':=Ph ((jS7 HBP.o hne).drew.below hb5 (jS7 HBP.o hne).lt);have HBQ':=Ph ((kD8 HBQ.o).drew.below hb5 (kD8 HBQ.o).lt);have HBB':=Ph (zU (kE7 HBB.o hqw).drew hb5))
        clear HBX HBP HBQ HBB x0 x1 x2 z0 z1 z2 n0 n1 n2 y0;have HBX:=HBX';have HBP:=HBP';have HBQ:=HBQ';have HBB:=HBB';clear HBX' HBP' HBQ' HBB' hb5;have x0:=HBQ.o.cell 0;have x1:=HBQ.o.cell 1;have x2:=HBQ.o.cell 2;obtain⟨z0,z1,z2⟩:=qE4 HBQ.o))
  all_goals
   first
    | (have HF:Ud (Bk w5 q 44 #[uB tk,uI ta,uI tf]):=HBQ
       have HFB:Ud (Ue w w5):=HBB;go_wp2
       obtain⟨r0,r1,r2⟩:=zJ HF.o;refine lK (v:=nxV ⟨tk,jL6 E.text ta tf,ta,tf⟩) (by simp [results,results83,go_sem,nxV,kW,r0,r1,r2]) rfl ?_;exact⟨jB9 HE.o.symm,HFB.o⟩)
    | (have HF:=Ph (kD8 (v0:=uB tk) (v1:=uI ta) (v2:=uI tf) HBQ.o)
       have HFB:=Ph (kE7 (v0:=uB tk) (v1:=uI ta) (v2:=uI tf) HBB.o hqw);go_wp2
       generalize (World.setCell _ _ _)=WF at HF HFB ⊢;obtain⟨r0,r1,r2⟩:=zJ HF.o;refine lK (v:=nxV ⟨tk,jL6 E.text ta tf,ta,tf⟩) (by simp [results,results83,go_sem,nxV,kW,r0,r1,r2]) rfl ?_;exact⟨jB9 HE.o.symm,HFB.o⟩)
 ·have hE:zC E s=kM1 E:=by
   unfold zC;by_cases h2:s.e=0
   ·rw [lN (fun h=>h h2)];have h3:E.toks[s.n]?=none:=cW (by have:=h.o.ok.len;omega);rw [h3];rfl
   ·rw [lM h2];rfl
  have HE:=Ph hE;clear hE;go_enter func83,ntmps83
  go_upto_region 1 with fail
  generalize (w.alloc _)=W at HB0 HX0 HP0 ⊢;obtain⟨q,hq⟩:∃ q,w.heap.size=q:=⟨_,rfl⟩;rw [hq]at HX0 ⊢;have hne:p≠q:=Yo;have hqw:w.heap.size≤q:=Yo;clear hq hpl;obtain⟨y0,y1,y2,y3,y4,y5,y6⟩:=HP0.o.cells;go_cut [21] (fun v21 wx=>v21=.bool true∧∃ m,wx=W.drewN m)
  case first =>
   by_cases h2:s.e=0
   ·have e1:((s.e:Int) != 0)=false:=by simp;omega
    have e2:decide ((T.n:Int)≤(s.n:Int))=true:=Yp;have h3:(T.n:Int)≤(s.n:Int):=Yo;clear h1;go_quiet (fail)
    go_wp2
    go_meet
    exact⟨rfl,_,rfl⟩
   ·have e1:((s.e:Int) != 0)=true:=by simp;omega
    clear h1;go_quiet (fail)
    go_wp2
    go_meet
    exact⟨rfl,_,rfl⟩
  case rest =>
  obtain⟨rfl,m,rfl⟩:=hcut;have HB1:Ud (Ue w (W.drewN m)):=jA1 HB0.o m;have HX1:=Ph (HX0.o.drewN m);have HP1:Ud (Ps (W.drewN m) p E T Q s):=HP0.o.below (zG5 W m);clear y0 y1 y2 y3 y4 y5 y6 HB0 HX0 HP0 h h1;generalize W.drewN m=W1 at HB1 HX1 HP1 ⊢;obtain⟨y0,y1,y2,y3,y4,y5,y6⟩:=HP1.o.cells;obtain⟨x0,x1,x2⟩:=zJ HX1.o;obtain⟨z0,z1,z2⟩:=qE4 HX1.o;have HF:=Ph (kD8 (v0:=uB 0) (v1:=uI E.text.length) (v2:=uI E.text.length) HX1.o).drew;have HFB:=Ph (kE7 (v0:=uB 0) (v1:=uI E.text.length) (v2:=uI E.text.length) HB1.o hqw).drew;go_upto_region 2 with fail
  go_region
  all_goals
   go_wp2
   generalize (((W1.setCell ⟨q,0,none⟩ (uB 0)).setCell ⟨q,1,none⟩ (uI E.text.length)).setCell ⟨q,2,none⟩ (uI E.text.length)).drew=WF at HF HFB ⊢;obtain⟨r0,r1,r2⟩:=zJ HF.o;refine lK (v:=nxV (kM1 E)) (by simp [results,results83,go_sem,nxV,kM1,kW,r0,r1,r2];rfl) rfl ?_;exact⟨jB9 HE.o.symm,HFB.o⟩
end
section
open Go.RowKit Go.PlainAid
structure PP (w:World) (p:Nat) (E:Env) (T:TV) (Q:SV) (s:PSt) (w':World):Prop where
 ps:Ps w' p E T Q s
 fr:Fr (fun k=>k=p) w w'
section
variable {w w1 w':World} {p:Nat} {E:Env} {T:TV} {Q:SV} {s s1 s':PSt}
theorem PP.below (h:Ps w p E T Q s) (hb:Below w.heap.size w w'):PP w p E T Q s w':=⟨h.below hb,Fr.of_below hb⟩
theorem PP.after (hb:Below w.heap.size w w1) (h:PP w1 p E T Q s w'):PP w p E T Q s w':=⟨h.ps,(Fr.of_below hb).trans h.fr⟩
theorem PP.trans (h:PP w p E T Q s1 w1) (k:PP w1 p E T Q s w'):PP w p E T Q s w':=⟨k.ps,h.fr.trans k.fr⟩
theorem PP.then (h:PP w p E T Q s w1) (hb:Below w1.heap.size w1 w'):PP w p E T Q s w':=⟨h.ps.below hb,h.fr.trans (Fr.of_below hb)⟩
theorem Ps.setN (h:Ps w p E T Q s) (n:Nat) (hn:n≤T.n):PP w p E T Q { s with n:=n } (w.setCell ⟨p,2,none⟩ (uI n)):=by have hf:Fr (fun k=>k=p) w (w.setCell ⟨p,2,none⟩ (uI n)):=(Fr.refl (fun k=>k=p) w).setCell (p:=⟨p,2,none⟩) (.inl rfl) _;exact⟨h.put hf (h.bk.put 2 _) hn,hf⟩
theorem Ps.setDeep (h:Ps w p E T Q s) (d:Int):PP w p E T Q { s with deep:=d } (w.setCell ⟨p,3,none⟩ (uI d)):=by have hf:Fr (fun k=>k=p) w (w.setCell ⟨p,3,none⟩ (uI d)):=(Fr.refl (fun k=>k=p) w).setCell (p:=⟨p,3,none⟩) (.inl rfl) _;exact⟨h.put hf (h.bk.put 3 _) h.n,hf⟩
theorem Ps.setErr (h:Ps w p E T Q s) (a e:Nat):PP w p E T Q { s with fail:=a,e:=e } ((w.setCell ⟨p,5,none⟩ (uI a)).setCell ⟨p,6,none⟩ (uI e)):=by have hf:Fr (fun k=>k=p) w ((w.setCell ⟨p,5,none⟩ (uI a)).setCell ⟨p,6,none⟩ (uI e)):=((Fr.refl (fun k=>k=p) w).setCell (p:=⟨p,5,none⟩) (.inl rfl) _).setCell (p:=⟨p,6,none⟩) (.inl rfl) _;exact⟨h.put hf ((h.bk.put 5 _).put 6 _) h.n,hf⟩
theorem Ps.frozens (h:Ps w p E T Q s) (i:Nat):w.frozen? ⟨p,i,none⟩=false:=h.bk.frozen i
theorem Ps.tok (h:Ps w p E T Q s) (hk:(zC E s).kind≠0∨(zC E s).text≠[]):s.e=0∧s.n<T.n∧kP7 E.text (zC E s):=by
 unfold zC at hk ⊢;by_cases he:s.e=0
 ·rw [lN (fun h=>h he)]at hk ⊢;cases ht:E.toks[s.n]? with
  | none=>rw [ht]at hk;simp at hk
  | some t =>
    obtain⟨h1,_⟩:=cA.1 ht;exact⟨he,by have:=h.ok.len;omega,h.ok.tok _ _ ht⟩
 ·rw [lM he]at hk;simp at hk
theorem Ps.nextLe (h:Ps w p E T Q s):(zC E s).at'≤65536∧(zC E s).kind≤4∧(zC E s).text.length≤65536:=by
 have hs:=h.ok.small;by_cases hk:(zC E s).kind≠0
 ·obtain⟨_,_,h3⟩:=h.tok (.inl hk);have h4:=h3.a;have h5:=h3.f;refine⟨Yo,h3.k4,?_⟩;rw [h3.t];unfold jL6;rw [cL,cU];omega
 ·have h0:(zC E s).text=[]:=by
   by_cases ht:(zC E s).text=[]
   ·exact ht
   ·obtain⟨_,_,h3⟩:=h.tok (.inr ht);have:=h3.k1;omega
  refine⟨?_,Yo,by rw [h0];exact lV _⟩;unfold zC at hk ⊢;split
  ·exact hs
  ·rename_i he;rw [lN he]at hk;cases ht:E.toks[s.n]? with
   | none=>exact hs
   | some t =>
     rw [ht]at hk;have:=(h.ok.tok _ _ ht).k1;simp at hk;omega
end
theorem jM9 {w:World} {o:Obj}:Below w.heap.size w (w.alloc o):=zG (lB _ _) _
theorem zG2 (p:Nat) (E:Env) (T:TV) (Q:SV) (s:PSt) (e:Nat) (w:World) (h:Ud (Ps w p E T Q s)) :
 Calls prog 82 #[uQ p 0,uI e] w fun x w'=>(∃ v,x=.returned v)∧PP w p E T Q (qH E s e) w':=by
 obtain⟨y0,y1,y2,y3,y4,y5,y6⟩:=h.o.cells;by_cases h0:s.e=0
 ·have e1:((s.e:Int) == 0)=true:=by simp;omega
  have E1:Ud (qH E s e={ s with fail:=(zC E s).at',e:=e }):=by show _=_;unfold qH;rw [lM h0]
  obtain⟨⟨tk,tt,ta,tf⟩,ht⟩:∃ t,zC E s=t:=⟨_,rfl⟩;have HN:=Ph (zC5 p E T Q s w h);rw [ht]at HN E1;dsimp only [nxV,kW]at HN E1;clear ht h0;go_enter func82,ntmps82
  go_wp2_with fail
  refine HN.o.mono ?_;rintro x w1 ⟨rfl,hb⟩;have HP1:=Ph (h.o.below hb);have HB1:=Ph hb;clear hb y0 y1 y2 y3 y4 y5 y6;obtain⟨y0,y1,y2,y3,y4,y5,y6⟩:=HP1.o.cells;have z5:=HP1.o.frozens 5;have z6:=HP1.o.frozens 6;have hpl:p<w1.heap.size:=HP1.o.lt;go_wp2_with fail
  go_end0
  refine⟨⟨_,rfl⟩,?_⟩;rw [E1.o];exact(PP.after HB1.o (HP1.o.setErr ta e)).then jM9
 ·have e1:((s.e:Int) == 0)=false:=by simp;omega
  have E1:Ud (qH E s e=s):=by show _=_;unfold qH;rw [lN h0]
  clear h0;go_enter func82,ntmps82
  go_wp2_with fail
  go_end0
  refine⟨⟨_,rfl⟩,?_⟩;rw [E1.o];exact PP.below h.o (lB _ _)
theorem isC (p:Nat) (E:Env) (T:TV) (Q:SV) (s:PSt) (u:List UInt8) (w:World) (h:Ud (Ps w p E T Q s)) :
 Calls prog 87 #[uQ p 0,uR u] w fun x w'=>x=.returned (.bool (isP E s u))∧PP w p E T Q (isS E s u) w':=by
 have hle:=h.o.nextLe;have htok:=h.o.tok;have hIP:isP E s u=(decide ((zC E s).kind≠0) && decide ((zC E s).text=u)):=rfl;have hIS:isS E s u=if isP E s u then zE s else s:=rfl
 have hbn:=jA2 (zC E s).text u;have hbq:=zR3 (zC E s).text u;have HN:=Ph (zC5 p E T Q s w h);obtain⟨⟨tk,tt,ta,tf⟩,ht⟩:∃ t,zC E s=t:=⟨_,rfl⟩;rw [ht]at HN hle htok hIP hbn hbq;dsimp only [nxV,kW]at HN hle htok hIP hbn hbq;clear ht;by_cases hk:tk=0
 ·have e1:((tk:Int) == 0)=true:=by simp;omega
  have E1:Ud (isP E s u=false):=by show _=_;rw [hIP];simp [hk]
  have E2:Ud (isS E s u=s):=by show _=_;rw [hIS,E1.o];rfl
  clear hIP hIS htok hbn hbq;go_enter func87,ntmps87
  go_wp2_with fail
  refine HN.o.mono ?_;rintro x w1 ⟨rfl,hb⟩;have HB1:=Ph hb;clear hb;go_wp2_with fail
  go_ret;rw [E1.o,E2.o];exact⟨rfl,PP.below h.o (zG HB1.o _)⟩
 ·have e1:((tk:Int) == 0)=false:=by simp;omega
  by_cases hu:tt=u
  ·have e2:((str tt).toList != (str u).toList)=false:=by rw [hbn,lH hu];rfl
   have e3:((str tt).toList == (str u).toList)=true:=by rw [hbq,lH hu]
   have E1:Ud (isP E s u=true):=by show _=_;rw [hIP];simp [hk,hu]
   have E2:Ud (isS E s u={ s with n:=s.n+1 }):=by show _=_;rw [hIS,E1.o];rfl
   obtain⟨t1,t2,_⟩:=htok (.inl hk);have hT:=h.o.ok.few;have wn:IntKind.i64.wrap ((s.n:Int)+1)=((s.n+1:Nat):Int):=by rw [lL];omega
   clear hIP hIS hbn hbq;go_enter func87,ntmps87
   go_wp2_with fail
   refine HN.o.mono ?_;rintro x w1 ⟨rfl,hb⟩;have HP1:=Ph (h.o.below hb);have HB1:=Ph hb;clear hb;obtain⟨y0,y1,y2,y3,y4,y5,y6⟩:=HP1.o.cells;have z2:=HP1.o.frozens 2;have hpl:p<w1.heap.size:=HP1.o.lt;go_wp2_with fail
   go_ret;rw [E1.o,E2.o];exact⟨rfl,(PP.after HB1.o (HP1.o.setN (s.n+1) t2)).then jM9⟩
  ·have e2:((str tt).toList != (str u).toList)=true:=by rw [hbn,lG hu];rfl
   have e3:((str tt).toList == (str u).toList)=false:=by rw [hbq,lG hu]
   have E1:Ud (isP E s u=false):=by show _=_;rw [hIP];simp [hu]
   have E2:Ud (isS E s u=s):=by show _=_;rw [hIS,E1.o];rfl
   clear hIP hIS htok hbn hbq;go_enter func87,ntmps87
   go_wp2_with fail
   refine HN.o.mono ?_;rintro x w1 ⟨rfl,hb⟩;have HB1:=Ph hb;clear hb;go_wp2_with fail
   go_ret;rw [E1.o,E2.o];exact⟨rfl,PP.below h.o (zG HB1.o _)⟩
theorem jX5 (p:Nat) (E:Env) (T:TV) (Q:SV) (s:PSt) (u:List UInt8) (w:World) (h:Ud (Ps w p E T Q s)) :
 Calls prog 84 #[uQ p 0,uR u] w fun x w'=>(∃ v,x=.returned v)∧PP w p E T Q (zI E s u) w':=by
 have hM:zI E s u=if isP E s u then zE s else qH E s 300:=rfl
 have hS:isS E s u=if isP E s u then zE s else s:=rfl
 have HI:=Ph (isC p E T Q s u w h);cases hb:isP E s u with
 | true =>
   rw [hb]at hM hS HI;rw [lM rfl]at hM hS;rw [hS,←hM]at HI;clear hM hS hb;go_enter func84,ntmps84
   go_wp2_with fail
   refine HI.o.mono ?_;rintro x w1 ⟨rfl,hp⟩;have HP:=Ph hp;clear hp;go_wp2_with fail
   go_end0
   exact⟨⟨_,rfl⟩,HP.o⟩
 | false =>
   rw [hb]at hM hS HI;rw [lN Ym]at hM hS;rw [hS]at HI;have HM:=Ph hM;clear hM hS hb;go_enter func84,ntmps84
   go_wp2_with fail
   refine HI.o.mono ?_;rintro x w1 ⟨rfl,hp⟩;have HP:=Ph hp;have HW:=Ph (zG2 p E T Q s 300 w1 (Ph hp.ps));clear hp;go_wp2_with fail
   refine HW.o.mono ?_;rintro x w2 ⟨⟨v,rfl⟩,hp⟩;have HP2:=Ph (HP.o.trans hp);clear hp;go_wp2_with fail
   go_end0
   rw [HM.o];exact⟨⟨_,rfl⟩,HP2.o⟩
end
section
open Go.RowKit Go.PlainAid
theorem jX6 (p:Nat) (E:Env) (T:TV) (Q:SV) (s:PSt) (w:World) (h:Ud (Ps w p E T Q s)) :
 Calls prog 111 #[uQ p 0] w fun x w'=>x=.returned (.string (str (jA E s)))∧PP w p E T Q (zL E s) w':=by
 have htok:=h.o.tok;have hB:kJ E s=(decide ((zC E s).kind=1) && !vO (zC E s).text):=rfl;have hP:jA E s=if kJ E s then(zC E s).text else []:=rfl
 have hS:zL E s=if kJ E s then zE s else qH E s 300:=rfl
 have HN:=Ph (zC5 p E T Q s w h);obtain⟨⟨tk,tt,ta,tf⟩,ht⟩:∃ t,zC E s=t:=⟨_,rfl⟩;rw [ht]at HN htok hB hP;dsimp only [nxV,kW]at HN htok hB hP;clear ht;by_cases hk:tk=1
 ·have e1:((tk:Int) != 1)=false:=by simp;omega
  have hkn:tk≠0:=Yo;cases hr:vO tt with
  | true =>
    have E0:kJ E s=false:=by rw [hB,hr];simp
    rw [E0]at hP hS;have E1:Ud (jA E s=[]):=hP;have E2:Ud (zL E s=qH E s 300):=hS;have HR:=Ph fun w (hv:Ud (Vars w))=>hr▸jX2 tt w hv;clear hB hP hS hr E0 htok;go_enter func111,ntmps111
    go_wp2_with fail
    refine HN.o.mono ?_;rintro x w1 ⟨rfl,hb⟩;have HB1:Ud (∀ o,Below w.heap.size w (w1.alloc o)):=fun o=>zG hb o;have HP1:Ud (∀ o,Ps (w1.alloc o) p E T Q s):=fun o=>h.o.below (HB1.o o);clear hb;go_wp2_with fail
    refine(HR.o _ (Ph (HP1.o _).vr)).mono ?_;rintro x w2 ⟨rfl,hb⟩;have HP2:=Ph ((HP1.o _).below hb);have HB2:=Ph (zU (HB1.o _) hb);clear hb;go_wp2_with fail
    refine(zG2 p E T Q s 300 w2 HP2).mono ?_;rintro x w3 ⟨⟨v,rfl⟩,hp⟩;have HPP:=Ph (PP.after HB2.o hp);clear hp;go_wp2_with fail
    go_ret;rw [E1.o,E2.o];exact⟨rfl,HPP.o⟩
  | false =>
    have E0:kJ E s=true:=by rw [hB,hr,hk];rfl
    rw [E0]at hP hS;have E1:Ud (jA E s=tt):=hP;have E2:Ud (zL E s={ s with n:=s.n+1 }):=hS;have HR:=Ph fun w (hv:Ud (Vars w))=>hr▸jX2 tt w hv;obtain⟨t1,t2,_⟩:=htok (.inl hkn);have hT:=h.o.ok.few;have wn:IntKind.i64.wrap ((s.n:Int)+1)=((s.n+1:Nat):Int):=by rw [lL];omega
    clear hB hP hS hr E0 htok;go_enter func111,ntmps111
    go_wp2_with fail
    refine HN.o.mono ?_;rintro x w1 ⟨rfl,hb⟩;have HB1:Ud (∀ o,Below w.heap.size w (w1.alloc o)):=fun o=>zG hb o;have HP1:Ud (∀ o,Ps (w1.alloc o) p E T Q s):=fun o=>h.o.below (HB1.o o);clear hb;go_wp2_with fail
    refine(HR.o _ (Ph (HP1.o _).vr)).mono ?_;rintro x w2 ⟨rfl,hb⟩;have HP2:=Ph ((HP1.o _).below hb);have HB2:=Ph (zU (HB1.o _) hb);clear hb;obtain⟨y0,y1,y2,y3,y4,y5,y6⟩:=HP2.o.cells;have z2:=HP2.o.frozens 2;go_wp2_with fail
    go_ret;rw [E1.o,E2.o];exact⟨rfl,PP.after HB2.o (HP2.o.setN (s.n+1) t2)⟩
 ·have e1:((tk:Int) != 1)=true:=by simp;omega
  have E0:kJ E s=false:=by rw [hB];simp [hk]
  rw [E0]at hP hS;have E1:Ud (jA E s=[]):=hP;have E2:Ud (zL E s=qH E s 300):=hS;clear hB hP hS E0 htok;go_enter func111,ntmps111
  go_wp2_with fail
  refine HN.o.mono ?_;rintro x w1 ⟨rfl,hb⟩;have HB1:Ud (∀ o,Below w.heap.size w (w1.alloc o)):=fun o=>zG hb o;have HP1:Ud (∀ o,Ps (w1.alloc o) p E T Q s):=fun o=>h.o.below (HB1.o o);clear hb;go_wp2_with fail
  refine(zG2 p E T Q s 300 _ (Ph (HP1.o _))).mono ?_;rintro x w3 ⟨⟨v,rfl⟩,hp⟩;have HPP:=Ph (PP.after (HB1.o _) hp);clear hp;go_wp2_with fail
  go_ret;rw [E1.o,E2.o];exact⟨rfl,HPP.o⟩
theorem kQ1 (p:Nat) (E:Env) (T:TV) (Q:SV) (s:PSt) (w:World) (h:Ud (Ps w p E T Q s)) :
 Calls prog 85 #[uQ p 0] w fun x w'=>x=.returned (uI ((jB E s).1:Int))∧PP w p E T Q (jB E s).2 w':=by
 have htok:=h.o.tok;have hle:=h.o.nextLe;have hP:jB E s=if (zC E s).kind=2 then(if (vS (zC E s).text).2=0 then((vS (zC E s).text).1,zE s) else(0,qH E s 302)) else(0,qH E s 300):=rfl
 have HN:=Ph (zC5 p E T Q s w h);obtain⟨⟨tk,tt,ta,tf⟩,ht⟩:∃ t,zC E s=t:=⟨_,rfl⟩;rw [ht]at HN htok hP hle;dsimp only [nxV,kW]at HN htok hP hle;clear ht;by_cases hk:tk=2
 ·have e1:((tk:Int) != 2)=false:=by simp;omega
  have hkn:tk≠0:=Yo;rw [lM hk]at hP;obtain⟨⟨n,er⟩,hv⟩:∃ q,vS tt=q:=⟨_,rfl⟩;have HV:Ud (∀ w,Calls prog 110 #[uR tt] w fun e w'=>e=.returned (.tuple #[uI n,uI er])∧w=w'):=fun w=>by have h1:=jB8 (str tt) w (by rw [jV];have:=hle.2.2;omega);rw [qE,hv]at h1;exact h1
  rw [hv]at hP;(try dsimp only at hP);clear hv;by_cases her:er=0
  ·have e2:((er:Int) != 0)=false:=by simp;omega
   rw [lM her]at hP;have E1:Ud (jB E s=(n,{ s with n:=s.n+1 })):=hP;obtain⟨t1,t2,_⟩:=htok (.inl hkn);have hT:=h.o.ok.few;have wn:IntKind.i64.wrap ((s.n:Int)+1)=((s.n+1:Nat):Int):=by rw [lL];omega
   clear hP htok hle;go_enter func85,ntmps85
   go_wp2_with fail
   refine HN.o.mono ?_;rintro x w1 ⟨rfl,hb⟩;have HB1:Ud (∀ o,Ue w (w1.alloc o)):=fun o=>zG hb o;have HP0:=Ph (h.o.below hb);have HB0:=Ph hb;clear hb;obtain⟨y0,y1,y2,y3,y4,y5,y6⟩:=HP0.o.cells;have z2:=HP0.o.frozens 2;have hpl:=HP0.o.lt;go_wp2_with fail
   refine(HV.o _).mono ?_;rintro x w2 ⟨rfl,rfl⟩;go_wp2_with fail
   go_ret;rw [E1.o];exact⟨rfl,(PP.after HB0.o (HP0.o.setN (s.n+1) t2)).then jM9⟩
  ·have e2:((er:Int) != 0)=true:=by simp;omega
   rw [lN her]at hP;have E1:Ud (jB E s=(0,qH E s 302)):=hP;clear hP htok hle;go_enter func85,ntmps85
   go_wp2_with fail
   refine HN.o.mono ?_;rintro x w1 ⟨rfl,hb⟩;have HB1:Ud (∀ o,Ue w (w1.alloc o)):=fun o=>zG hb o;have HP1:Ud (∀ o,Ps (w1.alloc o) p E T Q s):=fun o=>h.o.below (HB1.o o);clear hb;go_wp2_with fail
   refine(HV.o _).mono ?_;rintro x w2 ⟨rfl,rfl⟩;go_wp2_with fail
   refine(zG2 p E T Q s 302 _ (Ph (HP1.o _))).mono ?_;rintro x w3 ⟨⟨v,rfl⟩,hp⟩;have HPP:=Ph (PP.after (HB1.o _) hp);clear hp;go_wp2_with fail
   go_ret;rw [E1.o];exact⟨rfl,HPP.o⟩
 ·have e1:((tk:Int) != 2)=true:=by simp;omega
  rw [lN hk]at hP;have E1:Ud (jB E s=(0,qH E s 300)):=hP;clear hP htok hle;go_enter func85,ntmps85
  go_wp2_with fail
  refine HN.o.mono ?_;rintro x w1 ⟨rfl,hb⟩;have HB1:Ud (∀ o,Ue w (w1.alloc o)):=fun o=>zG hb o;have HP1:Ud (∀ o,Ps (w1.alloc o) p E T Q s):=fun o=>h.o.below (HB1.o o);clear hb;go_wp2_with fail
  refine(zG2 p E T Q s 300 _ (Ph (HP1.o _))).mono ?_;rintro x w3 ⟨⟨v,rfl⟩,hp⟩;have HPP:=Ph (PP.after (HB1.o _) hp);clear hp;go_wp2_with fail
  go_ret;rw [E1.o];exact⟨rfl,HPP.o⟩
theorem zG7 (E:Env) (s:PSt):(jB E s).1≤1000000000:=by
 unfold jB;split
 ·split
  ·exact qK7 _
  ·exact lV _
 ·exact lV _
theorem jS9 (p:Nat) (E:Env) (T:TV) (Q:SV) (s:PSt) (u:List UInt8) (w:World) (h:Ud (Ps w p E T Q s)) (hd:okP s=true) :
 Calls prog 122 #[uQ p 0,uR u] w fun x w'=>x=.returned (.bool (zC7 E s u))∧PP w p E T Q (zI4 E s u) w':=by
 have hle:=h.o.nextLe;have htok:=h.o.tok;have hB:zC7 E s u=(decide ((zC E s).text=u) && decide ((zC E s).text≠[])):=rfl;have hS:zI4 E s u=if zC7 E s u then(if 200≤s.deep then qH E s 301 else yH (zE s) 1) else s:=rfl
 have hbn:=jA2 (zC E s).text u;have hbq:=zR3 (zC E s).text u;have HN:=Ph (zC5 p E T Q s w h);obtain⟨⟨tk,tt,ta,tf⟩,ht⟩:∃ t,zC E s=t:=⟨_,rfl⟩;rw [ht]at HN hle htok hB hbn hbq;dsimp only [nxV,kW]at HN hle htok hB hbn hbq;clear ht;unfold okP at hd;simp only [lZ,cC]at hd;by_cases hu:tt=u
 ·have e2:((str tt).toList != (str u).toList)=false:=by rw [hbn,lH hu];rfl
  have e3:((str tt).toList == (str u).toList)=true:=by rw [hbq,lH hu]
  by_cases h0:tt=[]
  ·have e4:(str tt).toList.isEmpty=true:=by rw [qB,qE,h0];rfl
   have e5:((str tt).toList == [])=true:=by rw [qB,qE,h0];rfl
   have E1:Ud (zC7 E s u=false):=by show _=_;rw [hB];simp [h0]
   have E2:Ud (zI4 E s u=s):=by show _=_;rw [hS,E1.o];rfl
   clear hB hS htok hbn hbq h0 hu;go_enter func122,ntmps122
   go_wp2_with fail
   refine HN.o.mono ?_;rintro x w1 ⟨rfl,hb⟩;have HB1:=Ph hb;clear hb;go_wp2_with fail
   go_ret;rw [E1.o,E2.o];exact⟨rfl,PP.below h.o (zG HB1.o _)⟩
  ·have e4:(str tt).toList.isEmpty=false:=by rw [qB,qE];simpa using h0
   have e5:((str tt).toList == [])=false:=by rw [qB,qE];simpa using h0
   have E1:Ud (zC7 E s u=true):=by show _=_;rw [hB];simp [h0,hu];rw [←hu];exact h0
   obtain⟨t1,t2,_⟩:=htok (.inr h0);have hT:=h.o.ok.few;by_cases hdp:200≤s.deep
   ·have e6:decide ((200:Int)≤s.deep)=true:=by simpa using hdp
    have E2:Ud (zI4 E s u=qH E s 301):=by show _=_;rw [hS,E1.o,lM rfl,lM hdp]
    clear hB hS htok hbn hbq h0 hu;go_enter func122,ntmps122
    go_wp2_with fail
    refine HN.o.mono ?_;rintro x w1 ⟨rfl,hb⟩;have HB1:Ud (∀ o,Below w.heap.size w (w1.alloc o)):=fun o=>zG hb o;have HP1:Ud (∀ o,Ps (w1.alloc o) p E T Q s):=fun o=>h.o.below (HB1.o o);have HP0:=Ph (h.o.below hb);clear hb;obtain⟨y0,y1,y2,y3,y4,y5,y6⟩:=HP0.o.cells;have hpl:=HP0.o.lt;go_wp2_with fail
    refine(zG2 p E T Q s 301 _ (Ph (HP1.o _))).mono ?_;rintro x w3 ⟨⟨v,rfl⟩,hp⟩;have HPP:=Ph (PP.after (HB1.o _) hp);clear hp;go_wp2_with fail
    go_ret;rw [E1.o,E2.o];exact⟨rfl,HPP.o⟩
   ·have e6:decide ((200:Int)≤s.deep)=false:=by simpa using hdp
    have E2:Ud (zI4 E s u={ s with n:=s.n+1,deep:=s.deep+1 }):=by show _=_;rw [hS,E1.o,lM rfl,lN hdp];rfl
    have wn:IntKind.i64.wrap ((s.n:Int)+1)=((s.n+1:Nat):Int):=by rw [lL];omega
    have wd:IntKind.i64.wrap (s.deep+1)=s.deep+1:=by rw [lL];omega
    clear hB hS htok hbn hbq h0 hu;go_enter func122,ntmps122
    go_wp2_with fail
    refine HN.o.mono ?_;rintro x w1 ⟨rfl,hb⟩;have HP0:=Ph (h.o.below hb);have HB0:=Ph hb;clear hb;obtain⟨y0,y1,y2,y3,y4,y5,y6⟩:=HP0.o.cells;have z2:=HP0.o.frozens 2;have z3:=HP0.o.frozens 3;have hpl:=HP0.o.lt;go_wp2_with fail
    go_ret;rw [E1.o,E2.o];have h1:=HP0.o.setN (s.n+1) t2;exact⟨rfl,(PP.after HB0.o (h1.trans (h1.ps.setDeep (s.deep+1)))).then jM9⟩
 ·have e2:((str tt).toList != (str u).toList)=true:=by rw [hbn,lG hu];rfl
  have e3:((str tt).toList == (str u).toList)=false:=by rw [hbq,lG hu]
  have E1:Ud (zC7 E s u=false):=by show _=_;rw [hB];simp [hu]
  have E2:Ud (zI4 E s u=s):=by show _=_;rw [hS,E1.o];rfl
  clear hB hS htok hbn hbq hu;go_enter func122,ntmps122
  go_wp2_with fail
  refine HN.o.mono ?_;rintro x w1 ⟨rfl,hb⟩;have HB1:=Ph hb;clear hb;go_wp2_with fail
  go_ret;rw [E1.o,E2.o];exact⟨rfl,PP.below h.o (zG HB1.o _)⟩
theorem zG8 (E:Env) (s:PSt) (e:Nat):(qH E s e).deep=s.deep:=by unfold qH;split <;> rfl
theorem zX5 (E:Env) (s:PSt) (u:List UInt8):(zI E s u).deep=s.deep:=by
 unfold zI;split
 ·rfl
 ·exact zG8 _ _ _
theorem jX7 (p:Nat) (E:Env) (T:TV) (Q:SV) (s:PSt) (u:List UInt8) (w:World) (h:Ud (Ps w p E T Q s)) (hd:okP s=true) :
 Calls prog 112 #[uQ p 0,uR u] w fun x w'=>(∃ v,x=.returned v)∧PP w p E T Q (kV E s u) w':=by
 have hO:kV E s u=if zC7 E s u then zI4 E s u else yH (qH E s 300) 1:=rfl
 have hS:zI4 E s u=if zC7 E s u then(if 200≤s.deep then qH E s 301 else yH (zE s) 1) else s:=rfl
 have HE:=Ph (jS9 p E T Q s u w h hd);unfold okP at hd;simp only [lZ,cC]at hd;cases hb:zC7 E s u with
 | true =>
   rw [hb]at hO HE;rw [lM rfl]at hO;rw [←hO]at HE;clear hO hS hb;go_enter func112,ntmps112
   go_wp2_with fail
   refine HE.o.mono ?_;rintro x w1 ⟨rfl,hp⟩;have HP:=Ph hp;clear hp;go_wp2_with fail
   go_end0
   exact⟨⟨_,rfl⟩,HP.o⟩
 | false =>
   rw [hb]at hO hS HE;rw [lN Ym]at hO hS;rw [hS]at HE;have HO:=Ph hO;have wd:IntKind.i64.wrap (s.deep+1)=s.deep+1:=by rw [lL];omega
   clear hO hS hb;go_enter func112,ntmps112
   go_wp2_with fail
   refine HE.o.mono ?_;rintro x w1 ⟨rfl,hp⟩;have HP:=Ph hp;have HW:=Ph (zG2 p E T Q s 300 w1 (Ph hp.ps));clear hp;go_wp2_with fail
   refine HW.o.mono ?_;rintro x w2 ⟨⟨v,rfl⟩,hp⟩;have HP2:=Ph (HP.o.trans hp);clear hp;obtain⟨y0,y1,y2,y3,y4,y5,y6⟩:=HP2.o.ps.cells;rw [zG8]at y3;have z3:=HP2.o.ps.frozens 3;go_wp2_with fail
   go_end0
   rw [HO.o];refine⟨⟨_,rfl⟩,HP2.o.trans ?_⟩;have h1:=HP2.o.ps.setDeep (s.deep+1);unfold yH;rw [zG8];exact h1
theorem kF1 (p:Nat) (E:Env) (T:TV) (Q:SV) (s:PSt) (u:List UInt8) (w:World) (h:Ud (Ps w p E T Q s)) (hd:okP s=true) :
 Calls prog 113 #[uQ p 0,uR u] w fun x w'=>(∃ v,x=.returned v)∧PP w p E T Q (wN E s u) w':=by
 unfold okP at hd;simp only [lZ,cC]at hd;have wd:IntKind.i64.wrap (s.deep-1)=s.deep-1:=by rw [lL];omega
 have HM:=Ph (jX5 p E T Q s u w h);go_enter func113,ntmps113
 go_wp2_with fail
 refine HM.o.mono ?_;rintro x w1 ⟨⟨v,rfl⟩,hp⟩;have HP:=Ph hp;clear hp;obtain⟨y0,y1,y2,y3,y4,y5,y6⟩:=HP.o.ps.cells;rw [zX5]at y3;have z3:=HP.o.ps.frozens 3;go_wp2_with fail
 go_end0
 refine⟨⟨_,rfl⟩,HP.o.trans ?_⟩;have h1:=HP.o.ps.setDeep (s.deep-1);unfold wN yH;rw [zX5];exact h1
end
end Go.Proofs.YtfdaebgllibphaaGreatDoor
