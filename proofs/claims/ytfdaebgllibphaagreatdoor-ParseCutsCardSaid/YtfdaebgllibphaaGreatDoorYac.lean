import Derived.Deep.QuietTactic
import Derived.BigQuiet
import Derived.Deep.RegionHeld3
import Derived.RangeFuncOwn
import Derived.RangeFuncNested
import Derived.RangeFuncBound
import Derived.RangeFuncCalls
import Derived.RangeFuncLeaves
import Derived.Shelf.Abstract
import Derived.Shelf.RegionOpen
import Derived.OwnWalkIn
import Derived.TacticsInMore
import Derived.LoopNIn
import Derived.LoopIn
import Derived.ControlIn
import Derived.Maps.OwnIn
import Derived.Test.YtfdaebgllibphaaGreatDoorYab
set_option linter.unusedVariables false
set_option linter.unusedSimpArgs false
set_option maxRecDepth 100000
set_option maxHeartbeats 16000000
namespace Go.Proofs.YtfdaebgllibphaaGreatDoor
section
open Go.RowKit Go.PlainAid
def qZ5 (b:Bool):Nat:=if b then 280 else 0
def zW7 (q:Nat×Nat×Nat×Bool):Value:=.tuple #[kW q.1 q.2.1 q.2.2.1,uI (qZ5 q.2.2.2:Int)]
theorem zZ7 {q q':Nat×Nat×Nat×Bool} (h:q=q'):Ending.returned (zW7 q)=.returned (zW7 q'):=by rw [h]
theorem jB6 (l:List UInt8) (h:(zC1 l).1=0):(zC1 l).2=0:=by
 cases l with
 | nil=>rfl
 | cons c r =>
   rw [zC1]at h ⊢;split at h
   ·cases h
   ·rename_i h1;rw [lN h1];split at h
    ·exfalso;revert h;split
     ·split <;> simp
     ·simp
    ·rename_i h2;rw [lN h2];split at h
     ·cases h
     ·rename_i h3;rw [lN h3]
theorem jB7 {t:List UInt8} {b f:Nat} (h:zQ3 t b=(0,f)):f=b:=by unfold zQ3 at h;injection h with h1 h2;rw [jB6 _ h1]at h2;omega
theorem kE7 {w w1:World} {p:Nat} {v0 v1 v2:Value} (h:Below w.heap.size w w1) (hp:w.heap.size≤p):Below w.heap.size w (((w1.setCell ⟨p,0,none⟩ v0).setCell ⟨p,1,none⟩ v1).setCell ⟨p,2,none⟩ v2) :=
 ((h.setCell (p:=⟨p,0,none⟩) hp v0).setCell (p:=⟨p,1,none⟩) hp v1).setCell (p:=⟨p,2,none⟩) hp v2
theorem kD8 {w:World} {g:Nat} {t:TypeId} {u0 u1 u2 v0 v1 v2:Value} (h:Bk w g t #[u0,u1,u2]):Bk (((w.setCell ⟨g,0,none⟩ v0).setCell ⟨g,1,none⟩ v1).setCell ⟨g,2,none⟩ v2) g t #[v0,v1,v2]:=((h.put 0 v0).put 1 v1).put 2 v2
theorem jS7 {w:World} {g p:Nat} {t:TypeId} {cs:Array Value} {v0 v1 v2:Value} (h:Bk w g t cs) (hp:g≠p):Bk (((w.setCell ⟨p,0,none⟩ v0).setCell ⟨p,1,none⟩ v1).setCell ⟨p,2,none⟩ v2) g t cs:=((h.far (p:=⟨p,0,none⟩) hp v0).far (p:=⟨p,1,none⟩) hp v1).far (p:=⟨p,2,none⟩) hp v2
theorem zJ {w:World} {g:Nat} {t:TypeId} {u0 u1 u2:Value} (h:Bk w g t #[u0,u1,u2]):w.cell? ⟨g,0,none⟩=some u0∧w.cell? ⟨g,1,none⟩=some u1∧w.cell? ⟨g,2,none⟩=some u2:=⟨h.cell 0,h.cell 1,h.cell 2⟩
theorem qE4 {w:World} {g:Nat} {t:TypeId} {u0 u1 u2:Value} (h:Bk w g t #[u0,u1,u2]):w.frozen? ⟨g,0,none⟩=false∧w.frozen? ⟨g,1,none⟩=false∧w.frozen? ⟨g,2,none⟩=false:=⟨h.frozen 0,h.frozen 1,h.frozen 2⟩
theorem kE8 (s:ByteArray) (a:Nat) (w:World) (ha:a≤s.size) (hs:s.size≤100000000) :
 Calls Tryz.prog 81 #[.string s,uI a] w fun e w'=>e=.returned (zW7 (kZ s.data.toList a))∧Below w.heap.size w w':=by
 have e1:decide ((a:Int)<0)=false:=Ym;have e2:decide ((s.size:Int)<(a:Int))=false:=Yp;obtain⟨b,hb⟩:∃ b,zG1 s.data.toList a=b:=⟨_,rfl⟩;have hle:=jX3 (t:=s.data.toList) (a:=a) (by rw [qK];omega);rw [qK,hb]at hle;have HS:Hid (∀ w,Calls Tryz.prog 108 #[.string s,uI a] w fun e w'=>e=.returned (uI b)∧w=w'):=fun w=>by have h1:=kL8 s a w ha hs;rw [hb]at h1;exact h1
 by_cases h1:b<s.size
 ·obtain⟨⟨k,f⟩,hk⟩:∃ q,zQ3 s.data.toList b=q:=⟨_,rfl⟩;have hT:=jB5 hb (by rw [qK];exact h1) k f hk;have HT:Hid (∀ w,Calls Tryz.prog 109 #[.string s,uI b] w fun e w'=>e=.returned (kW k b f)∧Below w.heap.size w w'):=fun w=>by have h2:=kE6 s b w h1 hs;rw [hk]at h2;exact h2
  have e3:((b:Int) == (s.size:Int))=false:=Yp;have HB0:Hid (Below w.heap.size w (w.alloc (.cells #[uB 0,uI 0,uI 0] 44))):=zG (lB _ _) _;have HK0:=Ph (Bk.new w 44 #[uB 0,uI 0,uI 0]);have hrest:∀ (w2:World),Below (w.alloc (.cells #[uB 0,uI 0,uI 0] 44)).heap.size (w.alloc (.cells #[uB 0,uI 0,uI 0] 44)) w2→Below w.heap.size w w2∧Bk w2 w.heap.size 44 #[uB 0,uI 0,uI 0]∧w.heap.size<w2.heap.size:=fun w2 h=>by have h3:=zD HK0.out h;exact⟨zU HB0.out h,h3,h3.lt⟩
  have HR:=Ph hrest;clear hrest;by_cases hk0:k=0
  ·subst hk0;rw [lM rfl]at hT;have hf:b=f:=(jB7 hk).symm;have E:Hid ((0,b,b,true)=kZ s.data.toList a):=hT.symm;clear hT hb hk;subst hf;go_enter Tryz.func81,Tryz.ntmps81
   go_wp2_with fail
   refine(HS.out _).mono ?_;rintro e w' ⟨rfl,rfl⟩;go_wp2_with fail
   refine(HT.out _).mono ?_;rintro e w2 ⟨rfl,h⟩;have HR2:=Ph (HR.out w2 h);have hlt:=HR2.out.2.2;clear h;obtain⟨y0,y1,y2⟩:=zJ HR2.out.2.1;obtain⟨z0,z1,z2⟩:=qE4 HR2.out.2.1;dsimp only [kW];go_wp2_with fail
   have HF:=Ph ((kD8 (v0:=uB 0) (v1:=uI b) (v2:=uI b) HR2.out.2.1).alloc (.cells #[uB 0,uI b,uI b] 44));have HFB:=Ph (zG (kE7 (v0:=uB 0) (v1:=uI b) (v2:=uI b) HR2.out.1 (lF _)) (.cells #[uB 0,uI b,uI b] 44));clear y0 y1 y2 z0 z1 z2;generalize ((World.alloc _ _))=WF at HF HFB ⊢;obtain⟨r0,r1,r2⟩:=zJ HF.out;refine lK (v:=zW7 (0,b,b,true)) (by simp [results,Tryz.results81,go_sem,zW7,kW,qZ5,r0,r1,r2]) rfl ?_;exact⟨zZ7 E.out,HFB.out⟩
  ·rw [lN hk0]at hT;have E:Hid ((k,b,f,false)=kZ s.data.toList a):=hT.symm;have ek:((k:Int) == 0)=false:=Yp;clear hT hb hk;go_enter Tryz.func81,Tryz.ntmps81
   go_wp2_with fail
   refine(HS.out _).mono ?_;rintro e w' ⟨rfl,rfl⟩;go_wp2_with fail
   refine(HT.out _).mono ?_;rintro e w2 ⟨rfl,h⟩;have HR2:=Ph (HR.out w2 h);have hlt:=HR2.out.2.2;clear h;obtain⟨y0,y1,y2⟩:=zJ HR2.out.2.1;obtain⟨z0,z1,z2⟩:=qE4 HR2.out.2.1;dsimp only [kW];go_wp2_with fail
   have HF:=Ph ((kD8 (v0:=uB k) (v1:=uI b) (v2:=uI f) HR2.out.2.1).alloc (.cells #[uB k,uI b,uI f] 44));have HFB:=Ph (zG (kE7 (v0:=uB k) (v1:=uI b) (v2:=uI f) HR2.out.1 (lF _)) (.cells #[uB k,uI b,uI f] 44));clear y0 y1 y2 z0 z1 z2;generalize ((World.alloc _ _))=WF at HF HFB ⊢;obtain⟨r0,r1,r2⟩:=zJ HF.out;refine lK (v:=zW7 (k,b,f,false)) (by simp [results,Tryz.results81,go_sem,zW7,kW,qZ5,r0,r1,r2]) rfl ?_;exact⟨zZ7 E.out,HFB.out⟩
 ·have hbe:b=s.size:=by omega
  have e3:((b:Int) == (s.size:Int))=true:=Yp;have E:Hid ((0,b,b,false)=kZ s.data.toList a):=(jB4 hb (by rw [qK];exact hbe)).symm;subst hbe;clear hb;go_enter Tryz.func81,Tryz.ntmps81
  go_wp2_with fail
  refine(HS.out _).mono ?_;rintro e w' ⟨rfl,rfl⟩;go_wp2_with fail
  refine lK (v:=zW7 (0,s.size,s.size,false)) (by simp [results,Tryz.results81,go_sem,zW7,kW,qZ5]) rfl ?_;exact⟨zZ7 E.out,zG (lB _ _) _⟩
end
section
open Go.RowKit Go.PlainAid
theorem kE9 (t:List UInt8) (k a b:Nat) (w:World) (hab:a≤b) (hb:b≤t.length) (ht:t.length≤100000000) :
 Calls Tryz.prog 16 #[uR t,kW k a b] w fun e w'=>e=.returned (.string (str (jL6 t a b)))∧Below w.heap.size w w':=by
 have hsz:=jV t;have e1:decide ((a:Int)<0)=false:=Ym;have e2:decide ((b:Int)<(a:Int))=false:=Yp;have e3:decide ((t.length:Int)<(b:Int))=false:=Yp;have hx:(str t).extract a b=str (jL6 t a b):=qK1 (str t) a b;have e3':decide (((str t).size:Int)<(b:Int))=false:=by rw [hsz];exact e3
 have hbi:(b:Int)≤((str t).size:Int):=Yo;have hbn:b≤(str t).size:=Yo;have habi:(a:Int)≤(b:Int):=Yo;clear hsz e3;unfold kW;go_enter Tryz.func16,Tryz.ntmps16
 go_wp2_with fail
 go_ret;exact⟨rfl,zG (lB _ _) _⟩
theorem qE5:∀ (l:List UInt8) (k:Nat) (c:UInt8),jT l=l.length→l[k]?=some c→zV c=true
 | [],k,c,_,h=>by simp at h
 | d :: r,k,c,hd,h=>by
   unfold jT at hd;cases hb:zV d with
   | false=>rw [hb]at hd;simp at hd
   | true =>
     rw [hb,lM rfl]at hd;cases k with
     | zero=>simp at h;rw [←h];exact hb
     | succ k=>exact qE5 r k c (by simpa using hd) (by simpa using h)
theorem zR8 (n:Nat) (c:UInt8) (r:List UInt8):zL7 n (c :: r)=if 1000000000<10*n+(c.toNat-48) then(0,281) else zL7 (10*n+(c.toNat-48)) r:=rfl
def kP8 (q:Nat×Nat):Value:=.tuple #[uI q.1,uI q.2]
theorem zZ8 {q q':Nat×Nat} (h:q=q'):Ending.returned (.tuple #[uI q.1,uI q.2])=.returned (kP8 q'):=by rw [h];rfl
theorem qK7 (t:List UInt8):(vS t).1≤1000000000:=by
 have:∀ (l:List UInt8) (n:Nat),n≤1000000000→(zL7 n l).1≤1000000000:=by
  intro l;induction l with
  | nil=>intro n hn;exact hn
  | cons c r ih =>
    intro n hn;rw [zR8];split
    ·omega
    ·exact ih _ Yo
 unfold vS;split
 ·exact lV _
 ·exact this _ _ Yo
theorem jB8 (s:ByteArray) (w:World) (hs:s.size≤100000000) :
 Calls Tryz.prog 110 #[.string s] w fun e w'=>e=.returned (kP8 (vS s.data.toList))∧w=w':=by
 have hdl:=qK s;by_cases h0:s.data.toList=[]
 ·have e0:s.toList.isEmpty=true:=by rw [qB,h0];rfl
  have E:Hid ((0,280)=vS s.data.toList):=by show _=_;unfold vS;rw [lM (.inl h0)]
  clear h0;go_enter Tryz.func110,Tryz.ntmps110
  go_wp2_with fail
  go_ret2
  exact⟨zZ8 (q:=(0,280)) E.out,rfl⟩
 ·have hne:¬s.toList=[]:=by rw [qB];exact h0
  have e0:s.toList.isEmpty=false:=by simpa using hne
  have e0':(s.toList == [])=false:=by simpa using hne
  have hle:=qK4 (t:=s.data.toList) (a:=0) (lV _);have hd0:zH9 s.data.toList 0=jT s.data.toList:=by unfold zH9;rw [List.drop_zero,Nat.zero_add]
  rw [hd0,qK]at hle;obtain⟨d,hd⟩:∃ d,jT s.data.toList=d:=⟨_,rfl⟩;have HG:Hid (∀ w,Calls Tryz.prog 139 #[.string s,uI 0] w fun e w'=>e=.returned (uI d)∧w=w'):=fun w=>by have h1:=qK6 s 0 w (lV _) hs;rw [hd0,hd]at h1;exact h1
  rw [hd]at hle;clear hd0;by_cases hlt:d<s.size
  ·have e1:decide ((d:Int)<(s.size:Int))=true:=by simp;omega
   have E:Hid ((0,280)=vS s.data.toList):=by show _=_;unfold vS;rw [lM (.inr Yo)]
   clear h0 hne hd hdl;go_enter Tryz.func110,Tryz.ntmps110
   go_wp2_with fail
   refine(HG.out _).mono ?_;rintro e w' ⟨rfl,rfl⟩;go_wp2_with fail
   go_ret2
   exact⟨zZ8 (q:=(0,280)) E.out,rfl⟩
  ·have e1:decide ((d:Int)<(s.size:Int))=false:=by simp;omega
   have HA:Hid (∀ (k:Nat) (c:UInt8),s.data.toList[k]?=some c→zV c=true):=fun k c hc=>qE5 _ k c Yo hc;have E:Hid (zL7 0 s.data.toList=vS s.data.toList):=by show _=_;unfold vS;rw [lN (fun h=>h.elim h0 (fun h=>Yo))]
   clear h0 hne hd hdl;go_enter Tryz.func110,Tryz.ntmps110
   go_wp2_with fail
   refine(HG.out _).mono ?_;rintro e w' ⟨rfl,rfl⟩;go_wp2_with fail
   go_loopw [4,17] (fun v4 v17 wr=>∃ k n:Nat,v17=uI k∧v4=uI n∧k≤s.size∧n≤1000000000∧Hid (zL7 n (s.data.toList.drop k)=vS s.data.toList)∧w=wr) (fun _ v17 _=>s.size-(intOf v17).toNat)
   case atStart=>exact⟨0,0,rfl,rfl,lV _,lV _,E,rfl⟩
   case round =>
    obtain⟨k,n,rfl,rfl,hk,hn,HK,rfl⟩:=hrel;clear E;by_cases hlt:k<s.size
    ·have e2:decide ((k:Int)<(s.size:Int))=true:=by simp;omega
     have hki:(k:Int)<(s.size:Int):=Yo;obtain⟨c,hc,hbc⟩:=zO9 hlt;have hg:=get_bt s k hlt;have hdc:=HA.out k c hc;have hK:=HK.out;rw [jW6 hc,zR8]at hK;unfold zV at hdc;simp only [lZ,cC]at hdc;obtain⟨d,hd⟩:∃ d,c.toNat-48=d:=⟨_,rfl⟩;have w1:IntKind.u8.wrap (bt s k-48)=(d:Int):=by rw [hbc,IntKind.wrap_u8];omega
     have w1':IntKind.u8.wrap ((c.toNat:Int)-48)=(d:Int):=by rw [IntKind.wrap_u8];omega
     have w2:IntKind.i64.wrap (d:Int)=(d:Int):=by rw [lL];omega
     have w3:IntKind.i64.wrap (10*(n:Int))=10*(n:Int):=by rw [lL];omega
     have w4:IntKind.i64.wrap (10*(n:Int)+(d:Int))=((10*n+d:Nat):Int):=by rw [lL];omega
     rw [hd]at hK;have hd9:d≤9:=Yo;obtain⟨m,hm⟩:∃ m,10*n+d=m:=⟨_,rfl⟩;rw [hm]at hK w4;have hm2:m≤100000000000:=Yo;clear hc hdc hd hm;by_cases hbig:1000000000<m
     ·have e3:decide ((1000000000:Int)<(m:Int))=true:=by simp;omega
      rw [lM hbig]at hK;have E2:Hid ((0,281)=vS s.data.toList):=hK;clear hK;go_wp2_with fail
      go_ret2
      exact⟨zZ8 (q:=(0,281)) E2.out,rfl⟩
     ·have e3:decide ((1000000000:Int)<(m:Int))=false:=by simp;omega
      rw [lN hbig]at hK;have HK2:=Ph hK;clear hK;go_wp2_with fail
      go_roundw
      case rel=>exact⟨k+1,m,by go_num,rfl,Yo,Yo,HK2,trivial⟩
      case measure=>simp [intOf];omega
    ·have e2:decide ((k:Int)<(s.size:Int))=false:=by simp;omega
     have hK:=HK.out;rw [List.drop_eq_nil_of_le (by rw [qK];omega)]at hK;have E2:Hid ((n,0)=vS s.data.toList):=hK;clear hK;go_wp2_with fail
     go_ret2
     exact⟨zZ8 (q:=(n,0)) E2.out,rfl⟩
def kP9 (q:Nat×Nat×Nat):Value:=.tuple #[uI q.1,uI q.2.1,uI q.2.2]
theorem zM3 {q q':Nat×Nat×Nat} (h:q=q'):Ending.returned (.tuple #[uI q.1,uI q.2.1,uI q.2.2])=.returned (kP9 q'):=by rw [h];rfl
theorem qP4 (t:List UInt8):(vS t).2=0∨(vS t).2=280∨(vS t).2=281:=by
 have:∀ (l:List UInt8) (n:Nat),(zL7 n l).2=0∨(zL7 n l).2=281:=by
  intro l;induction l with
  | nil=>intro n;exact .inl rfl
  | cons c r ih =>
    intro n;rw [zR8];split
    ·exact .inr rfl
    ·exact ih _
 unfold vS;split
 ·exact .inr (.inl rfl)
 ·rcases this t 0 with h | h
  ·exact .inl h
  ·exact .inr (.inr h)
theorem jX4 (t:List UInt8):(zH8 t).1≤1000000000∧(zH8 t).2.1≤1000000000:=by
 unfold zH8;split
 ·exact⟨lV _,lV _⟩
 ·split
  ·exact⟨lV _,lV _⟩
  ·exact⟨qK7 _,qK7 _⟩
theorem jS8 (s:ByteArray) (w:World) (hs:s.size≤100000000) (hv:Hid (Vars w)) :
 Calls Tryz.prog 162 #[.string s] w fun e w'=>e=.returned (kP9 (zH8 s.data.toList))∧Below w.heap.size w w':=by
 have hdl:=qK s;have hC:=kR3 s w hs hv;have hlen:=qP1 58 s.data.toList
 have hL:zH8 s.data.toList=if (zC2 58 s.data.toList).2.2=false∨(vS (zC2 58 s.data.toList).1).2=280∨(vS (zC2 58 s.data.toList).2.1).2=280 then(0,0,280)
  else if (vS (zC2 58 s.data.toList).1).2≠0∨(vS (zC2 58 s.data.toList).2.1).2≠0 then(0,0,281)
  else((vS (zC2 58 s.data.toList).1).1,(vS (zC2 58 s.data.toList).2.1).1,0):=rfl
 obtain⟨⟨p,q,t⟩,hq⟩:∃ q,zC2 58 s.data.toList=q:=⟨_,rfl⟩;rw [hq]at hC hlen hL;have hp1:=jB8 (str p);have hq1:=jB8 (str q);obtain⟨⟨n,e⟩,he⟩:∃ r,vS p=r:=⟨_,rfl⟩;obtain⟨⟨m,f⟩,hf⟩:∃ r,vS q=r:=⟨_,rfl⟩;have ee:=qP4 p;have fe:=qP4 q;have HP:Hid (∀ w,Calls Tryz.prog 110 #[uR p] w fun e' w'=>e'=.returned (.tuple #[uI n,uI e])∧w=w'):=fun w=>by have h1:=hp1 w (by rw [jV];have:=hlen.1;(try dsimp only at this);omega);rw [qE,he]at h1;exact h1
 have HQ:Hid (∀ w,Calls Tryz.prog 110 #[uR q] w fun e' w'=>e'=.returned (.tuple #[uI m,uI f])∧w=w'):=fun w=>by have h1:=hq1 w (by rw [jV];have:=hlen.2;(try dsimp only at this);omega);rw [qE,hf]at h1;exact h1
 rw [he]at ee;rw [hf]at fe;(try dsimp only at ee fe hC hL);rw [he,hf]at hL;have HC:=Ph hC;have HL:=Ph hL;clear hp1 hq1 he hf hq hlen hL hC hdl;have pre:∀ (Z:Nat×Nat×Nat),zH8 s.data.toList=Z→Hid (Z=zH8 s.data.toList):=fun Z h=>h.symm;cases t with
 | false =>
   have E:=pre (0,0,280) (by rw [HL.out,lM (.inl rfl)]);clear ee fe;go_enter Tryz.func162,Tryz.ntmps162
   go_wp2_with fail
   refine HC.out.mono ?_;rintro e w1 ⟨rfl,hb⟩;have HB:=Ph hb;clear hb;go_wp2_with fail
   refine(HP.out _).mono ?_;rintro e w' ⟨rfl,rfl⟩;go_wp2_with fail
   refine(HQ.out _).mono ?_;rintro e w' ⟨rfl,rfl⟩;go_wp2_with fail
   go_ret3
   exact⟨zM3 (q:=(0,0,280)) E.out,HB.out⟩
 | true =>
   by_cases h1:e=280
   ·subst h1;have E:=pre (0,0,280) (by rw [HL.out,lM (.inr (.inl rfl))]);clear ee fe;go_enter Tryz.func162,Tryz.ntmps162
    go_wp2_with fail
    refine HC.out.mono ?_;rintro e w1 ⟨rfl,hb⟩;have HB:=Ph hb;clear hb;go_wp2_with fail
    refine(HP.out _).mono ?_;rintro e w' ⟨rfl,rfl⟩;go_wp2_with fail
    refine(HQ.out _).mono ?_;rintro e w' ⟨rfl,rfl⟩;go_wp2_with fail
    go_ret3
    exact⟨zM3 (q:=(0,0,280)) E.out,HB.out⟩
   ·have e1:((e:Int) == 280)=false:=by simp;omega
    by_cases h2:f=280
    ·subst h2;have E:=pre (0,0,280) (by rw [HL.out,lM (.inr (.inr rfl))]);clear ee fe;go_enter Tryz.func162,Tryz.ntmps162
     go_wp2_with fail
     refine HC.out.mono ?_;rintro e w1 ⟨rfl,hb⟩;have HB:=Ph hb;clear hb;go_wp2_with fail
     refine(HP.out _).mono ?_;rintro e w' ⟨rfl,rfl⟩;go_wp2_with fail
     refine(HQ.out _).mono ?_;rintro e w' ⟨rfl,rfl⟩;go_wp2_with fail
     go_ret3
     exact⟨zM3 (q:=(0,0,280)) E.out,HB.out⟩
    ·have e2:((f:Int) == 280)=false:=by simp;omega
     by_cases h3:e=0
     ·subst h3;by_cases h4:f=0
      ·subst h4;have E:=pre (n,m,0) (by rw [HL.out,lN (by rintro(h | h | h) <;> cases h),lN (by rintro(h | h) <;> exact h rfl)]);clear ee fe;go_enter Tryz.func162,Tryz.ntmps162
       go_wp2_with fail
       refine HC.out.mono ?_;rintro e w1 ⟨rfl,hb⟩;have HB:=Ph hb;clear hb;go_wp2_with fail
       refine(HP.out _).mono ?_;rintro e w' ⟨rfl,rfl⟩;go_wp2_with fail
       refine(HQ.out _).mono ?_;rintro e w' ⟨rfl,rfl⟩;go_wp2_with fail
       go_ret3
       exact⟨zM3 (q:=(n,m,0)) E.out,HB.out⟩
      ·have e4:((f:Int) != 0)=true:=by simp;omega
       have e5:((f:Int) == 0)=false:=Yp;have E:=pre (0,0,281) (by rw [HL.out,lN (by rintro(h | h | h) <;> first | exact h2 h | cases h),lM (.inr h4)]);clear ee fe;go_enter Tryz.func162,Tryz.ntmps162
       go_wp2_with fail
       refine HC.out.mono ?_;rintro e w1 ⟨rfl,hb⟩;have HB:=Ph hb;clear hb;go_wp2_with fail
       refine(HP.out _).mono ?_;rintro e w' ⟨rfl,rfl⟩;go_wp2_with fail
       refine(HQ.out _).mono ?_;rintro e w' ⟨rfl,rfl⟩;go_wp2_with fail
       go_ret3
       exact⟨zM3 (q:=(0,0,281)) E.out,HB.out⟩
     ·have e4:((e:Int) != 0)=true:=by simp;omega
      have e5:((e:Int) == 0)=false:=Yp;have E:=pre (0,0,281) (by rw [HL.out,lN (by rintro(h | h | h) <;> first | exact h1 h | exact h2 h | cases h),lM (.inl h3)]);clear ee fe;go_enter Tryz.func162,Tryz.ntmps162
      go_wp2_with fail
      refine HC.out.mono ?_;rintro e w1 ⟨rfl,hb⟩;have HB:=Ph hb;clear hb;go_wp2_with fail
      refine(HP.out _).mono ?_;rintro e w' ⟨rfl,rfl⟩;go_wp2_with fail
      refine(HQ.out _).mono ?_;rintro e w' ⟨rfl,rfl⟩;go_wp2_with fail
      go_ret3
      exact⟨zM3 (q:=(0,0,281)) E.out,HB.out⟩
end
section
open Go.RowKit Go.PlainAid
def nxV (t:Tk):Value:=.tuple #[kW t.kind t.at' t.fin,uR t.text]
def kM1 (E:Env):Tk:=⟨0,[],E.text.length,E.text.length⟩
theorem jB9 {t t':Tk} (h:t=t'):Ending.returned (nxV t)=.returned (nxV t'):=by rw [h]
theorem zC5 (p:Nat) (E:Env) (T:TV) (Q:SV) (s:PSt) (w:World) (h:Hid (Ps w p E T Q s)) :
 Calls Tryz.prog 83 #[uQ p 0] w fun e w'=>e=.returned (nxV (zC E s))∧Below w.heap.size w w':=by
 have HB0:Hid (Below w.heap.size w (w.alloc (.cells #[uB 0,uI 0,uI 0] 44))):=zG (lB _ _) _;have HX0:=Ph (Bk.new w 44 #[uB 0,uI 0,uI 0]);have HP0:=Ph (h.out.below HB0.out);have hpl:p<w.heap.size:=h.out.lt;have hlen:(str E.text).size=E.text.length:=jV _;have hle:=h.out.ok.small;by_cases h1:s.e=0∧s.n<T.n
 ·obtain⟨he,hn⟩:=h1;have hlt:s.n<E.toks.length:=by rw [h.out.ok.len];exact hn
  have htok:E.toks[s.n]?=some (E.toks[s.n]'hlt):=cK hlt;generalize E.toks[s.n]'hlt=t at htok;have hE:zC E s=t:=by unfold zC;rw [lN (fun h=>h he),htok]
  have hok:=h.out.ok.tok _ _ htok;obtain⟨o1,o2,o3,o4,o5⟩:=hok;obtain⟨tk,ttext,ta,tf⟩:=t;(try dsimp only at o1 o2 o3 o4 o5);subst o5;have HE:=Ph hE;obtain⟨tb,toff,t',hTA,ht',htb,hcl⟩:=HP0.out.rd.rd.flat (f:=zQ1) jA6 Yo (i:=s.n) hlt;rw [htok]at ht';injection ht' with ht';subst ht';have c0:=hcl 0 _ Yo rfl;have c1:=hcl 1 _ Yo rfl;have c2:=hcl 2 _ Yo rfl;(try dsimp only at c0 c1 c2);clear hE htok hlt hcl;go_enter Tryz.func83,Tryz.ntmps83
  go_upto_region 1 with fail
  generalize (w.alloc _)=W at HB0 HX0 HP0 c0 c1 c2 htb ⊢;obtain⟨q,hq⟩:∃ q,w.heap.size=q:=⟨_,rfl⟩;rw [hq]at HX0 ⊢;have hne:p≠q:=Yo;have hqw:w.heap.size≤q:=Yo;clear hq hpl;obtain⟨y0,y1,y2,y3,y4,y5,y6⟩:=HP0.out.cells;have e1:((s.e:Int) != 0)=false:=Yp;have e2:decide ((T.n:Int)≤(s.n:Int))=false:=Yp;have hTn:(s.n:Int)<(T.n:Int):=Yo;rw [hTA]at y1;go_cut [21] (fun v21 wx=>v21=.bool false∧∃ m,wx=W.drewN m)
  case first =>
   go_quiet (fail)
   go_wp2
   go_meet
   exact⟨by rw [lG Yo],_,rfl⟩
  case rest =>
  obtain⟨rfl,m,rfl⟩:=hcut;have HB1:Hid (Below w.heap.size w (W.drewN m)):=jA1 HB0.out m;have HX1:=Ph (HX0.out.drewN m);have HP1:Hid (Ps (W.drewN m) p E T Q s):=HP0.out.below (zG5 W m);have htb1:tb<(W.drewN m).heap.size:=htb;have d0:(W.drewN m).cell? ⟨tb,toff+s.n*3,none⟩=_:=c0;have d1:(W.drewN m).cell? ⟨tb,toff+s.n*3+1,none⟩=_:=c1;have d2:(W.drewN m).cell? ⟨tb,toff+s.n*3+2,none⟩=_:=c2;clear y0 y1 y2 y3 y4 y5 y6 HB0 HX0 HP0 h c0 c1 c2 htb;generalize W.drewN m=W1 at HB1 HX1 HP1 d0 d1 d2 htb1 ⊢;have hpl1:p<W1.heap.size:=HP1.out.lt;have hql1:q<W1.heap.size:=HX1.out.lt;obtain⟨y0,y1,y2,y3,y4,y5,y6⟩:=HP1.out.cells;rw [hTA]at y1;go_upto_region 3 with fail
  have HBn:Hid (Below W1.heap.size W1 (W1.alloc (.cells #[uB tk,uI ta,uI tf] 44)).drew):=(zG (lB _ _) _).drew;have HN:=Ph (Bk.new W1 44 #[uB tk,uI ta,uI tf]).drew;go_region
  go_upto_region 4 with fail
  have hqn:q≠W1.heap.size:=Yo;have hpn:p≠W1.heap.size:=Yo;generalize (W1.alloc (.cells #[uB tk,uI ta,uI tf] 44)).drew=W3 at HBn HN ⊢;have HBQ:=Ph (HX1.out.below HBn.out hql1);have HBP:=Ph (HP1.out.bk.below HBn.out hpl1);have HBB:=Ph (zU HB1.out HBn.out);generalize W1.heap.size=q2 at HN hqn hpn ⊢;clear d0 d1 d2 y0 y1 y2 y3 y4 y5 y6 HB1 HX1 HP1 HBn hpl1 hql1 htb1;have x0:=HBQ.out.cell 0;have x1:=HBQ.out.cell 1;have x2:=HBQ.out.cell 2;obtain⟨z0,z1,z2⟩:=qE4 HBQ.out;obtain⟨n0,n1,n2⟩:=zJ HN.out;have y0:W3.cell? ⟨p,0,none⟩=some (uR E.text):=HBP.out.cell 0;have HT:=Ph fun w=>kE9 E.text tk ta tf w Yo o4 Yo;dsimp only [kW]at HT;have HBX:=HN
  go_region_held3 (fun w'=>w'.cell? ⟨q2,0,none⟩=some (uB tk)∧w'.cell? ⟨q2,1,none⟩=some (uI ta)∧w'.cell? ⟨q2,2,none⟩=some (uI tf)∧w'.cell? ⟨p,0,none⟩=some (uR E.text))
   (first | with_reducible exact⟨HBX.out.cell 0,HBX.out.cell 1,HBX.out.cell 2,HBP.out.cell 0⟩ | exact⟨HBX.out.cell 0,HBX.out.cell 1,HBX.out.cell 2,HBP.out.cell 0⟩ | exact⟨(jS7 HBX.out (cX hqn)).cell 0,(jS7 HBX.out (cX hqn)).cell 1,(jS7 HBX.out (cX hqn)).cell 2,(jS7 HBP.out hne).cell 0⟩)
   (first
     | (go_at_call 16
        with_reducible refine(HT.out _).mono ?_
        rintro e w5 ⟨rfl,hb5⟩
        first
         | (have HBX':=Ph (HBX.out.drew.below hb5 HBX.out.lt)
            have HBP':=Ph (HBP.out.drew.below hb5 HBP.out.lt);have HBQ':=Ph (HBQ.out.drew.below hb5 HBQ.out.lt);have HBB':=Ph (zU HBB.out.drew hb5))
         | (have HBX':=Ph ((jS7 HBX.out (cX hqn)).drew.below hb5 (jS7 HBX.out (cX hqn)).lt)
            have HBP':=Ph ((jS7 HBP.out hne).drew.below hb5 (jS7 HBP.out hne).lt);have HBQ':=Ph ((kD8 HBQ.out).drew.below hb5 (kD8 HBQ.out).lt);have HBB':=Ph (zU (kE7 HBB.out hqw).drew hb5))
        clear HBX HBP HBQ HBB x0 x1 x2 z0 z1 z2 n0 n1 n2 y0;have HBX:=HBX';have HBP:=HBP';have HBQ:=HBQ';have HBB:=HBB';clear HBX' HBP' HBQ' HBB' hb5;have x0:=HBQ.out.cell 0;have x1:=HBQ.out.cell 1;have x2:=HBQ.out.cell 2;obtain⟨z0,z1,z2⟩:=qE4 HBQ.out))
  all_goals
   first
    | (have HF:Hid (Bk w5 q 44 #[uB tk,uI ta,uI tf]):=HBQ
       have HFB:Hid (Below w.heap.size w w5):=HBB;go_wp2
       obtain⟨r0,r1,r2⟩:=zJ HF.out;refine lK (v:=nxV ⟨tk,jL6 E.text ta tf,ta,tf⟩) (by simp [results,Tryz.results83,go_sem,nxV,kW,r0,r1,r2]) rfl ?_;exact⟨jB9 HE.out.symm,HFB.out⟩)
    | (have HF:=Ph (kD8 (v0:=uB tk) (v1:=uI ta) (v2:=uI tf) HBQ.out)
       have HFB:=Ph (kE7 (v0:=uB tk) (v1:=uI ta) (v2:=uI tf) HBB.out hqw);go_wp2
       generalize (World.setCell _ _ _)=WF at HF HFB ⊢;obtain⟨r0,r1,r2⟩:=zJ HF.out;refine lK (v:=nxV ⟨tk,jL6 E.text ta tf,ta,tf⟩) (by simp [results,Tryz.results83,go_sem,nxV,kW,r0,r1,r2]) rfl ?_;exact⟨jB9 HE.out.symm,HFB.out⟩)
 ·have hE:zC E s=kM1 E:=by
   unfold zC;by_cases h2:s.e=0
   ·rw [lN (fun h=>h h2)];have h3:E.toks[s.n]?=none:=cW (by have:=h.out.ok.len;omega);rw [h3];rfl
   ·rw [lM h2];rfl
  have HE:=Ph hE;clear hE;go_enter Tryz.func83,Tryz.ntmps83
  go_upto_region 1 with fail
  generalize (w.alloc _)=W at HB0 HX0 HP0 ⊢;obtain⟨q,hq⟩:∃ q,w.heap.size=q:=⟨_,rfl⟩;rw [hq]at HX0 ⊢;have hne:p≠q:=Yo;have hqw:w.heap.size≤q:=Yo;clear hq hpl;obtain⟨y0,y1,y2,y3,y4,y5,y6⟩:=HP0.out.cells;go_cut [21] (fun v21 wx=>v21=.bool true∧∃ m,wx=W.drewN m)
  case first =>
   by_cases h2:s.e=0
   ·have e1:((s.e:Int) != 0)=false:=by simp;omega
    have e2:decide ((T.n:Int)≤(s.n:Int))=true:=Yp;have h3:(T.n:Int)≤(s.n:Int):=Yo;clear h1;go_quiet (fail)
    go_wp2
    go_meet
    exact⟨rfl,_,rfl⟩
   ·have e1:((s.e:Int) != 0)=true:=by simp;omega
    clear h1;go_quiet (fail)
    go_wp2
    go_meet
    exact⟨rfl,_,rfl⟩
  case rest =>
  obtain⟨rfl,m,rfl⟩:=hcut;have HB1:Hid (Below w.heap.size w (W.drewN m)):=jA1 HB0.out m;have HX1:=Ph (HX0.out.drewN m);have HP1:Hid (Ps (W.drewN m) p E T Q s):=HP0.out.below (zG5 W m);clear y0 y1 y2 y3 y4 y5 y6 HB0 HX0 HP0 h h1;generalize W.drewN m=W1 at HB1 HX1 HP1 ⊢;obtain⟨y0,y1,y2,y3,y4,y5,y6⟩:=HP1.out.cells;obtain⟨x0,x1,x2⟩:=zJ HX1.out;obtain⟨z0,z1,z2⟩:=qE4 HX1.out;have HF:=Ph (kD8 (v0:=uB 0) (v1:=uI E.text.length) (v2:=uI E.text.length) HX1.out).drew;have HFB:=Ph (kE7 (v0:=uB 0) (v1:=uI E.text.length) (v2:=uI E.text.length) HB1.out hqw).drew;go_upto_region 2 with fail
  go_region
  all_goals
   go_wp2
   generalize (((W1.setCell ⟨q,0,none⟩ (uB 0)).setCell ⟨q,1,none⟩ (uI E.text.length)).setCell ⟨q,2,none⟩ (uI E.text.length)).drew=WF at HF HFB ⊢;obtain⟨r0,r1,r2⟩:=zJ HF.out;refine lK (v:=nxV (kM1 E)) (by simp [results,Tryz.results83,go_sem,nxV,kM1,kW,r0,r1,r2];rfl) rfl ?_;exact⟨jB9 HE.out.symm,HFB.out⟩
end
section
open Go.RowKit Go.PlainAid
structure PP (w:World) (p:Nat) (E:Env) (T:TV) (Q:SV) (s:PSt) (w':World):Prop where
 ps:Ps w' p E T Q s
 fr:Fr (fun k=>k=p) w w'
section
variable {w w1 w':World} {p:Nat} {E:Env} {T:TV} {Q:SV} {s s1 s':PSt}
theorem PP.below (h:Ps w p E T Q s) (hb:Below w.heap.size w w'):PP w p E T Q s w':=⟨h.below hb,Fr.of_below hb⟩
theorem PP.after (hb:Below w.heap.size w w1) (h:PP w1 p E T Q s w'):PP w p E T Q s w':=⟨h.ps,(Fr.of_below hb).trans h.fr⟩
theorem PP.trans (h:PP w p E T Q s1 w1) (k:PP w1 p E T Q s w'):PP w p E T Q s w':=⟨k.ps,h.fr.trans k.fr⟩
theorem PP.then (h:PP w p E T Q s w1) (hb:Below w1.heap.size w1 w'):PP w p E T Q s w':=⟨h.ps.below hb,h.fr.trans (Fr.of_below hb)⟩
theorem Ps.setN (h:Ps w p E T Q s) (n:Nat) (hn:n≤T.n):PP w p E T Q { s with n:=n } (w.setCell ⟨p,2,none⟩ (uI n)):=by have hf:Fr (fun k=>k=p) w (w.setCell ⟨p,2,none⟩ (uI n)):=(Fr.refl (fun k=>k=p) w).setCell (p:=⟨p,2,none⟩) (.inl rfl) _;exact⟨h.put hf (h.bk.put 2 _) hn,hf⟩
theorem Ps.setDeep (h:Ps w p E T Q s) (d:Int):PP w p E T Q { s with deep:=d } (w.setCell ⟨p,3,none⟩ (uI d)):=by have hf:Fr (fun k=>k=p) w (w.setCell ⟨p,3,none⟩ (uI d)):=(Fr.refl (fun k=>k=p) w).setCell (p:=⟨p,3,none⟩) (.inl rfl) _;exact⟨h.put hf (h.bk.put 3 _) h.n,hf⟩
theorem Ps.setErr (h:Ps w p E T Q s) (a e:Nat):PP w p E T Q { s with fail:=a,e:=e } ((w.setCell ⟨p,5,none⟩ (uI a)).setCell ⟨p,6,none⟩ (uI e)):=by have hf:Fr (fun k=>k=p) w ((w.setCell ⟨p,5,none⟩ (uI a)).setCell ⟨p,6,none⟩ (uI e)):=((Fr.refl (fun k=>k=p) w).setCell (p:=⟨p,5,none⟩) (.inl rfl) _).setCell (p:=⟨p,6,none⟩) (.inl rfl) _;exact⟨h.put hf ((h.bk.put 5 _).put 6 _) h.n,hf⟩
theorem Ps.frozens (h:Ps w p E T Q s) (i:Nat):w.frozen? ⟨p,i,none⟩=false:=h.bk.frozen i
theorem Ps.tok (h:Ps w p E T Q s) (hk:(zC E s).kind≠0∨(zC E s).text≠[]):s.e=0∧s.n<T.n∧kP7 E.text (zC E s):=by
 unfold zC at hk ⊢;by_cases he:s.e=0
 ·rw [lN (fun h=>h he)]at hk ⊢;cases ht:E.toks[s.n]? with
  | none=>rw [ht]at hk;simp at hk
  | some t =>
    obtain⟨h1,_⟩:=cA.1 ht;exact⟨he,by have:=h.ok.len;omega,h.ok.tok _ _ ht⟩
 ·rw [lM he]at hk;simp at hk
theorem Ps.nextLe (h:Ps w p E T Q s):(zC E s).at'≤65536∧(zC E s).kind≤4∧(zC E s).text.length≤65536:=by
 have hs:=h.ok.small;by_cases hk:(zC E s).kind≠0
 ·obtain⟨_,_,h3⟩:=h.tok (.inl hk);have h4:=h3.a;have h5:=h3.f;refine⟨Yo,h3.k4,?_⟩;rw [h3.t];unfold jL6;rw [cL,cU];omega
 ·have h0:(zC E s).text=[]:=by
   by_cases ht:(zC E s).text=[]
   ·exact ht
   ·obtain⟨_,_,h3⟩:=h.tok (.inr ht);have:=h3.k1;omega
  refine⟨?_,Yo,by rw [h0];exact lV _⟩;unfold zC at hk ⊢;split
  ·exact hs
  ·rename_i he;rw [lN he]at hk;cases ht:E.toks[s.n]? with
   | none=>exact hs
   | some t =>
     rw [ht]at hk;have:=(h.ok.tok _ _ ht).k1;simp at hk;omega
end
theorem jM9 {w:World} {o:Obj}:Below w.heap.size w (w.alloc o):=zG (lB _ _) _
theorem zG2 (p:Nat) (E:Env) (T:TV) (Q:SV) (s:PSt) (e:Nat) (w:World) (h:Hid (Ps w p E T Q s)) :
 Calls Tryz.prog 82 #[uQ p 0,uI e] w fun x w'=>(∃ v,x=.returned v)∧PP w p E T Q (qH E s e) w':=by
 obtain⟨y0,y1,y2,y3,y4,y5,y6⟩:=h.out.cells;by_cases h0:s.e=0
 ·have e1:((s.e:Int) == 0)=true:=by simp;omega
  have E1:Hid (qH E s e={ s with fail:=(zC E s).at',e:=e }):=by show _=_;unfold qH;rw [lM h0]
  obtain⟨⟨tk,tt,ta,tf⟩,ht⟩:∃ t,zC E s=t:=⟨_,rfl⟩;have HN:=Ph (zC5 p E T Q s w h);rw [ht]at HN E1;dsimp only [nxV,kW]at HN E1;clear ht h0;go_enter Tryz.func82,Tryz.ntmps82
  go_wp2_with fail
  refine HN.out.mono ?_;rintro x w1 ⟨rfl,hb⟩;have HP1:=Ph (h.out.below hb);have HB1:=Ph hb;clear hb y0 y1 y2 y3 y4 y5 y6;obtain⟨y0,y1,y2,y3,y4,y5,y6⟩:=HP1.out.cells;have z5:=HP1.out.frozens 5;have z6:=HP1.out.frozens 6;have hpl:p<w1.heap.size:=HP1.out.lt;go_wp2_with fail
  go_end0
  refine⟨⟨_,rfl⟩,?_⟩;rw [E1.out];exact(PP.after HB1.out (HP1.out.setErr ta e)).then jM9
 ·have e1:((s.e:Int) == 0)=false:=by simp;omega
  have E1:Hid (qH E s e=s):=by show _=_;unfold qH;rw [lN h0]
  clear h0;go_enter Tryz.func82,Tryz.ntmps82
  go_wp2_with fail
  go_end0
  refine⟨⟨_,rfl⟩,?_⟩;rw [E1.out];exact PP.below h.out (lB _ _)
theorem isC (p:Nat) (E:Env) (T:TV) (Q:SV) (s:PSt) (u:List UInt8) (w:World) (h:Hid (Ps w p E T Q s)) :
 Calls Tryz.prog 87 #[uQ p 0,uR u] w fun x w'=>x=.returned (.bool (isP E s u))∧PP w p E T Q (isS E s u) w':=by
 have hle:=h.out.nextLe;have htok:=h.out.tok;have hIP:isP E s u=(decide ((zC E s).kind≠0) && decide ((zC E s).text=u)):=rfl;have hIS:isS E s u=if isP E s u then zE s else s:=rfl
 have hbn:=jA2 (zC E s).text u;have hbq:=zR3 (zC E s).text u;have HN:=Ph (zC5 p E T Q s w h);obtain⟨⟨tk,tt,ta,tf⟩,ht⟩:∃ t,zC E s=t:=⟨_,rfl⟩;rw [ht]at HN hle htok hIP hbn hbq;dsimp only [nxV,kW]at HN hle htok hIP hbn hbq;clear ht;by_cases hk:tk=0
 ·have e1:((tk:Int) == 0)=true:=by simp;omega
  have E1:Hid (isP E s u=false):=by show _=_;rw [hIP];simp [hk]
  have E2:Hid (isS E s u=s):=by show _=_;rw [hIS,E1.out];rfl
  clear hIP hIS htok hbn hbq;go_enter Tryz.func87,Tryz.ntmps87
  go_wp2_with fail
  refine HN.out.mono ?_;rintro x w1 ⟨rfl,hb⟩;have HB1:=Ph hb;clear hb;go_wp2_with fail
  go_ret;rw [E1.out,E2.out];exact⟨rfl,PP.below h.out (zG HB1.out _)⟩
 ·have e1:((tk:Int) == 0)=false:=by simp;omega
  by_cases hu:tt=u
  ·have e2:((str tt).toList != (str u).toList)=false:=by rw [hbn,lH hu];rfl
   have e3:((str tt).toList == (str u).toList)=true:=by rw [hbq,lH hu]
   have E1:Hid (isP E s u=true):=by show _=_;rw [hIP];simp [hk,hu]
   have E2:Hid (isS E s u={ s with n:=s.n+1 }):=by show _=_;rw [hIS,E1.out];rfl
   obtain⟨t1,t2,_⟩:=htok (.inl hk);have hT:=h.out.ok.few;have wn:IntKind.i64.wrap ((s.n:Int)+1)=((s.n+1:Nat):Int):=by rw [lL];omega
   clear hIP hIS hbn hbq;go_enter Tryz.func87,Tryz.ntmps87
   go_wp2_with fail
   refine HN.out.mono ?_;rintro x w1 ⟨rfl,hb⟩;have HP1:=Ph (h.out.below hb);have HB1:=Ph hb;clear hb;obtain⟨y0,y1,y2,y3,y4,y5,y6⟩:=HP1.out.cells;have z2:=HP1.out.frozens 2;have hpl:p<w1.heap.size:=HP1.out.lt;go_wp2_with fail
   go_ret;rw [E1.out,E2.out];exact⟨rfl,(PP.after HB1.out (HP1.out.setN (s.n+1) t2)).then jM9⟩
  ·have e2:((str tt).toList != (str u).toList)=true:=by rw [hbn,lG hu];rfl
   have e3:((str tt).toList == (str u).toList)=false:=by rw [hbq,lG hu]
   have E1:Hid (isP E s u=false):=by show _=_;rw [hIP];simp [hu]
   have E2:Hid (isS E s u=s):=by show _=_;rw [hIS,E1.out];rfl
   clear hIP hIS htok hbn hbq;go_enter Tryz.func87,Tryz.ntmps87
   go_wp2_with fail
   refine HN.out.mono ?_;rintro x w1 ⟨rfl,hb⟩;have HB1:=Ph hb;clear hb;go_wp2_with fail
   go_ret;rw [E1.out,E2.out];exact⟨rfl,PP.below h.out (zG HB1.out _)⟩
theorem jX5 (p:Nat) (E:Env) (T:TV) (Q:SV) (s:PSt) (u:List UInt8) (w:World) (h:Hid (Ps w p E T Q s)) :
 Calls Tryz.prog 84 #[uQ p 0,uR u] w fun x w'=>(∃ v,x=.returned v)∧PP w p E T Q (zI E s u) w':=by
 have hM:zI E s u=if isP E s u then zE s else qH E s 300:=rfl
 have hS:isS E s u=if isP E s u then zE s else s:=rfl
 have HI:=Ph (isC p E T Q s u w h);cases hb:isP E s u with
 | true =>
   rw [hb]at hM hS HI;rw [lM rfl]at hM hS;rw [hS,←hM]at HI;clear hM hS hb;go_enter Tryz.func84,Tryz.ntmps84
   go_wp2_with fail
   refine HI.out.mono ?_;rintro x w1 ⟨rfl,hp⟩;have HP:=Ph hp;clear hp;go_wp2_with fail
   go_end0
   exact⟨⟨_,rfl⟩,HP.out⟩
 | false =>
   rw [hb]at hM hS HI;rw [lN Ym]at hM hS;rw [hS]at HI;have HM:=Ph hM;clear hM hS hb;go_enter Tryz.func84,Tryz.ntmps84
   go_wp2_with fail
   refine HI.out.mono ?_;rintro x w1 ⟨rfl,hp⟩;have HP:=Ph hp;have HW:=Ph (zG2 p E T Q s 300 w1 (Ph hp.ps));clear hp;go_wp2_with fail
   refine HW.out.mono ?_;rintro x w2 ⟨⟨v,rfl⟩,hp⟩;have HP2:=Ph (HP.out.trans hp);clear hp;go_wp2_with fail
   go_end0
   rw [HM.out];exact⟨⟨_,rfl⟩,HP2.out⟩
end
section
open Go.RowKit Go.PlainAid
theorem jX6 (p:Nat) (E:Env) (T:TV) (Q:SV) (s:PSt) (w:World) (h:Hid (Ps w p E T Q s)) :
 Calls Tryz.prog 111 #[uQ p 0] w fun x w'=>x=.returned (.string (str (jA E s)))∧PP w p E T Q (zL E s) w':=by
 have htok:=h.out.tok;have hB:nameB E s=(decide ((zC E s).kind=1) && !vO (zC E s).text):=rfl;have hP:jA E s=if nameB E s then(zC E s).text else []:=rfl
 have hS:zL E s=if nameB E s then zE s else qH E s 300:=rfl
 have HN:=Ph (zC5 p E T Q s w h);obtain⟨⟨tk,tt,ta,tf⟩,ht⟩:∃ t,zC E s=t:=⟨_,rfl⟩;rw [ht]at HN htok hB hP;dsimp only [nxV,kW]at HN htok hB hP;clear ht;by_cases hk:tk=1
 ·have e1:((tk:Int) != 1)=false:=by simp;omega
  have hkn:tk≠0:=Yo;cases hr:vO tt with
  | true =>
    have E0:nameB E s=false:=by rw [hB,hr];simp
    rw [E0]at hP hS;have E1:Hid (jA E s=[]):=hP;have E2:Hid (zL E s=qH E s 300):=hS;have HR:=Ph fun w (hv:Hid (Vars w))=>hr▸jX2 tt w hv;clear hB hP hS hr E0 htok;go_enter Tryz.func111,Tryz.ntmps111
    go_wp2_with fail
    refine HN.out.mono ?_;rintro x w1 ⟨rfl,hb⟩;have HB1:Hid (∀ o,Below w.heap.size w (w1.alloc o)):=fun o=>zG hb o;have HP1:Hid (∀ o,Ps (w1.alloc o) p E T Q s):=fun o=>h.out.below (HB1.out o);clear hb;go_wp2_with fail
    refine(HR.out _ (Ph (HP1.out _).vr)).mono ?_;rintro x w2 ⟨rfl,hb⟩;have HP2:=Ph ((HP1.out _).below hb);have HB2:=Ph (zU (HB1.out _) hb);clear hb;go_wp2_with fail
    refine(zG2 p E T Q s 300 w2 HP2).mono ?_;rintro x w3 ⟨⟨v,rfl⟩,hp⟩;have HPP:=Ph (PP.after HB2.out hp);clear hp;go_wp2_with fail
    go_ret;rw [E1.out,E2.out];exact⟨rfl,HPP.out⟩
  | false =>
    have E0:nameB E s=true:=by rw [hB,hr,hk];rfl
    rw [E0]at hP hS;have E1:Hid (jA E s=tt):=hP;have E2:Hid (zL E s={ s with n:=s.n+1 }):=hS;have HR:=Ph fun w (hv:Hid (Vars w))=>hr▸jX2 tt w hv;obtain⟨t1,t2,_⟩:=htok (.inl hkn);have hT:=h.out.ok.few;have wn:IntKind.i64.wrap ((s.n:Int)+1)=((s.n+1:Nat):Int):=by rw [lL];omega
    clear hB hP hS hr E0 htok;go_enter Tryz.func111,Tryz.ntmps111
    go_wp2_with fail
    refine HN.out.mono ?_;rintro x w1 ⟨rfl,hb⟩;have HB1:Hid (∀ o,Below w.heap.size w (w1.alloc o)):=fun o=>zG hb o;have HP1:Hid (∀ o,Ps (w1.alloc o) p E T Q s):=fun o=>h.out.below (HB1.out o);clear hb;go_wp2_with fail
    refine(HR.out _ (Ph (HP1.out _).vr)).mono ?_;rintro x w2 ⟨rfl,hb⟩;have HP2:=Ph ((HP1.out _).below hb);have HB2:=Ph (zU (HB1.out _) hb);clear hb;obtain⟨y0,y1,y2,y3,y4,y5,y6⟩:=HP2.out.cells;have z2:=HP2.out.frozens 2;go_wp2_with fail
    go_ret;rw [E1.out,E2.out];exact⟨rfl,PP.after HB2.out (HP2.out.setN (s.n+1) t2)⟩
 ·have e1:((tk:Int) != 1)=true:=by simp;omega
  have E0:nameB E s=false:=by rw [hB];simp [hk]
  rw [E0]at hP hS;have E1:Hid (jA E s=[]):=hP;have E2:Hid (zL E s=qH E s 300):=hS;clear hB hP hS E0 htok;go_enter Tryz.func111,Tryz.ntmps111
  go_wp2_with fail
  refine HN.out.mono ?_;rintro x w1 ⟨rfl,hb⟩;have HB1:Hid (∀ o,Below w.heap.size w (w1.alloc o)):=fun o=>zG hb o;have HP1:Hid (∀ o,Ps (w1.alloc o) p E T Q s):=fun o=>h.out.below (HB1.out o);clear hb;go_wp2_with fail
  refine(zG2 p E T Q s 300 _ (Ph (HP1.out _))).mono ?_;rintro x w3 ⟨⟨v,rfl⟩,hp⟩;have HPP:=Ph (PP.after (HB1.out _) hp);clear hp;go_wp2_with fail
  go_ret;rw [E1.out,E2.out];exact⟨rfl,HPP.out⟩
theorem kQ1 (p:Nat) (E:Env) (T:TV) (Q:SV) (s:PSt) (w:World) (h:Hid (Ps w p E T Q s)) :
 Calls Tryz.prog 85 #[uQ p 0] w fun x w'=>x=.returned (uI ((jB E s).1:Int))∧PP w p E T Q (jB E s).2 w':=by
 have htok:=h.out.tok;have hle:=h.out.nextLe;have hP:jB E s=if (zC E s).kind=2 then(if (vS (zC E s).text).2=0 then((vS (zC E s).text).1,zE s) else(0,qH E s 302)) else(0,qH E s 300):=rfl
 have HN:=Ph (zC5 p E T Q s w h);obtain⟨⟨tk,tt,ta,tf⟩,ht⟩:∃ t,zC E s=t:=⟨_,rfl⟩;rw [ht]at HN htok hP hle;dsimp only [nxV,kW]at HN htok hP hle;clear ht;by_cases hk:tk=2
 ·have e1:((tk:Int) != 2)=false:=by simp;omega
  have hkn:tk≠0:=Yo;rw [lM hk]at hP;obtain⟨⟨n,er⟩,hv⟩:∃ q,vS tt=q:=⟨_,rfl⟩;have HV:Hid (∀ w,Calls Tryz.prog 110 #[uR tt] w fun e w'=>e=.returned (.tuple #[uI n,uI er])∧w=w'):=fun w=>by have h1:=jB8 (str tt) w (by rw [jV];have:=hle.2.2;omega);rw [qE,hv]at h1;exact h1
  rw [hv]at hP;(try dsimp only at hP);clear hv;by_cases her:er=0
  ·have e2:((er:Int) != 0)=false:=by simp;omega
   rw [lM her]at hP;have E1:Hid (jB E s=(n,{ s with n:=s.n+1 })):=hP;obtain⟨t1,t2,_⟩:=htok (.inl hkn);have hT:=h.out.ok.few;have wn:IntKind.i64.wrap ((s.n:Int)+1)=((s.n+1:Nat):Int):=by rw [lL];omega
   clear hP htok hle;go_enter Tryz.func85,Tryz.ntmps85
   go_wp2_with fail
   refine HN.out.mono ?_;rintro x w1 ⟨rfl,hb⟩;have HB1:Hid (∀ o,Below w.heap.size w (w1.alloc o)):=fun o=>zG hb o;have HP0:=Ph (h.out.below hb);have HB0:=Ph hb;clear hb;obtain⟨y0,y1,y2,y3,y4,y5,y6⟩:=HP0.out.cells;have z2:=HP0.out.frozens 2;have hpl:=HP0.out.lt;go_wp2_with fail
   refine(HV.out _).mono ?_;rintro x w2 ⟨rfl,rfl⟩;go_wp2_with fail
   go_ret;rw [E1.out];exact⟨rfl,(PP.after HB0.out (HP0.out.setN (s.n+1) t2)).then jM9⟩
  ·have e2:((er:Int) != 0)=true:=by simp;omega
   rw [lN her]at hP;have E1:Hid (jB E s=(0,qH E s 302)):=hP;clear hP htok hle;go_enter Tryz.func85,Tryz.ntmps85
   go_wp2_with fail
   refine HN.out.mono ?_;rintro x w1 ⟨rfl,hb⟩;have HB1:Hid (∀ o,Below w.heap.size w (w1.alloc o)):=fun o=>zG hb o;have HP1:Hid (∀ o,Ps (w1.alloc o) p E T Q s):=fun o=>h.out.below (HB1.out o);clear hb;go_wp2_with fail
   refine(HV.out _).mono ?_;rintro x w2 ⟨rfl,rfl⟩;go_wp2_with fail
   refine(zG2 p E T Q s 302 _ (Ph (HP1.out _))).mono ?_;rintro x w3 ⟨⟨v,rfl⟩,hp⟩;have HPP:=Ph (PP.after (HB1.out _) hp);clear hp;go_wp2_with fail
   go_ret;rw [E1.out];exact⟨rfl,HPP.out⟩
 ·have e1:((tk:Int) != 2)=true:=by simp;omega
  rw [lN hk]at hP;have E1:Hid (jB E s=(0,qH E s 300)):=hP;clear hP htok hle;go_enter Tryz.func85,Tryz.ntmps85
  go_wp2_with fail
  refine HN.out.mono ?_;rintro x w1 ⟨rfl,hb⟩;have HB1:Hid (∀ o,Below w.heap.size w (w1.alloc o)):=fun o=>zG hb o;have HP1:Hid (∀ o,Ps (w1.alloc o) p E T Q s):=fun o=>h.out.below (HB1.out o);clear hb;go_wp2_with fail
  refine(zG2 p E T Q s 300 _ (Ph (HP1.out _))).mono ?_;rintro x w3 ⟨⟨v,rfl⟩,hp⟩;have HPP:=Ph (PP.after (HB1.out _) hp);clear hp;go_wp2_with fail
  go_ret;rw [E1.out];exact⟨rfl,HPP.out⟩
theorem zG7 (E:Env) (s:PSt):(jB E s).1≤1000000000:=by
 unfold jB;split
 ·split
  ·exact qK7 _
  ·exact lV _
 ·exact lV _
theorem jS9 (p:Nat) (E:Env) (T:TV) (Q:SV) (s:PSt) (u:List UInt8) (w:World) (h:Hid (Ps w p E T Q s)) (hd:okP s=true) :
 Calls Tryz.prog 122 #[uQ p 0,uR u] w fun x w'=>x=.returned (.bool (zC7 E s u))∧PP w p E T Q (zI4 E s u) w':=by
 have hle:=h.out.nextLe;have htok:=h.out.tok;have hB:zC7 E s u=(decide ((zC E s).text=u) && decide ((zC E s).text≠[])):=rfl;have hS:zI4 E s u=if zC7 E s u then(if 200≤s.deep then qH E s 301 else yH (zE s) 1) else s:=rfl
 have hbn:=jA2 (zC E s).text u;have hbq:=zR3 (zC E s).text u;have HN:=Ph (zC5 p E T Q s w h);obtain⟨⟨tk,tt,ta,tf⟩,ht⟩:∃ t,zC E s=t:=⟨_,rfl⟩;rw [ht]at HN hle htok hB hbn hbq;dsimp only [nxV,kW]at HN hle htok hB hbn hbq;clear ht;unfold okP at hd;simp only [lZ,cC]at hd;by_cases hu:tt=u
 ·have e2:((str tt).toList != (str u).toList)=false:=by rw [hbn,lH hu];rfl
  have e3:((str tt).toList == (str u).toList)=true:=by rw [hbq,lH hu]
  by_cases h0:tt=[]
  ·have e4:(str tt).toList.isEmpty=true:=by rw [qB,qE,h0];rfl
   have e5:((str tt).toList == [])=true:=by rw [qB,qE,h0];rfl
   have E1:Hid (zC7 E s u=false):=by show _=_;rw [hB];simp [h0]
   have E2:Hid (zI4 E s u=s):=by show _=_;rw [hS,E1.out];rfl
   clear hB hS htok hbn hbq h0 hu;go_enter Tryz.func122,Tryz.ntmps122
   go_wp2_with fail
   refine HN.out.mono ?_;rintro x w1 ⟨rfl,hb⟩;have HB1:=Ph hb;clear hb;go_wp2_with fail
   go_ret;rw [E1.out,E2.out];exact⟨rfl,PP.below h.out (zG HB1.out _)⟩
  ·have e4:(str tt).toList.isEmpty=false:=by rw [qB,qE];simpa using h0
   have e5:((str tt).toList == [])=false:=by rw [qB,qE];simpa using h0
   have E1:Hid (zC7 E s u=true):=by show _=_;rw [hB];simp [h0,hu];rw [←hu];exact h0
   obtain⟨t1,t2,_⟩:=htok (.inr h0);have hT:=h.out.ok.few;by_cases hdp:200≤s.deep
   ·have e6:decide ((200:Int)≤s.deep)=true:=by simpa using hdp
    have E2:Hid (zI4 E s u=qH E s 301):=by show _=_;rw [hS,E1.out,lM rfl,lM hdp]
    clear hB hS htok hbn hbq h0 hu;go_enter Tryz.func122,Tryz.ntmps122
    go_wp2_with fail
    refine HN.out.mono ?_;rintro x w1 ⟨rfl,hb⟩;have HB1:Hid (∀ o,Below w.heap.size w (w1.alloc o)):=fun o=>zG hb o;have HP1:Hid (∀ o,Ps (w1.alloc o) p E T Q s):=fun o=>h.out.below (HB1.out o);have HP0:=Ph (h.out.below hb);clear hb;obtain⟨y0,y1,y2,y3,y4,y5,y6⟩:=HP0.out.cells;have hpl:=HP0.out.lt;go_wp2_with fail
    refine(zG2 p E T Q s 301 _ (Ph (HP1.out _))).mono ?_;rintro x w3 ⟨⟨v,rfl⟩,hp⟩;have HPP:=Ph (PP.after (HB1.out _) hp);clear hp;go_wp2_with fail
    go_ret;rw [E1.out,E2.out];exact⟨rfl,HPP.out⟩
   ·have e6:decide ((200:Int)≤s.deep)=false:=by simpa using hdp
    have E2:Hid (zI4 E s u={ s with n:=s.n+1,deep:=s.deep+1 }):=by show _=_;rw [hS,E1.out,lM rfl,lN hdp];rfl
    have wn:IntKind.i64.wrap ((s.n:Int)+1)=((s.n+1:Nat):Int):=by rw [lL];omega
    have wd:IntKind.i64.wrap (s.deep+1)=s.deep+1:=by rw [lL];omega
    clear hB hS htok hbn hbq h0 hu;go_enter Tryz.func122,Tryz.ntmps122
    go_wp2_with fail
    refine HN.out.mono ?_;rintro x w1 ⟨rfl,hb⟩;have HP0:=Ph (h.out.below hb);have HB0:=Ph hb;clear hb;obtain⟨y0,y1,y2,y3,y4,y5,y6⟩:=HP0.out.cells;have z2:=HP0.out.frozens 2;have z3:=HP0.out.frozens 3;have hpl:=HP0.out.lt;go_wp2_with fail
    go_ret;rw [E1.out,E2.out];have h1:=HP0.out.setN (s.n+1) t2;exact⟨rfl,(PP.after HB0.out (h1.trans (h1.ps.setDeep (s.deep+1)))).then jM9⟩
 ·have e2:((str tt).toList != (str u).toList)=true:=by rw [hbn,lG hu];rfl
  have e3:((str tt).toList == (str u).toList)=false:=by rw [hbq,lG hu]
  have E1:Hid (zC7 E s u=false):=by show _=_;rw [hB];simp [hu]
  have E2:Hid (zI4 E s u=s):=by show _=_;rw [hS,E1.out];rfl
  clear hB hS htok hbn hbq hu;go_enter Tryz.func122,Tryz.ntmps122
  go_wp2_with fail
  refine HN.out.mono ?_;rintro x w1 ⟨rfl,hb⟩;have HB1:=Ph hb;clear hb;go_wp2_with fail
  go_ret;rw [E1.out,E2.out];exact⟨rfl,PP.below h.out (zG HB1.out _)⟩
theorem zG8 (E:Env) (s:PSt) (e:Nat):(qH E s e).deep=s.deep:=by unfold qH;split <;> rfl
theorem zX5 (E:Env) (s:PSt) (u:List UInt8):(zI E s u).deep=s.deep:=by
 unfold zI;split
 ·rfl
 ·exact zG8 _ _ _
theorem jX7 (p:Nat) (E:Env) (T:TV) (Q:SV) (s:PSt) (u:List UInt8) (w:World) (h:Hid (Ps w p E T Q s)) (hd:okP s=true) :
 Calls Tryz.prog 112 #[uQ p 0,uR u] w fun x w'=>(∃ v,x=.returned v)∧PP w p E T Q (kV E s u) w':=by
 have hO:kV E s u=if zC7 E s u then zI4 E s u else yH (qH E s 300) 1:=rfl
 have hS:zI4 E s u=if zC7 E s u then(if 200≤s.deep then qH E s 301 else yH (zE s) 1) else s:=rfl
 have HE:=Ph (jS9 p E T Q s u w h hd);unfold okP at hd;simp only [lZ,cC]at hd;cases hb:zC7 E s u with
 | true =>
   rw [hb]at hO HE;rw [lM rfl]at hO;rw [←hO]at HE;clear hO hS hb;go_enter Tryz.func112,Tryz.ntmps112
   go_wp2_with fail
   refine HE.out.mono ?_;rintro x w1 ⟨rfl,hp⟩;have HP:=Ph hp;clear hp;go_wp2_with fail
   go_end0
   exact⟨⟨_,rfl⟩,HP.out⟩
 | false =>
   rw [hb]at hO hS HE;rw [lN Ym]at hO hS;rw [hS]at HE;have HO:=Ph hO;have wd:IntKind.i64.wrap (s.deep+1)=s.deep+1:=by rw [lL];omega
   clear hO hS hb;go_enter Tryz.func112,Tryz.ntmps112
   go_wp2_with fail
   refine HE.out.mono ?_;rintro x w1 ⟨rfl,hp⟩;have HP:=Ph hp;have HW:=Ph (zG2 p E T Q s 300 w1 (Ph hp.ps));clear hp;go_wp2_with fail
   refine HW.out.mono ?_;rintro x w2 ⟨⟨v,rfl⟩,hp⟩;have HP2:=Ph (HP.out.trans hp);clear hp;obtain⟨y0,y1,y2,y3,y4,y5,y6⟩:=HP2.out.ps.cells;rw [zG8]at y3;have z3:=HP2.out.ps.frozens 3;go_wp2_with fail
   go_end0
   rw [HO.out];refine⟨⟨_,rfl⟩,HP2.out.trans ?_⟩;have h1:=HP2.out.ps.setDeep (s.deep+1);unfold yH;rw [zG8];exact h1
theorem kF1 (p:Nat) (E:Env) (T:TV) (Q:SV) (s:PSt) (u:List UInt8) (w:World) (h:Hid (Ps w p E T Q s)) (hd:okP s=true) :
 Calls Tryz.prog 113 #[uQ p 0,uR u] w fun x w'=>(∃ v,x=.returned v)∧PP w p E T Q (wN E s u) w':=by
 unfold okP at hd;simp only [lZ,cC]at hd;have wd:IntKind.i64.wrap (s.deep-1)=s.deep-1:=by rw [lL];omega
 have HM:=Ph (jX5 p E T Q s u w h);go_enter Tryz.func113,Tryz.ntmps113
 go_wp2_with fail
 refine HM.out.mono ?_;rintro x w1 ⟨⟨v,rfl⟩,hp⟩;have HP:=Ph hp;clear hp;obtain⟨y0,y1,y2,y3,y4,y5,y6⟩:=HP.out.ps.cells;rw [zX5]at y3;have z3:=HP.out.ps.frozens 3;go_wp2_with fail
 go_end0
 refine⟨⟨_,rfl⟩,HP.out.trans ?_⟩;have h1:=HP.out.ps.setDeep (s.deep-1);unfold wN yH;rw [zX5];exact h1
end
section
open Go.RowKit Go.Shelf
attribute [local go_sem] Oper.semAt_some
def wE (b:Nat) (W:World):Option Nat:=match W.cell? ⟨b,0,none⟩with
 | some v=>v.ownBlock
 | none=>none
structure KpT (b:Nat) (A B:World):Prop where
 size:A.heap.size≤B.heap.size
 keep:∀ (k:Nat) cs t fr,A.heap[k]?=some (.cells cs t fr)→k≠b→k≠b+1→wE b A≠some k→B.heap[k]?=A.heap[k]?
 row:∀ k,wE b B=some k→wE b A=some k∨A.heap.size≤k
 valid:(∀ k,wE b A=some k→k<A.heap.size)→∀ k,wE b B=some k→k<B.heap.size
theorem KpT.refl (b:Nat) (W:World):KpT b W W:=⟨lF _,fun _ _ _ _ _ _ _ _=>rfl,fun k h=>.inl h,fun h=>h⟩
theorem KpT.trans {b:Nat} {A B C:World} (h:KpT b A B) (k:KpT b B C):KpT b A C :=
 ⟨lE h.size k.size,fun j cs t fr hj h1 h2 h3=>by
   have hB:=h.keep j cs t fr hj h1 h2 h3;refine(k.keep j cs t fr (hB.trans hj) h1 h2 (fun e=>?_)).trans hB;rcases h.row j e with h4 | h4
   ·exact h3 h4
   ·have:=zO hj;omega,fun j e=>by
   rcases k.row j e with h4 | h4
   ·exact h.row j h4
   ·exact .inr (lE h.size h4),fun hv=>k.valid (h.valid hv)⟩
theorem zE1 {b:Nat} {A B:World} (h:B.cell? ⟨b,0,none⟩=A.cell? ⟨b,0,none⟩):wE b B=wE b A:=by unfold wE;rw [h]
theorem KpT.below {b:Nat} {A B:World} (h:Below A.heap.size A B) (hb:b<A.heap.size):KpT b A B:=by have hr:wE b B=wE b A:=zE1 (h.cell (p:=⟨b,0,none⟩) hb);exact⟨h.size,fun k cs t fr hk _ _ _=>h.block k (zO hk),fun k e=>.inl (hr▸e),fun hv k e=>lX (hv k (hr▸e)) h.size⟩
theorem KpT.putObj {b:Nat} {cs:Array Value} {t:TypeId} (W:World) (l:Nat) (o o':Obj) (hb:Bk W b t cs∨b<l) (ho:W.heap[l]?=some o) (hc:o.isCells=false):KpT b W (W.putObj l o'):=by
 have hne:∀ k cs t fr,W.heap[k]?=some (.cells cs t fr)→l≠k:=by rintro k cs t fr hk rfl;rw [hk]at ho;injection ho with ho;subst ho;cases hc
 have hbl:l≠b:=by
  rcases hb with hb | hb
  ·exact hne b _ _ _ hb
  ·omega
 have hr:wE b (W.putObj l o')=wE b W:=zE1 (World.cell?_of_block (a:=⟨b,0,none⟩) (by show(W.putObj l o').heap[b]?=_;simp [World.putObj,cP,hbl]));exact⟨by simp [World.putObj],fun k cs t fr hk _ _ _=>by
  have:=hne k _ _ _ hk;simp [World.putObj,cP,this],fun k e=>.inl (hr▸e),fun hv k e=>by
  have:=hv k (hr▸e);simpa [World.putObj]using this⟩
def jN1 (x:Yt):Array Value:=#[kW x.1 x.2.1 x.2.2.1,uI (qZ5 x.2.2.2:Int)]
def jN2 (L pre:List Yt):Prop:=∃ r,pre++r=L
theorem qP5 (t:List UInt8) (f a:Nat):ylT t (f+1) a=kZ t a :: (if (kZ t a).1=0 then [] else ylT t f (kZ t a).2.2.1):=rfl
theorem jX8 (n l tb b:Nat) (s:ByteArray) (U W0:World) (L:List Yt) (hL:Hid (kG s.data.toList=L)) (hs:s.size≤65536) (hn:1≤n) (hbU:b+1<U.heap.size) (hrow:Hid (∀ k,wE b U=some k→k<U.heap.size))
 (hIt:Hid (∀ W,KpT b U W→W.cell? ⟨tb,0,none⟩=some (.string s))) (h00:Hid (KpT b U W0))
 (J Jx:List Yt→World→Prop) (hJ:Hid (∀ pre W W',J pre W→Below W.heap.size W W'→J pre W'))
 (hY:Hid (∀ pre x W,J pre W→pre.length<L.length→YieldAt Fence.wide (n-1) Tryz.prog l (jN1 x) W fun e W' =>
   (e=.returned (.bool true)∧J (pre++[x]) W'∧KpT b W W')∨(e=.returned (.bool false)∧Jx (pre++[x]) W')))
 (h0:Hid (J [] W0)) :
 CallsIn Fence.wide n Tryz.prog 80 #[.func (.yield l) #[] #[],uQ tb 0] W0 fun e W'=>(∃ v,e=.returned v) ∧
  ((∃ ys,ys=L∧J ys W')∨(∃ pre,jN2 L pre∧Jx pre W')):=by
 refine callsIn_of_wp Tryz.func80 rfl trivial ?_ rfl;simp only [Tryz.ntmps80,List.size_toArray,Yc,Yn,Nat.reduceAdd,Nat.reduceSub,Array.replicate_succ,Array.replicate_zero,List.push_toArray,List.append_toArray,cF,lR];gi_wp2
 gi_loopw [3] (fun v3 wr=>∃ (f a:Nat) (pre:List Yt),v3=uI a∧a≤s.size∧s.size+1≤f+a∧Hid (pre++ylT s.data.toList f a=L)∧Hid (J pre wr)∧Hid (KpT b U wr)) (fun v3 _=>s.size+1-(intOf v3).toNat)
 case atStart =>
  refine⟨s.data.toList.length+2,0,[],rfl,lV _,by rw [qK];omega,?_,h0,h00⟩;exact hL
 case round =>
  obtain⟨f,a,pre,rfl,ha,hf,HP,HJ,HK⟩:=hrel;obtain⟨f,rfl⟩:∃ g,f=g+1:=⟨f-1,Yo⟩;have y0:=hIt.out wr HK.out;have HNX:=Ph (kE8 s a wr ha Yo);have hok:=qO8 s.data.toList a (by rw [qK];exact ha);have hP2:=HP.out;rw [qP5]at hP2;obtain⟨⟨k,p,e,bd⟩,hq⟩:∃ q,kZ s.data.toList a=q:=⟨_,rfl⟩;rw [hq]at HNX hok hP2;(try dsimp only at hok hP2);rw [qK]at hok;obtain⟨o1,o2,o3,o4,o5⟩:=hok;have hlen:pre.length<L.length:=by have:=congrArg List.length hP2;simp only [Ya,Yc]at this;omega
  have HPP:=Ph hP2;have hbw:b+1<wr.heap.size:=lX hbU HK.out.size;have hval:=HK.out.valid hrow.out
  have hYY:∀ w1,Below wr.heap.size wr w1→(w1.alloc (.cells #[uB k,uI p,uI e] 44)).heap.size=w1.heap.size+1∧KpT b U (w1.alloc (.cells #[uB k,uI p,uI e] 44))∧(∀ W3,KpT b (w1.alloc (.cells #[uB k,uI p,uI e] 44)) W3→Bk W3 w1.heap.size 44 #[uB k,uI p,uI e]) ∧
   YieldAt Fence.wide (n-1) Tryz.prog l #[.agg #[uB k,uI p,uI e],uI (qZ5 bd:Int)] (w1.alloc (.cells #[uB k,uI p,uI e] 44)) fun e' W' =>
   (e'=.returned (.bool true)∧J (pre++[(k,p,e,bd)]) W'∧KpT b (w1.alloc (.cells #[uB k,uI p,uI e] 44)) W')∨(e'=.returned (.bool false)∧Jx (pre++[(k,p,e,bd)]) W'):=fun w1 h1=>by
   have h2:Below wr.heap.size wr (w1.alloc (.cells #[uB k,uI p,uI e] 44)):=zG h1 _;have h3:Below w1.heap.size w1 (w1.alloc (.cells #[uB k,uI p,uI e] 44)):=zG (lB _ _) _;have hb1:b+1<w1.heap.size:=lX hbw h1.size;have hr1:wE b (w1.alloc (.cells #[uB k,uI p,uI e] 44))=wE b wr:=zE1 (h2.cell (p:=⟨b,0,none⟩) (show b<wr.heap.size by omega));refine⟨Ym,HK.out.trans (KpT.below h2 Yo),fun W3 hW3=>?_,?_⟩
   ·have hnew:Bk (w1.alloc (.cells #[uB k,uI p,uI e] 44)) w1.heap.size 44 #[uB k,uI p,uI e]:=Bk.new _ _ _;refine(hW3.keep w1.heap.size _ _ _ hnew Yo Yo (fun hr=>?_)).trans hnew;rw [hr1]at hr;have:=hval _ hr;have:=h1.size;omega
   ·exact hY.out pre (k,p,e,bd) _ (hJ.out pre _ _ HJ.out h2) hlen
  have HYY:=Ph hYY;clear hYY hval hP2 hq HP HJ;dsimp only [zW7,kW]at HNX;gi_wp2_with (refine⟨trivial,?_⟩;gi_at_call 81;refine(callsIn_wide.2 HNX.out).mono ?_;rintro e' w1 ⟨rfl,hb1⟩;obtain⟨q1,q2,q3,fn,tmps,assign,body,hy,hRn⟩:=HYY.out w1 hb1;have HQ2:=Ph q2;have HQ3:=Ph q3;have HRn:=Ph hRn;clear hb1 q2 q3 hRn y0)
  gi_wp2
  refine HRn.out.mono ?_;clear hy;rintro e3 W3 (⟨rfl,hJ3,hk3⟩ | ⟨rfl,hJx3⟩)
  ·have hbx:=HQ3.out W3 hk3;have HK3:=Ph (HQ2.out.trans hk3);have HJ3:=Ph hJ3;obtain⟨x0,x1,x2⟩:=zJ hbx;clear hJ3 hk3 hbx HRn HQ3 HYY HQ2 HK HNX;by_cases hk0:k=0
   ·subst hk0;have HALL:Hid (pre++[(0,p,e,bd)]=L):=by have h1:=HPP.out;rw [lM rfl]at h1;exact h1
    clear HPP;gi_wp2
    refine lK (results_none rfl _ _ _) rfl ?_;exact⟨⟨_,rfl⟩,.inl ⟨_,HALL.out,HJ3.out⟩⟩
   ·have ek:((k:Int) == 0)=false:=by simp;omega
    have HPQ:Hid ((pre++[(k,p,e,bd)])++ylT s.data.toList f e=L):=by have h1:=HPP.out;rw [lN hk0]at h1;rw [lS];exact h1
    have he:=o4 hk0;clear HPP;gi_wp2
    go_roundw
    case rel=>exact⟨f,e,_,rfl,Yo,Yo,HPQ,HJ3,HK3⟩
    case measure=>simp [intOf];omega
  ·have HP3:Hid (jN2 L (pre++[(k,p,e,bd)])):=⟨_,(lS _ _ _).trans HPP.out⟩;have HJX:=Ph hJx3;clear hJx3 HRn HQ3 HYY HQ2 HK HNX HPP;gi_wp2
   refine lK (results_none rfl _ _ _) rfl ?_;exact⟨⟨_,rfl⟩,.inr ⟨_,HP3.out,HJX.out⟩⟩
theorem kM2 (s:ByteArray) (w:World):Calls Tryz.prog 41 #[.string s] w fun e w'=>e=.returned (.func (.func 80) #[] #[uQ w.heap.size 0])∧w.alloc (.cells #[.string s] 9)=w':=by
 go_enter Tryz.func41,Tryz.ntmps41
 go_wp2
 go_ret;exact⟨rfl,rfl⟩
theorem jX9 (n tb b:Nat) (s:ByteArray) (U:World) (L:List Yt) (hL:kG s.data.toList=L) (hs:s.size≤65536) (hn:1≤n) (hbU:b+1<U.heap.size) (hrow:∀ k,wE b U=some k→k<U.heap.size)
 (hIt:∀ W,KpT b U W→W.cell? ⟨tb,0,none⟩=some (.string s)) :
 SeqStopsK Fence.wide n Tryz.prog 80 #[uQ tb 0] jN1 (KpT b) (fun ys=>ys=L) (jN2 L) L.length U:=by
 intro l J Jx W hW hJ _ hY h0
 exact jX8 n l tb b s U W L (Ph hL) hs hn hbU (Ph hrow) (Ph hIt) (Ph (KpT.below hW Yo)) J Jx
  (Ph fun pre W1 W2 hj hb=>hJ pre W1 W2 none hj ⟨hb.os,hb.tape,hb.output,hb.size,fun k hk _=>hb.block k hk⟩ (fun r e=>by cases e)) (Ph hY) (Ph h0)
end
section
open Go.RowKit Go.Shelf
attribute [local go_sem] Oper.semAt_some
theorem qE6 {P:Program} {F:Fence} {nF:Nat} {t e:TypeId} {size:Nat} {w:World} {ops:Array Oper} {rest:List Oper} {o:Oper} {a:Act} {Q:Exit→Act→World→Prop} (E:El P t e size) (hgd:o.guard=none) (s x:Operand) (ho:o.op=.call { callee:=.builtin .append,args:=#[s,x],argTypes:=#[t,t] })
 (base:Nat) (v:Value) (n:Nat) (xs:List Value) (hs:a.eval s=v) (hown:w.ownsRow base e size v n xs)
 (A:Option Addr) (m c:Nat) (news:List Value) (hx:a.eval x=.slice A m c) (hr:Rd w A news) (hl:news.length=m*size) (h1:∀ u∈news,u.oneCell'=true) (hnm:n+m≤1000000000) (hbase:base≤w.heap.size)
 (h:∀ A' c' w',w'.ownsRow base e size (.slice A' (n+m) c') (n+m) (xs++news)→w.grownBy w' v.ownBlock→((Value.slice A' (n+m) c').ownBlock=v.ownBlock∨(Value.slice A' (n+m) c').ownBlock=some w.heap.size)→wpListIn F nF P ops Q rest (a.put o.dst (.slice A' (n+m) c')) w'):wpListIn F nF P ops Q (o :: rest) a w:=by
 refine wpListIn_plain hgd fun K hK=>?_;obtain⟨A',c',w',hrun,h2,h3,h4⟩:=zG6 (P:=P) E o.type base v n xs hown A m c news hr hl h1 hnm hbase;unfold Oper.wpIn;refine⟨by simp [Oper.about,ho,resolve,Target.leads,Sem.run_pure],?_⟩;rw [Oper.semAt_plain F _ _ (by rw [ho];intro c hc';cases hc')];simp [execOp,ho,resolve,invoke,builtin,hs,hx,hrun,Result.andThen];exact hK _ _ (h A' c' w' h2 h3 h4)
theorem wP (W:World) (D:Nat) (o:Obj):Fr (fun q=>q=D) W (W.putObj D o):=by refine⟨rfl,rfl,rfl,by simp [World.putObj],fun k _ hk=>?_⟩;simp [World.putObj,cP];omega
theorem kF2:El Tryz.prog 39 44 3:=El.mk' (z:=.agg #[uB 0,uI 0,uI 0]) (bytes:=24) Tryz.underlying39 Yk rfl Yo Yo
theorem qF {W:World} {B:Nat} {e:TypeId} {size n:Nat} {v:Value} {xs:List Value} (h:W.ownsRow B e size v n xs):∀ k,v.ownBlock=some k→B≤k∧∃ cs,Bk W k e cs:=by
 intro k hk;rcases h.2 with⟨rfl,_⟩ | ⟨g,cap,cur,rfl,hB,hh,_⟩
 ·simp [Value.ownBlock]at hk
 ·obtain rfl:g=k:=by simpa [Value.ownBlock]using hk
  exact⟨hB,cur,hh⟩
theorem zM4 (t:List UInt8) (pre:List Yt) (x:Yt):zY t (pre++[x])=zY t pre++(if x.1=0 then [] else [tkY t x]):=by
 unfold zY;rw [List.filter_append,cB];congr 1;by_cases h:x.1=0
 ·simp [h]
 ·simp [h]
structure PScan (w U:World) (b:Nat) (t:List UInt8) (pre:List Yt) (W:World):Prop where
 out:∃ A c,Bk W b 39 #[.slice A (zY t pre).length c]∧W.ownsRow (b+3) 44 3 (.slice A (zY t pre).length c) (zY t pre).length ((zY t pre).flatMap zQ1)
 wrong:Bk W (b+1) 3 #[uI (-1)]
 kp:KpT b U W
 bel:Below w.heap.size w W
 good:∀ x∈pre,x.2.2.2=false
theorem KpT.grownNC {b:Nat} {W W':World} {row:Option Nat} {cs:Array Value} {t:TypeId} (hb:Bk W b t cs) (hg:W.grownBy W' row) (hr:∀ r,row=some r→∃ o:Obj,W.heap[r]?=some o∧o.isCells=false):KpT b W W':=by
 have nc:∀ {k:Nat} {t:TypeId} {cs:Array Value} {fr:Nat×Nat},W.heap[k]?=some (.cells cs t fr)→¬some k=row:=fun hk e=>by obtain⟨o,ho,hc⟩:=hr _ e.symm;rw [hk]at ho;injection ho with ho;subst ho;cases hc
 have hrr:wE b W'=wE b W:=zE1 (World.cell?_of_block (a:=⟨b,0,none⟩) (hg.block b hb.lt (nc hb)));exact⟨hg.size,fun k cs t fr hk _ _ _=>hg.block k (zO hk) (nc hk),fun k e=>.inl (hrr▸e),fun hv k e=>lX (hv k (hrr▸e)) hg.size⟩
section
variable {w U W W':World} {b:Nat} {t:List UInt8} {pre:List Yt}
theorem PScan.lt (h:PScan w U b t pre W):b+1<W.heap.size:=h.wrong.lt
theorem PScan.below (h:PScan w U b t pre W) (hb:Below W.heap.size W W'):PScan w U b t pre W':=by have hlt:=h.lt;obtain⟨⟨A,c,h1,h1'⟩,h2,h3,h4,h5⟩:=h;exact⟨⟨A,c,zD h1 hb,jP (F:=fun _=>False) h1' (Fr.of_below hb) (fun _ _ h=>h)⟩,zD h2 hb,h3.trans (KpT.below hb Yo),zU h4 hb,h5⟩
theorem PScan.own {row:Option Nat} (h:PScan w U b t pre W) (hwU:w.heap.size≤U.heap.size) (hg:W.grownBy W' row) (hr:∀ r,row=some r→U.heap.size≤r∧∃ o:Obj,W.heap[r]?=some o∧o.isCells=false):PScan w U b t pre W':=by
 have hlt:=h.lt;obtain⟨⟨A,c,h1,h1'⟩,h2,h3,h4,h5⟩:=h;have nc:∀ {k:Nat} {t:TypeId} {cs:Array Value} {fr:Nat×Nat},W.heap[k]?=some (.cells cs t fr)→¬row=some k:=fun hk e=>by obtain⟨_,o,ho,hc⟩:=hr _ e;rw [hk]at ho;injection ho with ho;subst ho;cases hc
 have hf:Fr (fun k=>row=some k) W W':=(Fr.refl _ W).grown hg (fun k hk=>.inl hk);refine⟨⟨A,c,h1.fr hf (nc h1),jP h1' hf (fun k hk=>?_)⟩,h2.fr hf (nc h2),h3.trans (KpT.grownNC h1 hg (fun r e=>(hr r e).2)),h4.grown hg (lE hwU h3.size) (fun k hk=>by have:=(hr k hk).1;omega),h5⟩;obtain⟨_,cs,hk2⟩:=qF h1' k hk;exact nc hk2
theorem PScan.push {x:Yt} {A:Option Addr} {c:Nat} {A':Option Addr} {c':Nat} {W5:World} (h:PScan w U b t pre W) (hwb:w.heap.size≤b) (hx:x.2.2.2=false) (hk:x.1≠0)
 (h1:Bk W b 39 #[.slice A (zY t pre).length c]) (h1':W.ownsRow (b+3) 44 3 (.slice A (zY t pre).length c) (zY t pre).length ((zY t pre).flatMap zQ1))
 (hg:(W.alloc (.cells #[uB x.1,uI x.2.1,uI x.2.2.1] 44)).grownBy W5 (Value.slice A (zY t pre).length c).ownBlock)
 (hw:W5.ownsRow (b+3) 44 3 (.slice A' ((zY t pre).length+1) c') ((zY t pre).length+1) ((zY t pre).flatMap zQ1++[uB x.1,uI x.2.1,uI x.2.2.1]))
 (hat:(Value.slice A' ((zY t pre).length+1) c').ownBlock=(Value.slice A (zY t pre).length c).ownBlock∨(Value.slice A' ((zY t pre).length+1) c').ownBlock=some (W.alloc (.cells #[uB x.1,uI x.2.1,uI x.2.2.1] 44)).heap.size) :
 PScan w U b t (pre++[x]) (W5.setCell ⟨b,0,none⟩ (.slice A' ((zY t pre).length+1) c'))∧KpT b W (W5.setCell ⟨b,0,none⟩ (.slice A' ((zY t pre).length+1) c'))∧KeepsOthers W (W5.setCell ⟨b,0,none⟩ (.slice A' ((zY t pre).length+1) c')):=by
 have hlt:=h.lt;have hba:Below W.heap.size W (W.alloc (.cells #[uB x.1,uI x.2.1,uI x.2.2.1] 44)):=zG (lB _ _) _;have h1a:=zD h1 hba;have h2a:=zD h.wrong hba;have hwa:(W.alloc (.cells #[uB x.1,uI x.2.1,uI x.2.2.1] 44)).ownsRow (b+3) 44 3 (.slice A (zY t pre).length c) (zY t pre).length ((zY t pre).flatMap zQ1):=jP (F:=fun _=>False) h1' (Fr.of_below hba) (fun _ _ h=>h);have h15:Bk W5 b 39 #[.slice A (zY t pre).length c]:=h1a.grown hg (yR hwa h1a Yd);have h25:Bk W5 (b+1) 3 #[uI (-1)]:=h2a.grown hg (yR hwa h2a Yd);have h16:=h15.put 0 (.slice A' ((zY t pre).length+1) c');have hr0:wE b W=(Value.slice A (zY t pre).length c).ownBlock:=by unfold wE;rw [show W.cell? ⟨b,0,none⟩=some (.slice A (zY t pre).length c) from h1.cell 0]
 have hr6:wE b (W5.setCell ⟨b,0,none⟩ (.slice A' ((zY t pre).length+1) c'))=(Value.slice A' ((zY t pre).length+1) c').ownBlock:=by unfold wE;rw [show(W5.setCell ⟨b,0,none⟩ (.slice A' ((zY t pre).length+1) c')).cell? ⟨b,0,none⟩=some (.slice A' ((zY t pre).length+1) c') from h16.cell 0]
 have hlen:(zY t (pre++[x])).length=(zY t pre).length+1:=by rw [zM4,lN hk,Ya];rfl
 have hK:KpT b W (W5.setCell ⟨b,0,none⟩ (.slice A' ((zY t pre).length+1) c')):=by
  refine⟨?_,fun k cs ty fr hk h0 h0' hrow=>?_,fun k e=>?_,fun hv k e=>?_⟩
  ·have:=hg.size;simp [World.setCell]at this ⊢;omega
  ·refine(Below.heap_setCell W5 ⟨b,0,none⟩ _ k (fun e=>h0 e)).trans ((hg.block k (lX (zO hk) hba.size) (fun e=>?_)).trans (hba.block k (zO hk)));exact hrow (hr0.trans e.symm)
  ·rw [hr6]at e;rcases hat with h' | h'
   ·exact .inl (hr0.trans (h'.symm.trans e))
   ·rw [h']at e;injection e with e;exact .inr (by rw [←e];simp)
  ·rw [hr6]at e;obtain⟨_,cs,h3⟩:=qF hw k e;have:=h3.lt;simpa [World.setCell]using this
 refine⟨⟨⟨A',c',?_,?_⟩,?_,h.kp.trans hK,?_,fun y hy=>?_⟩,hK,?_⟩
 ·rw [hlen];exact h16
 ·rw [hlen,zM4,lN hk,List.flatMap_append];exact jP hw ((Fr.refl (fun k=>k=b) W5).setCell (p:=⟨b,0,none⟩) (.inl rfl) _) (fun k hk e=>by have:=(qF hw k hk).1;omega)
 ·exact h25.far (p:=⟨b,0,none⟩) (by show b+1≠b;omega) _
 ·refine Below.setCell (p:=⟨b,0,none⟩) ((zU h.bel hba).grown hg ?_ (fun k hk=>?_)) hwb _
  ·have:=(zU h.bel hba).size;exact this
  ·have:=(qF hwa k hk).1;omega
 ·rcases List.mem_append.1 hy with hy | hy
  ·exact h.good y hy
  ·rw [cQ.1 hy];exact hx
 ·refine((KeepsOthers.alloc _ _).trans (KeepsOthers.of_grownBy hg (fun j o hj hh=>?_))).trans (KeepsOthers.setCell _ _ _);obtain⟨_,cs,h3⟩:=qF hwa j hj;have h4:(W.alloc (.cells #[uB x.1,uI x.2.1,uI x.2.2.1] 44)).heap[j]?=_:=h3;rw [h4]at hh;injection hh with hh;subst hh;rfl
theorem PScan.skip {x:Yt} (h:PScan w U b t pre W) (hx:x.2.2.2=false) (hk:x.1=0):PScan w U b t (pre++[x]) W:=by
 have e:zY t (pre++[x])=zY t pre:=by rw [zM4,lM hk,cT]
 obtain⟨h1,h2,h3,h4,h5⟩:=h;refine⟨by rw [e];exact h1,h2,h3,h4,fun y hy=>?_⟩;rcases List.mem_append.1 hy with hy | hy
 ·exact h5 y hy
 ·rw [cQ.1 hy];exact hx
end
def PXs (id:Nat) (w U:World) (b:Nat) (t:List UInt8) (c:Code) (pre:List Yt) (W:World):Prop:=c=.exit id∧∃ pre' x,pre=pre'++[x]∧(∀ y∈pre',y.2.2.2=false)∧x.2.2.2=true∧Bk W (b+1) 3 #[uI x.2.1]∧Below w.heap.size w W
def kF3 (tm:Array Value) (p:Nat) (x:Yt):Array Value:=(((tm.setIfInBounds 14 (kW x.1 x.2.1 x.2.2.1)).setIfInBounds 15 (uI (qZ5 x.2.2.2:Int))).setIfInBounds 7 (uQ p 0)).setIfInBounds 8 (uI (qZ5 x.2.2.2:Int))
def AxT (tm:Array Value) (x:Yt) (a':Act) (W:World):Prop:=∃ p,a'=⟨kF3 tm p x,[]⟩∧Bk W p 44 #[uB x.1,uI x.2.1,uI x.2.2.1]
theorem jC1 {tm:Array Value} {assign body:Code} {g:Operand} {Q:Exit→Act→World→Prop} (id m b:Nat) (s:ByteArray) (w U:World) (L:List Yt) (hL:kG s.data.toList=L) (hs:s.size≤65536)
 (hg:(Act.mk tm []).eval g=.func (.func 80) #[] #[.pointer (some ⟨b+2,0,none⟩)]) (hm:3≤m) (hbU:b+2<U.heap.size) (hwU:w.heap.size≤U.heap.size)
 (htx:Bk U (b+2) 9 #[.string s]) (hU0:Bk U b 39 #[uN]) (h0:PScan w U b s.data.toList [] U)
 (hassign:∀ (l:Nat) (x:Yt) (W:World) (K:Act→World→Prop),K ⟨kF3 tm W.heap.size x,[]⟩ (W.alloc (.cells #[uB x.1,uI x.2.1,uI x.2.2.1] 44))→assign.wpIn (Fence.wide.inRound l) (m-1-1) Tryz.prog (Exit.then K (fun _ _ _=>False)) { tmps:=(tm.setIfInBounds 14 (kW x.1 x.2.1 x.2.2.1)).setIfInBounds 15 (uI (qZ5 x.2.2.2:Int)),defers:=[] } W)
 (hbody:∀ (l:Nat) (pre:List Yt) (x:Yt) (p:Nat) (W:World),PScan w U b s.data.toList pre W→Bk W p 44 #[uB x.1,uI x.2.1,uI x.2.2.1]→pre.length<L.length →
   body.wpIn (Fence.wide.inRound l) (m-1-1) Tryz.prog (ownPostG U.heap.size (KpT b) (PScan w U b s.data.toList) (PXs id w U b s.data.toList) (pre++[x]) W) ⟨kF3 tm p x,[]⟩ W)
 (hdone:∀ (D:Nat) (W:World),U.heap.size≤D→PScan w U b s.data.toList L W→W.heap[D]?=some (.deferred (some []))→Q .normal { tmps:=tm,defers:=[{ target:=.collected D,args:=#[] }] } W)
 (hstop:∀ (D:Nat) (pre:List Yt) (W:World),U.heap.size≤D→jN2 L pre→PXs id w U b s.data.toList (.exit id) pre W→W.heap[D]?=some (.deferred (some []))→(Code.exit id).wpIn Fence.wide m Tryz.prog Q { tmps:=tm,defers:=[{ target:=.collected D,args:=#[] }] } W) :
 (Code.rangeFunc g #[14,15] assign body).wpIn Fence.wide m Tryz.prog Q ⟨tm,[]⟩ U:=by
 have hrow:wE b U=none:=by unfold wE;rw [show U.cell? ⟨b,0,none⟩=some (uN) from hU0.cell 0];rfl
 refine wpIn_rangeFunc_ownH (α:=Yt) rfl Yo hg trivial (enters_of Tryz.func80 Yk rfl)
  (jX9 (m-1) (b+2) b s U L hL hs Yo Yo (fun k e=>by rw [hrow]at e;cases e) (fun W hk=>by refine(World.cell?_of_block (a:=⟨b+2,0,none⟩) (hk.keep (b+2) _ _ _ htx Yo Yo (by rw [hrow];exact fun e=>by cases e))).trans (htx.cell 0))) (fun h k=>h.trans k)
  (fun W l o o' hl ho hc _=>KpT.putObj (cs:=#[]) (t:=0) W l o o' (.inr Yo) ho hc) (lB _ _) (fun _=>rfl)
  (PScan w U b s.data.toList) (PXs id w U b s.data.toList) (fun s W W' row h hg hr=>h.own hwU hg hr) (fun c' s W W' row h hg hr=>by
    obtain⟨h1,pre',x,h2,h3,h4,h5,h6⟩:=h;have nc:¬row=some (b+1):=fun e=>by obtain⟨_,o,ho,hc⟩:=hr _ e;have h7:W.heap[b+1]?=_:=h5;rw [h7]at ho;injection ho with ho;subst ho;cases hc
    exact⟨h1,pre',x,h2,h3,h4,h5.fr ((Fr.refl (fun k=>row=some k) W).grown hg (fun k hk=>.inl hk)) nc,h6.grown hg h6.size (fun k hk=>by have:=(hr k hk).1;omega)⟩) h0
  (AxT tm)
  (fun x a' u W W' row h hg hr=>by
    obtain⟨p,h1,h2⟩:=h;have nc:¬row=some p:=fun e=>by obtain⟨_,o,ho,hc⟩:=hr _ e;have h7:W.heap[p]?=_:=h2;rw [h7]at ho;injection ho with ho;subst ho;cases hc
    exact⟨p,h1,h2.fr ((Fr.refl (fun k=>row=some k) W).grown hg (fun k hk=>.inl hk)) nc⟩) ?_ ?_ ?_ ?_
 ·intro l pre x W K hi hK;have hb:Below W.heap.size W (W.alloc (.cells #[uB x.1,uI x.2.1,uI x.2.2.1] 44)):=zG (lB _ _) _;have h9:=hassign l x W K (hK _ _ ((KeepsOthers.alloc _ _).from _) (KpT.below hb (by have:=hi.lt;omega)) (hi.below hb) ⟨_,rfl,Bk.new _ _ _⟩);have e:((#[14,15]:Array Tmp).zip (jN1 x)).foldl (fun t (q:Tmp×Value)=>t.setIfInBounds q.1 q.2) tm=(tm.setIfInBounds 14 (kW x.1 x.2.1 x.2.2.1)).setIfInBounds 15 (uI (qZ5 x.2.2.2:Int)):=by simp [jN1]
  rw [←e]at h9;exact h9
 ·rintro l pre x a' W _ _ hi ⟨p,rfl,hp⟩ hlt;exact hbody l pre x p W hi hp hlt
 ·intro D xs W hD hS hi hK;subst hS;exact hdone D W hD hi hK
 ·intro D c' pre W hD hY h hK;obtain⟨rfl,h2⟩:=h;exact hstop D pre W hD hY ⟨rfl,h2⟩ hK
def jN3 (w:World) (t:List UInt8) (e:Ending) (w':World):Prop :=
 Below w.heap.size w w'∧((∃ a,zI3 (kG t)=some a∧e=.returned (.tuple #[uN,uI a,uI 280])) ∨
  (zI3 (kG t)=none∧∃ A c,e=.returned (.tuple #[.slice A (zY t (kG t)).length c,uI t.length,uI 0])∧RdT w' A 44 ((zY t (kG t)).flatMap zQ1)))
theorem jN4 (s:ByteArray) (w:World) (hs:s.size≤65536):Calls Tryz.prog 10 #[.string s] w (jN3 w s.data.toList):=by
 have e1:decide ((65536:Int)<(s.size:Int))=false:=Yp;have hi65:(s.size:Int)≤65536:=Yo;have HB0:Hid (Below w.heap.size w (((w.alloc (.cells #[uN] 39)).alloc (.cells #[uI (-1)] 3)).alloc (.cells #[.string s] 9))):=zG (zG (zG (lB _ _) _) _) _;have HK0:=Ph (((Bk.new w 39 #[uN]).alloc (.cells #[uI (-1)] 3)).alloc (.cells #[.string s] 9));have HK1:=Ph ((Bk.new (w.alloc (.cells #[uN] 39)) 3 #[uI (-1)]).alloc (.cells #[.string s] 9));have HK2:=Ph (Bk.new ((w.alloc (.cells #[uN] 39)).alloc (.cells #[uI (-1)] 3)) 9 #[.string s]);have HU3:Hid ((((w.alloc (.cells #[uN] 39)).alloc (.cells #[uI (-1)] 3)).alloc (.cells #[.string s] 9)).heap.size=w.heap.size+3):=by show _=_;simp
 refine(callsIn_wide (n:=6)).1 ?_;refine callsIn_of_wp_marks Tryz.func10 rfl trivial ?_ rfl;simp only [Tryz.ntmps10,List.size_toArray,Yc,Yn,Nat.reduceAdd,Nat.reduceSub,Array.replicate_succ,Array.replicate_zero,List.push_toArray,List.append_toArray,cF,lR];refine wpIn_wide.2 ?_;go_wp2_with fail
 go_step3
 go_wp2_with fail
 go_step3
 go_wp2_with fail
 refine(kM2 s _).mono ?_;rintro e w' ⟨rfl,rfl⟩;have hsz:((w.alloc (.cells #[uN] 39)).alloc (.cells #[uI (-1)] 3)).heap.size=w.heap.size+2:=Ym;have hsz1:(w.alloc (.cells #[uN] 39)).heap.size=w.heap.size+1:=Ym;rw [hsz]at HK2 ⊢;rw [hsz1]at HK1;clear hsz hsz1;generalize ((World.alloc _ _))=U at *;obtain⟨b,hb⟩:∃ b,w.heap.size=b:=⟨_,rfl⟩;have HBW:=Ph hb;rw [hb]at HK0 HK1 HK2 HU3 ⊢;clear hb;have hbU:b+2<U.heap.size:=by have:=HU3.out;omega
 have hbe:b+3=U.heap.size:=HU3.out.symm;obtain⟨L,hL⟩:∃ L,kG s.data.toList=L:=⟨_,rfl⟩;have HL:=Ph hL;have hLl:L.length≤s.size+2:=by
  have:∀ (t:List UInt8) (f a:Nat),(ylT t f a).length≤f:=by
   intro t f;induction f with
   | zero=>intro a;exact lF _
   | succ f ih =>
     intro a;rw [qP5,Yc];split
     ·simp
     ·have:=ih (kZ t a).2.2.1;omega
  rw [←hL];have h1:=this s.data.toList (s.data.toList.length+2) 0;rw [qK]at h1;exact h1
 clear hL;go_wp2_with fail
 refine(wpIn_wide (n:=6)).1 ?_;refine jC1 0 6 b s w U L HL.out hs rfl Yo hbU (by have:=HBW.out;omega) HK2.out HK0.out ?hI0 ?hassign ?hbody ?hdone ?hstop
 case hI0=>exact⟨⟨none,0,HK0.out,World.ownsRow_nil _ _ _ _⟩,HK1.out,KpT.refl _ _,HBW.out▸HB0.out,fun _ h=>by cases h⟩
 case hassign =>
  intro l x W K hK;unfold kF3 at hK;simp only [List.setIfInBounds_toArray,List.set_cons_succ,List.set_cons_zero]at hK;go_frame;unfold kW at hK ⊢;gi_wp2
  exact hK
 case hbody =>
  intro l pre x p W hi hp hlt;obtain⟨k,pl,en,bd⟩:=x;obtain⟨x0,x1,x2⟩:=zJ hp;have HI:=Ph hi;have hbW:=hi.lt;obtain⟨A,c,hA,hown⟩:=hi.out;have y0:W.cell? ⟨b,0,none⟩=some (.slice A (zY s.data.toList pre).length c):=hA.cell 0;have yf:=hA.frozen 0;have z1:=hi.wrong.cell 0;have zf:=hi.wrong.frozen 0;have HA:=Ph hA;have HOWN:=Ph hown;clear hi hA hown hp;unfold kF3;simp only [List.setIfInBounds_toArray,List.set_cons_succ,List.set_cons_zero];(try dsimp only at x0 x1 x2 ⊢);dsimp only [kW];cases bd with
  | true =>
    have hw9:Bk (W.setCell ⟨b+1,0,none⟩ (uI pl)) (b+1) 3 #[uI pl]:=HI.out.wrong.put 0 _;have hb9:Below w.heap.size w (W.setCell ⟨b+1,0,none⟩ (uI pl)):=HI.out.bel.setCell (p:=⟨b+1,0,none⟩) (by have:=HBW.out;show w.heap.size≤b+1;omega) _;have HW9:=Ph hw9;have HB9:=Ph hb9;clear hw9 hb9;have ee:((qZ5 true:Nat):Int)=280:=rfl;rw [ee];gi_wp2
    refine⟨(KeepsOthers.setCell _ _ _).from _,rfl,pre,_,rfl,HI.out.good,rfl,HW9.out,HB9.out⟩
  | false =>
    have ee:((qZ5 false:Nat):Int)=0:=rfl;rw [ee];by_cases hk:k=0
    ·subst hk;gi_wp2
     exact⟨(KeepsOthers.refl _).from _,KpT.refl _ _,HI.out.skip rfl rfl⟩
    ·have ek:((k:Int) != 0)=true:=by simp;omega
     have hn9:(zY s.data.toList pre).length≤100000:=by
      have h1:(zY s.data.toList pre).length≤pre.length:=by unfold zY;rw [lW];exact List.length_filter_le _ _
      omega
     have hbW2:b+3≤W.heap.size:=by have:=HI.out.kp.size;omega
     have hwb9:w.heap.size≤b:=by have:=HBW.out;omega
     have HRD:=Ph (Rd.new W #[uB k,uI pl,uI en] 44);have HOA:=Ph (HOWN.out.alloc (.cells #[uB k,uI pl,uI en] 44));have HON:=Ph (yR HOA.out (HA.out.alloc (.cells #[uB k,uI pl,uI en] 44)) Yd);have HAA:=Ph (HA.out.alloc (.cells #[uB k,uI pl,uI en] 44));have hbb:b+3≤(W.alloc (.cells #[uB k,uI pl,uI en] 44)).heap.size:=Yp;have HBB:=Ph hbb;have HN9:=Ph (show(zY s.data.toList pre).length+1≤1000000000 by omega);clear hbb;gi_wp2_with (gi_at_builtin;refine qE6 kF2 rfl (.tmp 23) (.tmp 25) rfl (b+3) (.slice A (zY s.data.toList pre).length c) (zY s.data.toList pre).length ((zY s.data.toList pre).flatMap zQ1) rfl HOA.out (some ⟨W.heap.size,0,none⟩) 1 1 [uB k,uI pl,uI en] rfl HRD.out rfl (fun u hu=>by simp at hu;rcases hu with rfl | rfl | rfl <;> rfl) HN9.out HBB.out ?_;intro A2 c2 w5 hown1 hgr1 hat1;have Ho1:=Ph hown1;have Hg1:=Ph hgr1;have Ha1:=Ph hat1;have hq1:=HAA.out.grown hgr1 HON.out;have q0:=hq1.cell 0;have qf:=hq1.frozen 0;clear hown1 hgr1 hat1 hq1)
     obtain⟨p1,p2,p3⟩:=HI.out.push (x:=(k,pl,en,false)) hwb9 rfl hk HA.out HOWN.out Hg1.out Ho1.out Ha1.out;exact⟨p3.from _,p2,p1⟩
 case hdone =>
  intro D W hD hi hK;obtain⟨A,c,hA,hown⟩:=hi.out;have z1:=hi.wrong.cell 0;have y0:=hA.cell 0;have hgood:=hi.good;have HLL:=HL.out;have E:Hid (zI3 (kG s.data.toList)=none):=by
   show _=_;unfold zI3;rw [HLL];cases hf:L.find? (fun y=>y.2.2.2)with
   | none=>rfl
   | some y =>
     have h1:=List.find?_some hf;rw [hgood y (List.mem_of_find?_eq_some hf)]at h1;cases h1
  have HOWN:=Ph hown;have HB:=Ph hi.bel;have hDd:=hK;have hr:=RdT.of_own hown;have hf:=wP W D (.deferred none);have hk2:Keeps 44 W (W.putObj D (.deferred none)):=Keeps.fr hf (fun k cs fr hk e=>by subst e;rw [hk]at hDd;cases hDd);have HR:=Ph (hr.keeps hk2);have HBF:Hid (Below w.heap.size w (W.putObj D (.deferred none))):=HB.out.trans (hf.below w.heap.size HB.out.size (fun k hk e=>by have:=HB0.out.size;omega));have HDD:=Ph hDd;rw [←HLL]at y0 HR;clear hi hA hown hgood hr hf hk2 hDd;go_wp2_with fail
  rw [Exit.noGoto_ret];have hsl:=qK s;refine⟨Ym,.inl ⟨D,_,rfl,run_takeDeferred HDD.out,⟨.tuple #[.slice A (zY s.data.toList (kG s.data.toList)).length c,uI s.size,uI 0],by simp [results,Tryz.results10,go_sem,HLL],HBF.out,.inr ⟨E.out,A,c,?_,HR.out⟩⟩⟩⟩;rw [hsl]
 case hstop =>
  intro D pre W hD hY hx hK;obtain⟨_,pre',x,h2,h3,h4,h5,h6⟩:=hx;obtain⟨r,hr⟩:=hY;have E:Hid (zI3 (kG s.data.toList)=some x.2.1):=by show _=_;unfold zI3;rw [HL.out,←hr,h2,lS,List.find?_append];have h0:pre'.find? (fun y=>y.2.2.2)=none:=List.find?_eq_none.2 (fun y hy=>by rw [h3 y hy];simp);rw [h0,lR,List.find?_cons_of_pos (by exact h4)];rfl
  have z1:=h5.cell 0;have HB:=Ph h6;have HBF:Hid (∀ n,Below w.heap.size w ((W.drewN n).putObj D (.deferred none))):=fun n=>(jA1 HB.out n).trans ((wP (W.drewN n) D (.deferred none)).below w.heap.size HB.out.size (fun k hk e=>by have:=HB0.out.size;omega));have hDd:∀ n,(W.drewN n).heap[D]?=some (.deferred (some [])):=fun _=>hK;have HDD:=Ph hDd;have e3:decide ((0:Int)≤(x.2.1:Int))=true:=Ym;clear h2 h3 h4 h5 h6 hDd hr;gi_wp2
  go_upto_region 13 with fail
  go_quiet (fail)
  go_wp2_with fail
  rw [Exit.noGoto_ret];refine⟨Ym,.inl ⟨D,_,rfl,run_takeDeferred (w:=W.drewN _) (HDD.out _),⟨.tuple #[uN,uI x.2.1,uI 280],by simp [results,Tryz.results10,go_sem],HBF.out _,.inl ⟨_,E.out,rfl⟩⟩⟩⟩
end
section
open Go.RowKit Go.PlainAid
theorem zB {w:World} {o:Obj}:Below w.heap.size w (w.alloc o):=zG (lB _ _) _
def yO (x:Nd) (S Q:SV):Value:=.agg (jW9 x S Q).toArray
theorem kF4:El Tryz.prog 29 31 6:=El.mk' (z:=.agg uZ) (bytes:=56) Tryz.underlying29 Yk rfl Yo Yo
theorem jN5:El Tryz.prog 45 3 1:=El.mk' (z:=uI 0) (bytes:=8) Tryz.underlying45 Yk rfl Yo Yo
theorem qL {w:World} {g:Nat} {t:TypeId} {u0 u1 u2 u3 u4 u5 u6:Value} (h:Bk w g t #[u0,u1,u2,u3,u4,u5,u6]):w.cell? ⟨g,0,none⟩=some u0∧w.cell? ⟨g,1,none⟩=some u1∧w.cell? ⟨g,2,none⟩=some u2∧w.cell? ⟨g,3,none⟩=some u3∧w.cell? ⟨g,4,none⟩=some u4∧w.cell? ⟨g,5,none⟩=some u5∧w.cell? ⟨g,6,none⟩=some u6:=⟨h.cell 0,h.cell 1,h.cell 2,h.cell 3,h.cell 4,h.cell 5,h.cell 6⟩
theorem zZ {w:World} {g:Nat} {t:TypeId} {cs:Array Value} (h:Bk w g t cs):w.frozen? ⟨g,0,none⟩=false∧w.frozen? ⟨g,1,none⟩=false∧w.frozen? ⟨g,2,none⟩=false∧w.frozen? ⟨g,3,none⟩=false∧w.frozen? ⟨g,4,none⟩=false∧w.frozen? ⟨g,5,none⟩=false∧w.frozen? ⟨g,6,none⟩=false:=⟨h.frozen 0,h.frozen 1,h.frozen 2,h.frozen 3,h.frozen 4,h.frozen 5,h.frozen 6⟩
theorem kM3 (x:Nd) (S Q:SV) (w:World) (h:Hid (AtsAt w Q x.2)):Calls Tryz.prog 124 #[yO x S Q] w fun e w'=>e=.returned (uI (yK x:Int))∧Below w.heap.size w w':=by
 obtain⟨ex,l⟩:=x;obtain⟨QA,Qn,Qc⟩:=Q;have hl:=h.out.len;(try dsimp only at hl);unfold yO jW9 qX;simp only [lR,cF];generalize Ex.kind ex=k0;generalize Ex.op ex=k1;generalize Ex.value ex=k2;generalize Ex.width ex=k3;generalize Ex.name ex=k4;cases l with
 | nil =>
   have e1:((Qn:Int) == 0)=true:=by simp at hl;simp;omega
   have E:Hid (yK (ex,[])=0):=rfl;go_enter Tryz.func124,Tryz.ntmps124
   go_wp2_with fail
   go_ret;exact⟨rfl,zB⟩
 | cons a r =>
   have e1:((Qn:Int) == 0)=false:=by simp at hl;simp;omega
   have hq0:0<Qn:=by simp at hl;omega
   have hq1:(0:Int)<(Qn:Int):=Yo;obtain⟨b,off,hA,hb,hc⟩:=h.out.rd.rd.cells (by simp [yV]);(try dsimp only at hA);subst hA;have c0:w.cell? ⟨b,off,none⟩=some (uI a):=hc 0 _ rfl;have E:Hid (yK (ex,a :: r)=a):=rfl;clear hc;go_enter Tryz.func124,Tryz.ntmps124
   go_wp2_with fail
   go_ret;exact⟨rfl,zB⟩
end
end Go.Proofs.YtfdaebgllibphaaGreatDoor
