import Derived.Deep.QuietTactic
import Derived.BigQuiet
import Derived.Deep.RegionHeld3
import Derived.Test.YtfdaebgllibphaaGreatDoorZab
set_option linter.unusedVariables false
set_option linter.unusedSimpArgs false
set_option maxRecDepth 100000
set_option maxHeartbeats 16000000
namespace Go.Proofs.YtfdaebgllibphaaGreatDoor
section
open Go.RowKit Go.PlainAid
theorem zR7 {a b:Nat} (h:a=b):Ending.returned (uI a)=.returned (uI b):=by rw [h]
theorem qK5 (c:UInt8) (w:World):Calls Tryz.prog 136 #[uB c.toNat] w fun e w'=>e=.returned (.bool (qM c))∧w=w':=by
 have hE:qM c=(decide (97≤c.toNat) && decide (c.toNat≤122)):=rfl;obtain⟨n,hn⟩:∃ n,c.toNat=n:=⟨_,rfl⟩;rw [hn]at hE ⊢;clear hn;by_cases h1:97≤n
 ·by_cases h2:n≤122
  ·have e1:decide ((97:Int)≤(n:Int))=true:=by simp;omega
   have e2:decide ((n:Int)≤122)=true:=Yp;have E:Hid (qM c=true):=by show _=_;rw [hE];simp [h1,h2]
   clear hE;go_enter Tryz.func136,Tryz.ntmps136
   go_wp2
   go_ret;exact⟨yT E.out.symm,rfl⟩
  ·have e1:decide ((97:Int)≤(n:Int))=true:=by simp;omega
   have e2:decide ((n:Int)≤122)=false:=Yp;have E:Hid (qM c=false):=by show _=_;rw [hE];simp [h2]
   clear hE;go_enter Tryz.func136,Tryz.ntmps136
   go_wp2
   go_ret;exact⟨yT E.out.symm,rfl⟩
 ·have e1:decide ((97:Int)≤(n:Int))=false:=by simp;omega
  have E:Hid (qM c=false):=by show _=_;rw [hE];simp [h1]
  clear hE;go_enter Tryz.func136,Tryz.ntmps136
  go_wp2
  go_ret;exact⟨yT E.out.symm,rfl⟩
theorem zX4 (c:UInt8) (w:World):Calls Tryz.prog 138 #[uB c.toNat] w fun e w'=>e=.returned (.bool (zV c))∧w=w':=by
 have hE:zV c=(decide (48≤c.toNat) && decide (c.toNat≤57)):=rfl;obtain⟨n,hn⟩:∃ n,c.toNat=n:=⟨_,rfl⟩;rw [hn]at hE ⊢;clear hn;by_cases h1:48≤n
 ·by_cases h2:n≤57
  ·have e1:decide ((48:Int)≤(n:Int))=true:=by simp;omega
   have e2:decide ((n:Int)≤57)=true:=Yp;have E:Hid (zV c=true):=by show _=_;rw [hE];simp [h1,h2]
   clear hE;go_enter Tryz.func138,Tryz.ntmps138
   go_wp2
   go_ret;exact⟨yT E.out.symm,rfl⟩
  ·have e1:decide ((48:Int)≤(n:Int))=true:=by simp;omega
   have e2:decide ((n:Int)≤57)=false:=Yp;have E:Hid (zV c=false):=by show _=_;rw [hE];simp [h2]
   clear hE;go_enter Tryz.func138,Tryz.ntmps138
   go_wp2
   go_ret;exact⟨yT E.out.symm,rfl⟩
 ·have e1:decide ((48:Int)≤(n:Int))=false:=by simp;omega
  have E:Hid (zV c=false):=by show _=_;rw [hE];simp [h1]
  clear hE;go_enter Tryz.func138,Tryz.ntmps138
  go_wp2
  go_ret;exact⟨yT E.out.symm,rfl⟩
theorem kE5 (c:UInt8) (w:World):Calls Tryz.prog 137 #[uB c.toNat] w fun e w'=>e=.returned (.bool (yU c))∧w=w':=by
 have hE:yU c=(decide (c.toNat=46) || (decide (c.toNat=95) || (qM c || zV c))):=rfl;have HLC:=Ph fun w=>qK5 c w;have HDC:=Ph fun w=>zX4 c w;obtain⟨n,hn⟩:∃ n,c.toNat=n:=⟨_,rfl⟩;obtain⟨lb,hlb⟩:∃ b,qM c=b:=⟨_,rfl⟩;obtain⟨db,hdb⟩:∃ b,zV c=b:=⟨_,rfl⟩;rw [hn,hlb]at HLC;rw [hn,hdb]at HDC;rw [hn,hlb,hdb]at hE;rw [hn];clear hn hlb hdb;by_cases h1:n=46
 ·have e1:((n:Int) == 46)=true:=by simp;omega
  have E:Hid (yU c=true):=by show _=_;rw [hE];simp [h1]
  clear hE h1;go_enter Tryz.func137,Tryz.ntmps137
  go_wp2
  go_ret;exact⟨yT E.out.symm,rfl⟩
 ·have e1:((n:Int) == 46)=false:=by simp;omega
  by_cases h2:n=95
  ·have e2:((n:Int) == 95)=true:=by simp;omega
   have E:Hid (yU c=true):=by show _=_;rw [hE];simp [h2]
   clear hE h1 h2;go_enter Tryz.func137,Tryz.ntmps137
   go_wp2
   go_ret;exact⟨yT E.out.symm,rfl⟩
  ·have e2:((n:Int) == 95)=false:=by simp;omega
   have E:Hid (yU c=(lb || db)):=by show _=_;rw [hE];simp [h1,h2]
   clear hE h1 h2;cases lb with
   | true =>
     go_enter Tryz.func137,Tryz.ntmps137
     go_wp2_with fail
     refine(HLC.out w).mono ?_;rintro e w' ⟨rfl,rfl⟩;go_wp2
     go_ret;exact⟨yT E.out.symm,rfl⟩
   | false =>
     go_enter Tryz.func137,Tryz.ntmps137
     go_wp2_with fail
     refine(HLC.out w).mono ?_;rintro e w' ⟨rfl,rfl⟩;go_wp2_with fail
     refine(HDC.out w).mono ?_;rintro e w' ⟨rfl,rfl⟩;cases db with
     | true =>
       go_wp2
       go_ret;exact⟨yT E.out.symm,rfl⟩
     | false =>
       go_wp2
       go_ret;exact⟨yT E.out.symm,rfl⟩
theorem qK6 (s:ByteArray) (a:Nat) (w:World) (ha:a≤s.size) (hs:s.size≤100000000) :
 Calls Tryz.prog 139 #[.string s,uI a] w fun e w'=>e=.returned (uI (zH9 s.data.toList a:Int))∧w=w':=by
 go_enter Tryz.func139,Tryz.ntmps139
 go_wp2_with fail
 go_loopw [1] (fun v1 wr=>∃ k:Nat,v1=uI k∧k≤s.size∧Hid (zH9 s.data.toList k=zH9 s.data.toList a)∧w=wr) (fun v1 _=>s.size-(intOf v1).toNat)
 case atStart=>exact⟨a,rfl,ha,rfl,rfl⟩
 case round =>
  obtain⟨k,rfl,hk,HK,rfl⟩:=hrel;by_cases hlt:k<s.size
  ·have e1:decide ((k:Int)<(s.size:Int))=true:=by simp;omega
   have hki:(k:Int)<(s.size:Int):=Yo;obtain⟨c,hc,hbc⟩:=zO9 hlt;have hg:=get_bt s k hlt;cases hd:zV c with
   | true =>
     have HK2:Hid (zH9 s.data.toList (k+1)=zH9 s.data.toList a):=(jM4 hc hd).symm.trans HK.out;have HC:=Ph fun w=>hd▸zX4 c w;clear hc hd;go_wp2_with fail
     refine(HC.out w).mono ?_;rintro e w' ⟨rfl,rfl⟩;go_wp2_with fail
     go_roundw
     case rel=>exact⟨k+1,by go_num,Yo,HK2,trivial⟩
     case measure=>simp [intOf];omega
   | false =>
     have E:Hid (zH9 s.data.toList a=k):=HK.out.symm.trans (jA8 hc hd);have HC:=Ph fun w=>hd▸zX4 c w;clear hc hd;go_wp2_with fail
     refine(HC.out w).mono ?_;rintro e w' ⟨rfl,rfl⟩;go_wp2_with fail
     go_ret;exact⟨zR7 E.out.symm,rfl⟩
  ·have e1:decide ((k:Int)<(s.size:Int))=false:=by simp;omega
   have E:Hid (zH9 s.data.toList a=k):=HK.out.symm.trans (jM5 (by rw [qK];omega));go_wp2_with fail
   go_ret;exact⟨zR7 E.out.symm,rfl⟩
theorem kL8 (s:ByteArray) (a:Nat) (w:World) (ha:a≤s.size) (hs:s.size≤100000000) :
 Calls Tryz.prog 108 #[.string s,uI a] w fun e w'=>e=.returned (uI (zG1 s.data.toList a:Int))∧w=w':=by
 go_enter Tryz.func108,Tryz.ntmps108
 go_wp2_with fail
 go_step3
 go_wp2_with fail
 go_step3
 go_wp2_with fail
 go_loopw [1] (fun v1 wr=>∃ k:Nat,v1=uI k∧k≤s.size∧Hid (zG1 s.data.toList k=zG1 s.data.toList a)∧w=wr) (fun v1 _=>s.size-(intOf v1).toNat)
 case atStart=>exact⟨a,rfl,ha,rfl,rfl⟩
 case round =>
  obtain⟨k,rfl,hk,HK,rfl⟩:=hrel;by_cases hlt:k<s.size
  ·have e1:decide ((k:Int)<(s.size:Int))=true:=by simp;omega
   have hki:(k:Int)<(s.size:Int):=Yo;obtain⟨c,hc,hbc⟩:=zO9 hlt;have hg:=get_bt s k hlt;by_cases h35:c.toNat=35
   ·have e2:((c.toNat:Int) == 35)=true:=by simp;omega
    have hr:=jM3 hc h35;have hx:=zZ3 s k;obtain⟨t,ht⟩:∃ t,s.extract k s.size=t:=⟨_,rfl⟩;rw [ht]at hx;rw [←hx]at hr;have HI:=Ph fun w=>Tryz.strings_IndexByte t 10 w;rcases hr with⟨h1,h2⟩ | ⟨n,h1,hn,hn2,h2⟩
    ·have E:Hid (zG1 s.data.toList s.size=zG1 s.data.toList a):=by show _=_;rw [←HK.out,h2,qP2 (by rw [qK];exact lF _),qK]
     have HI2:Hid (∀ w,Calls Tryz.prog 135 #[.string t,uB 10] w fun e w'=>e=.returned (uI (-1))∧w'=w):=fun w=>by have:=HI.out w;rw [show Lib.indexByte t.data.toList (10:Int).toNat.toUInt8=-1 from h1]at this;exact this
     clear hx h1 h2 hc HI;go_wp2_with fail
     refine(HI2.out w).mono ?_;rintro e w' ⟨rfl,rfl⟩;go_wp2_with fail
     go_roundw
     case rel=>exact⟨s.size,rfl,lF _,E,trivial⟩
     case measure=>simp [intOf];omega
    ·have E:Hid (zG1 s.data.toList (k+n)=zG1 s.data.toList a):=h2.symm.trans HK.out;have hn3:k+n≤s.size:=by rw [qK]at hn2;omega
     have e4:decide ((0:Int)≤(n:Int))=true:=Ym;have HI2:Hid (∀ w,Calls Tryz.prog 135 #[.string t,uB 10] w fun e w'=>e=.returned (uI n)∧w'=w):=fun w=>by have:=HI.out w;rw [show Lib.indexByte t.data.toList (10:Int).toNat.toUInt8=(n:Int) from h1]at this;exact this
     clear hx h1 h2 hc HI hn2;go_wp2_with fail
     refine(HI2.out w).mono ?_;rintro e w' ⟨rfl,rfl⟩;go_wp2_with fail
     go_roundw
     case rel=>exact⟨k+n,by go_num,hn3,E,trivial⟩
     case measure=>simp [intOf];omega
   ·have e2:((c.toNat:Int) == 35)=false:=by simp;omega
    cases hb:yJ c with
    | true =>
      have E:Hid (zG1 s.data.toList (k+1)=zG1 s.data.toList a):=(qV1 hc h35 hb).symm.trans HK.out;have hor:c.toNat=9∨c.toNat=10∨c.toNat=13∨c.toNat=32:=by unfold yJ at hb;simpa using hb
      clear hc hb h35;rcases hor with h | h | h | h
      all_goals
       rw [h]at e2 hbc;go_wp2_with fail
       go_roundw
       case rel=>exact⟨k+1,by go_num,Yo,E,trivial⟩
       case measure=>simp [intOf];omega
    | false =>
      have E:Hid (zG1 s.data.toList a=k):=HK.out.symm.trans (jA7 hc h35 hb);have hor:c.toNat≠9∧c.toNat≠10∧c.toNat≠13∧c.toNat≠32:=by unfold yJ at hb;simpa using hb
      have e3:((c.toNat:Int) == 9)=false:=Yp;have e4:((c.toNat:Int) == 10)=false:=Yp;have e5:((c.toNat:Int) == 13)=false:=Yp;have e6:((c.toNat:Int) == 32)=false:=Yp;clear hc hb h35 hor;go_wp2_with fail
      try rw [Exit.noGoto_ret]
      go_ret;exact⟨zR7 E.out.symm,rfl⟩
  ·have e1:decide ((k:Int)<(s.size:Int))=false:=by simp;omega
   have E:Hid (zG1 s.data.toList a=k):=HK.out.symm.trans (qP2 (by rw [qK];omega));go_wp2_with fail
   try rw [Exit.noGoto_ret]
   go_ret;exact⟨zR7 E.out.symm,rfl⟩
theorem zC8 {t:List UInt8} {f k:Nat} (h:(vT k).isPrefixOf t=true):yG t (f+1) k=2:=by simp only [yG,lM h]
theorem vU {t:List UInt8} {f k:Nat} (h:(vT k).isPrefixOf t=false):yG t (f+1) k=yG t f (k+1):=by simp only [yG,h];rfl
theorem qE3 (l p:List UInt8):Lib.hasPrefix l p=p.isPrefixOf l:=by first | rfl | (unfold Lib.hasPrefix;rfl) | skip
theorem kL9 (s:ByteArray) (w:World) (hs0:0<s.size) (hs:s.size≤100000000) :
 Calls Tryz.prog 140 #[.string s] w fun e w'=>e=.returned (uI (xG s.data.toList:Int))∧w=w':=by
 have hx0:(⟨#[60,60,62,62,61,61,33,61,60,61]⟩:ByteArray).extract 0 2=str (vT 0):=rfl;have hx1:(⟨#[60,60,62,62,61,61,33,61,60,61]⟩:ByteArray).extract 2 4=str (vT 1):=rfl;have hx2:(⟨#[60,60,62,62,61,61,33,61,60,61]⟩:ByteArray).extract 4 6=str (vT 2):=rfl;have hx3:(⟨#[60,60,62,62,61,61,33,61,60,61]⟩:ByteArray).extract 6 8=str (vT 3):=rfl;have hx4:(⟨#[60,60,62,62,61,61,33,61,60,61]⟩:ByteArray).extract 8 10=str (vT 4):=rfl;have HP:Hid (∀ k w,Calls Tryz.prog 56 #[.string s,.string (str (vT k))] w fun e w'=>e=.returned (.bool ((vT k).isPrefixOf s.data.toList))∧w'=w):=fun k w=>by have h:=Tryz.strings_HasPrefix s (str (vT k)) w;rw [qE3]at h;exact h
 go_enter Tryz.func140,Tryz.ntmps140
 go_wp2_with fail
 go_loopw [3] (fun v3 wr=>∃ k:Nat,v3=uI ((2*k:Nat):Int)∧k≤5∧Hid (xG s.data.toList=yG s.data.toList (5-k) k)∧w=wr) (fun v3 _=>10-(intOf v3).toNat)
 case atStart=>exact⟨0,rfl,Yo,rfl,rfl⟩
 case round =>
  obtain⟨k,rfl,hk,HK,rfl⟩:=hrel;by_cases hk5:k=5
  ·subst hk5;obtain⟨c,hc,hbc⟩:=zO9 hs0;have hg:=get_bt s 0 hs0;have HI:=Ph fun w=>Tryz.strings_IndexByte (str yF) (c.toNat:Int) w;have hcc:((c.toNat:Int)).toNat.toUInt8=c:=by rw [Int.toNat_natCast];exact UInt8.ofNat_toNat
   have hxb:=kE4 yF c;have hd:∃ r,s.data.toList=c :: r:=by
    cases hl:s.data.toList with
    | nil=>rw [hl]at hc;cases hc
    | cons d r=>rw [hl]at hc;injection hc with hc;subst hc;exact⟨r,rfl⟩
   obtain⟨r,hd⟩:=hd;have E:Hid (xG s.data.toList=if yF.contains c then 1 else 0):=by show _=_;rw [HK.out,hd];simp [yG]
   rw [←hxb]at E;obtain⟨x,hx⟩:∃ x,Lib.indexByte yF c=x:=⟨_,rfl⟩;have HI2:Hid (∀ w,Calls Tryz.prog 135 #[uR yF,uB c.toNat] w fun e w'=>e=.returned (uI x)∧w'=w):=fun w=>by have h1:=HI.out w;rw [hcc,qE,hx]at h1;exact h1
   rw [hx]at E;have hsi:(⟨#[43,45,42,47,37,38,124,94,60,126,63,58,61,44,64,40,41,91,93,123,125]⟩:ByteArray)=str yF:=rfl;clear hx hxb hcc HI hd hc HK hx0 hx1 hx2 hx3 hx4;by_cases hx0:0≤x
   ·have e1:decide (0≤x)=true:=by simpa using hx0
    have E2:Hid (xG s.data.toList=1):=by show _=_;rw [E.out,e1];rfl
    go_wp2_with fail
    refine(HI2.out w).mono ?_;rintro e w' ⟨rfl,rfl⟩;go_wp2_with fail
    go_ret;exact⟨zR7 E2.out.symm,rfl⟩
   ·have e1:decide (0≤x)=false:=by simpa using hx0
    have E2:Hid (xG s.data.toList=0):=by show _=_;rw [E.out,e1];rfl
    go_wp2_with fail
    refine(HI2.out w).mono ?_;rintro e w' ⟨rfl,rfl⟩;go_wp2_with fail
    go_ret;exact⟨zR7 E2.out.symm,rfl⟩
  ·rcases(by omega:k=0∨k=1∨k=2∨k=3∨k=4)with rfl | rfl | rfl | rfl | rfl
   ·have HPK:=Ph (HP.out 0);cases hp:(vT 0).isPrefixOf s.data.toList with
    | true =>
      have E:Hid (xG s.data.toList=2):=HK.out.trans (zC8 hp);rw [hp]at HPK;clear hp HP HK;go_wp2_with fail
      refine(HPK.out w).mono ?_;rintro e w' ⟨rfl,rfl⟩;go_wp2_with fail
      go_ret;exact⟨zR7 E.out.symm,rfl⟩
    | false =>
      have E:Hid (xG s.data.toList=yG s.data.toList (5-(0+1)) (0+1)):=HK.out.trans (vU hp);rw [hp]at HPK;clear hp HP HK;go_wp2_with fail
      refine(HPK.out w).mono ?_;rintro e w' ⟨rfl,rfl⟩;go_wp2_with fail
      go_roundw
      case rel=>exact⟨0+1,rfl,Yo,E,trivial⟩
      case measure=>simp [intOf]
   ·have HPK:=Ph (HP.out 1);cases hp:(vT 1).isPrefixOf s.data.toList with
    | true =>
      have E:Hid (xG s.data.toList=2):=HK.out.trans (zC8 hp);rw [hp]at HPK;clear hp HP HK;go_wp2_with fail
      refine(HPK.out w).mono ?_;rintro e w' ⟨rfl,rfl⟩;go_wp2_with fail
      go_ret;exact⟨zR7 E.out.symm,rfl⟩
    | false =>
      have E:Hid (xG s.data.toList=yG s.data.toList (5-(1+1)) (1+1)):=HK.out.trans (vU hp);rw [hp]at HPK;clear hp HP HK;go_wp2_with fail
      refine(HPK.out w).mono ?_;rintro e w' ⟨rfl,rfl⟩;go_wp2_with fail
      go_roundw
      case rel=>exact⟨1+1,rfl,Yo,E,trivial⟩
      case measure=>simp [intOf]
   ·have HPK:=Ph (HP.out 2);cases hp:(vT 2).isPrefixOf s.data.toList with
    | true =>
      have E:Hid (xG s.data.toList=2):=HK.out.trans (zC8 hp);rw [hp]at HPK;clear hp HP HK;go_wp2_with fail
      refine(HPK.out w).mono ?_;rintro e w' ⟨rfl,rfl⟩;go_wp2_with fail
      go_ret;exact⟨zR7 E.out.symm,rfl⟩
    | false =>
      have E:Hid (xG s.data.toList=yG s.data.toList (5-(2+1)) (2+1)):=HK.out.trans (vU hp);rw [hp]at HPK;clear hp HP HK;go_wp2_with fail
      refine(HPK.out w).mono ?_;rintro e w' ⟨rfl,rfl⟩;go_wp2_with fail
      go_roundw
      case rel=>exact⟨2+1,rfl,Yo,E,trivial⟩
      case measure=>simp [intOf]
   ·have HPK:=Ph (HP.out 3);cases hp:(vT 3).isPrefixOf s.data.toList with
    | true =>
      have E:Hid (xG s.data.toList=2):=HK.out.trans (zC8 hp);rw [hp]at HPK;clear hp HP HK;go_wp2_with fail
      refine(HPK.out w).mono ?_;rintro e w' ⟨rfl,rfl⟩;go_wp2_with fail
      go_ret;exact⟨zR7 E.out.symm,rfl⟩
    | false =>
      have E:Hid (xG s.data.toList=yG s.data.toList (5-(3+1)) (3+1)):=HK.out.trans (vU hp);rw [hp]at HPK;clear hp HP HK;go_wp2_with fail
      refine(HPK.out w).mono ?_;rintro e w' ⟨rfl,rfl⟩;go_wp2_with fail
      go_roundw
      case rel=>exact⟨3+1,rfl,Yo,E,trivial⟩
      case measure=>simp [intOf]
   ·have HPK:=Ph (HP.out 4);cases hp:(vT 4).isPrefixOf s.data.toList with
    | true =>
      have E:Hid (xG s.data.toList=2):=HK.out.trans (zC8 hp);rw [hp]at HPK;clear hp HP HK;go_wp2_with fail
      refine(HPK.out w).mono ?_;rintro e w' ⟨rfl,rfl⟩;go_wp2_with fail
      go_ret;exact⟨zR7 E.out.symm,rfl⟩
    | false =>
      have E:Hid (xG s.data.toList=yG s.data.toList (5-(4+1)) (4+1)):=HK.out.trans (vU hp);rw [hp]at HPK;clear hp HP HK;go_wp2_with fail
      refine(HPK.out w).mono ?_;rintro e w' ⟨rfl,rfl⟩;go_wp2_with fail
      go_roundw
      case rel=>exact⟨4+1,rfl,Yo,E,trivial⟩
      case measure=>simp [intOf]
def kW (k a b:Nat):Value:=.agg #[uB k,uI a,uI b]
theorem zC9 {k a b k' a' b':Nat} (h:(k,b)=(k',b')) (ha:a=a'):Ending.returned (kW k a b)=.returned (kW k' a' b'):=by obtain⟨rfl,rfl⟩:=Prod.mk.inj h;rw [ha]
theorem kE6 (s:ByteArray) (a:Nat) (w:World) (ha:a<s.size) (hs:s.size≤100000000) :
 Calls Tryz.prog 109 #[.string s,uI a] w fun e w'=>e=.returned (kW (zQ3 s.data.toList a).1 a (zQ3 s.data.toList a).2)∧Below w.heap.size w w':=by
 obtain⟨c,hc,hbc⟩:=zO9 ha;have hg:=get_bt s a ha;have hai:(a:Int)<(s.size:Int):=Yo;have HB0:Hid (Below w.heap.size w (w.alloc (.cells #[uB 0,uI 0,uI 0] 44))):=zG (lB _ _) _;cases hl:qM c with
 | true =>
   have E:Hid (zQ3 s.data.toList a=(1,qP3 s.data.toList (a+1))):=jB1 hc hl;have HL:=Ph fun w=>hl▸qK5 c w;clear hc hl;go_enter Tryz.func109,Tryz.ntmps109
   go_wp2_with fail
   refine(HL.out _).mono ?_;rintro e w' ⟨rfl,rfl⟩;go_wp2_with fail
   obtain⟨W0,hW0⟩:∃ W0,W0=(w.alloc (.cells #[uB 0,uI 0,uI 0] 44)):=⟨_,rfl⟩;rw [←hW0];have HW0:=Ph hW0;clear hW0;go_loopw [5] (fun v5 wr=>∃ k:Nat,v5=uI k∧k≤s.size∧Hid (qP3 s.data.toList k=qP3 s.data.toList (a+1))∧W0=wr) (fun v5 _=>s.size-(intOf v5).toNat)
   case atStart=>exact⟨a+1,by go_num,Yo,rfl,rfl⟩
   case round =>
    obtain⟨k,rfl,hk,HK,rfl⟩:=hrel;by_cases hlt:k<s.size
    ·have e1:decide ((k:Int)<(s.size:Int))=true:=by simp;omega
     have hki:(k:Int)<(s.size:Int):=Yo;obtain⟨d,hd,hbd⟩:=zO9 hlt;have hgd:=get_bt s k hlt;cases hp:yU d with
     | true =>
       have HK2:Hid (qP3 s.data.toList (k+1)=qP3 s.data.toList (a+1)):=(jM6 hd hp).symm.trans HK.out;have HC:=Ph fun w=>hp▸kE5 d w;clear hd hp;go_wp2_with fail
       refine(HC.out W0).mono ?_;rintro e w' ⟨rfl,rfl⟩;go_wp2_with fail
       go_roundw
       case rel=>exact⟨k+1,by go_num,Yo,HK2,trivial⟩
       case measure=>simp [intOf];omega
     | false =>
       have E:Hid ((1,k)=zQ3 s.data.toList a):=by show _=_;rw [E.out,←HK.out,jA9 hd hp]
       have HC:=Ph fun w=>hp▸kE5 d w;clear hd hp;go_wp2_with fail
       refine(HC.out W0).mono ?_;rintro e w' ⟨rfl,rfl⟩;have hW0:=HW0.out;subst hW0;go_wp2_with fail
       refine lK (v:=kW 1 a k) (by simp [results,Tryz.results109,go_sem,kW]) rfl ?_;exact⟨zC9 E.out rfl,zG (lB _ _) _⟩
    ·have e1:decide ((k:Int)<(s.size:Int))=false:=by simp;omega
     have E:Hid ((1,k)=zQ3 s.data.toList a):=by show _=_;rw [E.out,←HK.out,jM7 (by rw [qK];omega)]
     have hW0:=HW0.out;subst hW0;go_wp2_with fail
     refine lK (v:=kW 1 a k) (by simp [results,Tryz.results109,go_sem,kW]) rfl ?_;exact⟨zC9 E.out rfl,zG (lB _ _) _⟩
 | false =>
   have HL:=Ph fun w=>hl▸qK5 c w;cases hd:zV c with
   | true =>
     have HD:=Ph fun w=>hd▸zX4 c w;obtain⟨d,hdd⟩:∃ d,zH9 s.data.toList a=d:=⟨_,rfl⟩;have hle:=qK4 (t:=s.data.toList) (a:=a) (by rw [qK];omega);rw [qK,hdd]at hle;have HG:Hid (∀ w,Calls Tryz.prog 139 #[.string s,uI a] w fun e w'=>e=.returned (uI d)∧w=w'):=fun w=>by have h1:=qK6 s a w Yo hs;rw [hdd]at h1;exact h1
     by_cases h1:d+1<s.size
     ·have e1:decide ((d:Int)+1<(s.size:Int))=true:=by simp;omega
      obtain⟨x,hx,hbx⟩:=zO9 (show d<s.size by omega);obtain⟨y,hy,hby⟩:=zO9 h1;have hgx:=get_bt s d Yo;have hgy:=get_bt s (d+1) h1;have T:=jB2 hc hl hd d hdd hx hy;have hdi:(d:Int)<(s.size:Int):=Yo;have hdi1:(d:Int)+1<(s.size:Int):=Yo;have wd1:IntKind.i64.wrap ((d:Int)+1)=((d+1:Nat):Int):=by rw [lL];omega
      by_cases h58:x.toNat=58
      ·have e2:((x.toNat:Int) == 58)=true:=by simp;omega
       have HY:=Ph fun w=>zX4 y w;cases hdy:zV y with
       | true =>
         rw [hdy]at HY;rw [lM ⟨h58,hdy⟩]at T;have E:Hid ((3,zH9 s.data.toList (d+1))=zQ3 s.data.toList a):=T.symm;have HG2:=Ph fun w=>qK6 s (d+1) w Yo hs;obtain⟨d2,hd2⟩:∃ d2,zH9 s.data.toList (d+1)=d2:=⟨_,rfl⟩;have hle2:=qK4 (t:=s.data.toList) (a:=d+1) (by rw [qK];omega);rw [qK,hd2]at hle2;rw [hd2]at HG2 E;clear T hd2 hdy hx hy hdd hd hl hc;go_enter Tryz.func109,Tryz.ntmps109
         go_wp2_with fail
         refine(HL.out _).mono ?_;rintro e w' ⟨rfl,rfl⟩;go_wp2_with fail
         refine(HD.out _).mono ?_;rintro e w' ⟨rfl,rfl⟩;go_wp2_with fail
         refine(HG.out _).mono ?_;rintro e w' ⟨rfl,rfl⟩;go_wp2_with fail
         refine(HY.out _).mono ?_;rintro e w' ⟨rfl,rfl⟩;go_wp2_with fail
         refine(HG2.out _).mono ?_;rintro e w' ⟨rfl,rfl⟩;go_wp2_with fail
         refine lK (v:=kW 3 a d2) (by simp [results,Tryz.results109,go_sem,kW]) rfl ?_;exact⟨zC9 E.out rfl,zG (lB _ _) _⟩
       | false =>
         rw [hdy]at HY;rw [lN (fun h=>by rw [hdy]at h;exact absurd h.2 Yd)]at T;have E:Hid ((2,d)=zQ3 s.data.toList a):=T.symm;clear T hdy hx hy hdd hd hl hc;go_enter Tryz.func109,Tryz.ntmps109
         go_wp2_with fail
         refine(HL.out _).mono ?_;rintro e w' ⟨rfl,rfl⟩;go_wp2_with fail
         refine(HD.out _).mono ?_;rintro e w' ⟨rfl,rfl⟩;go_wp2_with fail
         refine(HG.out _).mono ?_;rintro e w' ⟨rfl,rfl⟩;go_wp2_with fail
         refine(HY.out _).mono ?_;rintro e w' ⟨rfl,rfl⟩;go_wp2_with fail
         refine lK (v:=kW 2 a d) (by simp [results,Tryz.results109,go_sem,kW]) rfl ?_;exact⟨zC9 E.out rfl,zG (lB _ _) _⟩
      ·have e2:((x.toNat:Int) == 58)=false:=by simp;omega
       rw [lN (fun h=>h58 h.1)]at T;have E:Hid ((2,d)=zQ3 s.data.toList a):=T.symm;clear T hx hy hdd hd hl hc;go_enter Tryz.func109,Tryz.ntmps109
       go_wp2_with fail
       refine(HL.out _).mono ?_;rintro e w' ⟨rfl,rfl⟩;go_wp2_with fail
       refine(HD.out _).mono ?_;rintro e w' ⟨rfl,rfl⟩;go_wp2_with fail
       refine(HG.out _).mono ?_;rintro e w' ⟨rfl,rfl⟩;go_wp2_with fail
       refine lK (v:=kW 2 a d) (by simp [results,Tryz.results109,go_sem,kW]) rfl ?_;exact⟨zC9 E.out rfl,zG (lB _ _) _⟩
     ·have e1:decide ((d:Int)+1<(s.size:Int))=false:=by simp;omega
      have wd1:IntKind.i64.wrap ((d:Int)+1)=(d:Int)+1:=by rw [lL];omega
      have E:Hid ((2,d)=zQ3 s.data.toList a):=(jM8 hc hl hd d hdd (by rw [qK];omega)).symm;clear hdd hd hl hc;go_enter Tryz.func109,Tryz.ntmps109
      go_wp2_with fail
      refine(HL.out _).mono ?_;rintro e w' ⟨rfl,rfl⟩;go_wp2_with fail
      refine(HD.out _).mono ?_;rintro e w' ⟨rfl,rfl⟩;go_wp2_with fail
      refine(HG.out _).mono ?_;rintro e w' ⟨rfl,rfl⟩;go_wp2_with fail
      refine lK (v:=kW 2 a d) (by simp [results,Tryz.results109,go_sem,kW]) rfl ?_;exact⟨zC9 E.out rfl,zG (lB _ _) _⟩
   | false =>
     have HD:=Ph fun w=>hd▸zX4 c w;obtain⟨n,hn⟩:∃ n,xG (s.data.toList.drop a)=n:=⟨_,rfl⟩;have T:=jB3 hc hl hd n hn;have hx:=zZ3 s a;have hnl:n≤2∧a+n≤s.size:=by
      have h1:=zZ4 (s.data.toList.drop a) 5 0;have h2:xG (s.data.toList.drop a)=yG (s.data.toList.drop a) 5 0:=rfl;rw [h2]at hn;rw [cU,qK,hn]at h1;refine⟨?_,Yo⟩;have:∀ (t:List UInt8) (f k:Nat),yG t f k≤2:=by
       intro t f;induction f with
       | zero =>
         intro k;unfold yG;split
         ·omega
         ·split <;> omega
       | succ f ih =>
         intro k;unfold yG;split
         ·exact lF _
         ·exact ih _
      rw [←hn];exact this _ _ _
     obtain⟨t,ht⟩:∃ t,s.extract a s.size=t:=⟨_,rfl⟩;have hts:t.size=s.size-a:=by rw [←ht,←qK,zZ3,cU,qK]
     rw [ht]at hx;have HS:Hid (∀ w,Calls Tryz.prog 140 #[.string t] w fun e w'=>e=.returned (uI n)∧w=w'):=fun w=>by have h1:=kL9 t w Yo Yo;rw [hx,hn]at h1;exact h1
     clear hx hn hts;by_cases h0:0<n
     ·have e1:decide ((0:Int)<(n:Int))=true:=by simp;omega
      rw [lM h0]at T;have E:Hid ((4,a+n)=zQ3 s.data.toList a):=T.symm;have wa:IntKind.i64.wrap ((a:Int)+(n:Int))=((a+n:Nat):Int):=by rw [lL];omega
      clear T hd hl hc;go_enter Tryz.func109,Tryz.ntmps109
      go_wp2_with fail
      refine(HL.out _).mono ?_;rintro e w' ⟨rfl,rfl⟩;go_wp2_with fail
      refine(HD.out _).mono ?_;rintro e w' ⟨rfl,rfl⟩;go_wp2_with fail
      refine(HS.out _).mono ?_;rintro e w' ⟨rfl,rfl⟩;go_wp2_with fail
      refine lK (v:=kW 4 a (a+n)) (by simp [results,Tryz.results109,go_sem,kW]) rfl ?_;exact⟨zC9 E.out rfl,zG (lB _ _) _⟩
     ·have e1:decide ((0:Int)<(n:Int))=false:=by simp;omega
      rw [lN h0]at T;have E:Hid ((0,a)=zQ3 s.data.toList a):=T.symm;clear T hd hl hc;go_enter Tryz.func109,Tryz.ntmps109
      go_wp2_with fail
      refine(HL.out _).mono ?_;rintro e w' ⟨rfl,rfl⟩;go_wp2_with fail
      refine(HD.out _).mono ?_;rintro e w' ⟨rfl,rfl⟩;go_wp2_with fail
      refine(HS.out _).mono ?_;rintro e w' ⟨rfl,rfl⟩;go_wp2_with fail
      refine lK (v:=kW 0 a a) (by simp [results,Tryz.results109,go_sem,kW]) rfl ?_;exact⟨zC9 E.out rfl,zG (lB _ _) _⟩
end
section
open Go.RowKit Go.PlainAid
def qZ5 (b:Bool):Nat:=if b then 280 else 0
def zW7 (q:Nat×Nat×Nat×Bool):Value:=.tuple #[kW q.1 q.2.1 q.2.2.1,uI (qZ5 q.2.2.2:Int)]
theorem zZ7 {q q':Nat×Nat×Nat×Bool} (h:q=q'):Ending.returned (zW7 q)=.returned (zW7 q'):=by rw [h]
theorem jB6 (l:List UInt8) (h:(zC1 l).1=0):(zC1 l).2=0:=by
 cases l with
 | nil=>rfl
 | cons c r =>
   rw [zC1]at h ⊢;split at h
   ·cases h
   ·rename_i h1;rw [lN h1];split at h
    ·exfalso;revert h;split
     ·split <;> simp
     ·simp
    ·rename_i h2;rw [lN h2];split at h
     ·cases h
     ·rename_i h3;rw [lN h3]
theorem jB7 {t:List UInt8} {b f:Nat} (h:zQ3 t b=(0,f)):f=b:=by unfold zQ3 at h;injection h with h1 h2;rw [jB6 _ h1]at h2;omega
theorem kE7 {w w1:World} {p:Nat} {v0 v1 v2:Value} (h:Below w.heap.size w w1) (hp:w.heap.size≤p):Below w.heap.size w (((w1.setCell ⟨p,0,none⟩ v0).setCell ⟨p,1,none⟩ v1).setCell ⟨p,2,none⟩ v2) :=
 ((h.setCell (p:=⟨p,0,none⟩) hp v0).setCell (p:=⟨p,1,none⟩) hp v1).setCell (p:=⟨p,2,none⟩) hp v2
theorem kD8 {w:World} {g:Nat} {t:TypeId} {u0 u1 u2 v0 v1 v2:Value} (h:Bk w g t #[u0,u1,u2]):Bk (((w.setCell ⟨g,0,none⟩ v0).setCell ⟨g,1,none⟩ v1).setCell ⟨g,2,none⟩ v2) g t #[v0,v1,v2]:=((h.put 0 v0).put 1 v1).put 2 v2
theorem jS7 {w:World} {g p:Nat} {t:TypeId} {cs:Array Value} {v0 v1 v2:Value} (h:Bk w g t cs) (hp:g≠p):Bk (((w.setCell ⟨p,0,none⟩ v0).setCell ⟨p,1,none⟩ v1).setCell ⟨p,2,none⟩ v2) g t cs:=((h.far (p:=⟨p,0,none⟩) hp v0).far (p:=⟨p,1,none⟩) hp v1).far (p:=⟨p,2,none⟩) hp v2
theorem zJ {w:World} {g:Nat} {t:TypeId} {u0 u1 u2:Value} (h:Bk w g t #[u0,u1,u2]):w.cell? ⟨g,0,none⟩=some u0∧w.cell? ⟨g,1,none⟩=some u1∧w.cell? ⟨g,2,none⟩=some u2:=⟨h.cell 0,h.cell 1,h.cell 2⟩
theorem qE4 {w:World} {g:Nat} {t:TypeId} {u0 u1 u2:Value} (h:Bk w g t #[u0,u1,u2]):w.frozen? ⟨g,0,none⟩=false∧w.frozen? ⟨g,1,none⟩=false∧w.frozen? ⟨g,2,none⟩=false:=⟨h.frozen 0,h.frozen 1,h.frozen 2⟩
theorem kE8 (s:ByteArray) (a:Nat) (w:World) (ha:a≤s.size) (hs:s.size≤100000000) :
 Calls Tryz.prog 81 #[.string s,uI a] w fun e w'=>e=.returned (zW7 (kZ s.data.toList a))∧Below w.heap.size w w':=by
 have e1:decide ((a:Int)<0)=false:=Ym;have e2:decide ((s.size:Int)<(a:Int))=false:=Yp;obtain⟨b,hb⟩:∃ b,zG1 s.data.toList a=b:=⟨_,rfl⟩;have hle:=jX3 (t:=s.data.toList) (a:=a) (by rw [qK];omega);rw [qK,hb]at hle;have HS:Hid (∀ w,Calls Tryz.prog 108 #[.string s,uI a] w fun e w'=>e=.returned (uI b)∧w=w'):=fun w=>by have h1:=kL8 s a w ha hs;rw [hb]at h1;exact h1
 by_cases h1:b<s.size
 ·obtain⟨⟨k,f⟩,hk⟩:∃ q,zQ3 s.data.toList b=q:=⟨_,rfl⟩;have hT:=jB5 hb (by rw [qK];exact h1) k f hk;have HT:Hid (∀ w,Calls Tryz.prog 109 #[.string s,uI b] w fun e w'=>e=.returned (kW k b f)∧Below w.heap.size w w'):=fun w=>by have h2:=kE6 s b w h1 hs;rw [hk]at h2;exact h2
  have e3:((b:Int) == (s.size:Int))=false:=Yp;have HB0:Hid (Below w.heap.size w (w.alloc (.cells #[uB 0,uI 0,uI 0] 44))):=zG (lB _ _) _;have HK0:=Ph (Bk.new w 44 #[uB 0,uI 0,uI 0]);have hrest:∀ (w2:World),Below (w.alloc (.cells #[uB 0,uI 0,uI 0] 44)).heap.size (w.alloc (.cells #[uB 0,uI 0,uI 0] 44)) w2→Below w.heap.size w w2∧Bk w2 w.heap.size 44 #[uB 0,uI 0,uI 0]∧w.heap.size<w2.heap.size:=fun w2 h=>by have h3:=zD HK0.out h;exact⟨zU HB0.out h,h3,h3.lt⟩
  have HR:=Ph hrest;clear hrest;by_cases hk0:k=0
  ·subst hk0;rw [lM rfl]at hT;have hf:b=f:=(jB7 hk).symm;have E:Hid ((0,b,b,true)=kZ s.data.toList a):=hT.symm;clear hT hb hk;subst hf;go_enter Tryz.func81,Tryz.ntmps81
   go_wp2_with fail
   refine(HS.out _).mono ?_;rintro e w' ⟨rfl,rfl⟩;go_wp2_with fail
   refine(HT.out _).mono ?_;rintro e w2 ⟨rfl,h⟩;have HR2:=Ph (HR.out w2 h);have hlt:=HR2.out.2.2;clear h;obtain⟨y0,y1,y2⟩:=zJ HR2.out.2.1;obtain⟨z0,z1,z2⟩:=qE4 HR2.out.2.1;dsimp only [kW];go_wp2_with fail
   have HF:=Ph ((kD8 (v0:=uB 0) (v1:=uI b) (v2:=uI b) HR2.out.2.1).alloc (.cells #[uB 0,uI b,uI b] 44));have HFB:=Ph (zG (kE7 (v0:=uB 0) (v1:=uI b) (v2:=uI b) HR2.out.1 (lF _)) (.cells #[uB 0,uI b,uI b] 44));clear y0 y1 y2 z0 z1 z2;generalize ((World.alloc _ _))=WF at HF HFB ⊢;obtain⟨r0,r1,r2⟩:=zJ HF.out;refine lK (v:=zW7 (0,b,b,true)) (by simp [results,Tryz.results81,go_sem,zW7,kW,qZ5,r0,r1,r2]) rfl ?_;exact⟨zZ7 E.out,HFB.out⟩
  ·rw [lN hk0]at hT;have E:Hid ((k,b,f,false)=kZ s.data.toList a):=hT.symm;have ek:((k:Int) == 0)=false:=Yp;clear hT hb hk;go_enter Tryz.func81,Tryz.ntmps81
   go_wp2_with fail
   refine(HS.out _).mono ?_;rintro e w' ⟨rfl,rfl⟩;go_wp2_with fail
   refine(HT.out _).mono ?_;rintro e w2 ⟨rfl,h⟩;have HR2:=Ph (HR.out w2 h);have hlt:=HR2.out.2.2;clear h;obtain⟨y0,y1,y2⟩:=zJ HR2.out.2.1;obtain⟨z0,z1,z2⟩:=qE4 HR2.out.2.1;dsimp only [kW];go_wp2_with fail
   have HF:=Ph ((kD8 (v0:=uB k) (v1:=uI b) (v2:=uI f) HR2.out.2.1).alloc (.cells #[uB k,uI b,uI f] 44));have HFB:=Ph (zG (kE7 (v0:=uB k) (v1:=uI b) (v2:=uI f) HR2.out.1 (lF _)) (.cells #[uB k,uI b,uI f] 44));clear y0 y1 y2 z0 z1 z2;generalize ((World.alloc _ _))=WF at HF HFB ⊢;obtain⟨r0,r1,r2⟩:=zJ HF.out;refine lK (v:=zW7 (k,b,f,false)) (by simp [results,Tryz.results81,go_sem,zW7,kW,qZ5,r0,r1,r2]) rfl ?_;exact⟨zZ7 E.out,HFB.out⟩
 ·have hbe:b=s.size:=by omega
  have e3:((b:Int) == (s.size:Int))=true:=Yp;have E:Hid ((0,b,b,false)=kZ s.data.toList a):=(jB4 hb (by rw [qK];exact hbe)).symm;subst hbe;clear hb;go_enter Tryz.func81,Tryz.ntmps81
  go_wp2_with fail
  refine(HS.out _).mono ?_;rintro e w' ⟨rfl,rfl⟩;go_wp2_with fail
  refine lK (v:=zW7 (0,s.size,s.size,false)) (by simp [results,Tryz.results81,go_sem,zW7,kW,qZ5]) rfl ?_;exact⟨zZ7 E.out,zG (lB _ _) _⟩
end
section
open Go.RowKit Go.PlainAid
theorem kE9 (t:List UInt8) (k a b:Nat) (w:World) (hab:a≤b) (hb:b≤t.length) (ht:t.length≤100000000) :
 Calls Tryz.prog 16 #[uR t,kW k a b] w fun e w'=>e=.returned (.string (str (jL6 t a b)))∧Below w.heap.size w w':=by
 have hsz:=jV t;have e1:decide ((a:Int)<0)=false:=Ym;have e2:decide ((b:Int)<(a:Int))=false:=Yp;have e3:decide ((t.length:Int)<(b:Int))=false:=Yp;have hx:(str t).extract a b=str (jL6 t a b):=qK1 (str t) a b;have e3':decide (((str t).size:Int)<(b:Int))=false:=by rw [hsz];exact e3
 have hbi:(b:Int)≤((str t).size:Int):=Yo;have hbn:b≤(str t).size:=Yo;have habi:(a:Int)≤(b:Int):=Yo;clear hsz e3;unfold kW;go_enter Tryz.func16,Tryz.ntmps16
 go_wp2_with fail
 go_ret;exact⟨rfl,zG (lB _ _) _⟩
theorem qE5:∀ (l:List UInt8) (k:Nat) (c:UInt8),jT l=l.length→l[k]?=some c→zV c=true
 | [],k,c,_,h=>by simp at h
 | d :: r,k,c,hd,h=>by
   unfold jT at hd;cases hb:zV d with
   | false=>rw [hb]at hd;simp at hd
   | true =>
     rw [hb,lM rfl]at hd;cases k with
     | zero=>simp at h;rw [←h];exact hb
     | succ k=>exact qE5 r k c (by simpa using hd) (by simpa using h)
theorem zR8 (n:Nat) (c:UInt8) (r:List UInt8):zL7 n (c :: r)=if 1000000000<10*n+(c.toNat-48) then(0,281) else zL7 (10*n+(c.toNat-48)) r:=rfl
def kP8 (q:Nat×Nat):Value:=.tuple #[uI q.1,uI q.2]
theorem zZ8 {q q':Nat×Nat} (h:q=q'):Ending.returned (.tuple #[uI q.1,uI q.2])=.returned (kP8 q'):=by rw [h];rfl
theorem qK7 (t:List UInt8):(vS t).1≤1000000000:=by
 have:∀ (l:List UInt8) (n:Nat),n≤1000000000→(zL7 n l).1≤1000000000:=by
  intro l;induction l with
  | nil=>intro n hn;exact hn
  | cons c r ih =>
    intro n hn;rw [zR8];split
    ·omega
    ·exact ih _ Yo
 unfold vS;split
 ·exact lV _
 ·exact this _ _ Yo
theorem jB8 (s:ByteArray) (w:World) (hs:s.size≤100000000) :
 Calls Tryz.prog 110 #[.string s] w fun e w'=>e=.returned (kP8 (vS s.data.toList))∧w=w':=by
 have hdl:=qK s;by_cases h0:s.data.toList=[]
 ·have e0:s.toList.isEmpty=true:=by rw [qB,h0];rfl
  have E:Hid ((0,280)=vS s.data.toList):=by show _=_;unfold vS;rw [lM (.inl h0)]
  clear h0;go_enter Tryz.func110,Tryz.ntmps110
  go_wp2_with fail
  go_ret2
  exact⟨zZ8 (q:=(0,280)) E.out,rfl⟩
 ·have hne:¬s.toList=[]:=by rw [qB];exact h0
  have e0:s.toList.isEmpty=false:=by simpa using hne
  have e0':(s.toList == [])=false:=by simpa using hne
  have hle:=qK4 (t:=s.data.toList) (a:=0) (lV _);have hd0:zH9 s.data.toList 0=jT s.data.toList:=by unfold zH9;rw [List.drop_zero,Nat.zero_add]
  rw [hd0,qK]at hle;obtain⟨d,hd⟩:∃ d,jT s.data.toList=d:=⟨_,rfl⟩;have HG:Hid (∀ w,Calls Tryz.prog 139 #[.string s,uI 0] w fun e w'=>e=.returned (uI d)∧w=w'):=fun w=>by have h1:=qK6 s 0 w (lV _) hs;rw [hd0,hd]at h1;exact h1
  rw [hd]at hle;clear hd0;by_cases hlt:d<s.size
  ·have e1:decide ((d:Int)<(s.size:Int))=true:=by simp;omega
   have E:Hid ((0,280)=vS s.data.toList):=by show _=_;unfold vS;rw [lM (.inr Yo)]
   clear h0 hne hd hdl;go_enter Tryz.func110,Tryz.ntmps110
   go_wp2_with fail
   refine(HG.out _).mono ?_;rintro e w' ⟨rfl,rfl⟩;go_wp2_with fail
   go_ret2
   exact⟨zZ8 (q:=(0,280)) E.out,rfl⟩
  ·have e1:decide ((d:Int)<(s.size:Int))=false:=by simp;omega
   have HA:Hid (∀ (k:Nat) (c:UInt8),s.data.toList[k]?=some c→zV c=true):=fun k c hc=>qE5 _ k c Yo hc;have E:Hid (zL7 0 s.data.toList=vS s.data.toList):=by show _=_;unfold vS;rw [lN (fun h=>h.elim h0 (fun h=>Yo))]
   clear h0 hne hd hdl;go_enter Tryz.func110,Tryz.ntmps110
   go_wp2_with fail
   refine(HG.out _).mono ?_;rintro e w' ⟨rfl,rfl⟩;go_wp2_with fail
   go_loopw [4,17] (fun v4 v17 wr=>∃ k n:Nat,v17=uI k∧v4=uI n∧k≤s.size∧n≤1000000000∧Hid (zL7 n (s.data.toList.drop k)=vS s.data.toList)∧w=wr) (fun _ v17 _=>s.size-(intOf v17).toNat)
   case atStart=>exact⟨0,0,rfl,rfl,lV _,lV _,E,rfl⟩
   case round =>
    obtain⟨k,n,rfl,rfl,hk,hn,HK,rfl⟩:=hrel;clear E;by_cases hlt:k<s.size
    ·have e2:decide ((k:Int)<(s.size:Int))=true:=by simp;omega
     have hki:(k:Int)<(s.size:Int):=Yo;obtain⟨c,hc,hbc⟩:=zO9 hlt;have hg:=get_bt s k hlt;have hdc:=HA.out k c hc;have hK:=HK.out;rw [jW6 hc,zR8]at hK;unfold zV at hdc;simp only [lZ,cC]at hdc;obtain⟨d,hd⟩:∃ d,c.toNat-48=d:=⟨_,rfl⟩;have w1:IntKind.u8.wrap (bt s k-48)=(d:Int):=by rw [hbc,IntKind.wrap_u8];omega
     have w1':IntKind.u8.wrap ((c.toNat:Int)-48)=(d:Int):=by rw [IntKind.wrap_u8];omega
     have w2:IntKind.i64.wrap (d:Int)=(d:Int):=by rw [lL];omega
     have w3:IntKind.i64.wrap (10*(n:Int))=10*(n:Int):=by rw [lL];omega
     have w4:IntKind.i64.wrap (10*(n:Int)+(d:Int))=((10*n+d:Nat):Int):=by rw [lL];omega
     rw [hd]at hK;have hd9:d≤9:=Yo;obtain⟨m,hm⟩:∃ m,10*n+d=m:=⟨_,rfl⟩;rw [hm]at hK w4;have hm2:m≤100000000000:=Yo;clear hc hdc hd hm;by_cases hbig:1000000000<m
     ·have e3:decide ((1000000000:Int)<(m:Int))=true:=by simp;omega
      rw [lM hbig]at hK;have E2:Hid ((0,281)=vS s.data.toList):=hK;clear hK;go_wp2_with fail
      go_ret2
      exact⟨zZ8 (q:=(0,281)) E2.out,rfl⟩
     ·have e3:decide ((1000000000:Int)<(m:Int))=false:=by simp;omega
      rw [lN hbig]at hK;have HK2:=Ph hK;clear hK;go_wp2_with fail
      go_roundw
      case rel=>exact⟨k+1,m,by go_num,rfl,Yo,Yo,HK2,trivial⟩
      case measure=>simp [intOf];omega
    ·have e2:decide ((k:Int)<(s.size:Int))=false:=by simp;omega
     have hK:=HK.out;rw [List.drop_eq_nil_of_le (by rw [qK];omega)]at hK;have E2:Hid ((n,0)=vS s.data.toList):=hK;clear hK;go_wp2_with fail
     go_ret2
     exact⟨zZ8 (q:=(n,0)) E2.out,rfl⟩
def kP9 (q:Nat×Nat×Nat):Value:=.tuple #[uI q.1,uI q.2.1,uI q.2.2]
theorem zM3 {q q':Nat×Nat×Nat} (h:q=q'):Ending.returned (.tuple #[uI q.1,uI q.2.1,uI q.2.2])=.returned (kP9 q'):=by rw [h];rfl
theorem qP4 (t:List UInt8):(vS t).2=0∨(vS t).2=280∨(vS t).2=281:=by
 have:∀ (l:List UInt8) (n:Nat),(zL7 n l).2=0∨(zL7 n l).2=281:=by
  intro l;induction l with
  | nil=>intro n;exact .inl rfl
  | cons c r ih =>
    intro n;rw [zR8];split
    ·exact .inr rfl
    ·exact ih _
 unfold vS;split
 ·exact .inr (.inl rfl)
 ·rcases this t 0 with h | h
  ·exact .inl h
  ·exact .inr (.inr h)
theorem jX4 (t:List UInt8):(zH8 t).1≤1000000000∧(zH8 t).2.1≤1000000000:=by
 unfold zH8;split
 ·exact⟨lV _,lV _⟩
 ·split
  ·exact⟨lV _,lV _⟩
  ·exact⟨qK7 _,qK7 _⟩
theorem jS8 (s:ByteArray) (w:World) (hs:s.size≤100000000) (hv:Hid (Vars w)) :
 Calls Tryz.prog 162 #[.string s] w fun e w'=>e=.returned (kP9 (zH8 s.data.toList))∧Below w.heap.size w w':=by
 have hdl:=qK s;have hC:=kR3 s w hs hv;have hlen:=qP1 58 s.data.toList
 have hL:zH8 s.data.toList=if (zC2 58 s.data.toList).2.2=false∨(vS (zC2 58 s.data.toList).1).2=280∨(vS (zC2 58 s.data.toList).2.1).2=280 then(0,0,280)
  else if (vS (zC2 58 s.data.toList).1).2≠0∨(vS (zC2 58 s.data.toList).2.1).2≠0 then(0,0,281)
  else((vS (zC2 58 s.data.toList).1).1,(vS (zC2 58 s.data.toList).2.1).1,0):=rfl
 obtain⟨⟨p,q,t⟩,hq⟩:∃ q,zC2 58 s.data.toList=q:=⟨_,rfl⟩;rw [hq]at hC hlen hL;have hp1:=jB8 (str p);have hq1:=jB8 (str q);obtain⟨⟨n,e⟩,he⟩:∃ r,vS p=r:=⟨_,rfl⟩;obtain⟨⟨m,f⟩,hf⟩:∃ r,vS q=r:=⟨_,rfl⟩;have ee:=qP4 p;have fe:=qP4 q;have HP:Hid (∀ w,Calls Tryz.prog 110 #[uR p] w fun e' w'=>e'=.returned (.tuple #[uI n,uI e])∧w=w'):=fun w=>by have h1:=hp1 w (by rw [jV];have:=hlen.1;(try dsimp only at this);omega);rw [qE,he]at h1;exact h1
 have HQ:Hid (∀ w,Calls Tryz.prog 110 #[uR q] w fun e' w'=>e'=.returned (.tuple #[uI m,uI f])∧w=w'):=fun w=>by have h1:=hq1 w (by rw [jV];have:=hlen.2;(try dsimp only at this);omega);rw [qE,hf]at h1;exact h1
 rw [he]at ee;rw [hf]at fe;(try dsimp only at ee fe hC hL);rw [he,hf]at hL;have HC:=Ph hC;have HL:=Ph hL;clear hp1 hq1 he hf hq hlen hL hC hdl;have pre:∀ (Z:Nat×Nat×Nat),zH8 s.data.toList=Z→Hid (Z=zH8 s.data.toList):=fun Z h=>h.symm;cases t with
 | false =>
   have E:=pre (0,0,280) (by rw [HL.out,lM (.inl rfl)]);clear ee fe;go_enter Tryz.func162,Tryz.ntmps162
   go_wp2_with fail
   refine HC.out.mono ?_;rintro e w1 ⟨rfl,hb⟩;have HB:=Ph hb;clear hb;go_wp2_with fail
   refine(HP.out _).mono ?_;rintro e w' ⟨rfl,rfl⟩;go_wp2_with fail
   refine(HQ.out _).mono ?_;rintro e w' ⟨rfl,rfl⟩;go_wp2_with fail
   go_ret3
   exact⟨zM3 (q:=(0,0,280)) E.out,HB.out⟩
 | true =>
   by_cases h1:e=280
   ·subst h1;have E:=pre (0,0,280) (by rw [HL.out,lM (.inr (.inl rfl))]);clear ee fe;go_enter Tryz.func162,Tryz.ntmps162
    go_wp2_with fail
    refine HC.out.mono ?_;rintro e w1 ⟨rfl,hb⟩;have HB:=Ph hb;clear hb;go_wp2_with fail
    refine(HP.out _).mono ?_;rintro e w' ⟨rfl,rfl⟩;go_wp2_with fail
    refine(HQ.out _).mono ?_;rintro e w' ⟨rfl,rfl⟩;go_wp2_with fail
    go_ret3
    exact⟨zM3 (q:=(0,0,280)) E.out,HB.out⟩
   ·have e1:((e:Int) == 280)=false:=by simp;omega
    by_cases h2:f=280
    ·subst h2;have E:=pre (0,0,280) (by rw [HL.out,lM (.inr (.inr rfl))]);clear ee fe;go_enter Tryz.func162,Tryz.ntmps162
     go_wp2_with fail
     refine HC.out.mono ?_;rintro e w1 ⟨rfl,hb⟩;have HB:=Ph hb;clear hb;go_wp2_with fail
     refine(HP.out _).mono ?_;rintro e w' ⟨rfl,rfl⟩;go_wp2_with fail
     refine(HQ.out _).mono ?_;rintro e w' ⟨rfl,rfl⟩;go_wp2_with fail
     go_ret3
     exact⟨zM3 (q:=(0,0,280)) E.out,HB.out⟩
    ·have e2:((f:Int) == 280)=false:=by simp;omega
     by_cases h3:e=0
     ·subst h3;by_cases h4:f=0
      ·subst h4;have E:=pre (n,m,0) (by rw [HL.out,lN (by rintro(h | h | h) <;> cases h),lN (by rintro(h | h) <;> exact h rfl)]);clear ee fe;go_enter Tryz.func162,Tryz.ntmps162
       go_wp2_with fail
       refine HC.out.mono ?_;rintro e w1 ⟨rfl,hb⟩;have HB:=Ph hb;clear hb;go_wp2_with fail
       refine(HP.out _).mono ?_;rintro e w' ⟨rfl,rfl⟩;go_wp2_with fail
       refine(HQ.out _).mono ?_;rintro e w' ⟨rfl,rfl⟩;go_wp2_with fail
       go_ret3
       exact⟨zM3 (q:=(n,m,0)) E.out,HB.out⟩
      ·have e4:((f:Int) != 0)=true:=by simp;omega
       have e5:((f:Int) == 0)=false:=Yp;have E:=pre (0,0,281) (by rw [HL.out,lN (by rintro(h | h | h) <;> first | exact h2 h | cases h),lM (.inr h4)]);clear ee fe;go_enter Tryz.func162,Tryz.ntmps162
       go_wp2_with fail
       refine HC.out.mono ?_;rintro e w1 ⟨rfl,hb⟩;have HB:=Ph hb;clear hb;go_wp2_with fail
       refine(HP.out _).mono ?_;rintro e w' ⟨rfl,rfl⟩;go_wp2_with fail
       refine(HQ.out _).mono ?_;rintro e w' ⟨rfl,rfl⟩;go_wp2_with fail
       go_ret3
       exact⟨zM3 (q:=(0,0,281)) E.out,HB.out⟩
     ·have e4:((e:Int) != 0)=true:=by simp;omega
      have e5:((e:Int) == 0)=false:=Yp;have E:=pre (0,0,281) (by rw [HL.out,lN (by rintro(h | h | h) <;> first | exact h1 h | exact h2 h | cases h),lM (.inl h3)]);clear ee fe;go_enter Tryz.func162,Tryz.ntmps162
      go_wp2_with fail
      refine HC.out.mono ?_;rintro e w1 ⟨rfl,hb⟩;have HB:=Ph hb;clear hb;go_wp2_with fail
      refine(HP.out _).mono ?_;rintro e w' ⟨rfl,rfl⟩;go_wp2_with fail
      refine(HQ.out _).mono ?_;rintro e w' ⟨rfl,rfl⟩;go_wp2_with fail
      go_ret3
      exact⟨zM3 (q:=(0,0,281)) E.out,HB.out⟩
end
section
open Go.RowKit Go.PlainAid
def nxV (t:Tk):Value:=.tuple #[kW t.kind t.at' t.fin,uR t.text]
def kM1 (E:Env):Tk:=⟨0,[],E.text.length,E.text.length⟩
theorem jB9 {t t':Tk} (h:t=t'):Ending.returned (nxV t)=.returned (nxV t'):=by rw [h]
theorem zC5 (p:Nat) (E:Env) (T:TV) (Q:SV) (s:PSt) (w:World) (h:Hid (Ps w p E T Q s)) :
 Calls Tryz.prog 83 #[uQ p 0] w fun e w'=>e=.returned (nxV (zC E s))∧Below w.heap.size w w':=by
 have HB0:Hid (Below w.heap.size w (w.alloc (.cells #[uB 0,uI 0,uI 0] 44))):=zG (lB _ _) _;have HX0:=Ph (Bk.new w 44 #[uB 0,uI 0,uI 0]);have HP0:=Ph (h.out.below HB0.out);have hpl:p<w.heap.size:=h.out.lt;have hlen:(str E.text).size=E.text.length:=jV _;have hle:=h.out.ok.small;by_cases h1:s.e=0∧s.n<T.n
 ·obtain⟨he,hn⟩:=h1;have hlt:s.n<E.toks.length:=by rw [h.out.ok.len];exact hn
  have htok:E.toks[s.n]?=some (E.toks[s.n]'hlt):=cK hlt;generalize E.toks[s.n]'hlt=t at htok;have hE:zC E s=t:=by unfold zC;rw [lN (fun h=>h he),htok]
  have hok:=h.out.ok.tok _ _ htok;obtain⟨o1,o2,o3,o4,o5⟩:=hok;obtain⟨tk,ttext,ta,tf⟩:=t;(try dsimp only at o1 o2 o3 o4 o5);subst o5;have HE:=Ph hE;obtain⟨tb,toff,t',hTA,ht',htb,hcl⟩:=HP0.out.rd.rd.flat (f:=zQ1) jA6 Yo (i:=s.n) hlt;rw [htok]at ht';injection ht' with ht';subst ht';have c0:=hcl 0 _ Yo rfl;have c1:=hcl 1 _ Yo rfl;have c2:=hcl 2 _ Yo rfl;(try dsimp only at c0 c1 c2);clear hE htok hlt hcl;go_enter Tryz.func83,Tryz.ntmps83
  go_upto_region 1 with fail
  generalize (w.alloc _)=W at HB0 HX0 HP0 c0 c1 c2 htb ⊢;obtain⟨q,hq⟩:∃ q,w.heap.size=q:=⟨_,rfl⟩;rw [hq]at HX0 ⊢;have hne:p≠q:=Yo;have hqw:w.heap.size≤q:=Yo;clear hq hpl;obtain⟨y0,y1,y2,y3,y4,y5,y6⟩:=HP0.out.cells;have e1:((s.e:Int) != 0)=false:=Yp;have e2:decide ((T.n:Int)≤(s.n:Int))=false:=Yp;have hTn:(s.n:Int)<(T.n:Int):=Yo;rw [hTA]at y1;go_cut [21] (fun v21 wx=>v21=.bool false∧∃ m,wx=W.drewN m)
  case first =>
   go_quiet (fail)
   go_wp2
   go_meet
   exact⟨by rw [lG Yo],_,rfl⟩
  case rest =>
  obtain⟨rfl,m,rfl⟩:=hcut;have HB1:Hid (Below w.heap.size w (W.drewN m)):=jA1 HB0.out m;have HX1:=Ph (HX0.out.drewN m);have HP1:Hid (Ps (W.drewN m) p E T Q s):=HP0.out.below (zG5 W m);have htb1:tb<(W.drewN m).heap.size:=htb;have d0:(W.drewN m).cell? ⟨tb,toff+s.n*3,none⟩=_:=c0;have d1:(W.drewN m).cell? ⟨tb,toff+s.n*3+1,none⟩=_:=c1;have d2:(W.drewN m).cell? ⟨tb,toff+s.n*3+2,none⟩=_:=c2;clear y0 y1 y2 y3 y4 y5 y6 HB0 HX0 HP0 h c0 c1 c2 htb;generalize W.drewN m=W1 at HB1 HX1 HP1 d0 d1 d2 htb1 ⊢;have hpl1:p<W1.heap.size:=HP1.out.lt;have hql1:q<W1.heap.size:=HX1.out.lt;obtain⟨y0,y1,y2,y3,y4,y5,y6⟩:=HP1.out.cells;rw [hTA]at y1;go_upto_region 3 with fail
  have HBn:Hid (Below W1.heap.size W1 (W1.alloc (.cells #[uB tk,uI ta,uI tf] 44)).drew):=(zG (lB _ _) _).drew;have HN:=Ph (Bk.new W1 44 #[uB tk,uI ta,uI tf]).drew;go_region
  go_upto_region 4 with fail
  have hqn:q≠W1.heap.size:=Yo;have hpn:p≠W1.heap.size:=Yo;generalize (W1.alloc (.cells #[uB tk,uI ta,uI tf] 44)).drew=W3 at HBn HN ⊢;have HBQ:=Ph (HX1.out.below HBn.out hql1);have HBP:=Ph (HP1.out.bk.below HBn.out hpl1);have HBB:=Ph (zU HB1.out HBn.out);generalize W1.heap.size=q2 at HN hqn hpn ⊢;clear d0 d1 d2 y0 y1 y2 y3 y4 y5 y6 HB1 HX1 HP1 HBn hpl1 hql1 htb1;have x0:=HBQ.out.cell 0;have x1:=HBQ.out.cell 1;have x2:=HBQ.out.cell 2;obtain⟨z0,z1,z2⟩:=qE4 HBQ.out;obtain⟨n0,n1,n2⟩:=zJ HN.out;have y0:W3.cell? ⟨p,0,none⟩=some (uR E.text):=HBP.out.cell 0;have HT:=Ph fun w=>kE9 E.text tk ta tf w Yo o4 Yo;dsimp only [kW]at HT;have HBX:=HN
  go_region_held3 (fun w'=>w'.cell? ⟨q2,0,none⟩=some (uB tk)∧w'.cell? ⟨q2,1,none⟩=some (uI ta)∧w'.cell? ⟨q2,2,none⟩=some (uI tf)∧w'.cell? ⟨p,0,none⟩=some (uR E.text))
   (first | with_reducible exact⟨HBX.out.cell 0,HBX.out.cell 1,HBX.out.cell 2,HBP.out.cell 0⟩ | exact⟨HBX.out.cell 0,HBX.out.cell 1,HBX.out.cell 2,HBP.out.cell 0⟩ | exact⟨(jS7 HBX.out (cX hqn)).cell 0,(jS7 HBX.out (cX hqn)).cell 1,(jS7 HBX.out (cX hqn)).cell 2,(jS7 HBP.out hne).cell 0⟩)
   (first
     | (go_at_call 16
        with_reducible refine(HT.out _).mono ?_
        rintro e w5 ⟨rfl,hb5⟩
        first
         | (have HBX':=Ph (HBX.out.drew.below hb5 HBX.out.lt)
            have HBP':=Ph (HBP.out.drew.below hb5 HBP.out.lt);have HBQ':=Ph (HBQ.out.drew.below hb5 HBQ.out.lt);have HBB':=Ph (zU HBB.out.drew hb5))
         | (have HBX':=Ph ((jS7 HBX.out (cX hqn)).drew.below hb5 (jS7 HBX.out (cX hqn)).lt)
            have HBP':=Ph ((jS7 HBP.out hne).drew.below hb5 (jS7 HBP.out hne).lt);have HBQ':=Ph ((kD8 HBQ.out).drew.below hb5 (kD8 HBQ.out).lt);have HBB':=Ph (zU (kE7 HBB.out hqw).drew hb5))
        clear HBX HBP HBQ HBB x0 x1 x2 z0 z1 z2 n0 n1 n2 y0;have HBX:=HBX';have HBP:=HBP';have HBQ:=HBQ';have HBB:=HBB';clear HBX' HBP' HBQ' HBB' hb5;have x0:=HBQ.out.cell 0;have x1:=HBQ.out.cell 1;have x2:=HBQ.out.cell 2;obtain⟨z0,z1,z2⟩:=qE4 HBQ.out))
  all_goals
   first
    | (have HF:Hid (Bk w5 q 44 #[uB tk,uI ta,uI tf]):=HBQ
       have HFB:Hid (Below w.heap.size w w5):=HBB;go_wp2
       obtain⟨r0,r1,r2⟩:=zJ HF.out;refine lK (v:=nxV ⟨tk,jL6 E.text ta tf,ta,tf⟩) (by simp [results,Tryz.results83,go_sem,nxV,kW,r0,r1,r2]) rfl ?_;exact⟨jB9 HE.out.symm,HFB.out⟩)
    | (have HF:=Ph (kD8 (v0:=uB tk) (v1:=uI ta) (v2:=uI tf) HBQ.out)
       have HFB:=Ph (kE7 (v0:=uB tk) (v1:=uI ta) (v2:=uI tf) HBB.out hqw);go_wp2
       generalize (World.setCell _ _ _)=WF at HF HFB ⊢;obtain⟨r0,r1,r2⟩:=zJ HF.out;refine lK (v:=nxV ⟨tk,jL6 E.text ta tf,ta,tf⟩) (by simp [results,Tryz.results83,go_sem,nxV,kW,r0,r1,r2]) rfl ?_;exact⟨jB9 HE.out.symm,HFB.out⟩)
 ·have hE:zC E s=kM1 E:=by
   unfold zC;by_cases h2:s.e=0
   ·rw [lN (fun h=>h h2)];have h3:E.toks[s.n]?=none:=cW (by have:=h.out.ok.len;omega);rw [h3];rfl
   ·rw [lM h2];rfl
  have HE:=Ph hE;clear hE;go_enter Tryz.func83,Tryz.ntmps83
  go_upto_region 1 with fail
  generalize (w.alloc _)=W at HB0 HX0 HP0 ⊢;obtain⟨q,hq⟩:∃ q,w.heap.size=q:=⟨_,rfl⟩;rw [hq]at HX0 ⊢;have hne:p≠q:=Yo;have hqw:w.heap.size≤q:=Yo;clear hq hpl;obtain⟨y0,y1,y2,y3,y4,y5,y6⟩:=HP0.out.cells;go_cut [21] (fun v21 wx=>v21=.bool true∧∃ m,wx=W.drewN m)
  case first =>
   by_cases h2:s.e=0
   ·have e1:((s.e:Int) != 0)=false:=by simp;omega
    have e2:decide ((T.n:Int)≤(s.n:Int))=true:=Yp;have h3:(T.n:Int)≤(s.n:Int):=Yo;clear h1;go_quiet (fail)
    go_wp2
    go_meet
    exact⟨rfl,_,rfl⟩
   ·have e1:((s.e:Int) != 0)=true:=by simp;omega
    clear h1;go_quiet (fail)
    go_wp2
    go_meet
    exact⟨rfl,_,rfl⟩
  case rest =>
  obtain⟨rfl,m,rfl⟩:=hcut;have HB1:Hid (Below w.heap.size w (W.drewN m)):=jA1 HB0.out m;have HX1:=Ph (HX0.out.drewN m);have HP1:Hid (Ps (W.drewN m) p E T Q s):=HP0.out.below (zG5 W m);clear y0 y1 y2 y3 y4 y5 y6 HB0 HX0 HP0 h h1;generalize W.drewN m=W1 at HB1 HX1 HP1 ⊢;obtain⟨y0,y1,y2,y3,y4,y5,y6⟩:=HP1.out.cells;obtain⟨x0,x1,x2⟩:=zJ HX1.out;obtain⟨z0,z1,z2⟩:=qE4 HX1.out;have HF:=Ph (kD8 (v0:=uB 0) (v1:=uI E.text.length) (v2:=uI E.text.length) HX1.out).drew;have HFB:=Ph (kE7 (v0:=uB 0) (v1:=uI E.text.length) (v2:=uI E.text.length) HB1.out hqw).drew;go_upto_region 2 with fail
  go_region
  all_goals
   go_wp2
   generalize (((W1.setCell ⟨q,0,none⟩ (uB 0)).setCell ⟨q,1,none⟩ (uI E.text.length)).setCell ⟨q,2,none⟩ (uI E.text.length)).drew=WF at HF HFB ⊢;obtain⟨r0,r1,r2⟩:=zJ HF.out;refine lK (v:=nxV (kM1 E)) (by simp [results,Tryz.results83,go_sem,nxV,kM1,kW,r0,r1,r2];rfl) rfl ?_;exact⟨jB9 HE.out.symm,HFB.out⟩
end
section
open Go.RowKit Go.PlainAid
structure PP (w:World) (p:Nat) (E:Env) (T:TV) (Q:SV) (s:PSt) (w':World):Prop where
 ps:Ps w' p E T Q s
 fr:Fr (fun k=>k=p) w w'
section
variable {w w1 w':World} {p:Nat} {E:Env} {T:TV} {Q:SV} {s s1 s':PSt}
theorem PP.below (h:Ps w p E T Q s) (hb:Below w.heap.size w w'):PP w p E T Q s w':=⟨h.below hb,Fr.of_below hb⟩
theorem PP.after (hb:Below w.heap.size w w1) (h:PP w1 p E T Q s w'):PP w p E T Q s w':=⟨h.ps,(Fr.of_below hb).trans h.fr⟩
theorem PP.trans (h:PP w p E T Q s1 w1) (k:PP w1 p E T Q s w'):PP w p E T Q s w':=⟨k.ps,h.fr.trans k.fr⟩
theorem PP.then (h:PP w p E T Q s w1) (hb:Below w1.heap.size w1 w'):PP w p E T Q s w':=⟨h.ps.below hb,h.fr.trans (Fr.of_below hb)⟩
theorem Ps.setN (h:Ps w p E T Q s) (n:Nat) (hn:n≤T.n):PP w p E T Q { s with n:=n } (w.setCell ⟨p,2,none⟩ (uI n)):=by have hf:Fr (fun k=>k=p) w (w.setCell ⟨p,2,none⟩ (uI n)):=(Fr.refl (fun k=>k=p) w).setCell (p:=⟨p,2,none⟩) (.inl rfl) _;exact⟨h.put hf (h.bk.put 2 _) hn,hf⟩
theorem Ps.setDeep (h:Ps w p E T Q s) (d:Int):PP w p E T Q { s with deep:=d } (w.setCell ⟨p,3,none⟩ (uI d)):=by have hf:Fr (fun k=>k=p) w (w.setCell ⟨p,3,none⟩ (uI d)):=(Fr.refl (fun k=>k=p) w).setCell (p:=⟨p,3,none⟩) (.inl rfl) _;exact⟨h.put hf (h.bk.put 3 _) h.n,hf⟩
theorem Ps.setErr (h:Ps w p E T Q s) (a e:Nat):PP w p E T Q { s with fail:=a,e:=e } ((w.setCell ⟨p,5,none⟩ (uI a)).setCell ⟨p,6,none⟩ (uI e)):=by have hf:Fr (fun k=>k=p) w ((w.setCell ⟨p,5,none⟩ (uI a)).setCell ⟨p,6,none⟩ (uI e)):=((Fr.refl (fun k=>k=p) w).setCell (p:=⟨p,5,none⟩) (.inl rfl) _).setCell (p:=⟨p,6,none⟩) (.inl rfl) _;exact⟨h.put hf ((h.bk.put 5 _).put 6 _) h.n,hf⟩
theorem Ps.frozens (h:Ps w p E T Q s) (i:Nat):w.frozen? ⟨p,i,none⟩=false:=h.bk.frozen i
theorem Ps.tok (h:Ps w p E T Q s) (hk:(zC E s).kind≠0∨(zC E s).text≠[]):s.e=0∧s.n<T.n∧kP7 E.text (zC E s):=by
 unfold zC at hk ⊢;by_cases he:s.e=0
 ·rw [lN (fun h=>h he)]at hk ⊢;cases ht:E.toks[s.n]? with
  | none=>rw [ht]at hk;simp at hk
  | some t =>
    obtain⟨h1,_⟩:=cA.1 ht;exact⟨he,by have:=h.ok.len;omega,h.ok.tok _ _ ht⟩
 ·rw [lM he]at hk;simp at hk
theorem Ps.nextLe (h:Ps w p E T Q s):(zC E s).at'≤65536∧(zC E s).kind≤4∧(zC E s).text.length≤65536:=by
 have hs:=h.ok.small;by_cases hk:(zC E s).kind≠0
 ·obtain⟨_,_,h3⟩:=h.tok (.inl hk);have h4:=h3.a;have h5:=h3.f;refine⟨Yo,h3.k4,?_⟩;rw [h3.t];unfold jL6;rw [cL,cU];omega
 ·have h0:(zC E s).text=[]:=by
   by_cases ht:(zC E s).text=[]
   ·exact ht
   ·obtain⟨_,_,h3⟩:=h.tok (.inr ht);have:=h3.k1;omega
  refine⟨?_,Yo,by rw [h0];exact lV _⟩;unfold zC at hk ⊢;split
  ·exact hs
  ·rename_i he;rw [lN he]at hk;cases ht:E.toks[s.n]? with
   | none=>exact hs
   | some t =>
     rw [ht]at hk;have:=(h.ok.tok _ _ ht).k1;simp at hk;omega
end
theorem jM9 {w:World} {o:Obj}:Below w.heap.size w (w.alloc o):=zG (lB _ _) _
theorem zG2 (p:Nat) (E:Env) (T:TV) (Q:SV) (s:PSt) (e:Nat) (w:World) (h:Hid (Ps w p E T Q s)) :
 Calls Tryz.prog 82 #[uQ p 0,uI e] w fun x w'=>(∃ v,x=.returned v)∧PP w p E T Q (qH E s e) w':=by
 obtain⟨y0,y1,y2,y3,y4,y5,y6⟩:=h.out.cells;by_cases h0:s.e=0
 ·have e1:((s.e:Int) == 0)=true:=by simp;omega
  have E1:Hid (qH E s e={ s with fail:=(zC E s).at',e:=e }):=by show _=_;unfold qH;rw [lM h0]
  obtain⟨⟨tk,tt,ta,tf⟩,ht⟩:∃ t,zC E s=t:=⟨_,rfl⟩;have HN:=Ph (zC5 p E T Q s w h);rw [ht]at HN E1;dsimp only [nxV,kW]at HN E1;clear ht h0;go_enter Tryz.func82,Tryz.ntmps82
  go_wp2_with fail
  refine HN.out.mono ?_;rintro x w1 ⟨rfl,hb⟩;have HP1:=Ph (h.out.below hb);have HB1:=Ph hb;clear hb y0 y1 y2 y3 y4 y5 y6;obtain⟨y0,y1,y2,y3,y4,y5,y6⟩:=HP1.out.cells;have z5:=HP1.out.frozens 5;have z6:=HP1.out.frozens 6;have hpl:p<w1.heap.size:=HP1.out.lt;go_wp2_with fail
  go_end0
  refine⟨⟨_,rfl⟩,?_⟩;rw [E1.out];exact(PP.after HB1.out (HP1.out.setErr ta e)).then jM9
 ·have e1:((s.e:Int) == 0)=false:=by simp;omega
  have E1:Hid (qH E s e=s):=by show _=_;unfold qH;rw [lN h0]
  clear h0;go_enter Tryz.func82,Tryz.ntmps82
  go_wp2_with fail
  go_end0
  refine⟨⟨_,rfl⟩,?_⟩;rw [E1.out];exact PP.below h.out (lB _ _)
theorem isC (p:Nat) (E:Env) (T:TV) (Q:SV) (s:PSt) (u:List UInt8) (w:World) (h:Hid (Ps w p E T Q s)) :
 Calls Tryz.prog 87 #[uQ p 0,uR u] w fun x w'=>x=.returned (.bool (isP E s u))∧PP w p E T Q (isS E s u) w':=by
 have hle:=h.out.nextLe;have htok:=h.out.tok;have hIP:isP E s u=(decide ((zC E s).kind≠0) && decide ((zC E s).text=u)):=rfl;have hIS:isS E s u=if isP E s u then zE s else s:=rfl
 have hbn:=jA2 (zC E s).text u;have hbq:=zR3 (zC E s).text u;have HN:=Ph (zC5 p E T Q s w h);obtain⟨⟨tk,tt,ta,tf⟩,ht⟩:∃ t,zC E s=t:=⟨_,rfl⟩;rw [ht]at HN hle htok hIP hbn hbq;dsimp only [nxV,kW]at HN hle htok hIP hbn hbq;clear ht;by_cases hk:tk=0
 ·have e1:((tk:Int) == 0)=true:=by simp;omega
  have E1:Hid (isP E s u=false):=by show _=_;rw [hIP];simp [hk]
  have E2:Hid (isS E s u=s):=by show _=_;rw [hIS,E1.out];rfl
  clear hIP hIS htok hbn hbq;go_enter Tryz.func87,Tryz.ntmps87
  go_wp2_with fail
  refine HN.out.mono ?_;rintro x w1 ⟨rfl,hb⟩;have HB1:=Ph hb;clear hb;go_wp2_with fail
  go_ret;rw [E1.out,E2.out];exact⟨rfl,PP.below h.out (zG HB1.out _)⟩
 ·have e1:((tk:Int) == 0)=false:=by simp;omega
  by_cases hu:tt=u
  ·have e2:((str tt).toList != (str u).toList)=false:=by rw [hbn,lH hu];rfl
   have e3:((str tt).toList == (str u).toList)=true:=by rw [hbq,lH hu]
   have E1:Hid (isP E s u=true):=by show _=_;rw [hIP];simp [hk,hu]
   have E2:Hid (isS E s u={ s with n:=s.n+1 }):=by show _=_;rw [hIS,E1.out];rfl
   obtain⟨t1,t2,_⟩:=htok (.inl hk);have hT:=h.out.ok.few;have wn:IntKind.i64.wrap ((s.n:Int)+1)=((s.n+1:Nat):Int):=by rw [lL];omega
   clear hIP hIS hbn hbq;go_enter Tryz.func87,Tryz.ntmps87
   go_wp2_with fail
   refine HN.out.mono ?_;rintro x w1 ⟨rfl,hb⟩;have HP1:=Ph (h.out.below hb);have HB1:=Ph hb;clear hb;obtain⟨y0,y1,y2,y3,y4,y5,y6⟩:=HP1.out.cells;have z2:=HP1.out.frozens 2;have hpl:p<w1.heap.size:=HP1.out.lt;go_wp2_with fail
   go_ret;rw [E1.out,E2.out];exact⟨rfl,(PP.after HB1.out (HP1.out.setN (s.n+1) t2)).then jM9⟩
  ·have e2:((str tt).toList != (str u).toList)=true:=by rw [hbn,lG hu];rfl
   have e3:((str tt).toList == (str u).toList)=false:=by rw [hbq,lG hu]
   have E1:Hid (isP E s u=false):=by show _=_;rw [hIP];simp [hu]
   have E2:Hid (isS E s u=s):=by show _=_;rw [hIS,E1.out];rfl
   clear hIP hIS htok hbn hbq;go_enter Tryz.func87,Tryz.ntmps87
   go_wp2_with fail
   refine HN.out.mono ?_;rintro x w1 ⟨rfl,hb⟩;have HB1:=Ph hb;clear hb;go_wp2_with fail
   go_ret;rw [E1.out,E2.out];exact⟨rfl,PP.below h.out (zG HB1.out _)⟩
theorem jX5 (p:Nat) (E:Env) (T:TV) (Q:SV) (s:PSt) (u:List UInt8) (w:World) (h:Hid (Ps w p E T Q s)) :
 Calls Tryz.prog 84 #[uQ p 0,uR u] w fun x w'=>(∃ v,x=.returned v)∧PP w p E T Q (zI E s u) w':=by
 have hM:zI E s u=if isP E s u then zE s else qH E s 300:=rfl
 have hS:isS E s u=if isP E s u then zE s else s:=rfl
 have HI:=Ph (isC p E T Q s u w h);cases hb:isP E s u with
 | true =>
   rw [hb]at hM hS HI;rw [lM rfl]at hM hS;rw [hS,←hM]at HI;clear hM hS hb;go_enter Tryz.func84,Tryz.ntmps84
   go_wp2_with fail
   refine HI.out.mono ?_;rintro x w1 ⟨rfl,hp⟩;have HP:=Ph hp;clear hp;go_wp2_with fail
   go_end0
   exact⟨⟨_,rfl⟩,HP.out⟩
 | false =>
   rw [hb]at hM hS HI;rw [lN Ym]at hM hS;rw [hS]at HI;have HM:=Ph hM;clear hM hS hb;go_enter Tryz.func84,Tryz.ntmps84
   go_wp2_with fail
   refine HI.out.mono ?_;rintro x w1 ⟨rfl,hp⟩;have HP:=Ph hp;have HW:=Ph (zG2 p E T Q s 300 w1 (Ph hp.ps));clear hp;go_wp2_with fail
   refine HW.out.mono ?_;rintro x w2 ⟨⟨v,rfl⟩,hp⟩;have HP2:=Ph (HP.out.trans hp);clear hp;go_wp2_with fail
   go_end0
   rw [HM.out];exact⟨⟨_,rfl⟩,HP2.out⟩
end
end Go.Proofs.YtfdaebgllibphaaGreatDoor
