import Derived.Test.YtfdaebgllibphaaGreatDoorYaf
set_option linter.unusedVariables false
set_option linter.unusedSimpArgs false
set_option maxRecDepth 100000
set_option maxHeartbeats 16000000
namespace Go.Proofs.YtfdaebgllibphaaGreatDoor
section
open Go.RowKit Go.PlainAid
theorem jO5 (y:Ex):zM6 y=y.kind:=by cases y;rfl
theorem jY5 (a b:List UInt8):str a++str b=str (a++b):=(jW3 a b)
theorem zQ (a b:List UInt8) (h:a.length+b.length≤4000000) (w:World):(Op.stringOp .add (str a) (str b)).run Tryz.prog w=.ok (.string (str (a++b))) w:=by
 have h0:(str a).size+(str b).size≤4000000:=by rw [jV,jV];exact h
 have h1:(str a++str b).size≤4000000:=by rw [ByteArray.size_append];exact h0
 have h4:(((str a).size:Int)+((str b).size:Int))≤9223372036854775807:=Yo;have h5:(str a).size+(str b).size≤9223372036854775807:=Yo;rw [←jY5];simp [Op.stringOp,go_sem,h1,h4,h5]
abbrev TE (w:World) (x:Ex) (S:SV):Prop:=TreeAt 0 qX 31 w x S
theorem xS (n:Nat) (hn:n≤9) (w:World):Calls Tryz.prog 19 #[uI n] w fun e w'=>e=.returned (.string (str (qZ n)))∧w=w':=by
 have key:∀ k:Nat,k=n→Calls Tryz.prog 19 #[uI n] w fun e w'=>e=.returned (.string (str (qZ n)))∧w=w':=by
  intro k hk;match k,hk with
  | 0,rfl | 1,rfl | 2,rfl | 3,rfl | 4,rfl | 5,rfl | 6,rfl | 7,rfl | 8,rfl | 9,rfl =>
    go_enter Tryz.func19,Tryz.ntmps19
    go_wp2
    go_ret;exact⟨rfl,rfl⟩
  | k+10,h=>omega
 exact key n rfl
theorem qL5 (x y:Ex) (i:Nat) (wide:Bool) (S:SV) (hi:Hid (x.subs[i]?=some y)) (hi3:i≤2) (b2 b3:Nat) (hz:Hid ((zP wide y).length≤1000000)) (W:World) (hb2:Hid (Bk W b2 31 (uE x S))) (hb3:Hid (Bk W b3 4 #[.bool wide])) (hT:Hid (TE W x S))
 (IH:Hid (∀ (V:SV) (W':World),Hid (TE W' y V)→Calls Tryz.prog 29 #[.agg (uE y V),.bool wide] W' fun e w'=>e=.returned (.string (str (zP wide y)))∧Below W'.heap.size W' w')) :
 Calls Tryz.prog 73 #[uI i,uQ b2 0,uQ b3 0] W fun e w'=>e=.returned (.string (str (zI5 wide y (zP wide y))))∧Below W.heap.size W w':=by
 obtain⟨SA,Sn,Sc⟩:=S;have hlt:i<Sn:=by
  have h1:Sn=x.subs.length:=hT.out.len;have h2:=hi.out;rcases Nat.lt_or_ge i x.subs.length with h | h
  ·omega
  ·rw [cW h]at h2;cases h2
 obtain⟨bb,off,y',v,hA,hx,hty,hbb,hc⟩:=hT.out.sub wO (i:=i) hlt;obtain rfl:y=y':=by have h2:=hi.out;rw [h2]at hx;injection hx
 obtain⟨vA,vn,vc⟩:=v;(try dsimp only at hA);subst hA;have c0:W.cell? ⟨bb,off+i*6,none⟩=some (uB y.kind):=hc 0 _ Yo rfl;have c1:W.cell? ⟨bb,off+i*6+1,none⟩=some (uB y.op):=hc 1 _ Yo rfl;have c2:W.cell? ⟨bb,off+i*6+2,none⟩=some (uW y.value):=hc 2 _ Yo rfl;have c3:W.cell? ⟨bb,off+i*6+3,none⟩=some (uI y.width):=hc 3 _ Yo rfl;have c4:W.cell? ⟨bb,off+i*6+4,none⟩=some (uR y.name):=hc 4 _ Yo rfl;have c5:W.cell? ⟨bb,off+i*6+5,none⟩=some (.slice vA vn vc):=hc 5 _ Yo rfl;have HC0:=Ph c0;obtain⟨g0,g1,g2,g3,g4,g5⟩:=zH hb2.out;have w0:W.cell? ⟨b3,0,none⟩=some (.bool wide):=hb3.out.cell 0;have HC:=Ph (IH.out ⟨vA,vn,vc⟩ W.drew (Ph (hty.bel (lB _ _).drew)));(try dsimp only at HC);have hji:(i:Int)<(Sn:Int):=Yo;have hj0:(0:Int)≤(i:Int):=Yo;have HBB:=Ph hbb;clear hc hx hty hi hbb;obtain⟨T,hT1⟩:∃ t,zP wide y=t:=⟨_,rfl⟩;rw [hT1]at HC hz ⊢;have HZ:=hz;clear hT1 hz IH;go_enter Tryz.func73,Tryz.ntmps73
 go_upto_region 1 with fail
 refine xR 6 Yk Yk ?_;simp only [cR,List.take_zero,List.drop_succ_cons,List.drop_zero];repeat (go_big_quiet_step (fail))
 refine wpQuiet_nil ?_;refine wT rfl rfl (fun K hK=>?_);go_simp;go_at_call 29
 refine HC.out.mono ?_;rintro e w1 ⟨rfl,hb1⟩;have HB1:=Ph (zU (lB _ _).drew hb1);clear hb1 c0 c1 c2 c3 c4 c5 w0 g0 g1 g2 g3 g4 g5;refine hK _ _ ?_;clear hK K;try go_frame
 repeat (go_big_quiet_step (fail))
 refine wpQuiet_nil ?_;have c0:w1.cell? ⟨bb,off+i*6,none⟩=some (uB y.kind):=((Fr.of_below (F:=fun _=>False) HB1.out).cell HBB.out (fun e=>e)).trans HC0.out;have g5:w1.cell? ⟨b2,5,none⟩=some (.slice (some ⟨bb,off,none⟩) Sn Sc):=(zD hb2.out HB1.out).cell 5;have w0:w1.cell? ⟨b3,0,none⟩=some (.bool wide):=(zD hb3.out HB1.out).cell 0;have hzT:=HZ.out;have R1:∀ w,(Op.stringOp .add (⟨#[40,32]⟩:ByteArray) (str T)).run Tryz.prog w=.ok (.string (str ([40,32]++T))) w:=zQ [40,32] T (by show 2+T.length≤4000000;omega);have R2:∀ w,(Op.stringOp .add (str ([40,32]++T)) (⟨#[41]⟩:ByteArray)).run Tryz.prog w=.ok (.string (str ([40,32]++T++[41]))) w:=zQ ([40,32]++T) [41] (by rw [Ya];show 2+T.length+1≤4000000;omega);obtain⟨U,hU⟩:∃ u,[40,32]++T=u:=⟨_,rfl⟩;obtain⟨V,hV⟩:∃ u,U++[41]=u:=⟨_,rfl⟩;rw [hU]at R1 R2;rw [hV]at R2;have HS:Hid (∀ (b:Bool),(b=true↔(wide=true∨y.kind=6∨y.kind=7∨y.kind=5))→zI5 wide y T=if b then V else T):=Ph fun b hb=>by
  unfold zI5;rw [jO5,←hV,←hU];by_cases h:wide=true∨y.kind=6∨y.kind=7∨y.kind=5
  ·rw [lM h,lM (hb.2 h)]
  ·rw [lN h,lN (fun e=>h (hb.1 e))]
 clear hU hV hzT HZ hT hb2 hb3 HBB HC0 HC;cases wide
 ·by_cases h6:y.kind=6
  ·have e6:((y.kind:Int) == 6)=true:=by simp;omega
   have hs:zI5 _ y T=V:=HS.out true (by simp [h6]);clear h6 HS;go_wp2_with fail
   go_ret;exact⟨by first | rfl | (rw [hs];rfl),HB1.out⟩
  ·have e6:((y.kind:Int) == 6)=false:=by simp;omega
   by_cases h7:y.kind=7
   ·have e7:((y.kind:Int) == 7)=true:=by simp;omega
    have hs:zI5 _ y T=V:=HS.out true (by simp [h7]);clear h6 h7 HS;go_wp2_with fail
    go_ret;exact⟨by first | rfl | (rw [hs];rfl),HB1.out⟩
   ·have e7:((y.kind:Int) == 7)=false:=by simp;omega
    by_cases h5:y.kind=5
    ·have e5:((y.kind:Int) == 5)=true:=by simp;omega
     have hs:zI5 _ y T=V:=HS.out true (by simp [h5]);clear h6 h7 h5 HS;go_wp2_with fail
     go_ret;exact⟨by first | rfl | (rw [hs];rfl),HB1.out⟩
    ·have e5:((y.kind:Int) == 5)=false:=by simp;omega
     have hs:zI5 _ y T=T:=HS.out false (by simp [h5,h6,h7]);clear h6 h7 h5 HS;go_wp2_with fail
     go_ret;exact⟨by first | rfl | (rw [hs];rfl),HB1.out⟩
 ·have hs:zI5 _ y T=V:=HS.out true Ym;clear HS;go_wp2_with fail
  go_ret;exact⟨by first | rfl | (rw [hs];rfl),HB1.out⟩
end
section
open Go.RowKit Go.PlainAid
def xH (x:Ex):Prop:=∀ (wide:Bool) (S:SV) (W:World),Hid (TE W x S)→Calls Tryz.prog 29 #[.agg (uE x S),.bool wide] W fun e w'=>e=.returned (.string (str (zP wide x)))∧Below W.heap.size W w'
theorem zM8 {W W':World} (h:Below W.drew.heap.size W.drew W'):Below W.heap.size W W':=(lB _ _).drew.trans h
theorem kS (wide:Bool) (y:Ex) (t:List UInt8):(zI5 wide y t).length≤t.length+3:=by
 unfold zI5;split
 ·simp;try omega
 ·omega
theorem qA6:bs "disk [" = [100,105,115,107,32,91]:=Yd
theorem kL2:bs "? " = [63,32]:=Yd
theorem kL3:bs " : " = [32,58,32]:=Yd
theorem kL4:bs " @" = [32,64]:=Yd
theorem jO (n:Nat) (h:n≤9):(qZ n).length=1:=by
 match n,h with
 | 0,_ | 1,_ | 2,_ | 3,_ | 4,_ | 5,_ | 6,_ | 7,_ | 8,_ | 9,_=>rfl
 | n+10,h=>omega
theorem jY6 (v k:Nat) (hv:v≤9) (hk:k≤9):xH (.mk 1 0 v k [] []):=by
 intro wide S W hT;obtain⟨SA,Sn,Sc⟩:=S;have HB2:Hid (Below W.heap.size W ((W.alloc (.cells #[uB 1,uB 0,uW v,uI k,uT,.slice SA Sn Sc] 31)).alloc (.cells #[.bool wide] 4))):=Ph (zG (zG (lB _ _) _) _);have HK2:Hid (Bk ((W.alloc (.cells #[uB 1,uB 0,uW v,uI k,uT,.slice SA Sn Sc] 31)).alloc (.cells #[.bool wide] 4)) W.heap.size 31 #[uB 1,uB 0,uW v,uI k,uT,.slice SA Sn Sc]):=Ph ((Bk.new W _ _).alloc _);have hk3:=Bk.new (W.alloc (.cells #[uB 1,uB 0,uW v,uI k,uT,.slice SA Sn Sc] 31)) 4 #[.bool wide];rw [lO]at hk3;have HK3:=Ph hk3;have HT2:=Ph (hT.out.bel HB2.out);clear hk3 hT;show Calls Tryz.prog 29 #[.agg #[uB 1,uB 0,uW v,uI k,uT,.slice SA Sn Sc],.bool wide] W _;go_enter Tryz.func29,Tryz.ntmps29
 go_upto_region 2 with fail
 generalize ((World.alloc _ _))=W2 at HB2 HK2 HK3 HT2 ⊢;obtain⟨b3,hb3⟩:∃ b,W.heap.size+1=b:=⟨_,rfl⟩;obtain⟨b2,hb2⟩:∃ b,W.heap.size=b:=⟨_,rfl⟩;rw [hb3]at HK3 ⊢;rw [hb2]at HK2 ⊢;clear hb2 hb3;obtain⟨g0,g1,g2,g3,g4,g5⟩:=zH HK2.out;have w0:W2.cell? ⟨b3,0,none⟩=some (.bool wide):=HK3.out.cell 0;have HD1:Hid (∀ w,Calls Tryz.prog 19 #[uI v] w fun e w'=>e=.returned (.string (str (qZ v)))∧w'=w):=Ph fun w=>(xS v hv w).mono fun e w' h=>⟨h.1,h.2.symm⟩;have HD2:Hid (∀ w,Calls Tryz.prog 19 #[uI k] w fun e w'=>e=.returned (.string (str (qZ k)))∧w'=w):=Ph fun w=>(xS k hk w).mono fun e w' h=>⟨h.1,h.2.symm⟩;have l1:=jO v hv;have l2:=jO k hk;obtain⟨dv,hdv⟩:∃ l,qZ v=l:=⟨_,rfl⟩;obtain⟨dk,hdk⟩:∃ l,qZ k=l:=⟨_,rfl⟩;have HE:Hid (zP wide (.mk 1 0 v k [] [])=dv++[58]++dk):=Ph (by rw [←hdv,←hdk];simp [zP]);rw [hdv]at HD1 l1;rw [hdk]at HD2 l2;clear hdv hdk;have wv:IntKind.i64.wrap (v:Int)=(v:Int):=by rw [lL];omega
 have R1:∀ w,(Op.stringOp .add (str dv) (⟨#[58]⟩:ByteArray)).run Tryz.prog w=.ok (.string (str (dv++[58]))) w:=zQ (dv) ([58]) (by first | omega | (simp only [Ya,Yc,Yn];try omega));obtain⟨U1,hU1⟩:∃ u,dv++[58]=u:=⟨_,rfl⟩;have hL1:U1.length=(dv.length)+(1):=by rw [←hU1];simp only [Ya,Yc,Yn];try omega
 rw [hU1]at R1;have R2:∀ w,(Op.stringOp .add (str U1) (str dk)).run Tryz.prog w=.ok (.string (str (U1++dk))) w:=zQ (U1) (dk) (by first | omega | (simp only [Ya,Yc,Yn];try omega));obtain⟨U2,hU2⟩:∃ u,U1++dk=u:=⟨_,rfl⟩;have hL2:U2.length=(U1.length)+(dk.length):=by rw [←hU2];simp only [Ya,Yc,Yn];try omega
 rw [hU2]at R2;rw [hU1,hU2]at HE;clear hU1 hU2 hL1 hL2 l1 l2;go_upto_region 4 with fail
 go_quiet ((go_at_call 19;first | with_reducible exact cZ (HD1.out _) | with_reducible exact cZ (HD2.out _)))
 go_wp2_with fail
 go_ret;exact⟨by rw [HE.out];rfl,HB2.out.trans ((((Fr.refl (fun _=>False) W2).drewN nq).below W2.heap.size (lF _) (fun _ _ h=>h)).mono HB2.out.size)⟩
theorem jY7 (n:List UInt8):xH (.mk 2 0 0 0 n []):=by
 intro wide S W hT;obtain⟨SA,Sn,Sc⟩:=S;have HB2:Hid (Below W.heap.size W ((W.alloc (.cells #[uB 2,uB 0,uW 0,uI 0,uR n,.slice SA Sn Sc] 31)).alloc (.cells #[.bool wide] 4))):=Ph (zG (zG (lB _ _) _) _);have HK2:Hid (Bk ((W.alloc (.cells #[uB 2,uB 0,uW 0,uI 0,uR n,.slice SA Sn Sc] 31)).alloc (.cells #[.bool wide] 4)) W.heap.size 31 #[uB 2,uB 0,uW 0,uI 0,uR n,.slice SA Sn Sc]):=Ph ((Bk.new W _ _).alloc _);have hk3:=Bk.new (W.alloc (.cells #[uB 2,uB 0,uW 0,uI 0,uR n,.slice SA Sn Sc] 31)) 4 #[.bool wide];rw [lO]at hk3;have HK3:=Ph hk3;have HT2:=Ph (hT.out.bel HB2.out);clear hk3 hT;show Calls Tryz.prog 29 #[.agg #[uB 2,uB 0,uW 0,uI 0,uR n,.slice SA Sn Sc],.bool wide] W _;go_enter Tryz.func29,Tryz.ntmps29
 go_upto_region 2 with fail
 generalize ((World.alloc _ _))=W2 at HB2 HK2 HK3 HT2 ⊢;obtain⟨b3,hb3⟩:∃ b,W.heap.size+1=b:=⟨_,rfl⟩;obtain⟨b2,hb2⟩:∃ b,W.heap.size=b:=⟨_,rfl⟩;rw [hb3]at HK3 ⊢;rw [hb2]at HK2 ⊢;clear hb2 hb3;obtain⟨g0,g1,g2,g3,g4,g5⟩:=zH HK2.out;have w0:W2.cell? ⟨b3,0,none⟩=some (.bool wide):=HK3.out.cell 0;go_wp2_with fail
 go_ret;exact⟨by simp [zP],HB2.out⟩
theorem jO6 (n:List UInt8) (hn:n.length≤1000000) (y:Ex) (hzy:∀ wide,(zP wide y).length≤1000000) (ihy:xH y):xH (.mk 3 0 0 0 n [y]):=by
 intro wide S W hT;obtain⟨SA,Sn,Sc⟩:=S;have HB2:Hid (Below W.heap.size W ((W.alloc (.cells #[uB 3,uB 0,uW 0,uI 0,uR n,.slice SA Sn Sc] 31)).alloc (.cells #[.bool wide] 4))):=Ph (zG (zG (lB _ _) _) _);have HK2:Hid (Bk ((W.alloc (.cells #[uB 3,uB 0,uW 0,uI 0,uR n,.slice SA Sn Sc] 31)).alloc (.cells #[.bool wide] 4)) W.heap.size 31 #[uB 3,uB 0,uW 0,uI 0,uR n,.slice SA Sn Sc]):=Ph ((Bk.new W _ _).alloc _);have hk3:=Bk.new (W.alloc (.cells #[uB 3,uB 0,uW 0,uI 0,uR n,.slice SA Sn Sc] 31)) 4 #[.bool wide];rw [lO]at hk3;have HK3:=Ph hk3;have HT2:=Ph (hT.out.bel HB2.out);clear hk3 hT;show Calls Tryz.prog 29 #[.agg #[uB 3,uB 0,uW 0,uI 0,uR n,.slice SA Sn Sc],.bool wide] W _;go_enter Tryz.func29,Tryz.ntmps29
 go_upto_region 2 with fail
 generalize ((World.alloc _ _))=W2 at HB2 HK2 HK3 HT2 ⊢;obtain⟨b3,hb3⟩:∃ b,W.heap.size+1=b:=⟨_,rfl⟩;obtain⟨b2,hb2⟩:∃ b,W.heap.size=b:=⟨_,rfl⟩;rw [hb3]at HK3 ⊢;rw [hb2]at HK2 ⊢;clear hb2 hb3;obtain⟨g0,g1,g2,g3,g4,g5⟩:=zH HK2.out;have w0:W2.cell? ⟨b3,0,none⟩=some (.bool wide):=HK3.out.cell 0;obtain⟨bb0,of0,y',v0,hA0,hx0,hty0,hbb0,hc0⟩:=HT2.out.sub wO (i:=0) (by have h:=HT2.out.len;show 0<Sn;rw [show Sn=_ from h];simp [Ex.subs]);obtain rfl:y=y':=by simpa [Ex.subs]using hx0
 obtain⟨vA0,vn0,vc0⟩:=v0;(try dsimp only at hA0);subst hA0;have hsn:0<Sn:=by have h:=HT2.out.len;show 0<Sn;rw [show Sn=_ from h];simp [Ex.subs]
 have c0:W2.cell? ⟨bb0,of0,none⟩=some (uB y.kind):=by have h:=hc0 0 _ Yo rfl;simpa using h
 have c1:W2.cell? ⟨bb0,of0+1,none⟩=some (uB y.op):=by have h:=hc0 1 _ Yo rfl;simpa using h
 have c2:W2.cell? ⟨bb0,of0+2,none⟩=some (uW y.value):=by have h:=hc0 2 _ Yo rfl;simpa using h
 have c3:W2.cell? ⟨bb0,of0+3,none⟩=some (uI y.width):=by have h:=hc0 3 _ Yo rfl;simpa using h
 have c4:W2.cell? ⟨bb0,of0+4,none⟩=some (uR y.name):=by have h:=hc0 4 _ Yo rfl;simpa using h
 have c5:W2.cell? ⟨bb0,of0+5,none⟩=some (.slice vA0 vn0 vc0):=by have h:=hc0 5 _ Yo rfl;simpa using h
 have HC:=Ph (ihy wide ⟨vA0,vn0,vc0⟩ W2.drew (Ph (hty0.bel (lB _ _).drew)));have hzt:=hzy wide;obtain⟨t,ht⟩:∃ t,zP wide y=t:=⟨_,rfl⟩;have HE:Hid (zP wide (.mk 3 0 0 0 n [y])=n++[91]++t++[93]):=Ph (by rw [←ht];simp [zP,yD]);rw [ht]at HC hzt;clear ht hx0 hc0 hzy ihy;have R1:∀ w,(Op.stringOp .add (str n) (⟨#[91]⟩:ByteArray)).run Tryz.prog w=.ok (.string (str (n++[91]))) w:=zQ (n) ([91]) (by first | omega | (simp only [Ya,Yc,Yn];try omega));obtain⟨U1,hU1⟩:∃ u,n++[91]=u:=⟨_,rfl⟩;have hL1:U1.length=(n.length)+(1):=by rw [←hU1];simp only [Ya,Yc,Yn];try omega
 rw [hU1]at R1;have R2:∀ w,(Op.stringOp .add (str U1) (str t)).run Tryz.prog w=.ok (.string (str (U1++t))) w:=zQ (U1) (t) (by first | omega | (simp only [Ya,Yc,Yn];try omega));obtain⟨U2,hU2⟩:∃ u,U1++t=u:=⟨_,rfl⟩;have hL2:U2.length=(U1.length)+(t.length):=by rw [←hU2];simp only [Ya,Yc,Yn];try omega
 rw [hU2]at R2;have R3:∀ w,(Op.stringOp .add (str U2) (⟨#[93]⟩:ByteArray)).run Tryz.prog w=.ok (.string (str (U2++[93]))) w:=zQ (U2) ([93]) (by first | omega | (simp only [Ya,Yc,Yn];try omega));obtain⟨U3,hU3⟩:∃ u,U2++[93]=u:=⟨_,rfl⟩;have hL3:U3.length=(U2.length)+(1):=by rw [←hU3];simp only [Ya,Yc,Yn];try omega
 rw [hU3]at R3;rw [hU1,hU2,hU3]at HE;clear hU1 hU2 hU3 hL1 hL2 hL3 hzt;(try dsimp only at HC);go_upto_region 8 with fail
 have HSS:Hid (∀ w',Below W2.heap.size W2 w'→w'.cell? ⟨b2,4,none⟩=some (uR n)∧w'.cell? ⟨b2,5,none⟩=some (.slice (some ⟨bb0,of0,none⟩) Sn Sc)∧w'.cell? ⟨b3,0,none⟩=some (.bool wide)∧w'.cell? ⟨bb0,of0,none⟩=some (uB y.kind)∧w'.cell? ⟨bb0,of0+1,none⟩=some (uB y.op)∧w'.cell? ⟨bb0,of0+2,none⟩=some (uW y.value)∧w'.cell? ⟨bb0,of0+3,none⟩=some (uI y.width)∧w'.cell? ⟨bb0,of0+4,none⟩=some (uR y.name)∧w'.cell? ⟨bb0,of0+5,none⟩=some (.slice vA0 vn0 vc0)):=Ph fun w' hb=>by have hf:=fun(p:Addr) (u:Value) (h:W2.cell? p=some u)=>((Fr.of_below (F:=fun _=>False) hb).cell (World.block_lt_of_cell? W2 _ h) (fun e=>e)).trans h;exact⟨hf _ _ g4,hf _ _ g5,hf _ _ w0,hf _ _ c0,hf _ _ c1,hf _ _ c2,hf _ _ c3,hf _ _ c4,hf _ _ c5⟩
 have HBd:Hid (Below W2.heap.size W2 W2.drew):=Ph (lB _ _).drew;clear w0 g0 g1 g2 g3 g4 g5 c0 c1 c2 c3 c4 c5
 go_region_held3 (fun w'=>w'.cell? ⟨b2,4,none⟩=some (uR n)∧w'.cell? ⟨b2,5,none⟩=some (.slice (some ⟨bb0,of0,none⟩) Sn Sc)∧w'.cell? ⟨b3,0,none⟩=some (.bool wide)∧w'.cell? ⟨bb0,of0,none⟩=some (uB y.kind)∧w'.cell? ⟨bb0,of0+1,none⟩=some (uB y.op)∧w'.cell? ⟨bb0,of0+2,none⟩=some (uW y.value)∧w'.cell? ⟨bb0,of0+3,none⟩=some (uI y.width)∧w'.cell? ⟨bb0,of0+4,none⟩=some (uR y.name)∧w'.cell? ⟨bb0,of0+5,none⟩=some (.slice vA0 vn0 vc0))
  (first | with_reducible exact HSS.out _ HBd.out)
  (first
    | (go_at_call 29
       with_reducible refine HC.out.mono ?_
       rintro e w1 ⟨rfl,hb1⟩;have HBn:=Ph (HBd.out.trans (hb1.mono HBd.out.size));clear HBd hb1;have HBd:=HBn;clear HBn))
 all_goals
  go_wp2_with fail
  go_ret;exact⟨by rw [HE.out];rfl,HB2.out.trans (HBd.out.mono HB2.out.size)⟩
theorem jO7 (y:Ex) (hzy:∀ wide,(zP wide y).length≤1000000) (ihy:xH y):xH (.mk 4 0 0 0 [] [y]):=by
 intro wide S W hT;obtain⟨SA,Sn,Sc⟩:=S;have HB2:Hid (Below W.heap.size W ((W.alloc (.cells #[uB 4,uB 0,uW 0,uI 0,uT,.slice SA Sn Sc] 31)).alloc (.cells #[.bool wide] 4))):=Ph (zG (zG (lB _ _) _) _);have HK2:Hid (Bk ((W.alloc (.cells #[uB 4,uB 0,uW 0,uI 0,uT,.slice SA Sn Sc] 31)).alloc (.cells #[.bool wide] 4)) W.heap.size 31 #[uB 4,uB 0,uW 0,uI 0,uT,.slice SA Sn Sc]):=Ph ((Bk.new W _ _).alloc _);have hk3:=Bk.new (W.alloc (.cells #[uB 4,uB 0,uW 0,uI 0,uT,.slice SA Sn Sc] 31)) 4 #[.bool wide];rw [lO]at hk3;have HK3:=Ph hk3;have HT2:=Ph (hT.out.bel HB2.out);clear hk3 hT;show Calls Tryz.prog 29 #[.agg #[uB 4,uB 0,uW 0,uI 0,uT,.slice SA Sn Sc],.bool wide] W _;go_enter Tryz.func29,Tryz.ntmps29
 go_upto_region 2 with fail
 generalize ((World.alloc _ _))=W2 at HB2 HK2 HK3 HT2 ⊢;obtain⟨b3,hb3⟩:∃ b,W.heap.size+1=b:=⟨_,rfl⟩;obtain⟨b2,hb2⟩:∃ b,W.heap.size=b:=⟨_,rfl⟩;rw [hb3]at HK3 ⊢;rw [hb2]at HK2 ⊢;clear hb2 hb3;obtain⟨g0,g1,g2,g3,g4,g5⟩:=zH HK2.out;have w0:W2.cell? ⟨b3,0,none⟩=some (.bool wide):=HK3.out.cell 0;obtain⟨bb0,of0,y',v0,hA0,hx0,hty0,hbb0,hc0⟩:=HT2.out.sub wO (i:=0) (by have h:=HT2.out.len;show 0<Sn;rw [show Sn=_ from h];simp [Ex.subs]);obtain rfl:y=y':=by simpa [Ex.subs]using hx0
 obtain⟨vA0,vn0,vc0⟩:=v0;(try dsimp only at hA0);subst hA0;have hsn:0<Sn:=by have h:=HT2.out.len;show 0<Sn;rw [show Sn=_ from h];simp [Ex.subs]
 have c0:W2.cell? ⟨bb0,of0,none⟩=some (uB y.kind):=by have h:=hc0 0 _ Yo rfl;simpa using h
 have c1:W2.cell? ⟨bb0,of0+1,none⟩=some (uB y.op):=by have h:=hc0 1 _ Yo rfl;simpa using h
 have c2:W2.cell? ⟨bb0,of0+2,none⟩=some (uW y.value):=by have h:=hc0 2 _ Yo rfl;simpa using h
 have c3:W2.cell? ⟨bb0,of0+3,none⟩=some (uI y.width):=by have h:=hc0 3 _ Yo rfl;simpa using h
 have c4:W2.cell? ⟨bb0,of0+4,none⟩=some (uR y.name):=by have h:=hc0 4 _ Yo rfl;simpa using h
 have c5:W2.cell? ⟨bb0,of0+5,none⟩=some (.slice vA0 vn0 vc0):=by have h:=hc0 5 _ Yo rfl;simpa using h
 have HC:=Ph (ihy wide ⟨vA0,vn0,vc0⟩ W2.drew (Ph (hty0.bel (lB _ _).drew)));have hzt:=hzy wide;obtain⟨t,ht⟩:∃ t,zP wide y=t:=⟨_,rfl⟩;have HE:Hid (zP wide (.mk 4 0 0 0 [] [y])=[100,105,115,107,32,91]++t++[93]):=Ph (by rw [←ht];simp [zP,yD,qA6,kL2,kL3,kL4]);rw [ht]at HC hzt;clear ht hx0 hc0 hzy ihy;have R1:∀ w,(Op.stringOp .add (⟨#[100,105,115,107,32,91]⟩:ByteArray) (str t)).run Tryz.prog w=.ok (.string (str ([100,105,115,107,32,91]++t))) w:=zQ ([100,105,115,107,32,91]) (t) (by first | omega | (simp only [Ya,Yc,Yn];try omega));obtain⟨U1,hU1⟩:∃ u,[100,105,115,107,32,91]++t=u:=⟨_,rfl⟩;have hL1:U1.length=(6)+(t.length):=by rw [←hU1];simp only [Ya,Yc,Yn];try omega
 rw [hU1]at R1;have R2:∀ w,(Op.stringOp .add (str U1) (⟨#[93]⟩:ByteArray)).run Tryz.prog w=.ok (.string (str (U1++[93]))) w:=zQ (U1) ([93]) (by first | omega | (simp only [Ya,Yc,Yn];try omega));obtain⟨U2,hU2⟩:∃ u,U1++[93]=u:=⟨_,rfl⟩;have hL2:U2.length=(U1.length)+(1):=by rw [←hU2];simp only [Ya,Yc,Yn];try omega
 rw [hU2]at R2;rw [hU1,hU2]at HE;clear hU1 hU2 hL1 hL2 hzt;(try dsimp only at HC);go_upto_region 10 with fail
 refine xR 5 Yk Yk ?_;simp only [cR,List.take_zero,List.drop_succ_cons,List.drop_zero];repeat (go_big_quiet_step (fail))
 refine wpQuiet_nil ?_;refine wT rfl rfl (fun K hK=>?_);go_simp;go_at_call 29
 refine HC.out.mono ?_;rintro e w1 ⟨rfl,hb1⟩;have HB3:=Ph (HB2.out.trans ((zU (lB _ _).drew hb1).mono HB2.out.size));clear hb1 HC c0 c1 c2 c3 c4 c5 w0 g0 g1 g2 g3 g4 g5;refine hK _ _ ?_;clear hK K;try go_frame
 repeat (go_big_quiet_step (fail))
 refine wpQuiet_nil ?_;go_wp2_with fail
 go_ret;exact⟨by rw [HE.out];rfl,HB3.out⟩
theorem jY8 (y0 y1 y2:Ex) (hzy0:∀ wide,(zP wide y0).length≤1000000) (hzy1:∀ wide,(zP wide y1).length≤1000000) (hzy2:∀ wide,(zP wide y2).length≤1000000) (ihy0:xH y0) (ihy1:xH y1) (ihy2:xH y2):xH (.mk 7 0 0 0 [] [y0,y1,y2]):=by
 intro wide S W hT;obtain⟨SA,Sn,Sc⟩:=S;have HB2:Hid (Below W.heap.size W ((W.alloc (.cells #[uB 7,uB 0,uW 0,uI 0,uT,.slice SA Sn Sc] 31)).alloc (.cells #[.bool wide] 4))):=Ph (zG (zG (lB _ _) _) _);have HK2:Hid (Bk ((W.alloc (.cells #[uB 7,uB 0,uW 0,uI 0,uT,.slice SA Sn Sc] 31)).alloc (.cells #[.bool wide] 4)) W.heap.size 31 #[uB 7,uB 0,uW 0,uI 0,uT,.slice SA Sn Sc]):=Ph ((Bk.new W _ _).alloc _);have hk3:=Bk.new (W.alloc (.cells #[uB 7,uB 0,uW 0,uI 0,uT,.slice SA Sn Sc] 31)) 4 #[.bool wide];rw [lO]at hk3;have HK3:=Ph hk3;have HT2:=Ph (hT.out.bel HB2.out);clear hk3 hT;show Calls Tryz.prog 29 #[.agg #[uB 7,uB 0,uW 0,uI 0,uT,.slice SA Sn Sc],.bool wide] W _;go_enter Tryz.func29,Tryz.ntmps29
 go_upto_region 2 with fail
 generalize ((World.alloc _ _))=W2 at HB2 HK2 HK3 HT2 ⊢;obtain⟨b3,hb3⟩:∃ b,W.heap.size+1=b:=⟨_,rfl⟩;obtain⟨b2,hb2⟩:∃ b,W.heap.size=b:=⟨_,rfl⟩;rw [hb3]at HK3 ⊢;rw [hb2]at HK2 ⊢;clear hb2 hb3;obtain⟨g0,g1,g2,g3,g4,g5⟩:=zH HK2.out;have w0:W2.cell? ⟨b3,0,none⟩=some (.bool wide):=HK3.out.cell 0;obtain⟨t0,ht0⟩:∃ t,zI5 wide y0 (zP wide y0)=t:=⟨_,rfl⟩;have hlt0:t0.length≤1000010:=by rw [←ht0];have:=kS wide y0 (zP wide y0);have:=hzy0 wide;omega
 have HC0:Hid (∀ W',Below W2.heap.size W2 W'→Calls Tryz.prog 73 #[uI 0,uQ b2 0,uQ b3 0] W' fun e w'=>e=.returned (uR t0)∧Below W'.heap.size W' w'):=Ph fun W' hb=>by rw [←ht0];exact qL5 (.mk 7 0 0 0 [] [y0,y1,y2]) y0 0 wide ⟨SA,Sn,Sc⟩ (Ph rfl) Yo b2 b3 (Ph (hzy0 wide)) W' (Ph (zD HK2.out hb)) (Ph (zD HK3.out hb)) (Ph (HT2.out.bel hb)) (Ph fun V W'' hV=>ihy0 wide V W'' hV)
 obtain⟨t1,ht1⟩:∃ t,zI5 wide y1 (zP wide y1)=t:=⟨_,rfl⟩;have hlt1:t1.length≤1000010:=by rw [←ht1];have:=kS wide y1 (zP wide y1);have:=hzy1 wide;omega
 have HC1:Hid (∀ W',Below W2.heap.size W2 W'→Calls Tryz.prog 73 #[uI 1,uQ b2 0,uQ b3 0] W' fun e w'=>e=.returned (uR t1)∧Below W'.heap.size W' w'):=Ph fun W' hb=>by rw [←ht1];exact qL5 (.mk 7 0 0 0 [] [y0,y1,y2]) y1 1 wide ⟨SA,Sn,Sc⟩ (Ph rfl) Yo b2 b3 (Ph (hzy1 wide)) W' (Ph (zD HK2.out hb)) (Ph (zD HK3.out hb)) (Ph (HT2.out.bel hb)) (Ph fun V W'' hV=>ihy1 wide V W'' hV)
 obtain⟨t2,ht2⟩:∃ t,zI5 wide y2 (zP wide y2)=t:=⟨_,rfl⟩;have hlt2:t2.length≤1000010:=by rw [←ht2];have:=kS wide y2 (zP wide y2);have:=hzy2 wide;omega
 have HC2:Hid (∀ W',Below W2.heap.size W2 W'→Calls Tryz.prog 73 #[uI 2,uQ b2 0,uQ b3 0] W' fun e w'=>e=.returned (uR t2)∧Below W'.heap.size W' w'):=Ph fun W' hb=>by rw [←ht2];exact qL5 (.mk 7 0 0 0 [] [y0,y1,y2]) y2 2 wide ⟨SA,Sn,Sc⟩ (Ph rfl) Yo b2 b3 (Ph (hzy2 wide)) W' (Ph (zD HK2.out hb)) (Ph (zD HK3.out hb)) (Ph (HT2.out.bel hb)) (Ph fun V W'' hV=>ihy2 wide V W'' hV)
 have HE:Hid (zP wide (.mk 7 0 0 0 [] [y0,y1,y2])=t0++[63,32]++t1++[32,58,32]++t2):=Ph (by rw [←ht0,←ht1,←ht2];simp [zP,yD,qA6,kL2,kL3,kL4]);clear ht0 ht1 ht2 w0 g1 g2 g3 g4 g5 hzy0 hzy1 hzy2 ihy0 ihy1 ihy2;have R1:∀ w,(Op.stringOp .add (str t0) (⟨#[63,32]⟩:ByteArray)).run Tryz.prog w=.ok (.string (str (t0++[63,32]))) w:=zQ (t0) ([63,32]) (by first | omega | (simp only [Ya,Yc,Yn];try omega));obtain⟨U1,hU1⟩:∃ u,t0++[63,32]=u:=⟨_,rfl⟩;have hL1:U1.length=(t0.length)+(2):=by rw [←hU1];simp only [Ya,Yc,Yn];try omega
 rw [hU1]at R1;have R2:∀ w,(Op.stringOp .add (str U1) (str t1)).run Tryz.prog w=.ok (.string (str (U1++t1))) w:=zQ (U1) (t1) (by first | omega | (simp only [Ya,Yc,Yn];try omega));obtain⟨U2,hU2⟩:∃ u,U1++t1=u:=⟨_,rfl⟩;have hL2:U2.length=(U1.length)+(t1.length):=by rw [←hU2];simp only [Ya,Yc,Yn];try omega
 rw [hU2]at R2;have R3:∀ w,(Op.stringOp .add (str U2) (⟨#[32,58,32]⟩:ByteArray)).run Tryz.prog w=.ok (.string (str (U2++[32,58,32]))) w:=zQ (U2) ([32,58,32]) (by first | omega | (simp only [Ya,Yc,Yn];try omega));obtain⟨U3,hU3⟩:∃ u,U2++[32,58,32]=u:=⟨_,rfl⟩;have hL3:U3.length=(U2.length)+(3):=by rw [←hU3];simp only [Ya,Yc,Yn];try omega
 rw [hU3]at R3;have R4:∀ w,(Op.stringOp .add (str U3) (str t2)).run Tryz.prog w=.ok (.string (str (U3++t2))) w:=zQ (U3) (t2) (by first | omega | (simp only [Ya,Yc,Yn];try omega));obtain⟨U4,hU4⟩:∃ u,U3++t2=u:=⟨_,rfl⟩;have hL4:U4.length=(U3.length)+(t2.length):=by rw [←hU4];simp only [Ya,Yc,Yn];try omega
 rw [hU4]at R4;rw [hU1,hU2,hU3,hU4]at HE;clear hU1 hU2 hU3 hU4 hL1 hL2 hL3 hL4 hlt0 hlt1 hlt2;go_wp2_with fail
 refine(HC0.out _ (lB _ _)).mono ?_;rintro e w1 ⟨rfl,hb1⟩;go_wp2_with fail
 refine(HC1.out _ hb1).mono ?_;rintro e w3 ⟨rfl,hb3⟩;have hb4:=zU hb1 hb3;go_wp2_with fail
 refine(HC2.out _ hb4).mono ?_;rintro e w5 ⟨rfl,hb5⟩;have hb6:=zU hb4 hb5;go_wp2_with fail
 go_ret;exact⟨by rw [HE.out];rfl,HB2.out.trans (hb6.mono HB2.out.size)⟩
theorem jO8 (k:Nat) (hk:k≤9) (y:Ex) (hzy:∀ wide,(zP wide y).length≤1000000) (ihy:xH y):xH (.mk 8 0 0 k [] [y]):=by
 intro wide S W hT;obtain⟨SA,Sn,Sc⟩:=S;have HB2:Hid (Below W.heap.size W ((W.alloc (.cells #[uB 8,uB 0,uW 0,uI k,uT,.slice SA Sn Sc] 31)).alloc (.cells #[.bool wide] 4))):=Ph (zG (zG (lB _ _) _) _);have HK2:Hid (Bk ((W.alloc (.cells #[uB 8,uB 0,uW 0,uI k,uT,.slice SA Sn Sc] 31)).alloc (.cells #[.bool wide] 4)) W.heap.size 31 #[uB 8,uB 0,uW 0,uI k,uT,.slice SA Sn Sc]):=Ph ((Bk.new W _ _).alloc _);have hk3:=Bk.new (W.alloc (.cells #[uB 8,uB 0,uW 0,uI k,uT,.slice SA Sn Sc] 31)) 4 #[.bool wide];rw [lO]at hk3;have HK3:=Ph hk3;have HT2:=Ph (hT.out.bel HB2.out);clear hk3 hT;show Calls Tryz.prog 29 #[.agg #[uB 8,uB 0,uW 0,uI k,uT,.slice SA Sn Sc],.bool wide] W _;go_enter Tryz.func29,Tryz.ntmps29
 go_upto_region 2 with fail
 generalize ((World.alloc _ _))=W2 at HB2 HK2 HK3 HT2 ⊢;obtain⟨b3,hb3⟩:∃ b,W.heap.size+1=b:=⟨_,rfl⟩;obtain⟨b2,hb2⟩:∃ b,W.heap.size=b:=⟨_,rfl⟩;rw [hb3]at HK3 ⊢;rw [hb2]at HK2 ⊢;clear hb2 hb3;obtain⟨g0,g1,g2,g3,g4,g5⟩:=zH HK2.out;have w0:W2.cell? ⟨b3,0,none⟩=some (.bool wide):=HK3.out.cell 0;obtain⟨t,ht⟩:∃ t,zI5 wide y (zP wide y)=t:=⟨_,rfl⟩;have hlt:t.length≤1000010:=by rw [←ht];have:=kS wide y (zP wide y);have:=hzy wide;omega
 have HC0:Hid (∀ W',Below W2.heap.size W2 W'→Calls Tryz.prog 73 #[uI 0,uQ b2 0,uQ b3 0] W' fun e w'=>e=.returned (uR t)∧Below W'.heap.size W' w'):=Ph fun W' hb=>by rw [←ht];exact qL5 (.mk 8 0 0 k [] [y]) y 0 wide ⟨SA,Sn,Sc⟩ (Ph rfl) Yo b2 b3 (Ph (hzy wide)) W' (Ph (zD HK2.out hb)) (Ph (zD HK3.out hb)) (Ph (HT2.out.bel hb)) (Ph fun V W'' hV=>ihy wide V W'' hV)
 have HD2:Hid (∀ w,Calls Tryz.prog 19 #[uI k] w fun e w'=>e=.returned (.string (str (qZ k)))∧w=w'):=Ph (xS k hk);have l2:=jO k hk;obtain⟨dk,hdk⟩:∃ l,qZ k=l:=⟨_,rfl⟩;have HE:Hid (zP wide (.mk 8 0 0 k [] [y])=t++[32,64]++dk):=Ph (by rw [←hdk,←ht];simp [zP,yD,qA6,kL2,kL3,kL4]);rw [hdk]at HD2 l2;clear hdk ht;have R1:∀ w,(Op.stringOp .add (str t) (⟨#[32,64]⟩:ByteArray)).run Tryz.prog w=.ok (.string (str (t++[32,64]))) w:=zQ (t) ([32,64]) (by first | omega | (simp only [Ya,Yc,Yn];try omega));obtain⟨U1,hU1⟩:∃ u,t++[32,64]=u:=⟨_,rfl⟩;have hL1:U1.length=(t.length)+(2):=by rw [←hU1];simp only [Ya,Yc,Yn];try omega
 rw [hU1]at R1;have R2:∀ w,(Op.stringOp .add (str U1) (str dk)).run Tryz.prog w=.ok (.string (str (U1++dk))) w:=zQ (U1) (dk) (by first | omega | (simp only [Ya,Yc,Yn];try omega));obtain⟨U2,hU2⟩:∃ u,U1++dk=u:=⟨_,rfl⟩;have hL2:U2.length=(U1.length)+(dk.length):=by rw [←hU2];simp only [Ya,Yc,Yn];try omega
 rw [hU2]at R2;rw [hU1,hU2]at HE;clear hU1 hU2 hL1 hL2 l2 hlt hzy ihy;have HSS:Hid (∀ w',Below W2.heap.size W2 w'→w'.cell? ⟨b2,3,none⟩=some (uI k)):=Ph fun w' hb=>(zD HK2.out hb).cell 3;have HBd:Hid (Below W2.heap.size W2 W2.drew):=Ph (lB _ _).drew;go_upto_region 17 with fail
 clear w0 g0 g1 g2 g3 g4 g5
 go_region_held3 (fun w'=>w'.cell? ⟨b2,3,none⟩=some (uI k))
  (first | with_reducible exact HSS.out _ HBd.out)
  (first
    | (go_at_call 19
       with_reducible refine(HD2.out _).mono ?_
       rintro e w1 ⟨rfl,rfl⟩)
    | (go_at_call 73
       with_reducible refine(HC0.out _ HBd.out).mono ?_
       rintro e w1 ⟨rfl,hb1⟩;have HBn:=Ph (HBd.out.trans (hb1.mono HBd.out.size));clear HBd hb1;have HBd:=HBn;clear HBn))
 all_goals
  go_wp2_with fail
  go_ret;exact⟨by rw [HE.out];rfl,HB2.out.trans (HBd.out.mono HB2.out.size)⟩
theorem kG1 (o:Nat) (ho:o<3):(#[uT,.string ⟨#[126]⟩,.string ⟨#[45]⟩]:Array Value)[o]?=some (.string (str (unT o)))∧(unT o).length≤3:=by
 match o,ho with
 | 0,_ | 1,_ | 2,_=>exact⟨rfl,Yd⟩
 | n+3,h=>omega
theorem kG2 (o:Nat) (ho1:1≤o) (ho2:o≤2) (y0:Ex) (hzy0:∀ wide,(zP wide y0).length≤1000000) (ihy0:xH y0):xH (.mk 5 o 0 0 [] [y0]):=by
 intro wide S W hT;obtain⟨SA,Sn,Sc⟩:=S;have HB2:Hid (Below W.heap.size W ((W.alloc (.cells #[uB 5,uB o,uW 0,uI 0,uT,.slice SA Sn Sc] 31)).alloc (.cells #[.bool wide] 4))):=Ph (zG (zG (lB _ _) _) _);have HK2:Hid (Bk ((W.alloc (.cells #[uB 5,uB o,uW 0,uI 0,uT,.slice SA Sn Sc] 31)).alloc (.cells #[.bool wide] 4)) W.heap.size 31 #[uB 5,uB o,uW 0,uI 0,uT,.slice SA Sn Sc]):=Ph ((Bk.new W _ _).alloc _);have hk3:=Bk.new (W.alloc (.cells #[uB 5,uB o,uW 0,uI 0,uT,.slice SA Sn Sc] 31)) 4 #[.bool wide];rw [lO]at hk3;have HK3:=Ph hk3;have HT2:=Ph (hT.out.bel HB2.out);clear hk3 hT;show Calls Tryz.prog 29 #[.agg #[uB 5,uB o,uW 0,uI 0,uT,.slice SA Sn Sc],.bool wide] W _;go_enter Tryz.func29,Tryz.ntmps29
 go_upto_region 2 with fail
 generalize ((World.alloc _ _))=W2 at HB2 HK2 HK3 HT2 ⊢;obtain⟨b3,hb3⟩:∃ b,W.heap.size+1=b:=⟨_,rfl⟩;obtain⟨b2,hb2⟩:∃ b,W.heap.size=b:=⟨_,rfl⟩;rw [hb3]at HK3 ⊢;rw [hb2]at HK2 ⊢;clear hb2 hb3;obtain⟨g0,g1,g2,g3,g4,g5⟩:=zH HK2.out;have w0:W2.cell? ⟨b3,0,none⟩=some (.bool wide):=HK3.out.cell 0;obtain⟨t0,ht0⟩:∃ t,zI5 wide y0 (zP wide y0)=t:=⟨_,rfl⟩;have hlt0:t0.length≤1000010:=by rw [←ht0];have:=kS wide y0 (zP wide y0);have:=hzy0 wide;omega
 have HC0:Hid (∀ W',Below W2.heap.size W2 W'→Calls Tryz.prog 73 #[uI 0,uQ b2 0,uQ b3 0] W' fun e w'=>e=.returned (uR t0)∧Below W'.heap.size W' w'):=Ph fun W' hb=>by rw [←ht0];exact qL5 (.mk 5 o 0 0 [] [y0]) y0 0 wide ⟨SA,Sn,Sc⟩ (Ph rfl) Yo b2 b3 (Ph (hzy0 wide)) W' (Ph (zD HK2.out hb)) (Ph (zD HK3.out hb)) (Ph (HT2.out.bel hb)) (Ph fun V W'' hV=>ihy0 wide V W'' hV)
 have e0:(o:Int).tmod 3=(o:Int):=by rw [Int.tmod_eq_emod_of_nonneg Yo];omega
 have e1:(o:Int)<3:=Yo;have e2:(0:Int)≤(o:Int):=Yo;obtain⟨hop,hol⟩:=kG1 o Yo;obtain⟨tq,htq⟩:∃ t,unT o=t:=⟨_,rfl⟩;have HE:Hid (zP wide (.mk 5 o 0 0 [] [y0])=tq++t0):=Ph (by rw [←htq,←ht0];simp [zP,yD]);rw [htq]at hop hol;have hopl:([uT,.string ⟨#[126]⟩,.string ⟨#[45]⟩]:List Value)[o]?=some (uR tq):=by rw [←List.getElem?_toArray];exact hop
 clear htq ht0 hzy0 ihy0;have R1:∀ w,(Op.stringOp .add (str tq) (str t0)).run Tryz.prog w=.ok (.string (str (tq++t0))) w:=zQ (tq) (t0) (by first | omega | (simp only [Ya,Yc,Yn];try omega));obtain⟨U1,hU1⟩:∃ u,tq++t0=u:=⟨_,rfl⟩;have hL1:U1.length=(tq.length)+(t0.length):=by rw [←hU1];simp only [Ya,Yc,Yn];try omega
 rw [hU1]at R1;rw [hU1]at HE;clear hU1 hL1 hol hlt0;have HL:Hid (∀ (w' w'':World),Below (w'.alloc (.cells #[uT,.string ⟨#[126]⟩,.string ⟨#[45]⟩] 9)).heap.size (w'.alloc (.cells #[uT,.string ⟨#[126]⟩,.string ⟨#[45]⟩] 9)) w''→w''.cell? ⟨w'.heap.size,o,none⟩=some (uR tq)):=Ph fun w' w'' hb=>((zD (Bk.new w' 9 #[uT,.string ⟨#[126]⟩,.string ⟨#[45]⟩]) hb).cell o).trans hop;have HBd:Hid (Below W2.heap.size W2 W2.drew):=Ph (lB _ _).drew;have HG:Hid (∀ w',Below W2.heap.size W2 w'→w'.cell? ⟨b2,1,none⟩=some (uB o)):=Ph fun w' hb=>(zD HK2.out hb).cell 1;go_upto_region 12 with fail
 clear hop w0 g0 g1 g2 g3 g4 g5 ho1 ho2;have g1:=HG.out _ HBd.out;have g1p:=HG.out _ (lB _ _);have s1:b2<W2.heap.size:=HK2.out.lt;have HZ2:=Ph s1
 go_region_law (first
  | (go_simp
     go_at_call 73
     first
      | (with_reducible refine(HC0.out _ HBd.out).mono ?_
         rintro e w3 ⟨rfl,hb1⟩;have HBn:=Ph (zU HBd.out hb1);try have gN:=((Fr.of_below (F:=fun _=>False) hb1).cell (World.block_lt_of_cell? _ _ gM) (fun e=>e)).trans gM
         clear HBd hb1 g1;have HBd:=HBn;clear HBn;have g1:=HG.out _ HBd.out;have s3:=lX HZ2.out HBd.out.size)
      | (with_reducible refine(HC0.out _ (zG HBd.out _)).mono ?_
         rintro e w3 ⟨rfl,hb1⟩;have HBn:=Ph (zU (zG HBd.out _) hb1);have gM:=HL.out _ _ hb1;clear HBd hb1 g1;have HBd:=HBn;clear HBn;have g1:=HG.out _ HBd.out;have s3:=lX HZ2.out HBd.out.size)
      | (with_reducible refine(HC0.out _ ((zG (lB _ W2) _).drew)).mono ?_
         rintro e w3 ⟨rfl,hb1⟩;have HBn:=Ph (zU (zG (lB _ W2) _) (zM8 hb1));have gM:=HL.out _ _ (zM8 hb1);clear HBd hb1 g1;have HBd:=HBn;clear HBn;have g1:=HG.out _ HBd.out;have s3:=lX HZ2.out HBd.out.size)))
 all_goals
  go_wp2_with fail
  go_ret
  first
   | exact⟨by rw [HE.out];rfl,HB2.out.trans (HBd.out.mono HB2.out.size)⟩
   | exact⟨by rw [HE.out];rfl,HB2.out.trans ((zG HBd.out _).mono HB2.out.size)⟩
theorem jT7 (o:Nat) (ho:o<17):(#[uT,uT,uT,.string ⟨#[43]⟩,.string ⟨#[32,45,32]⟩,.string ⟨#[42]⟩,.string ⟨#[47]⟩,.string ⟨#[37]⟩,.string ⟨#[38]⟩,.string ⟨#[124]⟩,.string ⟨#[94]⟩,.string ⟨#[60,60]⟩,.string ⟨#[62,62]⟩,.string ⟨#[61,61]⟩,.string ⟨#[33,61]⟩,.string ⟨#[32,60,32]⟩,.string ⟨#[60,61]⟩]:Array Value)[o]?=some (.string (str (biT o)))∧(biT o).length≤3:=by
 match o,ho with
 | 0,_ | 1,_ | 2,_ | 3,_ | 4,_ | 5,_ | 6,_ | 7,_ | 8,_ | 9,_ | 10,_ | 11,_ | 12,_ | 13,_ | 14,_ | 15,_ | 16,_=>exact⟨rfl,Yd⟩
 | n+17,h=>omega
theorem jY9 (o:Nat) (ho1:3≤o) (ho2:o≤16) (y0 y1:Ex) (hzy0:∀ wide,(zP wide y0).length≤1000000) (hzy1:∀ wide,(zP wide y1).length≤1000000) (ihy0:xH y0) (ihy1:xH y1):xH (.mk 6 o 0 0 [] [y0,y1]):=by
 intro wide S W hT;obtain⟨SA,Sn,Sc⟩:=S;have HB2:Hid (Below W.heap.size W ((W.alloc (.cells #[uB 6,uB o,uW 0,uI 0,uT,.slice SA Sn Sc] 31)).alloc (.cells #[.bool wide] 4))):=Ph (zG (zG (lB _ _) _) _);have HK2:Hid (Bk ((W.alloc (.cells #[uB 6,uB o,uW 0,uI 0,uT,.slice SA Sn Sc] 31)).alloc (.cells #[.bool wide] 4)) W.heap.size 31 #[uB 6,uB o,uW 0,uI 0,uT,.slice SA Sn Sc]):=Ph ((Bk.new W _ _).alloc _);have hk3:=Bk.new (W.alloc (.cells #[uB 6,uB o,uW 0,uI 0,uT,.slice SA Sn Sc] 31)) 4 #[.bool wide];rw [lO]at hk3;have HK3:=Ph hk3;have HT2:=Ph (hT.out.bel HB2.out);clear hk3 hT;show Calls Tryz.prog 29 #[.agg #[uB 6,uB o,uW 0,uI 0,uT,.slice SA Sn Sc],.bool wide] W _;go_enter Tryz.func29,Tryz.ntmps29
 go_upto_region 2 with fail
 generalize ((World.alloc _ _))=W2 at HB2 HK2 HK3 HT2 ⊢;obtain⟨b3,hb3⟩:∃ b,W.heap.size+1=b:=⟨_,rfl⟩;obtain⟨b2,hb2⟩:∃ b,W.heap.size=b:=⟨_,rfl⟩;rw [hb3]at HK3 ⊢;rw [hb2]at HK2 ⊢;clear hb2 hb3;obtain⟨g0,g1,g2,g3,g4,g5⟩:=zH HK2.out;have w0:W2.cell? ⟨b3,0,none⟩=some (.bool wide):=HK3.out.cell 0;obtain⟨t0,ht0⟩:∃ t,zI5 wide y0 (zP wide y0)=t:=⟨_,rfl⟩;have hlt0:t0.length≤1000010:=by rw [←ht0];have:=kS wide y0 (zP wide y0);have:=hzy0 wide;omega
 have HC0:Hid (∀ W',Below W2.heap.size W2 W'→Calls Tryz.prog 73 #[uI 0,uQ b2 0,uQ b3 0] W' fun e w'=>e=.returned (uR t0)∧Below W'.heap.size W' w'):=Ph fun W' hb=>by rw [←ht0];exact qL5 (.mk 6 o 0 0 [] [y0,y1]) y0 0 wide ⟨SA,Sn,Sc⟩ (Ph rfl) Yo b2 b3 (Ph (hzy0 wide)) W' (Ph (zD HK2.out hb)) (Ph (zD HK3.out hb)) (Ph (HT2.out.bel hb)) (Ph fun V W'' hV=>ihy0 wide V W'' hV)
 obtain⟨t1,ht1⟩:∃ t,zI5 wide y1 (zP wide y1)=t:=⟨_,rfl⟩;have hlt1:t1.length≤1000010:=by rw [←ht1];have:=kS wide y1 (zP wide y1);have:=hzy1 wide;omega
 have HC1:Hid (∀ W',Below W2.heap.size W2 W'→Calls Tryz.prog 73 #[uI 1,uQ b2 0,uQ b3 0] W' fun e w'=>e=.returned (uR t1)∧Below W'.heap.size W' w'):=Ph fun W' hb=>by rw [←ht1];exact qL5 (.mk 6 o 0 0 [] [y0,y1]) y1 1 wide ⟨SA,Sn,Sc⟩ (Ph rfl) Yo b2 b3 (Ph (hzy1 wide)) W' (Ph (zD HK2.out hb)) (Ph (zD HK3.out hb)) (Ph (HT2.out.bel hb)) (Ph fun V W'' hV=>ihy1 wide V W'' hV)
 have e0:(o:Int).tmod 17=(o:Int):=by rw [Int.tmod_eq_emod_of_nonneg Yo];omega
 have e1:(o:Int)<17:=Yo;have e2:(0:Int)≤(o:Int):=Yo;obtain⟨hop,hol⟩:=jT7 o Yo;obtain⟨tq,htq⟩:∃ t,biT o=t:=⟨_,rfl⟩;have HE:Hid (zP wide (.mk 6 o 0 0 [] [y0,y1])=t0++tq++t1):=Ph (by rw [←htq,←ht0,←ht1];simp [zP,yD]);rw [htq]at hop hol;have hopl:([uT,uT,uT,.string ⟨#[43]⟩,.string ⟨#[32,45,32]⟩,.string ⟨#[42]⟩,.string ⟨#[47]⟩,.string ⟨#[37]⟩,.string ⟨#[38]⟩,.string ⟨#[124]⟩,.string ⟨#[94]⟩,.string ⟨#[60,60]⟩,.string ⟨#[62,62]⟩,.string ⟨#[61,61]⟩,.string ⟨#[33,61]⟩,.string ⟨#[32,60,32]⟩,.string ⟨#[60,61]⟩]:List Value)[o]?=some (uR tq):=by rw [←List.getElem?_toArray];exact hop
 clear htq ht0 hzy0 ihy0 ht1 hzy1 ihy1;have R1:∀ w,(Op.stringOp .add (str t0) (str tq)).run Tryz.prog w=.ok (.string (str (t0++tq))) w:=zQ (t0) (tq) (by first | omega | (simp only [Ya,Yc,Yn];try omega));obtain⟨U1,hU1⟩:∃ u,t0++tq=u:=⟨_,rfl⟩;have hL1:U1.length=(t0.length)+(tq.length):=by rw [←hU1];simp only [Ya,Yc,Yn];try omega
 rw [hU1]at R1;have R2:∀ w,(Op.stringOp .add (str U1) (str t1)).run Tryz.prog w=.ok (.string (str (U1++t1))) w:=zQ (U1) (t1) (by first | omega | (simp only [Ya,Yc,Yn];try omega));obtain⟨U2,hU2⟩:∃ u,U1++t1=u:=⟨_,rfl⟩;have hL2:U2.length=(U1.length)+(t1.length):=by rw [←hU2];simp only [Ya,Yc,Yn];try omega
 rw [hU2]at R2;rw [hU1,hU2]at HE;clear hU1 hU2 hL1 hL2 hol hlt0 hlt1;have HL:Hid (∀ (w' w'':World),Below (w'.alloc (.cells #[uT,uT,uT,.string ⟨#[43]⟩,.string ⟨#[32,45,32]⟩,.string ⟨#[42]⟩,.string ⟨#[47]⟩,.string ⟨#[37]⟩,.string ⟨#[38]⟩,.string ⟨#[124]⟩,.string ⟨#[94]⟩,.string ⟨#[60,60]⟩,.string ⟨#[62,62]⟩,.string ⟨#[61,61]⟩,.string ⟨#[33,61]⟩,.string ⟨#[32,60,32]⟩,.string ⟨#[60,61]⟩] 9)).heap.size (w'.alloc (.cells #[uT,uT,uT,.string ⟨#[43]⟩,.string ⟨#[32,45,32]⟩,.string ⟨#[42]⟩,.string ⟨#[47]⟩,.string ⟨#[37]⟩,.string ⟨#[38]⟩,.string ⟨#[124]⟩,.string ⟨#[94]⟩,.string ⟨#[60,60]⟩,.string ⟨#[62,62]⟩,.string ⟨#[61,61]⟩,.string ⟨#[33,61]⟩,.string ⟨#[32,60,32]⟩,.string ⟨#[60,61]⟩] 9)) w''→w''.cell? ⟨w'.heap.size,o,none⟩=some (uR tq)):=Ph fun w' w'' hb=>((zD (Bk.new w' 9 #[uT,uT,uT,.string ⟨#[43]⟩,.string ⟨#[32,45,32]⟩,.string ⟨#[42]⟩,.string ⟨#[47]⟩,.string ⟨#[37]⟩,.string ⟨#[38]⟩,.string ⟨#[124]⟩,.string ⟨#[94]⟩,.string ⟨#[60,60]⟩,.string ⟨#[62,62]⟩,.string ⟨#[61,61]⟩,.string ⟨#[33,61]⟩,.string ⟨#[32,60,32]⟩,.string ⟨#[60,61]⟩]) hb).cell o).trans hop;have HBd:Hid (Below W2.heap.size W2 W2.drew):=Ph (lB _ _).drew;have HG:Hid (∀ w',Below W2.heap.size W2 w'→w'.cell? ⟨b2,1,none⟩=some (uB o)):=Ph fun w' hb=>(zD HK2.out hb).cell 1;go_upto_region 14 with fail
 clear hop w0 g0 g1 g2 g3 g4 g5 ho1 ho2;have g1:=HG.out _ HBd.out;have g1p:=HG.out _ (lB _ _);have s1:b2<W2.heap.size:=HK2.out.lt;have HZ2:=Ph s1
 go_region_law (first
  | (go_simp
     go_at_call 73
     first
      | (with_reducible refine(HC0.out _ HBd.out).mono ?_
         rintro e w3 ⟨rfl,hb1⟩;have HBn:=Ph (zU HBd.out hb1);try have gN:=((Fr.of_below (F:=fun _=>False) hb1).cell (World.block_lt_of_cell? _ _ gM) (fun e=>e)).trans gM
         clear HBd hb1 g1;have HBd:=HBn;clear HBn;have g1:=HG.out _ HBd.out;have s3:=lX HZ2.out HBd.out.size)
      | (with_reducible refine(HC0.out _ (zG HBd.out _)).mono ?_
         rintro e w3 ⟨rfl,hb1⟩;have HBn:=Ph (zU (zG HBd.out _) hb1);have gM:=HL.out _ _ hb1;clear HBd hb1 g1;have HBd:=HBn;clear HBn;have g1:=HG.out _ HBd.out;have s3:=lX HZ2.out HBd.out.size)
      | (with_reducible refine(HC0.out _ ((zG (lB _ W2) _).drew)).mono ?_
         rintro e w3 ⟨rfl,hb1⟩;have HBn:=Ph (zU (zG (lB _ W2) _) (zM8 hb1));have gM:=HL.out _ _ (zM8 hb1);clear HBd hb1 g1;have HBd:=HBn;clear HBn;have g1:=HG.out _ HBd.out;have s3:=lX HZ2.out HBd.out.size)
      | (with_reducible refine(HC1.out _ HBd.out).mono ?_
         rintro e w4 ⟨rfl,hb1⟩;have HBn:=Ph (zU HBd.out hb1);try have gN:=((Fr.of_below (F:=fun _=>False) hb1).cell (World.block_lt_of_cell? _ _ gM) (fun e=>e)).trans gM
         clear HBd hb1 g1;have HBd:=HBn;clear HBn;have g1:=HG.out _ HBd.out;have s4:=lX HZ2.out HBd.out.size)
      | (with_reducible refine(HC1.out _ (zG HBd.out _)).mono ?_
         rintro e w4 ⟨rfl,hb1⟩;have HBn:=Ph (zU (zG HBd.out _) hb1);have gM:=HL.out _ _ hb1;clear HBd hb1 g1;have HBd:=HBn;clear HBn;have g1:=HG.out _ HBd.out;have s4:=lX HZ2.out HBd.out.size)
      | (with_reducible refine(HC1.out _ ((zG (lB _ W2) _).drew)).mono ?_
         rintro e w4 ⟨rfl,hb1⟩;have HBn:=Ph (zU (zG (lB _ W2) _) (zM8 hb1));have gM:=HL.out _ _ (zM8 hb1);clear HBd hb1 g1;have HBd:=HBn;clear HBn;have g1:=HG.out _ HBd.out;have s4:=lX HZ2.out HBd.out.size)))
 all_goals
  go_wp2_with fail
  go_ret
  first
   | exact⟨by rw [HE.out];rfl,HB2.out.trans (HBd.out.mono HB2.out.size)⟩
   | exact⟨by rw [HE.out];rfl,HB2.out.trans ((zG HBd.out _).mono HB2.out.size)⟩
end
section
open Go.RowKit Go.PlainAid
def kG3 (w:World) (k:Nat):Prop:=∃ cs fr,w.heap[k]?=some (.cells cs 3 fr)
def FrQ (B p:Nat) (w w':World):Prop:=Fr (fun k=>k=p∨(B≤k∧kG3 w k)) w w'
section
variable {B p:Nat} {w w1 w':World}
theorem FrQ.refl (p:Nat) (w:World):FrQ B p w w:=Fr.refl _ w
theorem FrQ.trans (h:FrQ B p w w1) (k:FrQ B p w1 w'):FrQ B p w w':=by
 refine⟨k.os.trans h.os,k.tape.trans h.tape,k.output.trans h.output,lE h.size k.size,fun i hi hf=>?_⟩;have e:=h.block i hi hf;refine(k.block i (lX hi h.size) fun hk=>?_).trans e;rcases hk with rfl | ⟨hB,cs,fr,hk⟩
 ·exact hf (.inl rfl)
 ·exact hf (.inr ⟨hB,cs,fr,e.symm.trans hk⟩)
theorem FrQ.of_below (h:Below w.heap.size w w'):FrQ B p w w':=Fr.of_below h
theorem FrQ.of_p (h:Fr (fun k=>k=p) w w'):FrQ B p w w':=h.mono fun k _ e=>.inl e
theorem FrQ.then (h:FrQ B p w w1) (hb:Below w1.heap.size w1 w'):FrQ B p w w':=h.trans (.of_below hb)
theorem FrQ.bk {r:Nat} {t:TypeId} {cs:Array Value} (h:FrQ B p w w') (hb:Bk w r t cs) (ht:t≠3) (hr:r≠p):Bk w' r t cs:=hb.fr h fun e=>by
 rcases e with e | ⟨_,cs2,fr,e⟩
 ·exact hr e
 ·unfold Bk at hb;rw [hb]at e;injection e with e;injection e with _ e;exact ht e
theorem FrQ.stays {P:Nat→Prop} {cs:Array Value} (h:FrQ B p w w') (hp:Bk w p 152 cs):Stays P w w':=by
 intro b cs2 t fr hb ht _;refine h.block b (zO hb) fun e=>?_;rcases e with rfl | ⟨_,cs3,fr3,e⟩
 ·unfold Bk at hp;rw [hp]at hb;injection hb with hb;injection hb with _ hb;exact zX8 (hb▸ht)
 ·rw [e]at hb;injection hb with hb;injection hb with _ hb;exact zS5 (hb▸ht)
theorem FrQ.box {r:Nat} (h:FrQ B p w w1) (hf:Fr (fun k=>k=r) w1 w') (hr:w.heap.size≤r):FrQ B p w w' :=
 Fr.then h hf fun i hi e=>Yo
end
structure Pq (B:Nat) (w:World) (p:Nat) (E:Env) (T:TV) (q:QSt):Prop where
 ex:∃ Q:SV,Ps w p E T Q q.s∧AtO B w Q q.l∧Q.n=q.l.length
 g0:0<B
 g1:3<B
 b:B≤w.heap.size
structure PQ (B:Nat) (w:World) (p:Nat) (E:Env) (T:TV) (q:QSt) (w':World):Prop where
 pq:Pq B w' p E T q
 fr:FrQ B p w w'
section
variable {B:Nat} {w w1 w':World} {p:Nat} {E:Env} {T:TV} {q q1:QSt} {s:PSt}
theorem Pq.below (h:Pq B w p E T q) (hb:Below w.heap.size w w'):Pq B w' p E T q:=by obtain⟨Q,h1,h2,h3⟩:=h.ex;exact⟨⟨Q,h1.below hb,jP h2 (Fr.of_below (F:=fun _=>False) hb) (fun _ _ h=>h),h3⟩,h.g0,h.g1,lE h.b hb.size⟩
theorem Pq.lt (h:Pq B w p E T q):p<w.heap.size:=by obtain⟨Q,h1,_⟩:=h.ex;exact h1.lt
theorem Pq.bk (h:Pq B w p E T q):∃ cs,Bk w p 152 cs:=by obtain⟨Q,h1,_⟩:=h.ex;exact⟨_,h1.bk⟩
theorem Pq.vr (h:Pq B w p E T q):Vars w:=by obtain⟨Q,h1,_⟩:=h.ex;exact h1.vr
theorem Pq.stays {P:Nat→Prop} (h:Pq B w p E T q) (hf:FrQ B p w w'):Stays P w w':=by obtain⟨cs,hb⟩:=h.bk;exact hf.stays hb
theorem Pq.box {r:Nat} {t:TypeId} {cs:Array Value} (h:Pq B w p E T q) (hr:Bk w r t cs) (ht:t≠44) (hti:t≠3) (hrp:p≠r) (hB:B≤r) (hf:Fr (fun k=>k=r) w w'):Pq B w' p E T q:=by obtain⟨Q,h1,h2,h3⟩:=h.ex;have:=h.g0;have:=h.g1;exact⟨⟨Q,h1.box hr ht hrp Yo Yo hf,jP h2 hf (fun k hk e=>yR h2 hr (cX hti) (by rw [hk,e])),h3⟩,h.g0,h.g1,lE h.b hf.size⟩
theorem Pq.pp {Q:SV} (h:Pq B w p E T q) (h1:Ps w p E T Q q.s) (h2:AtO B w Q q.l) (h3:Q.n=q.l.length) (hp:PP w p E T Q s w'):PQ B w p E T (q.on s) w' :=
 ⟨⟨⟨Q,hp.ps,h2.fr h1 hp.fr,h3⟩,h.g0,h.g1,lE h.b hp.fr.size⟩,.of_p hp.fr⟩
theorem PQ.below (h:Pq B w p E T q) (hb:Below w.heap.size w w'):PQ B w p E T q w':=⟨h.below hb,.of_below hb⟩
theorem PQ.trans (h:PQ B w p E T q1 w1) (k:PQ B w1 p E T q w'):PQ B w p E T q w':=⟨k.pq,h.fr.trans k.fr⟩
theorem PQ.then (h:PQ B w p E T q w1) (hb:Below w1.heap.size w1 w'):PQ B w p E T q w':=⟨h.pq.below hb,h.fr.then hb⟩
theorem PQ.after (hb:Below w.heap.size w w1) (h:PQ B w1 p E T q w'):PQ B w p E T q w':=⟨h.pq,(FrQ.of_below hb).trans h.fr⟩
theorem PQ.bk {r:Nat} {t:TypeId} {cs:Array Value} (h:PQ B w p E T q w') (hb:Bk w r t cs) (ht:t≠3) (hr:r≠p):Bk w' r t cs:=h.fr.bk hb ht hr
theorem PQ.box {r:Nat} {t:TypeId} {cs:Array Value} (h:PQ B w p E T q w1) (hr:Bk w1 r t cs) (ht:t≠44) (hti:t≠3) (hrp:p≠r) (hB:B≤r) (hwr:w.heap.size≤r) (hf:Fr (fun k=>k=r) w1 w'):PQ B w p E T q w':=⟨h.pq.box hr ht hti hrp hB hf,h.fr.box hf hwr⟩
theorem PQ.stays {P:Nat→Prop} (h0:Pq B w p E T q1) (h:PQ B w p E T q w'):Stays P w w':=h0.stays h.fr
theorem zI6 (q:QSt) (w:World) (h:Hid (Pq B w p E T q)):Calls Tryz.prog 83 #[uQ p 0] w fun e w'=>e=.returned (nxV (zC E q.s))∧Below w.heap.size w w':=by obtain⟨Q,h1,h2,h3⟩:=h.out.ex;exact zC5 p E T Q q.s w (Ph h1)
theorem isQ (q:QSt) (u:List UInt8) (w:World) (h:Hid (Pq B w p E T q)):Calls Tryz.prog 87 #[uQ p 0,uR u] w fun x w'=>x=.returned (.bool (isP E q.s u))∧PQ B w p E T (q.on (isS E q.s u)) w':=by obtain⟨Q,h1,h2,h3⟩:=h.out.ex;exact(isC p E T Q q.s u w (Ph h1)).mono fun x w' hx=>⟨hx.1,h.out.pp h1 h2 h3 hx.2⟩
theorem zM9 (q:QSt) (u:List UInt8) (w:World) (h:Hid (Pq B w p E T q)):Calls Tryz.prog 84 #[uQ p 0,uR u] w fun x w'=>(∃ v,x=.returned v)∧PQ B w p E T (q.on (zI E q.s u)) w':=by obtain⟨Q,h1,h2,h3⟩:=h.out.ex;exact(jX5 p E T Q q.s u w (Ph h1)).mono fun x w' hx=>⟨hx.1,h.out.pp h1 h2 h3 hx.2⟩
theorem jD1 (q:QSt) (w:World) (h:Hid (Pq B w p E T q)):Calls Tryz.prog 111 #[uQ p 0] w fun x w'=>x=.returned (.string (str (jA E q.s)))∧PQ B w p E T (q.on (zL E q.s)) w':=by obtain⟨Q,h1,h2,h3⟩:=h.out.ex;exact(jX6 p E T Q q.s w (Ph h1)).mono fun x w' hx=>⟨hx.1,h.out.pp h1 h2 h3 hx.2⟩
theorem jT8 (q:QSt) (w:World) (h:Hid (Pq B w p E T q)):Calls Tryz.prog 85 #[uQ p 0] w fun x w'=>x=.returned (uI ((jB E q.s).1:Int))∧PQ B w p E T (q.on (jB E q.s).2) w':=by obtain⟨Q,h1,h2,h3⟩:=h.out.ex;exact(kQ1 p E T Q q.s w (Ph h1)).mono fun x w' hx=>⟨hx.1,h.out.pp h1 h2 h3 hx.2⟩
theorem qW3 {q q':QSt} {u:List UInt8} (h:kN E q u=some q'):okP q.s=true∧q'=q.on (kV E q.s u):=by
 unfold kN at h;split at h
 ·rename_i h0;injection h with h;exact⟨h0,h.symm⟩
 ·cases h
theorem qW4 {q q':QSt} {u:List UInt8} (h:jX E q u=some q'):okP q.s=true∧q'=q.on (wN E q.s u):=by
 unfold jX at h;split at h
 ·rename_i h0;injection h with h;exact⟨h0,h.symm⟩
 ·cases h
theorem qF3 (q:QSt) (u:List UInt8) (q':QSt) (hq:kN E q u=some q') (w:World) (h:Hid (Pq B w p E T q)):Calls Tryz.prog 112 #[uQ p 0,uR u] w fun x w'=>(∃ v,x=.returned v)∧PQ B w p E T q' w':=by obtain⟨Q,h1,h2,h3⟩:=h.out.ex;obtain⟨h0,rfl⟩:=qW3 hq;exact(jX7 p E T Q q.s u w (Ph h1) h0).mono fun x w' hx=>⟨hx.1,h.out.pp h1 h2 h3 hx.2⟩
theorem zI7 (q:QSt) (u:List UInt8) (q':QSt) (hq:jX E q u=some q') (w:World) (h:Hid (Pq B w p E T q)):Calls Tryz.prog 113 #[uQ p 0,uR u] w fun x w'=>(∃ v,x=.returned v)∧PQ B w p E T q' w':=by obtain⟨Q,h1,h2,h3⟩:=h.out.ex;obtain⟨h0,rfl⟩:=qW4 hq;exact(kF1 p E T Q q.s u w (Ph h1) h0).mono fun x w' hx=>⟨hx.1,h.out.pp h1 h2 h3 hx.2⟩
theorem zC3 (f:Nat) (q:QSt) (X:Ex) (q':QSt) (hx:qS E f q=some (X,q')) (w:World) (h:Hid (Pq B w p E T q)) :
 Calls Tryz.prog 54 #[uQ p 0] w fun e w'=>∃ S,e=.returned (.agg (qX X S).toArray)∧TX (fun k=>w.heap.size≤k) w' X S∧PQ B w p E T q' w':=by
 obtain⟨Q,h1,h2,h3⟩:=h.out.ex;unfold qS at hx;cases hc:zM E f q.s with
 | none=>rw [hc]at hx;cases hx
 | some r =>
   obtain⟨x,s⟩:=r;rw [hc]at hx;(try dsimp only at hx);split at hx
   ·rename_i hn;injection hx with hx;injection hx with e1 e2;subst e1 e2;have hi:∀ (w':World),Ps w p E T Q q.s→AtO B w Q q.l→Fr (FrA p Q) w w'→FrQ B p w w':=fun w' a b hf=>Fr.mono hf fun k hk e=>by
     rcases e with e | e
     ·exact .inl e
     ·refine .inr ?_;rcases b.2 with⟨h0,_⟩ | ⟨g',cap,cur,h0,hbs,hh,_⟩
      ·injection h0 with h0;rw [h0]at e;cases e
      ·injection h0 with h0;rw [h0]at e;injection e with e;have e':g'=k:=e;exact⟨e'▸hbs,cur,_,e'▸hh⟩
    exact(kF8 B q.l f q.s x s w hc (Ph h1) (Ph h2) h.out.g0 h.out.g1 h.out.b Yo).mono fun e w' ⟨S,Q',he,ht,hp,ho,hf,hq⟩ =>
     ⟨S,he,ht.toP,⟨⟨⟨Q',hp,ho,by rw [hq,h3];simp⟩,h.out.g0,h.out.g1,lE h.out.b hf.size⟩,hi w' h1 h2 hf⟩⟩
   ·cases hx
theorem Pq.name_len (h:Pq B w p E T q):(jA E q.s).length≤1000000:=by
 obtain⟨Q,h1,_⟩:=h.ex;have:=h1.nextLe.2.2;unfold jA;split
 ·omega
 ·simp
end
end
section
section
variable {E:Env}
theorem zA7 (s:PSt) (e:Nat):(qH E s e).n=s.n:=by unfold qH;split <;> rfl
theorem xK (s:PSt) (u:List UInt8):s.n≤(zI E s u).n:=by
 unfold zI;split
 ·simp [zE]
 ·rw [zA7];exact lF _
theorem zN1 (s:PSt):s.n≤(zL E s).n:=by
 unfold zL;split
 ·simp [zE]
 ·rw [zA7];exact lF _
theorem zP3 (s:PSt):s.n≤(jB E s).2.n:=by
 unfold jB;split
 ·split
  ·simp [zE]
  ·dsimp only;rw [zA7];exact lF _
 ·dsimp only;rw [zA7];exact lF _
theorem jT9 (s:PSt) (u:List UInt8):s.n≤(zI4 E s u).n:=by
 unfold zI4;split
 ·split
  ·rw [zA7];exact lF _
  ·simp [zE,yH]
 ·exact lF _
theorem qL6 (s:PSt) (u:List UInt8):s.n≤(kV E s u).n:=by
 unfold kV;split
 ·exact jT9 s u
 ·show s.n≤(qH E s 300).n;rw [zA7];exact lF _
theorem jD2 (s:PSt) (u:List UInt8):s.n≤(wN E s u).n:=xK s u
structure GrX (E:Env) (f:Nat):Prop where
 choice:∀ s x s',zM E f s=some (x,s')→s.n≤s'.n
 chain:∀ k s x s',qN E f k s=some (x,s')→s.n≤s'.n
 links:∀ k y s x s',qR E f k y s=some (x,s')→s.n≤s'.n
 operand:∀ s x s',zR E f s=some (x,s')→s.n≤s'.n
 casts:∀ y s x s',jI E f y s=some (x,s')→s.n≤s'.n
 within:∀ s a b x s',zX E f s a b=some (x,s')→s.n≤s'.n
 basis:∀ s x s',qJ E f s=some (x,s')→s.n≤s'.n
theorem grX (E:Env):∀ f,GrX E f
 | 0=>⟨fun s x s' h=>by simp [zM]at h,fun k s x s' h=>by simp [qN]at h,fun k y s x s' h=>by simp [qR]at h,fun s x s' h=>by simp [zR]at h,fun y s x s' h=>by simp [jI]at h,fun s a b x s' h=>by simp [zX]at h,fun s x s' h=>by simp [qJ]at h⟩
 | f+1=>by
   have ih:=grX E f;refine⟨?_,?_,?_,?_,?_,?_,?_⟩
   ·intro s z s' h;rw [zM]at h;cases hc:qN E f 1 s with
    | none=>rw [hc]at h;cases h
    | some q =>
      obtain⟨x,s1⟩:=q;have g1:=ih.chain _ _ _ _ hc;rw [hc]at h;(try dsimp only at h);cases ho:okP s1 with
      | false=>rw [ho]at h;cases h
      | true =>
        rw [ho]at h;(try dsimp only at h);cases hb:zC7 E s1 [63]with
        | false=>rw [hb]at h;injection h with h;injection h with _ h;exact h▸g1
        | true =>
          rw [hb]at h;(try dsimp only at h);cases h1:zM E f (zI4 E s1 [63])with
          | none=>rw [h1]at h;cases h
          | some q =>
            obtain⟨y,s3⟩:=q;have g2:=ih.choice _ _ _ h1;have g3:=jT9 (E:=E) s1 [63];rw [h1]at h;(try dsimp only at h);cases h2:zM E f (zI E s3 [58])with
            | none=>rw [h2]at h;cases h
            | some q =>
              obtain⟨z,s5⟩:=q;have g4:=ih.choice _ _ _ h2;have g5:=xK (E:=E) s3 [58];rw [h2]at h;(try dsimp only at h);split at h
              ·cases h
              ·injection h with h;injection h with _ h;subst h;show s.n≤s5.n;omega
   ·intro k s z s' h;rw [qN]at h;cases h1:zR E f s with
    | none=>rw [h1]at h;cases h
    | some q =>
      obtain⟨x,s1⟩:=q;have g1:=ih.operand _ _ _ h1;rw [h1]at h;exact lE g1 (ih.links _ _ _ _ _ h)
   ·intro k x s z s' h;rw [qR]at h;cases h0:decide (s.e=0)with
    | false=>rw [h0]at h;injection h with h;injection h with _ h;exact h▸lF _
    | true =>
      rw [h0]at h;(try dsimp only at h);cases h1:(if (zC E s).kind=4 then jY (zC E s).text true else none)with
      | none=>rw [h1]at h;injection h with h;injection h with _ h;exact h▸lF _
      | some op =>
        rw [h1]at h;(try dsimp only at h);cases h2:decide (kD op<k)with
        | true=>rw [h2]at h;injection h with h;injection h with _ h;exact h▸lF _
        | false =>
          rw [h2]at h;(try dsimp only at h);cases h3:qN E f (kD op+1) (zE s)with
          | none=>rw [h3]at h;cases h
          | some q =>
            obtain⟨y,s2⟩:=q;have g1:=ih.chain _ _ _ _ h3;have g2:s.n+1≤s2.n:=g1;rw [h3]at h;(try dsimp only at h);split at h
            ·cases h
            ·have g3:=ih.links _ _ _ _ _ h;omega
   ·intro s z s' h;rw [zR]at h;cases h1:(if (zC E s).kind=4 then jY (zC E s).text false else none)with
    | some op =>
      rw [h1]at h;(try dsimp only at h);cases ho:okP s with
      | false=>rw [ho]at h;cases h
      | true =>
        rw [ho]at h;(try dsimp only at h);cases h2:zR E f (kV E s (zC E s).text)with
        | none=>rw [h2]at h;cases h
        | some q =>
          obtain⟨x,s2⟩:=q;have g1:=ih.operand _ _ _ h2;have g2:=qL6 (E:=E) s (zC E s).text;rw [h2]at h;(try dsimp only at h);split at h
          ·cases h
          ·injection h with h;injection h with _ h;subst h;show s.n≤s2.n;omega
    | none =>
      rw [h1]at h;(try dsimp only at h);cases h2:qJ E f s with
      | none=>rw [h2]at h;cases h
      | some q =>
        obtain⟨x,s1⟩:=q;have g1:=ih.basis _ _ _ h2;rw [h2]at h;exact lE g1 (ih.casts _ _ _ _ h)
   ·intro x s z s' h;rw [jI]at h;cases h1:isP E s [64]with
    | false=>rw [h1]at h;injection h with h;injection h with _ h;exact h▸lF _
    | true =>
      rw [h1]at h;(try dsimp only at h);split at h
      ·cases h
      ·have g1:=ih.casts _ _ _ _ h;have g2:=zP3 (E:=E) (zE s);have g3:(zE s).n=s.n+1:=rfl;omega
   ·intro s a b z s' h;rw [zX]at h;cases ho:okP s with
    | false=>rw [ho]at h;cases h
    | true =>
      rw [ho]at h;(try dsimp only at h);cases h1:zM E f (kV E s a)with
      | none=>rw [h1]at h;cases h
      | some q =>
        obtain⟨x,s2⟩:=q;have g1:=ih.choice _ _ _ h1;have g2:=qL6 (E:=E) s a;rw [h1]at h;(try dsimp only at h);split at h
        ·cases h
        ·injection h with h;injection h with _ h;subst h;have g3:=jD2 (E:=E) s2 b;omega
   ·intro s z s' h;rw [qJ]at h;have gn:=zN1 (E:=E) s;cases h0:decide (s.e=0)with
    | false=>rw [h0]at h;injection h with h;injection h with _ h;exact h▸lF _
    | true =>
      rw [h0]at h;(try dsimp only at h);cases h1:decide ((zC E s).kind=3)with
      | true =>
        rw [h1]at h;(try dsimp only at h);split at h
        ·injection h with h;injection h with _ h;subst h;rw [zA7];exact lF _
        ·injection h with h;injection h with _ h;subst h;exact Nat.le_succ _
      | false =>
        rw [h1]at h;(try dsimp only at h);cases h2:decide ((zC E s).text=[40])with
        | true=>rw [h2]at h;exact ih.within _ _ _ _ _ h
        | false =>
          rw [h2]at h;(try dsimp only at h);cases h3:decide ((zC E s).text=[100,105,115,107])with
          | true =>
            rw [h3]at h;(try dsimp only at h);cases h4:zX E f (zE s) [91] [93]with
            | none=>rw [h4]at h;cases h
            | some q =>
              obtain⟨x,s2⟩:=q;have g1:s.n+1≤s2.n:=ih.within _ _ _ _ _ h4;rw [h4]at h;(try dsimp only at h);split at h
              ·cases h
              ·injection h with h;injection h with _ h;subst h;omega
          | false =>
            rw [h3]at h;(try dsimp only at h);cases h5:decide ((zC E (zL E s)).text=[91])with
            | false=>rw [h5]at h;injection h with h;injection h with _ h;subst h;exact gn
            | true =>
              rw [h5]at h;(try dsimp only at h);cases h4:zX E f (zL E s) [91] [93]with
              | none=>rw [h4]at h;cases h
              | some q =>
                obtain⟨x,s2⟩:=q;have g1:=ih.within _ _ _ _ _ h4;rw [h4]at h;(try dsimp only at h);split at h
                ·cases h
                ·injection h with h;injection h with _ h;subst h;omega
theorem yY {f:Nat} {q q':QSt} {x:Ex} (h:qS E f q=some (x,q')):q.s.n≤q'.s.n:=by
 unfold qS at h;cases hc:zM E f q.s with
 | none=>rw [hc]at h;cases h
 | some r =>
   obtain⟨y,s⟩:=r;rw [hc]at h;(try dsimp only at h);split at h
   ·injection h with h;injection h with _ h;subst h;exact(grX E f).choice _ _ _ hc
   ·cases h
theorem zN2 {q q':QSt} {u:List UInt8} (h:kN E q u=some q'):q.s.n≤q'.s.n:=by
 unfold kN at h;split at h
 ·injection h with h;subst h;exact qL6 _ _
 ·cases h
theorem zH3 {q q':QSt} {u:List UInt8} (h:jX E q u=some q'):q.s.n≤q'.s.n:=by
 unfold jX at h;split at h
 ·injection h with h;subst h;exact jD2 _ _
 ·cases h
theorem jD3:∀ (f:Nat) (q q':QSt) (out l:List Ex),yA E f q out=some (l,q')→q.s.n≤q'.s.n
 | 0,q,q',out,l,h=>by simp [yA]at h
 | f+1,q,q',out,l,h=>by
   rw [yA]at h;split at h
   ·cases hx:qS E f (q.on (zE q.s))with
    | none=>rw [hx]at h;cases h
    | some r =>
      obtain⟨x,q2⟩:=r;rw [hx]at h;have g1:q.s.n+1≤q2.s.n:=yY hx;have g2:=jD3 f q2 q' _ _ h;omega
   ·injection h with h;injection h with _ h;subst h;exact lF _
theorem zE3 {f:Nat} {q q':QSt} {l:List Ex} (h:yC E f q=some (l,q')):∃ q1,kN E q [40]=some q1∧((¬((zC E q1.s).text≠[41]∧q1.s.e=0)∧l=[]∧jX E q1 [41]=some q')∨(((zC E q1.s).text≠[41]∧q1.s.e=0)∧∃ x q2 q3,qS E f q1=some (x,q2)∧yA E f q2 [x]=some (l,q3)∧jX E q3 [41]=some q')):=by
 unfold yC at h;simp only [cG]at h;cases h1:kN E q [40]with
 | none=>rw [h1]at h;cases h
 | some q1 =>
   rw [h1]at h;simp only [lP]at h;refine⟨q1,rfl,?_⟩;by_cases hc:(zC E q1.s).text≠[41]∧q1.s.e=0
   ·rw [lM hc]at h;cases h2:qS E f q1 with
    | none=>rw [h2]at h;cases h
    | some r =>
      obtain⟨x,q2⟩:=r;rw [h2]at h;simp only [lP]at h;cases h3:yA E f q2 [x]with
      | none=>rw [h3]at h;cases h
      | some r =>
        obtain⟨l2,q3⟩:=r;rw [h3]at h;simp only [lP]at h;cases h4:jX E q3 [41]with
        | none=>rw [h4]at h;cases h
        | some q4 =>
          rw [h4]at h;injection h with h;injection h with e1 e2;subst e1 e2;exact .inr ⟨hc,x,q2,q3,rfl,h3,h4⟩
   ·rw [lN hc]at h;cases h4:jX E q1 [41]with
    | none=>rw [h4]at h;cases h
    | some q4 =>
      rw [h4]at h;injection h with h;injection h with e1 e2;subst e1 e2;exact .inl ⟨hc,rfl,rfl⟩
theorem jO9 {f:Nat} {q q':QSt} {l:List Ex} (h:yC E f q=some (l,q')):q.s.n≤q'.s.n:=by
 obtain⟨q1,h1,h2⟩:=zE3 h;have g1:=zN2 h1;rcases h2 with⟨_,_,h2⟩ | ⟨_,x,q2,q3,h2,h3,h4⟩
 ·have:=zH3 h2;omega
 ·have g2:=yY h2;have g3:=jD3 _ _ _ _ _ h3;have g4:=zH3 h4;omega
theorem zS6 {f:Nat} {q:QSt} {out:List Ex} {r:List Ex×QSt} (h:yA E (f+1) q out=some r):(isP E q.s [44]=false∧r=(out,q))∨(isP E q.s [44]=true∧∃ x q2,qS E f (q.on (zE q.s))=some (x,q2)∧yA E f q2 (out++[x])=some r):=by
 rw [yA]at h;cases hi:isP E q.s [44]with
 | false=>rw [hi]at h;injection h with h;exact .inl ⟨rfl,h.symm⟩
 | true =>
   rw [hi,lM rfl]at h;cases hx:qS E f (q.on (zE q.s))with
   | none=>rw [hx]at h;cases h
   | some r2 =>
     obtain⟨x,q2⟩:=r2;rw [hx]at h;exact .inr ⟨rfl,x,q2,rfl,h⟩
end
end
section
open Go.RowKit Go.PlainAid
section
variable {α β:Type} {c:α→β→List Value} {t:TypeId} {A:(Nat→Prop)→World→α→β→Prop} {w w':World} {l:List α} {S:SV} {m B:Nat}
theorem OwnG.typed (h:OwnG c t m A B w l S) {k:Nat} (hk:(Value.slice S.A S.n S.c).ownBlock=some k):B≤k∧∃ cs,Bk w k t cs:=by obtain⟨vs,h1,h2,h3,h4⟩:=h;exact qF h3 k hk
theorem OwnG.fresh (h:OwnG c t m A B w l S) {k:Nat} (hk:w.heap.size≤k):(Value.slice S.A S.n S.c).ownBlock≠some k:=fun e=>by obtain⟨_,cs,hb⟩:=h.typed e;have:=hb.lt;omega
end
theorem jL {P:Program} {ops:Array Oper} {rest:List Oper} {t:TypeId} {w w':World} {o:Oper} {a:Act} {Q:Exit→Act→World→Prop} (hgd:o.guard=none) (s x:Operand) (ho:o.op=.call { callee:=.builtin .append,args:=#[s,x],argTypes:=#[t,t] }) (v u r:Value) (hs:a.eval s=v) (hx:a.eval x=u)
 (hrun:(Builtin.append_ #[t,t] o.type #[v,u]).run P w=.ok r w') (h:wpList P ops Q rest (a.put o.dst r) w'):wpList P ops Q (o :: rest) a w :=
 wpList_plain hgd fun _ hK=>jC6 (ty0:=t) s x ho v u r hs hx hrun (hK _ _ h)
theorem qA7 (t u:List UInt8):((str t).toList == u)=decide (t=u):=by
 rw [qB,qE];by_cases h:t=u
 ·simp [h]
 ·simp [h]
theorem xL (X:Ex) (S:SV):(qX X S).toArray=(uE X S):=rfl
section
variable {B:Nat} {w w1 w':World} {p:Nat} {E:Env} {T:TV} {q:QSt} {F:Nat→Prop}
theorem Pq.data (h:Pq B w p E T q) (hf:Fr F w w') (hF:∀ k,k<w.heap.size→F k→B≤k∧∃ t cs,Bk w k t cs∧TTy t):Pq B w' p E T q:=by
 obtain⟨Q,h1,h2,h3⟩:=h.ex;have key:∀ k,k<w.heap.size→∀ t cs fr,w.heap[k]?=some (.cells cs t fr)→¬TTy t→¬F k:=by intro k hk t cs fr hb ht e;obtain⟨_,t',cs',hb',ht'⟩:=hF k hk e;unfold Bk at hb';rw [hb']at hb;injection hb with hb;injection hb with _ hb;exact ht (hb▸ht')
 have hl:∀ k,k<B→k<w.heap.size→¬F k:=fun k hk hw e=>by have:=(hF k hw e).1;omega
 have htok:¬TTy 44:=by unfold TTy;decide
 obtain⟨v0,v1⟩:=h1.vr.lt;refine⟨⟨Q,⟨h1.bk.fr hf (key _ h1.lt _ _ _ h1.bk zX8),h1.rd.keeps (Keeps.fr hf fun b cs fr hb=>key b (zO hb) _ _ _ hb htok),h1.ok,h1.n,h1.vr.fr hf (hl _ h.g0 v0) (hl _ h.g1 v1),h1.g0,h1.g1,lE h1.base hf.size⟩,?_,h3⟩,h.g0,h.g1,lE h.b hf.size⟩;refine jP h2 hf fun k hk=>?_;obtain⟨_,cs,hb⟩:=qF h2 k hk;exact key k hb.lt _ _ _ hb zS5
theorem PQ.data (h:PQ B w p E T q w1) (hB:B≤w.heap.size) (hf:Fr F w1 w') (hF:∀ k,k<w1.heap.size→F k→w.heap.size≤k∧∃ t cs,Bk w1 k t cs∧TTy t):PQ B w p E T q w' :=
 ⟨h.pq.data hf fun k hk e=>⟨lE hB (hF k hk e).1,(hF k hk e).2⟩,Fr.then h.fr hf fun i hi e=>by have:=(hF i (lX hi h.fr.size) e).1;omega⟩
end
theorem OwnX.push {B:Nat} {w w2:World} {out:List Ex} {S S1:SV} {X:Ex} (h:OwnX B w out S) (hB:B≤w.heap.size) (hs:Stays (fun k=>B≤k) w w2) (hsz:w.heap.size≤w2.heap.size) (hx:TX (fun k=>w.heap.size≤k) w2 X S1) (hn:S.n<1000000000) :
 ∃ A' c' w',(∀ ty,(Builtin.append_ #[29,29] ty #[.slice S.A S.n S.c,.slice (some ⟨w2.heap.size,0,none⟩) 1 1]).run Tryz.prog (w2.alloc (.cells (qX X S1).toArray 31))=.ok (.slice A' (S.n+1) c') w')∧OwnX B w' (out++[X]) ⟨A',S.n+1,c'⟩∧Fr (fun k=>(Value.slice S.A S.n S.c).ownBlock=some k) (w2.alloc (.cells (qX X S1).toArray 31)) w'∧OwnX B (w2.alloc (.cells (qX X S1).toArray 31)) out S:=by
 have hb:Below w2.heap.size w2 (w2.alloc (.cells (qX X S1).toArray 31)):=zB;have ho:=h.stay itX qW (hs.trans (Stays.below hb));have hx2:=itX.mono _ (fun k=>B≤k∧(uL S).ownBlock≠some k) _ _ _ (fun k _ hk=>⟨lE hB hk,h.fresh hk⟩) (hx.stay (Stays.below hb));have key:=fun ty=>OwnG.run itX kF4 qW qE2 (fun x v=>wO x v) ho X S1 hx2 (some ⟨w2.heap.size,0,none⟩) 1 (Rd.new w2 (qX X S1).toArray 31) hn Yp ty;obtain⟨A',c',w',h1,h2,h3⟩:=key 0;exact⟨A',c',w',fun ty=>h1,h2,h3,ho⟩
section
variable {B:Nat} {p:Nat} {E:Env} {T:TV}
theorem kG4 (f:Nat) (q:QSt) (l:List Ex) (q':QSt) (hx:yC E f q=some (l,q')) (w:World) (h:Hid (Pq B w p E T q)) :
 Calls Tryz.prog 161 #[uQ p 0] w fun e w'=>∃ S,e=.returned (.slice S.A S.n S.c)∧RowX (fun k=>w.heap.size≤k) w' l S∧PQ B w p E T q' w':=by
 obtain⟨q1,h1,h2⟩:=zE3 hx;have HO:=Ph h1;clear hx h1;go_enter Tryz.func161,Tryz.ntmps161
 go_wp2_with fail
 refine(qF3 q [40] q1 HO.out w h).mono ?_;rintro e w1 ⟨⟨v,rfl⟩,hp⟩;have HP1:=Ph hp;clear hp;have hbt:((str (zC E q1.s).text).toList == [41])=decide ((zC E q1.s).text=[41]):=qA7 _ _;have HNX:=Ph (zI6 q1 w1 (Ph HP1.out.pq));obtain⟨⟨tk,tt,ta,tf⟩,ht⟩:∃ t,zC E q1.s=t:=⟨_,rfl⟩;rw [ht]at HNX h2 hbt;dsimp only [nxV,kW]at HNX;(try dsimp only at h2 hbt);clear ht;go_wp2_with fail
 refine HNX.out.mono ?_;rintro e w2 ⟨rfl,hb⟩;have HP2:=Ph ((HP1.out.then hb).then (zB (o:=.cells #[uB tk,uI ta,uI tf] 44)));clear hb HNX HP1;go_upto_region 4 with fail
 generalize (w2.alloc _)=W2 at HP2 ⊢;obtain⟨Q2,hps,_⟩:=HP2.out.pq.ex;obtain⟨g0,g1,g2,g3,g4,g5,g6⟩:=hps.cells;clear hps g0 g1 g2 g3 g4 g5;rcases h2 with⟨hc,rfl,hsh⟩ | ⟨⟨hc1,hc2⟩,x,q2,q3,hx,hm,hsh⟩
 ·have HSH:=Ph hsh;clear hsh;by_cases ht:tt=[41]
  ·rw [lH ht]at hbt;clear hc ht;go_wp2_with fail
   refine(zI7 q1 [41] q' HSH.out W2 (Ph HP2.out.pq)).mono ?_;rintro e w3 ⟨⟨v3,rfl⟩,hp⟩;have HP3:=Ph (HP2.out.trans hp);clear hp;go_wp2_with fail
   go_ret;exact⟨⟨none,0,0⟩,rfl,RowG.nil,HP3.out⟩
  ·rw [lG ht]at hbt;have e1:((q1.s.e:Int) == 0)=false:=by have:q1.s.e≠0:=fun h0=>hc ⟨ht,h0⟩;simp;omega
   clear hc ht;go_wp2_with fail
   refine(zI7 q1 [41] q' HSH.out W2 (Ph HP2.out.pq)).mono ?_;rintro e w3 ⟨⟨v3,rfl⟩,hp⟩;have HP3:=Ph (HP2.out.trans hp);clear hp;go_wp2_with fail
   go_ret;exact⟨⟨none,0,0⟩,rfl,RowG.nil,HP3.out⟩
 ·rw [lG hc1]at hbt;have e1:((q1.s.e:Int) == 0)=true:=Yp;have HX:=Ph hx;have HM:=Ph hm;have HSH:=Ph hsh;have hBw:Hid (B≤w.heap.size):=Ph h.out.b;have hW2:w.heap.size≤W2.heap.size:=HP2.out.fr.size;clear hx hm hsh hc1 hc2;go_wp2_with fail
  refine(zC3 f q1 x q2 HX.out W2 (Ph HP2.out.pq)).mono ?_;rintro e w3 ⟨S1,rfl,htx,hp⟩;rw [xL];obtain⟨A1,c1,w4,hrun,hown,hfr,hown0⟩:=OwnX.push (B:=w.heap.size) (w:=W2) (out:=[]) (S:=⟨none,0,0⟩) OwnG.nil hW2 (HP2.out.pq.stays hp.fr) hp.fr.size htx Yd;rw [xL]at hrun hown0 hfr;have hl2:1≤q2.s.n+1:=Yo;have HP4:=Ph (((HP2.out.trans hp).then (zB (o:=.cells (uE x S1) 31))).data hBw.out hfr (fun k _ e=>by obtain⟨h1,cs,h2⟩:=hown0.typed e;exact⟨h1,_,cs,h2,qW⟩));have HRUN:=Ph hrun;have HOW:Hid (OwnX w.heap.size w4 [x] ⟨A1,1,c1⟩):=Ph hown;clear hrun hown hfr hown0 hp htx HP2 hW2 g6 hbt e1;go_wp2_with (at_builtin;refine jL rfl (.tmp 22) (.tmp 25) rfl _ _ _ rfl rfl (HRUN.out _) ?_)
  go_loopg [3] f (fun g v3 wr=>∃ (out:List Ex) (S:SV) (qc:QSt),v3=uL S∧Hid (yA E g qc out=some (l,q3))∧Hid (OwnX w.heap.size wr out S)∧Hid (PQ B w p E T qc wr)∧Hid (out.length≤qc.s.n+1))
  case atStart=>exact⟨[x],⟨A1,1,c1⟩,q2,rfl,HM,HOW,HP4,Ph hl2⟩
  case round =>
   obtain⟨out,S,qc,rfl,HMc,HOc,HPc,HLc⟩:=hrel;clear HM HOW HP4 HRUN HX hl2;cases gk with
   | zero=>exact absurd HMc.out (by unfold yA;intro h;cases h)
   | succ gk =>
   have hms:=zS6 HMc.out;clear HMc;go_wp2_with fail
   refine(isQ qc [44] wr (Ph HPc.out.pq)).mono ?_;rintro e w5 ⟨rfl,hp⟩;rcases hms with⟨hi,hr⟩ | ⟨hi,y,q5,hy,hm⟩
   ·have hq:qc.on (isS E qc.s [44])=qc:=by unfold isS;rw [hi];rfl
    rw [hi];rw [hq]at hp;injection hr with hr1 hr2;subst hr1 hr2;have HP5:=Ph (HPc.out.trans hp);have HO5:=Ph (HOc.out.stay itX qW (HPc.out.pq.stays hp.fr));clear hp hi HPc HOc hq;go_wp2_with fail
    refine(zI7 q3 [41] q' HSH.out w5 (Ph HP5.out.pq)).mono ?_;rintro e w6 ⟨⟨v6,rfl⟩,hp⟩;have HP6:=Ph (HP5.out.trans hp);have HO6:=Ph (HO5.out.stay itX qW (HP5.out.pq.stays hp.fr));clear hp HP5 HO5;go_wp2_with fail
    go_ret;exact⟨S,rfl,HO6.out.row itX,HP6.out⟩
   ·have hq:qc.on (isS E qc.s [44])=qc.on (zE qc.s):=by unfold isS;rw [hi];rfl
    rw [hi];rw [hq]at hp;have HP5:=Ph (HPc.out.trans hp);have HO5:=Ph (HOc.out.stay itX qW (HPc.out.pq.stays hp.fr));have hsz5:w.heap.size≤w5.heap.size:=HP5.out.fr.size;have hSn:S.n<1000000000:=by have h1:=HLc.out;have h2:=HOc.out.len;obtain⟨Qc,hps,_⟩:=HPc.out.pq.ex;have h3:=hps.n;have h4:=hps.ok.few;omega
    have hl5:out.length+1≤q5.s.n+1:=by have h1:=HLc.out;have h2:qc.s.n+1≤q5.s.n:=yY hy;omega
    have HY:=Ph hy;have HM:=Ph hm;clear hp hi HPc HOc hq hy hm HLc;go_wp2_with fail
    refine(zC3 gk (qc.on (zE qc.s)) y q5 HY.out w5 (Ph HP5.out.pq)).mono ?_;rintro e w6 ⟨S1,rfl,htx,hp⟩;rw [xL];obtain⟨A2,c2,w7,hrun,hown,hfr,hown0⟩:=OwnX.push (B:=w.heap.size) (w:=w5) HO5.out hsz5 (HP5.out.pq.stays hp.fr) hp.fr.size htx hSn;rw [xL]at hrun hown0 hfr;have HP7:=Ph (((HP5.out.trans hp).then (zB (o:=.cells (uE y S1) 31))).data hBw.out hfr (fun k _ e=>by obtain⟨h1,cs,h2⟩:=hown0.typed e;exact⟨h1,_,cs,h2,qW⟩));have HRUN:=Ph hrun;have HOW:=Ph hown;have HL7:Hid ((out++[y]).length≤q5.s.n+1):=Ph (by rw [Ya];exact hl5);clear hrun hown hfr hown0 hp htx HP5 HO5 hl5 hSn hsz5 HY;go_wp2_with (at_builtin;refine jL rfl (.tmp 29) (.tmp 32) rfl _ _ _ rfl rfl (HRUN.out _) ?_)
    go_roundg gk
    case measure=>omega
    case rel=>exact⟨out++[y],⟨A2,S.n+1,c2⟩,q5,rfl,HM,HOW,HP7,HL7⟩
end
end
end Go.Proofs.YtfdaebgllibphaaGreatDoor
