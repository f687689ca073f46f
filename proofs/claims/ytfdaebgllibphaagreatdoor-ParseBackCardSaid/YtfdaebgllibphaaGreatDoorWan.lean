import Derived.Test.YtfdaebgllibphaaGreatDoorWam
set_option linter.unusedVariables false
set_option linter.unusedSimpArgs false
set_option maxRecDepth 100000
set_option maxHeartbeats 16000000
namespace Go.Proofs.YtfdaebgllibphaaGreatDoor
open Go.Proofs.Tryz
section
open Go.RowKit Go.PlainAid
def xH (x:Ex):Prop:=∀ (wide:Bool) (S:SV) (W:World),Ud (TE W x S)→Calls prog 29 #[.agg (uE x S),.bool wide] W fun e w'=>e=.returned (.string (str (zP wide x)))∧Below W.heap.size W w'
theorem zM8 {W W':World} (h:Below W.drew.heap.size W.drew W'):Below W.heap.size W W':=(lB _ _).drew.trans h
theorem kS (wide:Bool) (y:Ex) (t:List UInt8):(zI5 wide y t).length≤t.length+3:=by
 unfold zI5;split
 ·simp;try omega
 ·omega
theorem qA6:bs "disk [" = [100,105,115,107,32,91]:=Yd
theorem kL2:bs "? " = [63,32]:=Yd
theorem kL3:bs " : " = [32,58,32]:=Yd
theorem kL4:bs " @" = [32,64]:=Yd
theorem jO (n:Nat) (h:n≤9):(qZ n).length=1:=by
 match n,h with
 | 0,_ | 1,_ | 2,_ | 3,_ | 4,_ | 5,_ | 6,_ | 7,_ | 8,_ | 9,_=>rfl
 | n+10,h=>omega
theorem jY6 (v k:Nat) (hv:v≤9) (hk:k≤9):xH (.mk 1 0 v k [] []):=by
 intro wide S W hT;obtain⟨SA,Sn,Sc⟩:=S;have HB2:Ud (Ue W ((W.alloc (.cells #[uB 1,uB 0,uW v,uI k,uT,.slice SA Sn Sc] 31)).alloc (.cells #[.bool wide] 4))):=Ph (zG (zG (lB _ _) _) _);have HK2:Ud (Bk ((W.alloc (.cells #[uB 1,uB 0,uW v,uI k,uT,.slice SA Sn Sc] 31)).alloc (.cells #[.bool wide] 4)) W.heap.size 31 #[uB 1,uB 0,uW v,uI k,uT,.slice SA Sn Sc]):=Ph ((Bk.new W _ _).alloc _);have hk3:=Bk.new (W.alloc (.cells #[uB 1,uB 0,uW v,uI k,uT,.slice SA Sn Sc] 31)) 4 #[.bool wide];rw [lO]at hk3;have HK3:=Ph hk3;have HT2:=Ph (hT.o.bel HB2.o);clear hk3 hT;show Calls prog 29 #[.agg #[uB 1,uB 0,uW v,uI k,uT,.slice SA Sn Sc],.bool wide] W _;go_enter func29,ntmps29
 go_upto_region 2 with fail
 generalize ((World.alloc _ _))=W2 at HB2 HK2 HK3 HT2 ⊢;obtain⟨b3,hb3⟩:∃ b,W.heap.size+1=b:=⟨_,rfl⟩;obtain⟨b2,hb2⟩:∃ b,W.heap.size=b:=⟨_,rfl⟩;rw [hb3]at HK3 ⊢;rw [hb2]at HK2 ⊢;clear hb2 hb3;obtain⟨g0,g1,g2,g3,g4,g5⟩:=zH HK2.o;have w0:W2.cell? ⟨b3,0,none⟩=some (.bool wide):=HK3.o.cell 0;have HD1:Ud (∀ w,Calls prog 19 #[uI v] w fun e w'=>e=.returned (.string (str (qZ v)))∧w'=w):=Ph fun w=>(xS v hv w).mono fun e w' h=>⟨h.1,h.2.symm⟩;have HD2:Ud (∀ w,Calls prog 19 #[uI k] w fun e w'=>e=.returned (.string (str (qZ k)))∧w'=w):=Ph fun w=>(xS k hk w).mono fun e w' h=>⟨h.1,h.2.symm⟩;have l1:=jO v hv;have l2:=jO k hk;obtain⟨dv,hdv⟩:∃ l,qZ v=l:=⟨_,rfl⟩;obtain⟨dk,hdk⟩:∃ l,qZ k=l:=⟨_,rfl⟩;have HE:Ud (zP wide (.mk 1 0 v k [] [])=dv++[58]++dk):=Ph (by rw [←hdv,←hdk];simp [zP]);rw [hdv]at HD1 l1;rw [hdk]at HD2 l2;clear hdv hdk;have wv:IntKind.i64.wrap (v:Int)=(v:Int):=by rw [lL];omega
 have R1:∀ w,(Op.stringOp .add (str dv) (⟨#[58]⟩:ByteArray)).run prog w=.ok (.string (str (dv++[58]))) w:=zQ (dv) ([58]) (by first | omega | (simp only [Ya,Yc,Yn];try omega));obtain⟨U1,hU1⟩:∃ u,dv++[58]=u:=⟨_,rfl⟩;have hL1:U1.length=(dv.length)+(1):=by rw [←hU1];simp only [Ya,Yc,Yn];try omega
 rw [hU1]at R1;have R2:∀ w,(Op.stringOp .add (str U1) (str dk)).run prog w=.ok (.string (str (U1++dk))) w:=zQ (U1) (dk) (by first | omega | (simp only [Ya,Yc,Yn];try omega));obtain⟨U2,hU2⟩:∃ u,U1++dk=u:=⟨_,rfl⟩;have hL2:U2.length=(U1.length)+(dk.length):=by rw [←hU2];simp only [Ya,Yc,Yn];try omega
 rw [hU2]at R2;rw [hU1,hU2]at HE;clear hU1 hU2 hL1 hL2 l1 l2;go_upto_region 4 with fail
 go_quiet ((go_at_call 19;first | with_reducible exact cZ (HD1.o _) | with_reducible exact cZ (HD2.o _)))
 go_wp2_with fail
 go_ret;exact⟨by rw [HE.o];rfl,HB2.o.trans ((((Fr.refl (fun _=>False) W2).drewN nq).below W2.heap.size (lF _) (fun _ _ h=>h)).mono HB2.o.size)⟩
theorem jY7 (n:List UInt8):xH (.mk 2 0 0 0 n []):=by
 intro wide S W hT;obtain⟨SA,Sn,Sc⟩:=S;have HB2:Ud (Ue W ((W.alloc (.cells #[uB 2,uB 0,uW 0,uI 0,uR n,.slice SA Sn Sc] 31)).alloc (.cells #[.bool wide] 4))):=Ph (zG (zG (lB _ _) _) _);have HK2:Ud (Bk ((W.alloc (.cells #[uB 2,uB 0,uW 0,uI 0,uR n,.slice SA Sn Sc] 31)).alloc (.cells #[.bool wide] 4)) W.heap.size 31 #[uB 2,uB 0,uW 0,uI 0,uR n,.slice SA Sn Sc]):=Ph ((Bk.new W _ _).alloc _);have hk3:=Bk.new (W.alloc (.cells #[uB 2,uB 0,uW 0,uI 0,uR n,.slice SA Sn Sc] 31)) 4 #[.bool wide];rw [lO]at hk3;have HK3:=Ph hk3;have HT2:=Ph (hT.o.bel HB2.o);clear hk3 hT;show Calls prog 29 #[.agg #[uB 2,uB 0,uW 0,uI 0,uR n,.slice SA Sn Sc],.bool wide] W _;go_enter func29,ntmps29
 go_upto_region 2 with fail
 generalize ((World.alloc _ _))=W2 at HB2 HK2 HK3 HT2 ⊢;obtain⟨b3,hb3⟩:∃ b,W.heap.size+1=b:=⟨_,rfl⟩;obtain⟨b2,hb2⟩:∃ b,W.heap.size=b:=⟨_,rfl⟩;rw [hb3]at HK3 ⊢;rw [hb2]at HK2 ⊢;clear hb2 hb3;obtain⟨g0,g1,g2,g3,g4,g5⟩:=zH HK2.o;have w0:W2.cell? ⟨b3,0,none⟩=some (.bool wide):=HK3.o.cell 0;go_wp2_with fail
 go_ret;exact⟨by simp [zP],HB2.o⟩
theorem jO6 (n:List UInt8) (hn:n.length≤1000000) (y:Ex) (hzy:∀ wide,(zP wide y).length≤1000000) (ihy:xH y):xH (.mk 3 0 0 0 n [y]):=by
 intro wide S W hT;obtain⟨SA,Sn,Sc⟩:=S;have HB2:Ud (Ue W ((W.alloc (.cells #[uB 3,uB 0,uW 0,uI 0,uR n,.slice SA Sn Sc] 31)).alloc (.cells #[.bool wide] 4))):=Ph (zG (zG (lB _ _) _) _);have HK2:Ud (Bk ((W.alloc (.cells #[uB 3,uB 0,uW 0,uI 0,uR n,.slice SA Sn Sc] 31)).alloc (.cells #[.bool wide] 4)) W.heap.size 31 #[uB 3,uB 0,uW 0,uI 0,uR n,.slice SA Sn Sc]):=Ph ((Bk.new W _ _).alloc _);have hk3:=Bk.new (W.alloc (.cells #[uB 3,uB 0,uW 0,uI 0,uR n,.slice SA Sn Sc] 31)) 4 #[.bool wide];rw [lO]at hk3;have HK3:=Ph hk3;have HT2:=Ph (hT.o.bel HB2.o);clear hk3 hT;show Calls prog 29 #[.agg #[uB 3,uB 0,uW 0,uI 0,uR n,.slice SA Sn Sc],.bool wide] W _;go_enter func29,ntmps29
 go_upto_region 2 with fail
 generalize ((World.alloc _ _))=W2 at HB2 HK2 HK3 HT2 ⊢;obtain⟨b3,hb3⟩:∃ b,W.heap.size+1=b:=⟨_,rfl⟩;obtain⟨b2,hb2⟩:∃ b,W.heap.size=b:=⟨_,rfl⟩;rw [hb3]at HK3 ⊢;rw [hb2]at HK2 ⊢;clear hb2 hb3;obtain⟨g0,g1,g2,g3,g4,g5⟩:=zH HK2.o;have w0:W2.cell? ⟨b3,0,none⟩=some (.bool wide):=HK3.o.cell 0;obtain⟨bb0,of0,y',v0,hA0,hx0,hty0,hbb0,hc0⟩:=HT2.o.sub wO (i:=0) (by have h:=HT2.o.len;show 0<Sn;rw [show Sn=_ from h];simp [Ex.subs]);obtain rfl:y=y':=by simpa [Ex.subs]using hx0
 obtain⟨vA0,vn0,vc0⟩:=v0;(try dsimp only at hA0);subst hA0;have hsn:0<Sn:=by have h:=HT2.o.len;show 0<Sn;rw [show Sn=_ from h];simp [Ex.subs]
 have c0:W2.cell? ⟨bb0,of0,none⟩=some (uB y.kind):=by have h:=hc0 0 _ Yo rfl;simpa using h
 have c1:W2.cell? ⟨bb0,of0+1,none⟩=some (uB y.op):=by have h:=hc0 1 _ Yo rfl;simpa using h
 have c2:W2.cell? ⟨bb0,of0+2,none⟩=some (uW y.value):=by have h:=hc0 2 _ Yo rfl;simpa using h
 have c3:W2.cell? ⟨bb0,of0+3,none⟩=some (uI y.width):=by have h:=hc0 3 _ Yo rfl;simpa using h
 have c4:W2.cell? ⟨bb0,of0+4,none⟩=some (uR y.name):=by have h:=hc0 4 _ Yo rfl;simpa using h
 have c5:W2.cell? ⟨bb0,of0+5,none⟩=some (.slice vA0 vn0 vc0):=by have h:=hc0 5 _ Yo rfl;simpa using h
 have HC:=Ph (ihy wide ⟨vA0,vn0,vc0⟩ W2.drew (Ph (hty0.bel (lB _ _).drew)));have hzt:=hzy wide;obtain⟨t,ht⟩:∃ t,zP wide y=t:=⟨_,rfl⟩;have HE:Ud (zP wide (.mk 3 0 0 0 n [y])=n++[91]++t++[93]):=Ph (by rw [←ht];simp [zP,yD]);rw [ht]at HC hzt;clear ht hx0 hc0 hzy ihy;have R1:∀ w,(Op.stringOp .add (str n) (⟨#[91]⟩:ByteArray)).run prog w=.ok (.string (str (n++[91]))) w:=zQ (n) ([91]) (by first | omega | (simp only [Ya,Yc,Yn];try omega));obtain⟨U1,hU1⟩:∃ u,n++[91]=u:=⟨_,rfl⟩;have hL1:U1.length=(n.length)+(1):=by rw [←hU1];simp only [Ya,Yc,Yn];try omega
 rw [hU1]at R1;have R2:∀ w,(Op.stringOp .add (str U1) (str t)).run prog w=.ok (.string (str (U1++t))) w:=zQ (U1) (t) (by first | omega | (simp only [Ya,Yc,Yn];try omega));obtain⟨U2,hU2⟩:∃ u,U1++t=u:=⟨_,rfl⟩;have hL2:U2.length=(U1.length)+(t.length):=by rw [←hU2];simp only [Ya,Yc,Yn];try omega
 rw [hU2]at R2;have R3:∀ w,(Op.stringOp .add (str U2) (⟨#[93]⟩:ByteArray)).run prog w=.ok (.string (str (U2++[93]))) w:=zQ (U2) ([93]) (by first | omega | (simp only [Ya,Yc,Yn];try omega));obtain⟨U3,hU3⟩:∃ u,U2++[93]=u:=⟨_,rfl⟩;have hL3:U3.length=(U2.length)+(1):=by rw [←hU3];simp only [Ya,Yc,Yn];try omega
 rw [hU3]at R3;rw [hU1,hU2,hU3]at HE;clear hU1 hU2 hU3 hL1 hL2 hL3 hzt;(try dsimp only at HC);go_upto_region 8 with fail
 have HSS:Ud (∀ w',Ue W2 w'→w'.cell? ⟨b2,4,none⟩=some (uR n)∧w'.cell? ⟨b2,5,none⟩=some (.slice (some ⟨bb0,of0,none⟩) Sn Sc)∧w'.cell? ⟨b3,0,none⟩=some (.bool wide)∧w'.cell? ⟨bb0,of0,none⟩=some (uB y.kind)∧w'.cell? ⟨bb0,of0+1,none⟩=some (uB y.op)∧w'.cell? ⟨bb0,of0+2,none⟩=some (uW y.value)∧w'.cell? ⟨bb0,of0+3,none⟩=some (uI y.width)∧w'.cell? ⟨bb0,of0+4,none⟩=some (uR y.name)∧w'.cell? ⟨bb0,of0+5,none⟩=some (.slice vA0 vn0 vc0)):=Ph fun w' hb=>by have hf:=fun(p:Addr) (u:Value) (h:W2.cell? p=some u)=>((Fr.of_below (F:=fun _=>False) hb).cell (World.block_lt_of_cell? W2 _ h) (fun e=>e)).trans h;exact⟨hf _ _ g4,hf _ _ g5,hf _ _ w0,hf _ _ c0,hf _ _ c1,hf _ _ c2,hf _ _ c3,hf _ _ c4,hf _ _ c5⟩
 have HBd:Ud (Ue W2 W2.drew):=Ph (lB _ _).drew;clear w0 g0 g1 g2 g3 g4 g5 c0 c1 c2 c3 c4 c5
 go_region_held3 (fun w'=>w'.cell? ⟨b2,4,none⟩=some (uR n)∧w'.cell? ⟨b2,5,none⟩=some (.slice (some ⟨bb0,of0,none⟩) Sn Sc)∧w'.cell? ⟨b3,0,none⟩=some (.bool wide)∧w'.cell? ⟨bb0,of0,none⟩=some (uB y.kind)∧w'.cell? ⟨bb0,of0+1,none⟩=some (uB y.op)∧w'.cell? ⟨bb0,of0+2,none⟩=some (uW y.value)∧w'.cell? ⟨bb0,of0+3,none⟩=some (uI y.width)∧w'.cell? ⟨bb0,of0+4,none⟩=some (uR y.name)∧w'.cell? ⟨bb0,of0+5,none⟩=some (.slice vA0 vn0 vc0))
  (first | with_reducible exact HSS.o _ HBd.o)
  (first
    | (go_at_call 29
       with_reducible refine HC.o.mono ?_
       rintro e w1 ⟨rfl,hb1⟩;have HBn:=Ph (HBd.o.trans (hb1.mono HBd.o.size));clear HBd hb1;have HBd:=HBn;clear HBn))
 all_goals
  go_wp2_with fail
  go_ret;exact⟨by rw [HE.o];rfl,HB2.o.trans (HBd.o.mono HB2.o.size)⟩
theorem jO7 (y:Ex) (hzy:∀ wide,(zP wide y).length≤1000000) (ihy:xH y):xH (.mk 4 0 0 0 [] [y]):=by
 intro wide S W hT;obtain⟨SA,Sn,Sc⟩:=S;have HB2:Ud (Ue W ((W.alloc (.cells #[uB 4,uB 0,uW 0,uI 0,uT,.slice SA Sn Sc] 31)).alloc (.cells #[.bool wide] 4))):=Ph (zG (zG (lB _ _) _) _);have HK2:Ud (Bk ((W.alloc (.cells #[uB 4,uB 0,uW 0,uI 0,uT,.slice SA Sn Sc] 31)).alloc (.cells #[.bool wide] 4)) W.heap.size 31 #[uB 4,uB 0,uW 0,uI 0,uT,.slice SA Sn Sc]):=Ph ((Bk.new W _ _).alloc _);have hk3:=Bk.new (W.alloc (.cells #[uB 4,uB 0,uW 0,uI 0,uT,.slice SA Sn Sc] 31)) 4 #[.bool wide];rw [lO]at hk3;have HK3:=Ph hk3;have HT2:=Ph (hT.o.bel HB2.o);clear hk3 hT;show Calls prog 29 #[.agg #[uB 4,uB 0,uW 0,uI 0,uT,.slice SA Sn Sc],.bool wide] W _;go_enter func29,ntmps29
 go_upto_region 2 with fail
 generalize ((World.alloc _ _))=W2 at HB2 HK2 HK3 HT2 ⊢;obtain⟨b3,hb3⟩:∃ b,W.heap.size+1=b:=⟨_,rfl⟩;obtain⟨b2,hb2⟩:∃ b,W.heap.size=b:=⟨_,rfl⟩;rw [hb3]at HK3 ⊢;rw [hb2]at HK2 ⊢;clear hb2 hb3;obtain⟨g0,g1,g2,g3,g4,g5⟩:=zH HK2.o;have w0:W2.cell? ⟨b3,0,none⟩=some (.bool wide):=HK3.o.cell 0;obtain⟨bb0,of0,y',v0,hA0,hx0,hty0,hbb0,hc0⟩:=HT2.o.sub wO (i:=0) (by have h:=HT2.o.len;show 0<Sn;rw [show Sn=_ from h];simp [Ex.subs]);obtain rfl:y=y':=by simpa [Ex.subs]using hx0
 obtain⟨vA0,vn0,vc0⟩:=v0;(try dsimp only at hA0);subst hA0;have hsn:0<Sn:=by have h:=HT2.o.len;show 0<Sn;rw [show Sn=_ from h];simp [Ex.subs]
 have c0:W2.cell? ⟨bb0,of0,none⟩=some (uB y.kind):=by have h:=hc0 0 _ Yo rfl;simpa using h
 have c1:W2.cell? ⟨bb0,of0+1,none⟩=some (uB y.op):=by have h:=hc0 1 _ Yo rfl;simpa using h
 have c2:W2.cell? ⟨bb0,of0+2,none⟩=some (uW y.value):=by have h:=hc0 2 _ Yo rfl;simpa using h
 have c3:W2.cell? ⟨bb0,of0+3,none⟩=some (uI y.width):=by have h:=hc0 3 _ Yo rfl;simpa using h
 have c4:W2.cell? ⟨bb0,of0+4,none⟩=some (uR y.name):=by have h:=hc0 4 _ Yo rfl;simpa using h
 have c5:W2.cell? ⟨bb0,of0+5,none⟩=some (.slice vA0 vn0 vc0):=by have h:=hc0 5 _ Yo rfl;simpa using h
 have HC:=Ph (ihy wide ⟨vA0,vn0,vc0⟩ W2.drew (Ph (hty0.bel (lB _ _).drew)));have hzt:=hzy wide;obtain⟨t,ht⟩:∃ t,zP wide y=t:=⟨_,rfl⟩;have HE:Ud (zP wide (.mk 4 0 0 0 [] [y])=[100,105,115,107,32,91]++t++[93]):=Ph (by rw [←ht];simp [zP,yD,qA6,kL2,kL3,kL4]);rw [ht]at HC hzt;clear ht hx0 hc0 hzy ihy;have R1:∀ w,(Op.stringOp .add (⟨#[100,105,115,107,32,91]⟩:ByteArray) (str t)).run prog w=.ok (.string (str ([100,105,115,107,32,91]++t))) w:=zQ ([100,105,115,107,32,91]) (t) (by first | omega | (simp only [Ya,Yc,Yn];try omega));obtain⟨U1,hU1⟩:∃ u,[100,105,115,107,32,91]++t=u:=⟨_,rfl⟩;have hL1:U1.length=(6)+(t.length):=by rw [←hU1];simp only [Ya,Yc,Yn];try omega
 rw [hU1]at R1;have R2:∀ w,(Op.stringOp .add (str U1) (⟨#[93]⟩:ByteArray)).run prog w=.ok (.string (str (U1++[93]))) w:=zQ (U1) ([93]) (by first | omega | (simp only [Ya,Yc,Yn];try omega));obtain⟨U2,hU2⟩:∃ u,U1++[93]=u:=⟨_,rfl⟩;have hL2:U2.length=(U1.length)+(1):=by rw [←hU2];simp only [Ya,Yc,Yn];try omega
 rw [hU2]at R2;rw [hU1,hU2]at HE;clear hU1 hU2 hL1 hL2 hzt;(try dsimp only at HC);go_upto_region 10 with fail
 refine xR 5 Yk Yk ?_;simp only [cR,List.take_zero,List.drop_succ_cons,List.drop_zero];repeat (go_big_quiet_step (fail))
 refine wpQuiet_nil ?_;refine wT rfl rfl (fun K hK=>?_);go_simp;go_at_call 29
 refine HC.o.mono ?_;rintro e w1 ⟨rfl,hb1⟩;have HB3:=Ph (HB2.o.trans ((zU (lB _ _).drew hb1).mono HB2.o.size));clear hb1 HC c0 c1 c2 c3 c4 c5 w0 g0 g1 g2 g3 g4 g5;refine hK _ _ ?_;clear hK K;try go_frame
 repeat (go_big_quiet_step (fail))
 refine wpQuiet_nil ?_;go_wp2_with fail
 go_ret;exact⟨by rw [HE.o];rfl,HB3.o⟩
theorem jY8 (y0 y1 y2:Ex) (hzy0:∀ wide,(zP wide y0).length≤1000000) (hzy1:∀ wide,(zP wide y1).length≤1000000) (hzy2:∀ wide,(zP wide y2).length≤1000000) (ihy0:xH y0) (ihy1:xH y1) (ihy2:xH y2):xH (.mk 7 0 0 0 [] [y0,y1,y2]):=by
 intro wide S W hT;obtain⟨SA,Sn,Sc⟩:=S;have HB2:Ud (Ue W ((W.alloc (.cells #[uB 7,uB 0,uW 0,uI 0,uT,.slice SA Sn Sc] 31)).alloc (.cells #[.bool wide] 4))):=Ph (zG (zG (lB _ _) _) _);have HK2:Ud (Bk ((W.alloc (.cells #[uB 7,uB 0,uW 0,uI 0,uT,.slice SA Sn Sc] 31)).alloc (.cells #[.bool wide] 4)) W.heap.size 31 #[uB 7,uB 0,uW 0,uI 0,uT,.slice SA Sn Sc]):=Ph ((Bk.new W _ _).alloc _);have hk3:=Bk.new (W.alloc (.cells #[uB 7,uB 0,uW 0,uI 0,uT,.slice SA Sn Sc] 31)) 4 #[.bool wide];rw [lO]at hk3;have HK3:=Ph hk3;have HT2:=Ph (hT.o.bel HB2.o);clear hk3 hT;show Calls prog 29 #[.agg #[uB 7,uB 0,uW 0,uI 0,uT,.slice SA Sn Sc],.bool wide] W _;go_enter func29,ntmps29
 go_upto_region 2 with fail
 generalize ((World.alloc _ _))=W2 at HB2 HK2 HK3 HT2 ⊢;obtain⟨b3,hb3⟩:∃ b,W.heap.size+1=b:=⟨_,rfl⟩;obtain⟨b2,hb2⟩:∃ b,W.heap.size=b:=⟨_,rfl⟩;rw [hb3]at HK3 ⊢;rw [hb2]at HK2 ⊢;clear hb2 hb3;obtain⟨g0,g1,g2,g3,g4,g5⟩:=zH HK2.o;have w0:W2.cell? ⟨b3,0,none⟩=some (.bool wide):=HK3.o.cell 0;obtain⟨t0,ht0⟩:∃ t,zI5 wide y0 (zP wide y0)=t:=⟨_,rfl⟩;have hlt0:t0.length≤1000010:=by rw [←ht0];have:=kS wide y0 (zP wide y0);have:=hzy0 wide;omega
 have HC0:Ud (∀ W',Ue W2 W'→Calls prog 73 #[uI 0,uQ b2 0,uQ b3 0] W' fun e w'=>e=.returned (uR t0)∧Below W'.heap.size W' w'):=Ph fun W' hb=>by rw [←ht0];exact qL5 (.mk 7 0 0 0 [] [y0,y1,y2]) y0 0 wide ⟨SA,Sn,Sc⟩ (Ph rfl) Yo b2 b3 (Ph (hzy0 wide)) W' (Ph (zD HK2.o hb)) (Ph (zD HK3.o hb)) (Ph (HT2.o.bel hb)) (Ph fun V W'' hV=>ihy0 wide V W'' hV)
 obtain⟨t1,ht1⟩:∃ t,zI5 wide y1 (zP wide y1)=t:=⟨_,rfl⟩;have hlt1:t1.length≤1000010:=by rw [←ht1];have:=kS wide y1 (zP wide y1);have:=hzy1 wide;omega
 have HC1:Ud (∀ W',Ue W2 W'→Calls prog 73 #[uI 1,uQ b2 0,uQ b3 0] W' fun e w'=>e=.returned (uR t1)∧Below W'.heap.size W' w'):=Ph fun W' hb=>by rw [←ht1];exact qL5 (.mk 7 0 0 0 [] [y0,y1,y2]) y1 1 wide ⟨SA,Sn,Sc⟩ (Ph rfl) Yo b2 b3 (Ph (hzy1 wide)) W' (Ph (zD HK2.o hb)) (Ph (zD HK3.o hb)) (Ph (HT2.o.bel hb)) (Ph fun V W'' hV=>ihy1 wide V W'' hV)
 obtain⟨t2,ht2⟩:∃ t,zI5 wide y2 (zP wide y2)=t:=⟨_,rfl⟩;have hlt2:t2.length≤1000010:=by rw [←ht2];have:=kS wide y2 (zP wide y2);have:=hzy2 wide;omega
 have HC2:Ud (∀ W',Ue W2 W'→Calls prog 73 #[uI 2,uQ b2 0,uQ b3 0] W' fun e w'=>e=.returned (uR t2)∧Below W'.heap.size W' w'):=Ph fun W' hb=>by rw [←ht2];exact qL5 (.mk 7 0 0 0 [] [y0,y1,y2]) y2 2 wide ⟨SA,Sn,Sc⟩ (Ph rfl) Yo b2 b3 (Ph (hzy2 wide)) W' (Ph (zD HK2.o hb)) (Ph (zD HK3.o hb)) (Ph (HT2.o.bel hb)) (Ph fun V W'' hV=>ihy2 wide V W'' hV)
 have HE:Ud (zP wide (.mk 7 0 0 0 [] [y0,y1,y2])=t0++[63,32]++t1++[32,58,32]++t2):=Ph (by rw [←ht0,←ht1,←ht2];simp [zP,yD,qA6,kL2,kL3,kL4]);clear ht0 ht1 ht2 w0 g1 g2 g3 g4 g5 hzy0 hzy1 hzy2 ihy0 ihy1 ihy2;have R1:∀ w,(Op.stringOp .add (str t0) (⟨#[63,32]⟩:ByteArray)).run prog w=.ok (.string (str (t0++[63,32]))) w:=zQ (t0) ([63,32]) (by first | omega | (simp only [Ya,Yc,Yn];try omega));obtain⟨U1,hU1⟩:∃ u,t0++[63,32]=u:=⟨_,rfl⟩;have hL1:U1.length=(t0.length)+(2):=by rw [←hU1];simp only [Ya,Yc,Yn];try omega
 rw [hU1]at R1;have R2:∀ w,(Op.stringOp .add (str U1) (str t1)).run prog w=.ok (.string (str (U1++t1))) w:=zQ (U1) (t1) (by first | omega | (simp only [Ya,Yc,Yn];try omega));obtain⟨U2,hU2⟩:∃ u,U1++t1=u:=⟨_,rfl⟩;have hL2:U2.length=(U1.length)+(t1.length):=by rw [←hU2];simp only [Ya,Yc,Yn];try omega
 rw [hU2]at R2;have R3:∀ w,(Op.stringOp .add (str U2) (⟨#[32,58,32]⟩:ByteArray)).run prog w=.ok (.string (str (U2++[32,58,32]))) w:=zQ (U2) ([32,58,32]) (by first | omega | (simp only [Ya,Yc,Yn];try omega));obtain⟨U3,hU3⟩:∃ u,U2++[32,58,32]=u:=⟨_,rfl⟩;have hL3:U3.length=(U2.length)+(3):=by rw [←hU3];simp only [Ya,Yc,Yn];try omega
 rw [hU3]at R3;have R4:∀ w,(Op.stringOp .add (str U3) (str t2)).run prog w=.ok (.string (str (U3++t2))) w:=zQ (U3) (t2) (by first | omega | (simp only [Ya,Yc,Yn];try omega));obtain⟨U4,hU4⟩:∃ u,U3++t2=u:=⟨_,rfl⟩;have hL4:U4.length=(U3.length)+(t2.length):=by rw [←hU4];simp only [Ya,Yc,Yn];try omega
 rw [hU4]at R4;rw [hU1,hU2,hU3,hU4]at HE;clear hU1 hU2 hU3 hU4 hL1 hL2 hL3 hL4 hlt0 hlt1 hlt2;go_wp2_with fail
 refine(HC0.o _ (lB _ _)).mono ?_;rintro e w1 ⟨rfl,hb1⟩;go_wp2_with fail
 refine(HC1.o _ hb1).mono ?_;rintro e w3 ⟨rfl,hb3⟩;have hb4:=zU hb1 hb3;go_wp2_with fail
 refine(HC2.o _ hb4).mono ?_;rintro e w5 ⟨rfl,hb5⟩;have hb6:=zU hb4 hb5;go_wp2_with fail
 go_ret;exact⟨by rw [HE.o];rfl,HB2.o.trans (hb6.mono HB2.o.size)⟩
theorem jO8 (k:Nat) (hk:k≤9) (y:Ex) (hzy:∀ wide,(zP wide y).length≤1000000) (ihy:xH y):xH (.mk 8 0 0 k [] [y]):=by
 intro wide S W hT;obtain⟨SA,Sn,Sc⟩:=S;have HB2:Ud (Ue W ((W.alloc (.cells #[uB 8,uB 0,uW 0,uI k,uT,.slice SA Sn Sc] 31)).alloc (.cells #[.bool wide] 4))):=Ph (zG (zG (lB _ _) _) _);have HK2:Ud (Bk ((W.alloc (.cells #[uB 8,uB 0,uW 0,uI k,uT,.slice SA Sn Sc] 31)).alloc (.cells #[.bool wide] 4)) W.heap.size 31 #[uB 8,uB 0,uW 0,uI k,uT,.slice SA Sn Sc]):=Ph ((Bk.new W _ _).alloc _);have hk3:=Bk.new (W.alloc (.cells #[uB 8,uB 0,uW 0,uI k,uT,.slice SA Sn Sc] 31)) 4 #[.bool wide];rw [lO]at hk3;have HK3:=Ph hk3;have HT2:=Ph (hT.o.bel HB2.o);clear hk3 hT;show Calls prog 29 #[.agg #[uB 8,uB 0,uW 0,uI k,uT,.slice SA Sn Sc],.bool wide] W _;go_enter func29,ntmps29
 go_upto_region 2 with fail
 generalize ((World.alloc _ _))=W2 at HB2 HK2 HK3 HT2 ⊢;obtain⟨b3,hb3⟩:∃ b,W.heap.size+1=b:=⟨_,rfl⟩;obtain⟨b2,hb2⟩:∃ b,W.heap.size=b:=⟨_,rfl⟩;rw [hb3]at HK3 ⊢;rw [hb2]at HK2 ⊢;clear hb2 hb3;obtain⟨g0,g1,g2,g3,g4,g5⟩:=zH HK2.o;have w0:W2.cell? ⟨b3,0,none⟩=some (.bool wide):=HK3.o.cell 0;obtain⟨t,ht⟩:∃ t,zI5 wide y (zP wide y)=t:=⟨_,rfl⟩;have hlt:t.length≤1000010:=by rw [←ht];have:=kS wide y (zP wide y);have:=hzy wide;omega
 have HC0:Ud (∀ W',Ue W2 W'→Calls prog 73 #[uI 0,uQ b2 0,uQ b3 0] W' fun e w'=>e=.returned (uR t)∧Below W'.heap.size W' w'):=Ph fun W' hb=>by rw [←ht];exact qL5 (.mk 8 0 0 k [] [y]) y 0 wide ⟨SA,Sn,Sc⟩ (Ph rfl) Yo b2 b3 (Ph (hzy wide)) W' (Ph (zD HK2.o hb)) (Ph (zD HK3.o hb)) (Ph (HT2.o.bel hb)) (Ph fun V W'' hV=>ihy wide V W'' hV)
 have HD2:Ud (∀ w,Calls prog 19 #[uI k] w fun e w'=>e=.returned (.string (str (qZ k)))∧w=w'):=Ph (xS k hk);have l2:=jO k hk;obtain⟨dk,hdk⟩:∃ l,qZ k=l:=⟨_,rfl⟩;have HE:Ud (zP wide (.mk 8 0 0 k [] [y])=t++[32,64]++dk):=Ph (by rw [←hdk,←ht];simp [zP,yD,qA6,kL2,kL3,kL4]);rw [hdk]at HD2 l2;clear hdk ht;have R1:∀ w,(Op.stringOp .add (str t) (⟨#[32,64]⟩:ByteArray)).run prog w=.ok (.string (str (t++[32,64]))) w:=zQ (t) ([32,64]) (by first | omega | (simp only [Ya,Yc,Yn];try omega));obtain⟨U1,hU1⟩:∃ u,t++[32,64]=u:=⟨_,rfl⟩;have hL1:U1.length=(t.length)+(2):=by rw [←hU1];simp only [Ya,Yc,Yn];try omega
 rw [hU1]at R1;have R2:∀ w,(Op.stringOp .add (str U1) (str dk)).run prog w=.ok (.string (str (U1++dk))) w:=zQ (U1) (dk) (by first | omega | (simp only [Ya,Yc,Yn];try omega));obtain⟨U2,hU2⟩:∃ u,U1++dk=u:=⟨_,rfl⟩;have hL2:U2.length=(U1.length)+(dk.length):=by rw [←hU2];simp only [Ya,Yc,Yn];try omega
 rw [hU2]at R2;rw [hU1,hU2]at HE;clear hU1 hU2 hL1 hL2 l2 hlt hzy ihy;have HSS:Ud (∀ w',Ue W2 w'→w'.cell? ⟨b2,3,none⟩=some (uI k)):=Ph fun w' hb=>(zD HK2.o hb).cell 3;have HBd:Ud (Ue W2 W2.drew):=Ph (lB _ _).drew;go_upto_region 17 with fail
 clear w0 g0 g1 g2 g3 g4 g5
 go_region_held3 (fun w'=>w'.cell? ⟨b2,3,none⟩=some (uI k))
  (first | with_reducible exact HSS.o _ HBd.o)
  (first
    | (go_at_call 19
       with_reducible refine(HD2.o _).mono ?_
       rintro e w1 ⟨rfl,rfl⟩)
    | (go_at_call 73
       with_reducible refine(HC0.o _ HBd.o).mono ?_
       rintro e w1 ⟨rfl,hb1⟩;have HBn:=Ph (HBd.o.trans (hb1.mono HBd.o.size));clear HBd hb1;have HBd:=HBn;clear HBn))
 all_goals
  go_wp2_with fail
  go_ret;exact⟨by rw [HE.o];rfl,HB2.o.trans (HBd.o.mono HB2.o.size)⟩
theorem kG1 (o:Nat) (ho:o<3):(#[uT,.string ⟨#[126]⟩,.string ⟨#[45]⟩]:Array Value)[o]?=some (.string (str (unT o)))∧(unT o).length≤3:=by
 match o,ho with
 | 0,_ | 1,_ | 2,_=>exact⟨rfl,Yd⟩
 | n+3,h=>omega
theorem kG2 (o:Nat) (ho1:1≤o) (ho2:o≤2) (y0:Ex) (hzy0:∀ wide,(zP wide y0).length≤1000000) (ihy0:xH y0):xH (.mk 5 o 0 0 [] [y0]):=by
 intro wide S W hT;obtain⟨SA,Sn,Sc⟩:=S;have HB2:Ud (Ue W ((W.alloc (.cells #[uB 5,uB o,uW 0,uI 0,uT,.slice SA Sn Sc] 31)).alloc (.cells #[.bool wide] 4))):=Ph (zG (zG (lB _ _) _) _);have HK2:Ud (Bk ((W.alloc (.cells #[uB 5,uB o,uW 0,uI 0,uT,.slice SA Sn Sc] 31)).alloc (.cells #[.bool wide] 4)) W.heap.size 31 #[uB 5,uB o,uW 0,uI 0,uT,.slice SA Sn Sc]):=Ph ((Bk.new W _ _).alloc _);have hk3:=Bk.new (W.alloc (.cells #[uB 5,uB o,uW 0,uI 0,uT,.slice SA Sn Sc] 31)) 4 #[.bool wide];rw [lO]at hk3;have HK3:=Ph hk3;have HT2:=Ph (hT.o.bel HB2.o);clear hk3 hT;show Calls prog 29 #[.agg #[uB 5,uB o,uW 0,uI 0,uT,.slice SA Sn Sc],.bool wide] W _;go_enter func29,ntmps29
 go_upto_region 2 with fail
 generalize ((World.alloc _ _))=W2 at HB2 HK2 HK3 HT2 ⊢;obtain⟨b3,hb3⟩:∃ b,W.heap.size+1=b:=⟨_,rfl⟩;obtain⟨b2,hb2⟩:∃ b,W.heap.size=b:=⟨_,rfl⟩;rw [hb3]at HK3 ⊢;rw [hb2]at HK2 ⊢;clear hb2 hb3;obtain⟨g0,g1,g2,g3,g4,g5⟩:=zH HK2.o;have w0:W2.cell? ⟨b3,0,none⟩=some (.bool wide):=HK3.o.cell 0;obtain⟨t0,ht0⟩:∃ t,zI5 wide y0 (zP wide y0)=t:=⟨_,rfl⟩;have hlt0:t0.length≤1000010:=by rw [←ht0];have:=kS wide y0 (zP wide y0);have:=hzy0 wide;omega
 have HC0:Ud (∀ W',Ue W2 W'→Calls prog 73 #[uI 0,uQ b2 0,uQ b3 0] W' fun e w'=>e=.returned (uR t0)∧Below W'.heap.size W' w'):=Ph fun W' hb=>by rw [←ht0];exact qL5 (.mk 5 o 0 0 [] [y0]) y0 0 wide ⟨SA,Sn,Sc⟩ (Ph rfl) Yo b2 b3 (Ph (hzy0 wide)) W' (Ph (zD HK2.o hb)) (Ph (zD HK3.o hb)) (Ph (HT2.o.bel hb)) (Ph fun V W'' hV=>ihy0 wide V W'' hV)
 have e0:(o:Int).tmod 3=(o:Int):=by rw [Int.tmod_eq_emod_of_nonneg Yo];omega
 have e1:(o:Int)<3:=Yo;have e2:(0:Int)≤(o:Int):=Yo;obtain⟨hop,hol⟩:=kG1 o Yo;obtain⟨tq,htq⟩:∃ t,unT o=t:=⟨_,rfl⟩;have HE:Ud (zP wide (.mk 5 o 0 0 [] [y0])=tq++t0):=Ph (by rw [←htq,←ht0];simp [zP,yD]);rw [htq]at hop hol;have hopl:([uT,.string ⟨#[126]⟩,.string ⟨#[45]⟩]:List Value)[o]?=some (uR tq):=by rw [←List.getElem?_toArray];exact hop
 clear htq ht0 hzy0 ihy0;have R1:∀ w,(Op.stringOp .add (str tq) (str t0)).run prog w=.ok (.string (str (tq++t0))) w:=zQ (tq) (t0) (by first | omega | (simp only [Ya,Yc,Yn];try omega));obtain⟨U1,hU1⟩:∃ u,tq++t0=u:=⟨_,rfl⟩;have hL1:U1.length=(tq.length)+(t0.length):=by rw [←hU1];simp only [Ya,Yc,Yn];try omega
 rw [hU1]at R1;rw [hU1]at HE;clear hU1 hL1 hol hlt0;have HL:Ud (∀ (w' w'':World),Below (w'.alloc (.cells #[uT,.string ⟨#[126]⟩,.string ⟨#[45]⟩] 9)).heap.size (w'.alloc (.cells #[uT,.string ⟨#[126]⟩,.string ⟨#[45]⟩] 9)) w''→w''.cell? ⟨w'.heap.size,o,none⟩=some (uR tq)):=Ph fun w' w'' hb=>((zD (Bk.new w' 9 #[uT,.string ⟨#[126]⟩,.string ⟨#[45]⟩]) hb).cell o).trans hop;have HBd:Ud (Ue W2 W2.drew):=Ph (lB _ _).drew;have HG:Ud (∀ w',Ue W2 w'→w'.cell? ⟨b2,1,none⟩=some (uB o)):=Ph fun w' hb=>(zD HK2.o hb).cell 1;go_upto_region 12 with fail
 clear hop w0 g0 g1 g2 g3 g4 g5 ho1 ho2;have g1:=HG.o _ HBd.o;have g1p:=HG.o _ (lB _ _);have s1:b2<W2.heap.size:=HK2.o.lt;have HZ2:=Ph s1
 go_region_law (first
  | (go_simp
     go_at_call 73
     first
      | (with_reducible refine(HC0.o _ HBd.o).mono ?_
         rintro e w3 ⟨rfl,hb1⟩;have HBn:=Ph (zU HBd.o hb1);try have gN:=((Fr.of_below (F:=fun _=>False) hb1).cell (World.block_lt_of_cell? _ _ gM) (fun e=>e)).trans gM
         clear HBd hb1 g1;have HBd:=HBn;clear HBn;have g1:=HG.o _ HBd.o;have s3:=lX HZ2.o HBd.o.size)
      | (with_reducible refine(HC0.o _ (zG HBd.o _)).mono ?_
         rintro e w3 ⟨rfl,hb1⟩;have HBn:=Ph (zU (zG HBd.o _) hb1);have gM:=HL.o _ _ hb1;clear HBd hb1 g1;have HBd:=HBn;clear HBn;have g1:=HG.o _ HBd.o;have s3:=lX HZ2.o HBd.o.size)
      | (with_reducible refine(HC0.o _ ((zG (lB _ W2) _).drew)).mono ?_
         rintro e w3 ⟨rfl,hb1⟩;have HBn:=Ph (zU (zG (lB _ W2) _) (zM8 hb1));have gM:=HL.o _ _ (zM8 hb1);clear HBd hb1 g1;have HBd:=HBn;clear HBn;have g1:=HG.o _ HBd.o;have s3:=lX HZ2.o HBd.o.size)))
 all_goals
  go_wp2_with fail
  go_ret
  first
   | exact⟨by rw [HE.o];rfl,HB2.o.trans (HBd.o.mono HB2.o.size)⟩
   | exact⟨by rw [HE.o];rfl,HB2.o.trans ((zG HBd.o _).mono HB2.o.size)⟩
theorem jT7 (o:Nat) (ho:o<17):(#[uT,uT,uT,.string ⟨#[43]⟩,.string ⟨#[32,45,32]⟩,.string ⟨#[42]⟩,.string ⟨#[47]⟩,.string ⟨#[37]⟩,.string ⟨#[38]⟩,.string ⟨#[124]⟩,.string ⟨#[94]⟩,.string ⟨#[60,60]⟩,.string ⟨#[62,62]⟩,.string ⟨#[61,61]⟩,.string ⟨#[33,61]⟩,.string ⟨#[32,60,32]⟩,.string ⟨#[60,61]⟩]:Array Value)[o]?=some (.string (str (biT o)))∧(biT o).length≤3:=by
 match o,ho with
 | 0,_ | 1,_ | 2,_ | 3,_ | 4,_ | 5,_ | 6,_ | 7,_ | 8,_ | 9,_ | 10,_ | 11,_ | 12,_ | 13,_ | 14,_ | 15,_ | 16,_=>exact⟨rfl,Yd⟩
 | n+17,h=>omega
theorem jY9 (o:Nat) (ho1:3≤o) (ho2:o≤16) (y0 y1:Ex) (hzy0:∀ wide,(zP wide y0).length≤1000000) (hzy1:∀ wide,(zP wide y1).length≤1000000) (ihy0:xH y0) (ihy1:xH y1):xH (.mk 6 o 0 0 [] [y0,y1]):=by
 intro wide S W hT;obtain⟨SA,Sn,Sc⟩:=S;have HB2:Ud (Ue W ((W.alloc (.cells #[uB 6,uB o,uW 0,uI 0,uT,.slice SA Sn Sc] 31)).alloc (.cells #[.bool wide] 4))):=Ph (zG (zG (lB _ _) _) _);have HK2:Ud (Bk ((W.alloc (.cells #[uB 6,uB o,uW 0,uI 0,uT,.slice SA Sn Sc] 31)).alloc (.cells #[.bool wide] 4)) W.heap.size 31 #[uB 6,uB o,uW 0,uI 0,uT,.slice SA Sn Sc]):=Ph ((Bk.new W _ _).alloc _);have hk3:=Bk.new (W.alloc (.cells #[uB 6,uB o,uW 0,uI 0,uT,.slice SA Sn Sc] 31)) 4 #[.bool wide];rw [lO]at hk3;have HK3:=Ph hk3;have HT2:=Ph (hT.o.bel HB2.o);clear hk3 hT;show Calls prog 29 #[.agg #[uB 6,uB o,uW 0,uI 0,uT,.slice SA Sn Sc],.bool wide] W _;go_enter func29,ntmps29
 go_upto_region 2 with fail
 generalize ((World.alloc _ _))=W2 at HB2 HK2 HK3 HT2 ⊢;obtain⟨b3,hb3⟩:∃ b,W.heap.size+1=b:=⟨_,rfl⟩;obtain⟨b2,hb2⟩:∃ b,W.heap.size=b:=⟨_,rfl⟩;rw [hb3]at HK3 ⊢;rw [hb2]at HK2 ⊢;clear hb2 hb3;obtain⟨g0,g1,g2,g3,g4,g5⟩:=zH HK2.o;have w0:W2.cell? ⟨b3,0,none⟩=some (.bool wide):=HK3.o.cell 0;obtain⟨t0,ht0⟩:∃ t,zI5 wide y0 (zP wide y0)=t:=⟨_,rfl⟩;have hlt0:t0.length≤1000010:=by rw [←ht0];have:=kS wide y0 (zP wide y0);have:=hzy0 wide;omega
 have HC0:Ud (∀ W',Ue W2 W'→Calls prog 73 #[uI 0,uQ b2 0,uQ b3 0] W' fun e w'=>e=.returned (uR t0)∧Below W'.heap.size W' w'):=Ph fun W' hb=>by rw [←ht0];exact qL5 (.mk 6 o 0 0 [] [y0,y1]) y0 0 wide ⟨SA,Sn,Sc⟩ (Ph rfl) Yo b2 b3 (Ph (hzy0 wide)) W' (Ph (zD HK2.o hb)) (Ph (zD HK3.o hb)) (Ph (HT2.o.bel hb)) (Ph fun V W'' hV=>ihy0 wide V W'' hV)
 obtain⟨t1,ht1⟩:∃ t,zI5 wide y1 (zP wide y1)=t:=⟨_,rfl⟩;have hlt1:t1.length≤1000010:=by rw [←ht1];have:=kS wide y1 (zP wide y1);have:=hzy1 wide;omega
 have HC1:Ud (∀ W',Ue W2 W'→Calls prog 73 #[uI 1,uQ b2 0,uQ b3 0] W' fun e w'=>e=.returned (uR t1)∧Below W'.heap.size W' w'):=Ph fun W' hb=>by rw [←ht1];exact qL5 (.mk 6 o 0 0 [] [y0,y1]) y1 1 wide ⟨SA,Sn,Sc⟩ (Ph rfl) Yo b2 b3 (Ph (hzy1 wide)) W' (Ph (zD HK2.o hb)) (Ph (zD HK3.o hb)) (Ph (HT2.o.bel hb)) (Ph fun V W'' hV=>ihy1 wide V W'' hV)
 have e0:(o:Int).tmod 17=(o:Int):=by rw [Int.tmod_eq_emod_of_nonneg Yo];omega
 have e1:(o:Int)<17:=Yo;have e2:(0:Int)≤(o:Int):=Yo;obtain⟨hop,hol⟩:=jT7 o Yo;obtain⟨tq,htq⟩:∃ t,biT o=t:=⟨_,rfl⟩;have HE:Ud (zP wide (.mk 6 o 0 0 [] [y0,y1])=t0++tq++t1):=Ph (by rw [←htq,←ht0,←ht1];simp [zP,yD]);rw [htq]at hop hol;have hopl:([uT,uT,uT,.string ⟨#[43]⟩,.string ⟨#[32,45,32]⟩,.string ⟨#[42]⟩,.string ⟨#[47]⟩,.string ⟨#[37]⟩,.string ⟨#[38]⟩,.string ⟨#[124]⟩,.string ⟨#[94]⟩,.string ⟨#[60,60]⟩,.string ⟨#[62,62]⟩,.string ⟨#[61,61]⟩,.string ⟨#[33,61]⟩,.string ⟨#[32,60,32]⟩,.string ⟨#[60,61]⟩]:List Value)[o]?=some (uR tq):=by rw [←List.getElem?_toArray];exact hop
 clear htq ht0 hzy0 ihy0 ht1 hzy1 ihy1;have R1:∀ w,(Op.stringOp .add (str t0) (str tq)).run prog w=.ok (.string (str (t0++tq))) w:=zQ (t0) (tq) (by first | omega | (simp only [Ya,Yc,Yn];try omega));obtain⟨U1,hU1⟩:∃ u,t0++tq=u:=⟨_,rfl⟩;have hL1:U1.length=(t0.length)+(tq.length):=by rw [←hU1];simp only [Ya,Yc,Yn];try omega
 rw [hU1]at R1;have R2:∀ w,(Op.stringOp .add (str U1) (str t1)).run prog w=.ok (.string (str (U1++t1))) w:=zQ (U1) (t1) (by first | omega | (simp only [Ya,Yc,Yn];try omega));obtain⟨U2,hU2⟩:∃ u,U1++t1=u:=⟨_,rfl⟩;have hL2:U2.length=(U1.length)+(t1.length):=by rw [←hU2];simp only [Ya,Yc,Yn];try omega
 rw [hU2]at R2;rw [hU1,hU2]at HE;clear hU1 hU2 hL1 hL2 hol hlt0 hlt1;have HL:Ud (∀ (w' w'':World),Below (w'.alloc (.cells #[uT,uT,uT,.string ⟨#[43]⟩,.string ⟨#[32,45,32]⟩,.string ⟨#[42]⟩,.string ⟨#[47]⟩,.string ⟨#[37]⟩,.string ⟨#[38]⟩,.string ⟨#[124]⟩,.string ⟨#[94]⟩,.string ⟨#[60,60]⟩,.string ⟨#[62,62]⟩,.string ⟨#[61,61]⟩,.string ⟨#[33,61]⟩,.string ⟨#[32,60,32]⟩,.string ⟨#[60,61]⟩] 9)).heap.size (w'.alloc (.cells #[uT,uT,uT,.string ⟨#[43]⟩,.string ⟨#[32,45,32]⟩,.string ⟨#[42]⟩,.string ⟨#[47]⟩,.string ⟨#[37]⟩,.string ⟨#[38]⟩,.string ⟨#[124]⟩,.string ⟨#[94]⟩,.string ⟨#[60,60]⟩,.string ⟨#[62,62]⟩,.string ⟨#[61,61]⟩,.string ⟨#[33,61]⟩,.string ⟨#[32,60,32]⟩,.string ⟨#[60,61]⟩] 9)) w''→w''.cell? ⟨w'.heap.size,o,none⟩=some (uR tq)):=Ph fun w' w'' hb=>((zD (Bk.new w' 9 #[uT,uT,uT,.string ⟨#[43]⟩,.string ⟨#[32,45,32]⟩,.string ⟨#[42]⟩,.string ⟨#[47]⟩,.string ⟨#[37]⟩,.string ⟨#[38]⟩,.string ⟨#[124]⟩,.string ⟨#[94]⟩,.string ⟨#[60,60]⟩,.string ⟨#[62,62]⟩,.string ⟨#[61,61]⟩,.string ⟨#[33,61]⟩,.string ⟨#[32,60,32]⟩,.string ⟨#[60,61]⟩]) hb).cell o).trans hop;have HBd:Ud (Ue W2 W2.drew):=Ph (lB _ _).drew;have HG:Ud (∀ w',Ue W2 w'→w'.cell? ⟨b2,1,none⟩=some (uB o)):=Ph fun w' hb=>(zD HK2.o hb).cell 1;go_upto_region 14 with fail
 clear hop w0 g0 g1 g2 g3 g4 g5 ho1 ho2;have g1:=HG.o _ HBd.o;have g1p:=HG.o _ (lB _ _);have s1:b2<W2.heap.size:=HK2.o.lt;have HZ2:=Ph s1
 go_region_law (first
  | (go_simp
     go_at_call 73
     first
      | (with_reducible refine(HC0.o _ HBd.o).mono ?_
         rintro e w3 ⟨rfl,hb1⟩;have HBn:=Ph (zU HBd.o hb1);try have gN:=((Fr.of_below (F:=fun _=>False) hb1).cell (World.block_lt_of_cell? _ _ gM) (fun e=>e)).trans gM
         clear HBd hb1 g1;have HBd:=HBn;clear HBn;have g1:=HG.o _ HBd.o;have s3:=lX HZ2.o HBd.o.size)
      | (with_reducible refine(HC0.o _ (zG HBd.o _)).mono ?_
         rintro e w3 ⟨rfl,hb1⟩;have HBn:=Ph (zU (zG HBd.o _) hb1);have gM:=HL.o _ _ hb1;clear HBd hb1 g1;have HBd:=HBn;clear HBn;have g1:=HG.o _ HBd.o;have s3:=lX HZ2.o HBd.o.size)
      | (with_reducible refine(HC0.o _ ((zG (lB _ W2) _).drew)).mono ?_
         rintro e w3 ⟨rfl,hb1⟩;have HBn:=Ph (zU (zG (lB _ W2) _) (zM8 hb1));have gM:=HL.o _ _ (zM8 hb1);clear HBd hb1 g1;have HBd:=HBn;clear HBn;have g1:=HG.o _ HBd.o;have s3:=lX HZ2.o HBd.o.size)
      | (with_reducible refine(HC1.o _ HBd.o).mono ?_
         rintro e w4 ⟨rfl,hb1⟩;have HBn:=Ph (zU HBd.o hb1);try have gN:=((Fr.of_below (F:=fun _=>False) hb1).cell (World.block_lt_of_cell? _ _ gM) (fun e=>e)).trans gM
         clear HBd hb1 g1;have HBd:=HBn;clear HBn;have g1:=HG.o _ HBd.o;have s4:=lX HZ2.o HBd.o.size)
      | (with_reducible refine(HC1.o _ (zG HBd.o _)).mono ?_
         rintro e w4 ⟨rfl,hb1⟩;have HBn:=Ph (zU (zG HBd.o _) hb1);have gM:=HL.o _ _ hb1;clear HBd hb1 g1;have HBd:=HBn;clear HBn;have g1:=HG.o _ HBd.o;have s4:=lX HZ2.o HBd.o.size)
      | (with_reducible refine(HC1.o _ ((zG (lB _ W2) _).drew)).mono ?_
         rintro e w4 ⟨rfl,hb1⟩;have HBn:=Ph (zU (zG (lB _ W2) _) (zM8 hb1));have gM:=HL.o _ _ (zM8 hb1);clear HBd hb1 g1;have HBd:=HBn;clear HBn;have g1:=HG.o _ HBd.o;have s4:=lX HZ2.o HBd.o.size)))
 all_goals
  go_wp2_with fail
  go_ret
  first
   | exact⟨by rw [HE.o];rfl,HB2.o.trans (HBd.o.mono HB2.o.size)⟩
   | exact⟨by rw [HE.o];rfl,HB2.o.trans ((zG HBd.o _).mono HB2.o.size)⟩
end
def wdP (p:Pc):Wd:=(p.kind,p.tok)
def zW4 (g:List UInt8):List Pc→List Pc
 | []=>[]
 | p :: r=>⟨g++p.gap,p.kind,p.tok⟩ :: r
theorem vQ (g:List UInt8) (l:List Pc):(zW4 g l).map wdP=l.map wdP:=by cases l <;> rfl
theorem jW {g:List UInt8} {l:List Pc} (h:l≠[]):jF (zW4 g l)=g++jF l:=by
 cases l with
 | nil=>exact absurd rfl h
 | cons p r=>simp [zW4,zF]
theorem jC {g:List UInt8} (hg:GapOk g) {l:List Pc} {t:List UInt8} (h:LexOk l t):LexOk (zW4 g l) t:=by
 cases l with
 | nil=>trivial
 | cons p r =>
   obtain⟨h1,h2,h3,h4,h5⟩:=h;refine⟨?_,h2,h3,h4,h5⟩;show jG false ((g++p.gap)++_)=(g++p.gap).length;rw [lS,hg,h1,Ya]
def Safe (t:List UInt8):Prop:=∀ c,t.head?=some c→yU c=false∧c.toNat≠58
theorem Safe.nil:Safe []:=fun c h=>by cases h
theorem Safe.cons {c:UInt8} {t:List UInt8} (h1:yU c=false) (h2:c.toNat≠58):Safe (c :: t):=fun d h=>by injection h with h;subst h;exact⟨h1,h2⟩
theorem vZ {c:UInt8} (h:yU c=false):zV c=false:=by unfold yU at h;simp only [Bool.or_eq_false_iff]at h;exact h.2.2.2
theorem zT9 {g tok:List UInt8} {k:Nat} {r:List Pc} {t:List UInt8} (hg:GapOk g) (c:UInt8) (s:List UInt8) (ht:tok=c :: s) (hb:yJ c=false) (h35:c.toNat≠35) (hk:k≠0) (htok:zC1 (tok++(jF r++t))=(k,tok.length)) (h:LexOk r t):LexOk (⟨g,k,tok⟩ :: r) t:=by subst ht;refine⟨?_,htok,hk,Ym,h⟩;show jG false (g++_)=g.length;rw [hg,lR,vY _ hb h35];omega
theorem qG3 {c:UInt8} (h:qM c=true):yJ c=false∧c.toNat≠35:=by unfold qM at h;simp only [lZ,cC]at h;unfold yJ;refine⟨?_,Yo⟩;rw [lG Yo,lG Yo,lG Yo,lG Yo];rfl
theorem zQ9 {c:UInt8} (h:zV c=true):yJ c=false∧c.toNat≠35:=by unfold zV at h;simp only [lZ,cC]at h;unfold yJ;refine⟨?_,Yo⟩;rw [lG Yo,lG Yo,lG Yo,lG Yo];rfl
theorem qP {g n:List UInt8} {r:List Pc} {t:List UInt8} (hg:GapOk g) (hn:∃ c s,n=c :: s∧qM c=true∧∀ x∈s,yU x=true) (hs:∀ d,(jF r++t).head?=some d→yU d=false) (h:LexOk r t):LexOk (⟨g,1,n⟩ :: r) t:=by obtain⟨c,s,rfl,hc,hp⟩:=hn;exact zT9 hg c s rfl (qG3 hc).1 (qG3 hc).2 Yd (zJ3 c s _ hc hp hs) h
theorem zD7 {g:List UInt8} {n:Nat} {r:List Pc} {t:List UInt8} (hg:GapOk g) (hn:n≤1000000000) (hs:∀ d,(jF r++t).head?=some d→zV d=false∧d.toNat≠58) (h:LexOk r t):LexOk (⟨g,2,qZ n⟩ :: r) t:=by
 obtain⟨h1,h2,_⟩:=jQ hn;cases hd:qZ n with
 | nil=>exact absurd hd h2
 | cons c s =>
   rw [hd]at h1;have hc:=h1 c Ym;exact zT9 hg c s rfl (zQ9 hc).1 (zQ9 hc).2 Yd (jP5 c s _ h1 hs) h
theorem kA4 {g:List UInt8} {n m:Nat} {r:List Pc} {t:List UInt8} (hg:GapOk g) (hn:n≤1000000000) (hm:m≤1000000000) (hs:∀ d,(jF r++t).head?=some d→zV d=false) (h:LexOk r t):LexOk (⟨g,3,qZ n++58 :: qZ m⟩ :: r) t:=by
 obtain⟨h1,h2,_⟩:=jQ hn;obtain⟨g1,g2,_⟩:=jQ hm;cases hd:qZ n with
 | nil=>exact absurd hd h2
 | cons c s =>
   cases he:qZ m with
   | nil=>exact absurd he g2
   | cons d q =>
     rw [hd]at h1;rw [he]at g1;have hc:=h1 c Ym;exact zT9 hg c (s++58 :: d :: q) rfl (zQ9 hc).1 (zQ9 hc).2 Yd (qQ7 c s d q _ h1 g1 hs) h
theorem zJ6 {g:List UInt8} (c:UInt8) {r:List Pc} {t:List UInt8} (hg:GapOk g) (h0:yF.contains c=true) (h1:qM c=false) (h2:zV c=false) (hb:yJ c=false) (h35:c.toNat≠35) (hs:∀ d,(jF r++t).head?=some d→wV c d=false) (h:LexOk r t):LexOk (⟨g,4,[c]⟩ :: r) t :=
 zT9 hg c [] rfl hb h35 Yd (zT5 c _ h0 h1 h2 hs) h
theorem kA5 {c:UInt8} (h1:c≠60) (h2:c≠62) (h3:c≠61) (h4:c≠33) (d:UInt8):wV c d=false:=by unfold wV;rw [beq_false_of_ne h1,beq_false_of_ne h2,beq_false_of_ne h3,beq_false_of_ne h4];rfl
theorem zW {g:List UInt8} (c:UInt8) {r:List Pc} {t:List UInt8} (hg:GapOk g) (hc:([43,45,42,47,37,38,124,94,126,63,58,44,64,40,41,91,93,123,125]:List UInt8).contains c=true) (h:LexOk r t):LexOk (⟨g,4,[c]⟩ :: r) t:=by have key:∀ c∈([43,45,42,47,37,38,124,94,126,63,58,44,64,40,41,91,93,123,125]:List UInt8),yF.contains c=true∧qM c=false∧zV c=false∧yJ c=false∧c.toNat≠35∧c≠60∧c≠62∧c≠61∧c≠33:=Yd;obtain⟨k1,k2,k3,k4,k5,k6,k7,k8,k9⟩:=key c (List.contains_iff_mem.1 hc);exact zJ6 c hg k1 k2 k3 k4 k5 (fun d _=>kA5 k6 k7 k8 k9 d) h
theorem zJ7 {g:List UInt8} (c d:UInt8) {r:List Pc} {t:List UInt8} (hg:GapOk g) (hp:wV c d=true) (h1:qM c=false) (h2:zV c=false) (hb:yJ c=false) (h35:c.toNat≠35) (h:LexOk r t):LexOk (⟨g,4,[c,d]⟩ :: r) t :=
 zT9 hg c [d] rfl hb h35 Yd (jE6 c d _ hp h1 h2) h
theorem xP:GapOk [32]:=.one Yd
def opG (o:Nat):List UInt8:=if o=4∨o=15 then [32] else []
def kQ6 (wide:Bool) (y:Ex) (l:List Pc):List Pc:=if qZ7 wide y then⟨[],4,[40]⟩ :: (zW4 [32] l++[⟨[],4,[41]⟩]) else l
mutual
def pcX (wide:Bool):Ex→List Pc
 | .mk k o v wd n l =>
   let r:=jU4 wide l
   let s:Nat→List Pc:=fun i=>match l[i]? with
    | some y=>kQ6 wide y (r.getD i [])
    | none=>[]
   if k=1 then [⟨[],3,qZ v++58 :: qZ wd.toNat⟩]
   else if k=2 then [⟨[],1,n⟩]
   else if k=3 then⟨[],1,n⟩ :: ⟨[],4,[91]⟩ :: (r.getD 0 []++[⟨[],4,[93]⟩])
   else if k=4 then⟨[],1,bs "disk"⟩ :: ⟨[32],4,[91]⟩ :: (r.getD 0 []++[⟨[],4,[93]⟩])
   else if k=5 then⟨[],4,kK o⟩ :: s 0
   else if k=6 then s 0++⟨opG o,4,kK o⟩ :: zW4 (opG o) (s 1)
   else if k=7 then s 0++⟨[],4,[63]⟩ :: (zW4 [32] (s 1)++⟨[32],4,[58]⟩ :: zW4 [32] (s 2))
   else s 0++[⟨[32],4,[64]⟩,⟨[],2,qZ wd.toNat⟩]
def jU4 (wide:Bool):List Ex→List (List Pc)
 | []=>[]
 | x :: l=>pcX wide x :: jU4 wide l
end
abbrev sP (wide:Bool) (y:Ex):List Pc:=kQ6 wide y (pcX wide y)
section
theorem qR3 (wide:Bool) (y:Ex):qZ7 wide y=true↔(wide=true∨zM6 y=6∨zM6 y=7∨zM6 y=5):=by unfold qZ7;simp
structure PcE (wide:Bool) (x:Ex):Prop where
 cat:jF (pcX wide x)=zP wide x
 wd:(pcX wide x).map wdP=wX wide x
 lex:∀ t,Safe t→LexOk (pcX wide x) t
 hd:∃ c r,zP wide x=c :: r∧c≠61
 ne:pcX wide x≠[]
structure PcU (wide:Bool) (x:Ex):Prop where
 cat:jF (sP wide x)=zI5 wide x (zP wide x)
 wd:(sP wide x).map wdP=sW wide x
 lex:∀ t,Safe t→LexOk (sP wide x) t
 hd:∃ c r,zI5 wide x (zP wide x)=c :: r∧c≠61
 ne:sP wide x≠[]
theorem zF5:jF []=[]:=rfl
theorem xC (p:Pc):jF [p]=p.gap++p.tok:=by simp [jF]
section
variable {wide:Bool} {x:Ex}
theorem PcE.u (h:PcE wide x):PcU wide x:=by
 by_cases hp:qZ7 wide x=true
 ·have e1:sP wide x=⟨[],4,[40]⟩ :: (zW4 [32] (pcX wide x)++[⟨[],4,[41]⟩]):=lM hp;have e2:zI5 wide x (zP wide x)=[40,32]++zP wide x++[41]:=lM ((qR3 wide x).1 hp);have e3:sW wide x=(4,[40]) :: (wX wide x++[(4,[41])]):=lM hp;refine⟨?_,?_,fun t ht=>?_,?_,?_⟩
  ·rw [e1,e2,zF,qD,jW h.ne,h.cat,xC];simp
  ·rw [e1,e3,lY,cB,vQ,h.wd];rfl
  ·rw [e1];refine zW 40 .nil Yd (LexOk.app _ _ _ (jC xP (h.lex _ ?_)) (zW 41 .nil Yd trivial));rw [xC];exact Safe.cons Yd Yd
  ·rw [e2];exact⟨40,_,rfl,Yd⟩
  ·rw [e1];simp
 ·have e1:sP wide x=pcX wide x:=lN hp;have e2:zI5 wide x (zP wide x)=zP wide x:=lN fun h=>hp ((qR3 wide x).2 h);have e3:sW wide x=wX wide x:=lN hp;exact⟨by rw [e1,e2,h.cat],by rw [e1,e3,h.wd],fun t ht=>by rw [e1];exact h.lex t ht,by rw [e2];exact h.hd,by rw [e1];exact h.ne⟩
theorem kN5 {o:Nat} (h0:3≤o) (h1:o≤16) {r:List Pc} {t:List UInt8} (hr:r≠[]) (h:LexOk r t):LexOk (⟨opG o,4,kK o⟩ :: zW4 (opG o) r) t:=by
 rcases(by omega:o=3∨o=4∨o=5∨o=6∨o=7∨o=8∨o=9∨o=10∨o=11∨o=12∨o=13∨o=14∨o=15∨o=16)with rfl | rfl | rfl | rfl | rfl | rfl | rfl | rfl | rfl | rfl | rfl | rfl | rfl | rfl
 ·exact zW 43 .nil Yd (jC .nil h)
 ·exact zW 45 xP Yd (jC xP h)
 ·exact zW 42 .nil Yd (jC .nil h)
 ·exact zW 47 .nil Yd (jC .nil h)
 ·exact zW 37 .nil Yd (jC .nil h)
 ·exact zW 38 .nil Yd (jC .nil h)
 ·exact zW 124 .nil Yd (jC .nil h)
 ·exact zW 94 .nil Yd (jC .nil h)
 ·exact zJ7 60 60 .nil Yd Yd Yd Yd Yd (jC .nil h)
 ·exact zJ7 62 62 .nil Yd Yd Yd Yd Yd (jC .nil h)
 ·exact zJ7 61 61 .nil Yd Yd Yd Yd Yd (jC .nil h)
 ·exact zJ7 33 61 .nil Yd Yd Yd Yd Yd (jC .nil h)
 ·refine zJ6 60 xP Yd Yd Yd Yd Yd (fun d hd=>?_) (jC xP h);rw [show opG 15=[32] from rfl,jW hr]at hd;injection hd with hd;subst hd;decide
 ·exact zJ7 60 61 .nil Yd Yd Yd Yd Yd (jC .nil h)
theorem kH8 {o:Nat} (h0:3≤o) (h1:o≤16) (r:List Pc) (t:List UInt8):Safe (jF (⟨opG o,4,kK o⟩ :: r)++t):=by rw [zF];rcases(by omega:o=3∨o=4∨o=5∨o=6∨o=7∨o=8∨o=9∨o=10∨o=11∨o=12∨o=13∨o=14∨o=15∨o=16)with rfl | rfl | rfl | rfl | rfl | rfl | rfl | rfl | rfl | rfl | rfl | rfl | rfl | rfl <;> exact Safe.cons Yd Yd
theorem kH9:∀ o,o<17→3≤o→biT o=opG o++kK o++opG o:=Yd
theorem kI1:∀ o,o<3→1≤o→unT o=kK o:=Yd
theorem jP7 {n:Nat} (h:n≤1000000000) (m:List UInt8):∃ c r,qZ n++m=c :: r∧c≠61:=by
 obtain⟨h1,h2,_⟩:=jQ h;cases hd:qZ n with
 | nil=>exact absurd hd h2
 | cons c r =>
   refine⟨c,r++m,rfl,?_⟩;rintro rfl;have:=h1 61 (by rw [hd];simp);exact absurd this Yd
theorem jG1 {n:List UInt8} (h:NameOk n) (m:List UInt8):∃ c r,n++m=c :: r∧c≠61:=by obtain⟨c,r,rfl,hc,_⟩:=h.word;refine⟨c,r++m,rfl,?_⟩;rintro rfl;exact absurd hc Yd
theorem pcE {x:Ex} (h:kP x):PcE wide x:=by
 induction h with
 | num v w hv hw =>
   have e1:pcX wide (.mk 1 0 v w [] [])=[⟨[],3,qZ v++58 :: qZ w⟩]:=by simp [pcX]
   have e2:zP wide (.mk 1 0 v w [] [])=qZ v++58 :: qZ w:=by simp [zP]
   have e3:wX wide (.mk 1 0 v w [] [])=[(3,qZ v++58 :: qZ w)]:=by simp [wX]
   refine⟨by rw [e1,e2,xC];rfl,by rw [e1,e3];rfl,fun t ht=>?_,by rw [e2];exact jP7 hv _,by rw [e1];simp⟩;rw [e1];exact kA4 .nil hv hw (fun d hd=>vZ (ht d hd).1) trivial
 | var n hn =>
   have e1:pcX wide (.mk 2 0 0 0 n [])=[⟨[],1,n⟩]:=by simp [pcX]
   have e2:zP wide (.mk 2 0 0 0 n [])=n:=by simp [zP]
   have e3:wX wide (.mk 2 0 0 0 n [])=[(1,n)]:=by simp [wX]
   refine⟨by rw [e1,e2,xC];rfl,by rw [e1,e3];rfl,fun t ht=>?_,by rw [e2];simpa using jG1 hn [],by rw [e1];simp⟩;rw [e1];exact qP .nil hn.word (fun d hd=>(ht d hd).1) trivial
 | elem n y hn hy ih =>
   have e1:pcX wide (.mk 3 0 0 0 n [y])=⟨[],1,n⟩ :: ⟨[],4,[91]⟩ :: (pcX wide y++[⟨[],4,[93]⟩]):=by simp [pcX,jU4]
   have e2:zP wide (.mk 3 0 0 0 n [y])=n++([91]++zP wide y++[93]):=by simp [zP,yD]
   have e3:wX wide (.mk 3 0 0 0 n [y])=(1,n) :: (4,[91]) :: (wX wide y++[(4,[93])]):=by simp [wX,wXs]
   refine⟨by rw [e1,e2];simp [zF,qD,zF5,ih.cat],by rw [e1,e3];simp [ih.wd,wdP],fun t ht=>?_,by rw [e2];exact jG1 hn _,by rw [e1];simp⟩;rw [e1];refine qP .nil hn.word (fun d hd=>?_) (zW 91 .nil Yd (LexOk.app _ _ _ (ih.lex _ ?_) (zW 93 .nil Yd trivial)))
   ·rw [zF]at hd;injection hd with hd;subst hd;decide
   ·rw [xC];exact Safe.cons Yd Yd
 | disk y hy ih =>
   have e1:pcX wide (.mk 4 0 0 0 [] [y])=⟨[],1,bs "disk"⟩ :: ⟨[32],4,[91]⟩ :: (pcX wide y++[⟨[],4,[93]⟩]):=by simp [pcX,jU4]
   have e2:zP wide (.mk 4 0 0 0 [] [y])=bs "disk ["++(zP wide y++[93]):=by simp [zP,yD]
   have e3:wX wide (.mk 4 0 0 0 [] [y])=(1,bs "disk") :: (4,[91]) :: (wX wide y++[(4,[93])]):=by simp [wX,wXs]
   have e4:bs "disk [" = bs "disk"++[32,91]:=Yd;refine⟨by rw [e1,e2,e4];simp [zF,qD,zF5,ih.cat],by rw [e1,e3];simp [ih.wd,wdP],fun t ht=>?_,by rw [e2];exact⟨_,_,rfl,Yd⟩,by rw [e1];simp⟩;rw [e1];refine qP .nil ⟨_,_,rfl,Yd,Yd⟩ (fun d hd=>?_) (zW 91 xP Yd (LexOk.app _ _ _ (ih.lex _ ?_) (zW 93 .nil Yd trivial)))
   ·rw [zF]at hd;injection hd with hd;subst hd;decide
   ·rw [xC];exact Safe.cons Yd Yd
 | un o y o1 o2 hy ih =>
   have e1:pcX wide (.mk 5 o 0 0 [] [y])=⟨[],4,kK o⟩ :: sP wide y:=by simp [pcX,jU4]
   have e2:zP wide (.mk 5 o 0 0 [] [y])=kK o++zI5 wide y (zP wide y):=by simp [zP,yD,kI1 o Yo o1]
   have e3:wX wide (.mk 5 o 0 0 [] [y])=(4,kK o) :: sW wide y:=by simp [wX,wXs]
   refine⟨by rw [e1,e2];simp [zF,ih.u.cat],by rw [e1,e3];simp [ih.u.wd,wdP],fun t ht=>?_,?_,by rw [e1];simp⟩
   ·rw [e1];rcases(by omega:o=1∨o=2)with rfl | rfl
    ·exact zW 126 .nil Yd (ih.u.lex t ht)
    ·exact zW 45 .nil Yd (ih.u.lex t ht)
   ·rw [e2];rcases(by omega:o=1∨o=2)with rfl | rfl <;> exact⟨_,_,rfl,Yd⟩
 | bin o x y o1 o2 hx hy ih1 ih2 =>
   have e1:pcX wide (.mk 6 o 0 0 [] [x,y])=sP wide x++⟨opG o,4,kK o⟩ :: zW4 (opG o) (sP wide y):=by simp [pcX,jU4]
   have e2:zP wide (.mk 6 o 0 0 [] [x,y])=zI5 wide x (zP wide x)++(opG o++kK o++opG o)++zI5 wide y (zP wide y):=by simp [zP,yD,kH9 o Yo o1]
   have e3:wX wide (.mk 6 o 0 0 [] [x,y])=sW wide x++(4,kK o) :: sW wide y:=by simp [wX,wXs]
   refine⟨by rw [e1,e2];simp [zF,qD,jW ih2.u.ne,ih1.u.cat,ih2.u.cat],by rw [e1,e3];simp [ih1.u.wd,ih2.u.wd,wdP,vQ],fun t ht=>?_,?_,by rw [e1];simp⟩
   ·rw [e1];exact LexOk.app _ _ _ (ih1.u.lex _ (kH8 o1 o2 _ _)) (kN5 o1 o2 ih2.u.ne (ih2.u.lex t ht))
   ·obtain⟨c,r,e,hc⟩:=ih1.u.hd;rw [e2,e];exact⟨c,_,rfl,hc⟩
 | mux x y z hx hy hz ih1 ih2 ih3 =>
   have e1:pcX wide (.mk 7 0 0 0 [] [x,y,z])=sP wide x++⟨[],4,[63]⟩ :: (zW4 [32] (sP wide y)++⟨[32],4,[58]⟩ :: zW4 [32] (sP wide z)):=by simp [pcX,jU4]
   have e2:zP wide (.mk 7 0 0 0 [] [x,y,z])=zI5 wide x (zP wide x)++bs "? "++zI5 wide y (zP wide y)++bs " : "++zI5 wide z (zP wide z):=by simp [zP,yD]
   have e3:wX wide (.mk 7 0 0 0 [] [x,y,z])=sW wide x++(4,[63]) :: (sW wide y++(4,[58]) :: sW wide z):=by simp [wX,wXs]
   have e4:bs "? " = [63,32]:=Yd;have e5:bs " : " = [32,58,32]:=Yd;refine⟨by rw [e1,e2,e4,e5];simp [zF,qD,jW ih2.u.ne,jW ih3.u.ne,ih1.u.cat,ih2.u.cat,ih3.u.cat],by rw [e1,e3];simp [ih1.u.wd,ih2.u.wd,ih3.u.wd,wdP,vQ],fun t ht=>?_,?_,by rw [e1];simp⟩
   ·rw [e1];refine LexOk.app _ _ _ (ih1.u.lex _ ?_) (zW 63 .nil Yd (LexOk.app _ _ _ (jC xP (ih2.u.lex _ ?_)) (zW 58 xP Yd (jC xP (ih3.u.lex t ht)))))
    ·rw [zF];exact Safe.cons Yd Yd
    ·rw [zF];exact Safe.cons Yd Yd
   ·obtain⟨c,r,e,hc⟩:=ih1.u.hd;rw [e2,e];exact⟨c,_,rfl,hc⟩
 | cast w y hw hy ih =>
   have e1:pcX wide (.mk 8 0 0 w [] [y])=sP wide y++[⟨[32],4,[64]⟩,⟨[],2,qZ w⟩]:=by simp [pcX,jU4]
   have e2:zP wide (.mk 8 0 0 w [] [y])=zI5 wide y (zP wide y)++bs " @"++qZ w:=by simp [zP,yD]
   have e3:wX wide (.mk 8 0 0 w [] [y])=sW wide y++[(4,[64]),(2,qZ w)]:=by simp [wX,wXs]
   have e4:bs " @" = [32,64]:=Yd;refine⟨by rw [e1,e2,e4];simp [zF,qD,zF5,ih.u.cat],by rw [e1,e3];simp [ih.u.wd,wdP],fun t ht=>?_,?_,by rw [e1];simp⟩
   ·rw [e1];refine LexOk.app _ _ _ (ih.u.lex _ ?_) (zW 64 xP Yd (zD7 .nil hw (fun d hd=>⟨vZ (ht d hd).1,(ht d hd).2⟩) trivial));rw [zF];exact Safe.cons Yd Yd
   ·obtain⟨c,r,e,hc⟩:=ih.u.hd;rw [e2,e];exact⟨c,_,rfl,hc⟩
end
end
section
def zP5:List (List Pc)→List Pc
 | []=>[]
 | [x]=>x
 | x :: l=>x++⟨[],4,[44]⟩ :: zP5 l
def kI2:List UInt8:=bs " # \n"
theorem kI3:GapOk kI2:=by have e:kI2=32 :: (35 :: ([32]++(10 :: []))):=Yd;rw [e];exact .cons Yd (.rem Yd .nil)
mutual
def pcS (wide:Bool):Sx→List Pc
 | .mk k n es b t e =>
   let r:=es.map (pcX wide)
   let tt:=⟨[],4,[123]⟩ :: qX1 wide [] t
   let te:=⟨[],4,[123]⟩ :: qX1 wide [] e
   if k=1 then⟨[],1,n⟩ :: ⟨[],4,[61]⟩ :: r.getD 0 []
   else if k=2 then⟨[],1,n⟩ :: ⟨[],4,[91]⟩ :: (r.getD 0 []++⟨[],4,[93]⟩ :: ⟨[],4,[61]⟩ :: r.getD 1 [])
   else if k=3 then⟨[],1,bs "write"⟩ :: (zW4 [32] (r.getD 0 [])++⟨[],4,[44]⟩ :: r.getD 1 [])
   else if k=4 then [⟨[],1,bs "flush"⟩]
   else if k=5 then [⟨[],1,bs "barrier"⟩]
   else if k=6 then⟨[],1,bs "if"⟩ :: (zW4 [32] (r.getD 0 [])++(tt++(if e≠[]∨wide then⟨[],1,bs "else"⟩ :: te else [])))
   else if k=7 then⟨[],1,bs "while"⟩ :: (zW4 [32] (r.getD 0 [])++⟨[32],1,bs "bound"⟩ :: ⟨[32],2,qZ b.toNat⟩ :: tt)
   else⟨[],1,bs "call"⟩ :: ⟨[32],1,n⟩ :: ⟨[],4,[40]⟩ :: (zP5 r++[⟨[],4,[41]⟩])
def qX1 (wide:Bool):List UInt8→List Sx→List Pc
 | g,[]=>[⟨g,4,[125]⟩]
 | g,x :: l=>zW4 g (pcS wide x)++qX1 wide kI2 l
end
abbrev pcB (wide:Bool) (l:List Sx):List Pc:=⟨[],4,[123]⟩ :: qX1 wide [] l
structure PcT (wide:Bool) (x:Sx):Prop where
 cat:jF (pcS wide x)=jH wide x
 wd:(pcS wide x).map wdP=wS wide x
 lex:∀ t,Safe t→LexOk (pcS wide x) t
 ne:pcS wide x≠[]
section
variable {wide:Bool}
theorem qR4:∀ (es:List Ex),(∀ x∈es,kP x)→jF (zP5 (es.map (pcX wide)))=qT (es.map (zP wide))∧(zP5 (es.map (pcX wide))).map wdP=kO (es.map (wX wide))∧∀ t,Safe t→LexOk (zP5 (es.map (pcX wide))) t
 | [],_=>⟨rfl,rfl,fun _ _=>trivial⟩
 | [x],h=>by have hx:=pcE (wide:=wide) (h x Ym);exact⟨hx.cat,hx.wd,hx.lex⟩
 | x :: y :: es,h=>by
   have hx:=pcE (wide:=wide) (h x Ym);obtain⟨i1,i2,i3⟩:=qR4 (y :: es) fun z hz=>h z (by simp at hz ⊢;exact .inr hz);have e1:zP5 ((x :: y :: es).map (pcX wide))=pcX wide x++⟨[],4,[44]⟩ :: zP5 ((y :: es).map (pcX wide)):=rfl;have e2:qT ((x :: y :: es).map (zP wide))=zP wide x++[44]++qT ((y :: es).map (zP wide)):=rfl;have e3:kO ((x :: y :: es).map (wX wide))=wX wide x++(4,[44]) :: kO ((y :: es).map (wX wide)):=rfl;refine⟨?_,?_,fun t ht=>?_⟩
   ·rw [e1,e2,qD,zF,i1,hx.cat];simp
   ·rw [e1,e3,cB,lY,i2,hx.wd];rfl
   ·rw [e1];refine LexOk.app _ _ _ (hx.lex _ ?_) (zW 44 .nil Yd (i3 t ht));rw [zF];exact Safe.cons Yd Yd
theorem jG2:∀ (l:List Sx) (g:List UInt8),GapOk g→(∀ y∈l,PcT wide y)→jF (qX1 wide g l)=g++(kF wide l++[125])∧(qX1 wide g l).map wdP=wSs wide l++[(4,[125])]∧∀ t,LexOk (qX1 wide g l) t
 | [],g,hg,_=>by
   refine⟨?_,?_,fun t=>?_⟩
   ·simp [qX1,kF,xC]
   ·simp [qX1,wSs,wdP]
   ·rw [qX1];exact zW 125 hg Yd trivial
 | x :: l,g,hg,h=>by
   have hx:=h x Ym;obtain⟨i1,i2,i3⟩:=jG2 l kI2 kI3 fun y hy=>h y (by simp [hy]);refine⟨?_,?_,fun t=>?_⟩
   ·rw [qX1,qD,jW hx.ne,hx.cat,i1];simp [kF,kI2]
   ·simp [qX1,wSs,vQ,hx.wd,i2]
   ·rw [qX1];refine LexOk.app _ _ _ (jC hg (hx.lex _ ?_)) (i3 t);rw [i1];exact Safe.cons (c:=32) Yd Yd
theorem zO1 {l:List Sx} (h:∀ y∈l,PcT wide y):jF (pcB wide l)=jJ wide l∧(pcB wide l).map wdP=wB wide l∧∀ t,LexOk (pcB wide l) t:=by
 obtain⟨i1,i2,i3⟩:=jG2 l [] .nil h;refine⟨?_,?_,fun t=>?_⟩
 ·rw [zF,i1];simp [jJ]
 ·rw [lY,i2];rfl
 ·exact zW 123 .nil Yd (i3 t)
theorem kB (w:List UInt8) (h:(match w with | []=>false | c :: r=>qM c && r.all yU)=true):∃ c s,w=c :: s∧qM c=true∧∀ x∈s,yU x=true:=by
 cases w with
 | nil=>cases h
 | cons c r =>
   simp only [lZ,List.all_eq_true]at h;exact⟨c,r,rfl,h.1,h.2⟩
theorem qQ {c:UInt8} {t:List UInt8} {P:UInt8→Prop} (h:P c):∀ d,(c :: t).head?=some d→P d:=fun d hd=>by injection hd with hd;exact hd▸h
theorem pcT {x:Sx} (h:vP x):PcT wide x:=by
 induction h with
 | set n x hn hx =>
   have ih:=pcE (wide:=wide) hx;have e1:pcS wide (.mk 1 n [x] 0 [] [])=⟨[],1,n⟩ :: ⟨[],4,[61]⟩ :: pcX wide x:=by simp [pcS]
   have e2:jH wide (.mk 1 n [x] 0 [] [])=n++[61]++zP wide x:=by simp [jH]
   have e3:wS wide (.mk 1 n [x] 0 [] [])=(1,n) :: (4,[61]) :: wX wide x:=by simp [wS]
   refine⟨by rw [e1,e2];simp [zF,ih.cat],by rw [e1,e3];simp [ih.wd,wdP],fun t ht=>?_,by rw [e1];simp⟩;rw [e1];refine qP .nil hn.word ?_ (zJ6 61 .nil Yd Yd Yd Yd Yd (fun d hd=>?_) (ih.lex t ht))
   ·rw [zF];exact qQ Yd
   ·obtain⟨c,r,e,hc⟩:=ih.hd;rw [ih.cat,e]at hd;injection hd with hd;subst hd;unfold wV;rw [beq_false_of_ne hc];simp
 | put n i x hn hi hx =>
   have ih:=pcE (wide:=wide) hx;have jh:=pcE (wide:=wide) hi;have e1:pcS wide (.mk 2 n [i,x] 0 [] [])=⟨[],1,n⟩ :: ⟨[],4,[91]⟩ :: (pcX wide i++⟨[],4,[93]⟩ :: ⟨[],4,[61]⟩ :: pcX wide x):=by simp [pcS]
   have e2:jH wide (.mk 2 n [i,x] 0 [] [])=n++[91]++zP wide i++[93,61]++zP wide x:=by simp [jH]
   have e3:wS wide (.mk 2 n [i,x] 0 [] [])=(1,n) :: (4,[91]) :: (wX wide i++(4,[93]) :: (4,[61]) :: wX wide x):=by simp [wS]
   refine⟨by rw [e1,e2];simp [zF,qD,ih.cat,jh.cat],by rw [e1,e3];simp [ih.wd,jh.wd,wdP],fun t ht=>?_,by rw [e1];simp⟩;rw [e1];refine qP .nil hn.word ?_ (zW 91 .nil Yd (LexOk.app _ _ _ (jh.lex _ ?_) (zW 93 .nil Yd (zJ6 61 .nil Yd Yd Yd Yd Yd (fun d hd=>?_) (ih.lex t ht)))))
   ·rw [zF];exact qQ Yd
   ·rw [zF];exact Safe.cons Yd Yd
   ·obtain⟨c,r,e,hc⟩:=ih.hd;rw [ih.cat,e]at hd;injection hd with hd;subst hd;unfold wV;rw [beq_false_of_ne hc];simp
 | write b x hb hx =>
   have ih:=pcE (wide:=wide) hx;have jh:=pcE (wide:=wide) hb;have e1:pcS wide (.mk 3 [] [b,x] 0 [] [])=⟨[],1,bs "write"⟩ :: (zW4 [32] (pcX wide b)++⟨[],4,[44]⟩ :: pcX wide x):=by simp [pcS]
   have e2:jH wide (.mk 3 [] [b,x] 0 [] [])=bs "write "++(zP wide b++[44]++zP wide x):=by simp [jH,qT]
   have e3:wS wide (.mk 3 [] [b,x] 0 [] [])=(1,bs "write") :: (wX wide b++(4,[44]) :: wX wide x):=by simp [wS]
   have e4:bs "write " = bs "write"++[32]:=Yd;refine⟨by rw [e1,e2,e4];simp [zF,qD,ih.cat,jh.cat,jW jh.ne],by rw [e1,e3];simp [ih.wd,jh.wd,wdP,vQ],fun t ht=>?_,by rw [e1];simp⟩;rw [e1];refine qP .nil (kB _ Yd) ?_ (LexOk.app _ _ _ (jC xP (jh.lex _ ?_)) (zW 44 .nil Yd (ih.lex t ht)))
   ·rw [qD,jW jh.ne];exact qQ Yd
   ·rw [zF];exact Safe.cons Yd Yd
 | flush =>
   have e1:pcS wide (.mk 4 [] [] 0 [] [])=[⟨[],1,bs "flush"⟩]:=by simp [pcS]
   refine⟨by rw [e1];simp [jH,xC],by rw [e1];simp [wS,wdP],fun t ht=>?_,by rw [e1];simp⟩;rw [e1];exact qP .nil (kB _ Yd) (fun d hd=>(ht d hd).1) trivial
 | barrier =>
   have e1:pcS wide (.mk 5 [] [] 0 [] [])=[⟨[],1,bs "barrier"⟩]:=by simp [pcS]
   refine⟨by rw [e1];simp [jH,xC],by rw [e1];simp [wS,wdP],fun t ht=>?_,by rw [e1];simp⟩;rw [e1];exact qP .nil (kB _ Yd) (fun d hd=>(ht d hd).1) trivial
 | ifs x t e hx ht he ih1 ih2 =>
   have ih:=pcE (wide:=wide) hx;obtain⟨t1,t2,t3⟩:=zO1 ih1;obtain⟨u1,u2,u3⟩:=zO1 ih2;have e1:pcS wide (.mk 6 [] [x] 0 t e)=⟨[],1,bs "if"⟩ :: (zW4 [32] (pcX wide x)++(pcB wide t++(if e≠[]∨wide then⟨[],1,bs "else"⟩ :: pcB wide e else []))):=by simp [pcS]
   have e2:jH wide (.mk 6 [] [x] 0 t e)=bs "if "++zP wide x++jJ wide t++(if e≠[]∨wide then bs "else"++jJ wide e else []):=by simp [jH,jJ]
   have e3:wS wide (.mk 6 [] [x] 0 t e)=(1,bs "if") :: (wX wide x++(wB wide t++(if e≠[]∨wide then(1,bs "else") :: wB wide e else []))):=by simp [wS]
   have e4:bs "if " = bs "if"++[32]:=Yd;by_cases hel:e≠[]∨wide=true
   ·rw [lM hel]at e1 e2 e3;refine⟨?_,?_,fun t' ht'=>?_,by rw [e1];simp⟩
    ·rw [e1,e2,e4,zF,qD,qD,jW ih.ne,ih.cat,t1,zF,u1];simp
    ·rw [e1,e3,lY,cB,cB,vQ,ih.wd,t2,lY,u2];rfl
    ·rw [e1];refine qP .nil (kB _ Yd) ?_ (LexOk.app _ _ _ (jC xP (ih.lex _ ?_)) (LexOk.app _ _ _ (t3 _) (qP .nil (kB _ Yd) ?_ (u3 _))))
     ·rw [qD,jW ih.ne];exact qQ Yd
     ·rw [qD,zF];exact Safe.cons Yd Yd
     ·rw [zF];exact qQ Yd
   ·rw [lN hel]at e1 e2 e3;refine⟨?_,?_,fun t' ht'=>?_,by rw [e1];simp⟩
    ·rw [e1,e2,e4,zF,qD,qD,jW ih.ne,ih.cat,t1];simp [zF5]
    ·rw [e1,e3,lY,cB,cB,vQ,ih.wd,t2];rfl
    ·rw [e1];refine qP .nil (kB _ Yd) ?_ (LexOk.app _ _ _ (jC xP (ih.lex _ ?_)) (LexOk.app _ _ _ (t3 _) trivial))
     ·rw [qD,jW ih.ne];exact qQ Yd
     ·rw [qD,zF];exact Safe.cons Yd Yd
 | loop x b t hx hb ht ih1 =>
   have ih:=pcE (wide:=wide) hx;obtain⟨t1,t2,t3⟩:=zO1 ih1;have e1:pcS wide (.mk 7 [] [x] b t [])=⟨[],1,bs "while"⟩ :: (zW4 [32] (pcX wide x)++⟨[32],1,bs "bound"⟩ :: ⟨[32],2,qZ b⟩ :: pcB wide t):=by simp [pcS]
   have e2:jH wide (.mk 7 [] [x] b t [])=bs "while "++zP wide x++bs " bound "++qZ b++jJ wide t:=by simp [jH,jJ]
   have e3:wS wide (.mk 7 [] [x] b t [])=(1,bs "while") :: (wX wide x++(1,bs "bound") :: (2,qZ b) :: wB wide t):=by simp [wS]
   have e4:bs "while " = bs "while"++[32]:=Yd;have e5:bs " bound " = [32]++bs "bound"++[32]:=Yd;refine⟨?_,?_,fun t' ht'=>?_,by rw [e1];simp⟩
   ·rw [e1,e2,e4,e5,zF,qD,zF,zF,jW ih.ne,ih.cat,t1];simp
   ·rw [e1,e3,lY,cB,lY,lY,vQ,ih.wd,t2];rfl
   ·rw [e1];refine qP .nil (kB _ Yd) ?_ (LexOk.app _ _ _ (jC xP (ih.lex _ ?_)) (qP xP (kB _ Yd) ?_ (zD7 xP hb ?_ (t3 _))))
    ·rw [qD,jW ih.ne];exact qQ Yd
    ·rw [zF];exact Safe.cons Yd Yd
    ·rw [zF];exact qQ Yd
    ·rw [zF];exact qQ Yd
 | call n es hn hes =>
   obtain⟨c1,c2,c3⟩:=qR4 (wide:=wide) es hes;have e1:pcS wide (.mk 8 n es 0 [] [])=⟨[],1,bs "call"⟩ :: ⟨[32],1,n⟩ :: ⟨[],4,[40]⟩ :: (zP5 (es.map (pcX wide))++[⟨[],4,[41]⟩]):=by simp [pcS]
   have e2:jH wide (.mk 8 n es 0 [] [])=bs "call "++n++[40]++qT (es.map (zP wide))++[41]:=by simp [jH]
   have e3:wS wide (.mk 8 n es 0 [] [])=(1,bs "call") :: (1,n) :: (4,[40]) :: (kO (es.map (wX wide))++[(4,[41])]):=by simp [wS]
   have e4:bs "call " = bs "call"++[32]:=Yd;refine⟨?_,?_,fun t' ht'=>?_,by rw [e1];simp⟩
   ·rw [e1,e2,e4,zF,zF,zF,qD,xC,c1];simp
   ·rw [e1,e3,lY,lY,lY,cB,c2];rfl
   ·rw [e1];refine qP .nil (kB _ Yd) ?_ (qP xP hn.word ?_ (zW 40 .nil Yd (LexOk.app _ _ _ (c3 _ ?_) (zW 41 .nil Yd trivial))))
    ·rw [zF];exact qQ Yd
    ·rw [zF];exact qQ Yd
    ·rw [xC];exact Safe.cons Yd Yd
end
end
section
def pcD (w:List UInt8) (arr:Bool) (x:Dx):List Pc:=⟨[10],1,w⟩ :: ⟨[32],1,x.name⟩ :: ((if arr then [⟨[],4,[91]⟩,⟨[],2,qZ x.size.toNat⟩,⟨[],4,[93]⟩] else [])++[⟨[],4,[58]⟩,⟨[],2,qZ x.width.toNat⟩])
theorem kA6:GapOk [10]:=.one Yd
structure PcOk (l:List Pc) (t:List UInt8) (w:List Wd):Prop where
 cat:jF l=t
 wd:l.map wdP=w
 lex:∀ u,Safe u→LexOk l u
theorem PcOk.nil:PcOk [] [] []:=⟨rfl,rfl,fun _ _=>trivial⟩
theorem PcOk.app {a b:List Pc} {s t:List UInt8} {v w:List Wd} (h:PcOk a s v) (k:PcOk b t w) (hs:b=[]∨∀ u,Safe (t++u)):PcOk (a++b) (s++t) (v++w):=by
 refine⟨by rw [qD,h.cat,k.cat],by rw [cB,h.wd,k.wd],fun u hu=>LexOk.app _ _ _ (h.lex _ ?_) (k.lex u hu)⟩;rw [k.cat];rcases hs with rfl | hs
 ·rw [←k.cat];exact hu
 ·exact hs u
section
variable {wide:Bool}
theorem kA7 (w:List UInt8) (ws:String) (he:bs ("\n"++ws)=[10]++w++[32]) (hw:∃ c s,w=c :: s∧qM c=true∧∀ x∈s,yU x=true) (arr:Bool) {x:Dx} (h:zJ4 arr x):PcOk (pcD w arr x) (wQ ws arr x) (wD w arr x)∧∀ u,Safe (wQ ws arr x++u):=by
 obtain⟨hn,⟨k,hk,hk1⟩,⟨m,hm,hm1,_⟩⟩:=h;have hs:∀ u,Safe (wQ ws arr x++u):=fun u=>by unfold wQ;rw [he];exact Safe.cons (c:=10) Yd Yd
 refine⟨⟨?_,?_,fun u hu=>?_⟩,hs⟩
 ·unfold pcD wQ;rw [he];cases arr <;> simp [zF,zF5]
 ·cases arr <;> simp [pcD,wD,wdP]
 ·unfold pcD;rw [hk,hm];have hd:∀ d,u.head?=some d→zV d=false∧d.toNat≠58:=fun d hd=>⟨vZ (hu d hd).1,(hu d hd).2⟩;have key:LexOk ([⟨[],4,[58]⟩,⟨[],2,qZ k⟩]:List Pc) u:=zW 58 .nil Yd (zD7 .nil hk1 hd trivial);refine qP kA6 hw ?_ (qP xP hn.word ?_ ?_)
  ·rw [zF];exact qQ Yd
  ·cases arr
   ·exact qQ (c:=58) Yd
   ·exact qQ (c:=91) Yd
  ·cases arr
   ·exact key
   ·exact zW 91 .nil Yd (zD7 .nil hm1 (qQ (c:=93) Yd) (zW 93 .nil Yd key))
theorem zJ8 (w:List UInt8) (ws:String) (he:bs ("\n"++ws)=[10]++w++[32]) (hw:∃ c s,w=c :: s∧qM c=true∧∀ x∈s,yU x=true) (arr:Bool):∀ (l:List Dx),(∀ x∈l,zJ4 arr x)→PcOk (l.flatMap (pcD w arr)) (l.flatMap (wQ ws arr)) (l.flatMap (wD w arr))∧(l.flatMap (pcD w arr)=[]∨∀ u,Safe (l.flatMap (wQ ws arr)++u))
 | [],_=>⟨.nil,.inl rfl⟩
 | x :: l,h=>by obtain⟨h1,h2⟩:=kA7 w ws he hw arr (h x Ym);obtain⟨i1,i2⟩:=zJ8 w ws he hw arr l fun y hy=>h y (by simp [hy]);rw [lQ,lQ,lQ];refine⟨h1.app i1 i2,.inr fun u=>?_⟩;rw [lS];exact h2 _
def qG4 (x:Dx):List Pc:=[⟨[],1,x.name⟩,⟨[],4,[58]⟩,⟨[],2,qZ x.width.toNat⟩]
def jU5:List Dx→List Pc
 | []=>[]
 | x :: r=>qG4 x++r.flatMap fun x=>⟨[],4,[44]⟩ :: qG4 x
def qX2 (x:Dx):List UInt8:=x.name++[58]++qZ x.width.toNat
theorem jU6 {x:Dx} (h:zJ4 false x):PcOk (qG4 x) (qX2 x) (jF3 x):=by obtain⟨hn,⟨k,hk,hk1⟩,_⟩:=h;refine⟨by unfold qG4 qX2;simp [zF,zF5],rfl,fun u hu=>?_⟩;unfold qG4;rw [hk];exact qP .nil hn.word (qQ (c:=58) Yd) (zW 58 .nil Yd (zD7 .nil hk1 (fun d hd=>⟨vZ (hu d hd).1,(hu d hd).2⟩) trivial))
theorem qG5:∀ (l:List Dx),(∀ x∈l,zJ4 false x)→PcOk (l.flatMap fun x=>⟨[],4,[44]⟩ :: qG4 x) (l.flatMap fun x=>44 :: qX2 x) (l.flatMap fun x=>(4,[44]) :: jF3 x)∧((l.flatMap fun x=>⟨[],4,[44]⟩ :: qG4 x)=([]:List Pc)∨∀ u,Safe ((l.flatMap fun x=>44 :: qX2 x)++u))
 | [],_=>⟨.nil,.inl rfl⟩
 | x :: l,h=>by have h1:=jU6 (h x Ym);obtain⟨i1,i2⟩:=qG5 l fun y hy=>h y (by simp [hy]);rw [lQ,lQ,lQ];have h2:PcOk (⟨[],4,[44]⟩ :: qG4 x) (44 :: qX2 x) ((4,[44]) :: jF3 x):=⟨by rw [zF,h1.cat];rfl,by rw [lY,h1.wd];rfl,fun u hu=>zW 44 .nil Yd (h1.lex u hu)⟩;exact⟨h2.app i1 i2,.inr fun u=>Safe.cons (c:=44) Yd Yd⟩
theorem zU1:∀ (x:Dx) (l:List Dx),qT ((x :: l).map qX2)=qX2 x++l.flatMap fun x=>44 :: qX2 x
 | x,[]=>by simp [qT]
 | x,y :: l=>by have e:qT ((x :: y :: l).map qX2)=qX2 x++[44]++qT ((y :: l).map qX2):=rfl;rw [e,zU1 y l];simp
theorem kA8 (l:List Dx) (h:∀ x∈l,zJ4 false x):PcOk (jU5 l) (qT (l.map qX2)) (zN9 l):=by
 cases l with
 | nil=>exact .nil
 | cons x l =>
   obtain⟨i1,i2⟩:=qG5 l fun y hy=>h y (by simp [hy]);rw [zU1];exact(jU6 (h x Ym)).app i1 i2
def pcR (wide:Bool) (x:Rx):List Pc:=⟨[10],1,bs "proc"⟩ :: ⟨[32],1,x.name⟩ :: ⟨[],4,[40]⟩ :: (jU5 x.params++⟨[],4,[41]⟩ :: pcB wide x.body)
def zU2 (wide:Bool) (x:Rx):List UInt8:=bs "\nproc "++x.name++[40]++qT (x.params.map fun d=>d.name++[58]++qZ d.width.toNat)++[41]++jJ wide x.body
theorem kA9 {x:Rx} (h:qM7 x):PcOk (pcR wide x) (zU2 wide x) (wR wide x)∧∀ u,Safe (zU2 wide x++u):=by
 have hp:=kA8 x.params h.p;obtain⟨b1,b2,b3⟩:=zO1 (wide:=wide) fun y hy=>pcT (h.b y hy);have e:bs "\nproc " = [10]++bs "proc"++[32]:=Yd;have ep:(fun d:Dx=>d.name++[58]++qZ d.width.toNat)=qX2:=rfl;refine⟨⟨?_,?_,fun u hu=>?_⟩,fun u=>?_⟩
 ·unfold pcR zU2;rw [ep,e,zF,zF,zF,qD,hp.cat,zF,b1];simp
 ·unfold pcR wR;rw [lY,lY,lY,cB,hp.wd,lY,b2];rfl
 ·unfold pcR;refine qP kA6 (kB _ Yd) ?_ (qP xP h.n.word (qQ (c:=40) Yd) (zW 40 .nil Yd (LexOk.app _ _ _ (hp.lex _ (Safe.cons (c:=41) Yd Yd)) (zW 41 .nil Yd (b3 u)))));rw [zF];exact qQ Yd
 ·unfold zU2;rw [e];exact Safe.cons (c:=10) Yd Yd
theorem qR5:∀ (l:List Rx),(∀ x∈l,qM7 x)→PcOk (l.flatMap (pcR wide)) (l.flatMap (zU2 wide)) (l.flatMap (wR wide))∧(l.flatMap (pcR wide)=[]∨∀ u,Safe (l.flatMap (zU2 wide)++u))
 | [],_=>⟨.nil,.inl rfl⟩
 | x :: l,h=>by obtain⟨h1,h2⟩:=kA9 (wide:=wide) (h x Ym);obtain⟨i1,i2⟩:=qR5 l fun y hy=>h y (by simp [hy]);rw [lQ,lQ,lQ];refine⟨h1.app i1 i2,.inr fun u=>?_⟩;rw [lS];exact h2 _
def pcI (wide:Bool) (x:Ix):List Pc:=⟨[32],1,bs "init"⟩ :: ⟨[32],2,qZ x.block.toNat⟩ :: ⟨[],4,[61]⟩ :: pcX wide x.value
def zW9 (wide:Bool) (x:Ix):List UInt8:=bs " init "++qZ x.block.toNat++[61]++zP wide x.value
theorem kB1 {x:Ix} (h:jF8 x):PcOk (pcI wide x) (zW9 wide x) (wI wide x)∧∀ u,Safe (zW9 wide x++u):=by
 obtain⟨⟨k,hk,hk1⟩,hv⟩:=h;have ih:=pcE (wide:=wide) hv;have e:bs " init " = [32]++bs "init"++[32]:=Yd;refine⟨⟨?_,?_,fun u hu=>?_⟩,fun u=>?_⟩
 ·unfold pcI zW9;rw [e,zF,zF,zF,ih.cat];simp
 ·unfold pcI wI;rw [lY,lY,lY,ih.wd];rfl
 ·unfold pcI;rw [hk];refine qP xP (kB _ Yd) ?_ (zD7 xP hk1 (qQ (c:=61) Yd) (zJ6 61 .nil Yd Yd Yd Yd Yd (fun d hd=>?_) (ih.lex u hu)))
  ·rw [zF];exact qQ Yd
  ·obtain⟨c,r,e,hc⟩:=ih.hd;rw [ih.cat,e]at hd;injection hd with hd;subst hd;unfold wV;rw [beq_false_of_ne hc];simp
 ·unfold zW9;rw [e];exact Safe.cons (c:=32) Yd Yd
theorem qR6:∀ (l:List Ix),(∀ x∈l,jF8 x)→PcOk (l.flatMap (pcI wide)) (l.flatMap (zW9 wide)) (l.flatMap (wI wide))∧(l.flatMap (pcI wide)=[]∨∀ u,Safe (l.flatMap (zW9 wide)++u))
 | [],_=>⟨.nil,.inl rfl⟩
 | x :: l,h=>by obtain⟨h1,h2⟩:=kB1 (wide:=wide) (h x Ym);obtain⟨i1,i2⟩:=qR6 l fun y hy=>h y (by simp [hy]);rw [lQ,lQ,lQ];refine⟨h1.app i1 i2,.inr fun u=>?_⟩;rw [lS];exact h2 _
def pc1 (wide:Bool) (p:Gx):List Pc:=⟨[],1,bs "invariant"⟩ :: zW4 [32] (pcX wide p.invariant)
def pc2 (wide:Bool) (p:Gx):List Pc:=⟨[10],1,bs "work"⟩ :: (pcB wide p.work++⟨[],1,bs "recover"⟩ :: (pcB wide p.recover++pc1 wide p))
def pc3 (wide:Bool) (p:Gx):List Pc:=p.inits.flatMap (pcI wide)++(p.procs.flatMap (pcR wide)++pc2 wide p)
def pc4 (wide:Bool) (p:Gx):List Pc:=⟨[32],1,bs "require"⟩ :: (zW4 [32] (pcX wide p.require)++pc3 wide p)
def pc5 (wide:Bool) (p:Gx):List Pc:=p.vars.flatMap (pcD (bs "var") false)++(p.arrays.flatMap (pcD (bs "array") true)++pc4 wide p)
def pc6 (wide:Bool) (p:Gx):List Pc:=p.inputs.flatMap (pcD (bs "input") false)++(p.ghosts.flatMap (pcD (bs "ghost") false)++pc5 wide p)
def pcG (wide:Bool) (p:Gx):List Pc:=⟨[],1,bs "device"⟩ :: ⟨[32],2,qZ p.blocks.toNat⟩ :: ⟨[32],1,bs "width"⟩ :: ⟨[32],2,qZ p.width.toNat⟩ :: pc6 wide p
theorem qG6 {p:Gx} (h:zW8 p):PcOk (pcG wide p) (zH2 wide p) (wG wide p):=by
 obtain⟨kb,hkb,hkb1⟩:=h.b;obtain⟨kw,hkw,hkw1⟩:=h.w;have hiv:=pcE (wide:=wide) h.iv;have hrq:=pcE (wide:=wide) h.rq;obtain⟨w1,w2,w3⟩:=zO1 (wide:=wide) fun y hy=>pcT (h.wk y hy);obtain⟨r1,r2,r3⟩:=zO1 (wide:=wide) fun y hy=>pcT (h.rc y hy);have o1:PcOk (pc1 wide p) (bs "invariant "++zP wide p.invariant) (wG1 wide p):=by have e:bs "invariant " = bs "invariant"++[32]:=Yd;refine⟨by unfold pc1;rw [zF,jW hiv.ne,hiv.cat,e];simp,by unfold pc1 wG1;rw [lY,vQ,hiv.wd];rfl,fun u hu=>?_⟩;unfold pc1;refine qP .nil (kB _ Yd) ?_ (jC xP (hiv.lex u hu));rw [jW hiv.ne];exact qQ Yd
 have o2:PcOk (pc2 wide p) (bs "\nwork"++(jJ wide p.work++(bs "recover"++(jJ wide p.recover++(bs "invariant "++zP wide p.invariant))))) (wG2 wide p):=by
  have e:bs "\nwork" = [10]++bs "work":=Yd;refine⟨by unfold pc2;rw [zF,qD,w1,zF,qD,r1,o1.cat,e];simp,by unfold pc2 wG2;rw [lY,cB,w2,lY,cB,r2,o1.wd];rfl,fun u hu=>?_⟩;unfold pc2;refine qP kA6 (kB _ Yd) ?_ (LexOk.app _ _ _ (w3 _) (qP .nil (kB _ Yd) ?_ (LexOk.app _ _ _ (r3 _) (o1.lex u hu))))
  ·rw [qD,zF];exact qQ Yd
  ·rw [qD,zF];exact qQ Yd
 have s2:∀ u,Safe ((bs "\nwork"++(jJ wide p.work++(bs "recover"++(jJ wide p.recover++(bs "invariant "++zP wide p.invariant)))))++u):=fun u=>by have e:bs "\nwork" = [10]++bs "work":=Yd;rw [e];exact Safe.cons (c:=10) Yd Yd
 obtain⟨p1,p2⟩:=qR5 (wide:=wide) p.procs h.prs;obtain⟨i1,i2⟩:=qR6 (wide:=wide) p.inits h.its;have o3:=p1.app o2 (.inr s2);have s3:∀ u,Safe ((p.procs.flatMap (zU2 wide)++(bs "\nwork"++(jJ wide p.work++(bs "recover"++(jJ wide p.recover++(bs "invariant "++zP wide p.invariant))))))++u):=fun u=>by
  rw [lS];rcases p2 with h0 | h0
  ·rw [←p1.cat,h0];exact s2 u
  ·exact h0 _
 have o4:=i1.app o3 (.inr s3);have s4:∀ u,Safe ((p.inits.flatMap (zW9 wide)++(p.procs.flatMap (zU2 wide)++(bs "\nwork"++(jJ wide p.work++(bs "recover"++(jJ wide p.recover++(bs "invariant "++zP wide p.invariant)))))))++u):=fun u=>by
  rw [lS];rcases i2 with h0 | h0
  ·rw [←i1.cat,h0];exact s3 u
  ·exact h0 _
 have e5:bs " require " = [32]++bs "require"++[32]:=Yd;have o5:PcOk (pc4 wide p) (bs " require "++(zP wide p.require++(p.inits.flatMap (zW9 wide)++(p.procs.flatMap (zU2 wide)++(bs "\nwork"++(jJ wide p.work++(bs "recover"++(jJ wide p.recover++(bs "invariant "++zP wide p.invariant))))))))) (wG4 wide p):=by
  refine⟨?_,?_,fun u hu=>?_⟩
  ·unfold pc4 pc3;rw [zF,qD,jW hrq.ne,hrq.cat,o4.cat,e5];simp
  ·unfold pc4 pc3 wG4 wG3;rw [lY,cB,vQ,hrq.wd,o4.wd];rfl
  ·unfold pc4 pc3;refine qP xP (kB _ Yd) ?_ (LexOk.app _ _ _ (jC xP (hrq.lex _ ?_)) (o4.lex u hu))
   ·rw [qD,jW hrq.ne];exact qQ Yd
   ·rw [o4.cat];exact s4 u
 have s5:∀ u,Safe ((bs " require "++(zP wide p.require++(p.inits.flatMap (zW9 wide)++(p.procs.flatMap (zU2 wide)++(bs "\nwork"++(jJ wide p.work++(bs "recover"++(jJ wide p.recover++(bs "invariant "++zP wide p.invariant)))))))))++u):=fun u=>by rw [e5];exact Safe.cons (c:=32) Yd Yd
 obtain⟨d1,q1⟩:=zJ8 (bs "array") "array " Yd (kB _ Yd) true p.arrays h.az;obtain⟨d2,q2⟩:=zJ8 (bs "var") "var " Yd (kB _ Yd) false p.vars h.vs;obtain⟨d3,q3⟩:=zJ8 (bs "ghost") "ghost " Yd (kB _ Yd) false p.ghosts h.gs;obtain⟨d4,q4⟩:=zJ8 (bs "input") "input " Yd (kB _ Yd) false p.inputs h.ins;have app_safe:∀ {a b:List UInt8} {l:List Pc},jF l=a→(l=[]∨∀ u,Safe (a++u))→(∀ u,Safe (b++u))→∀ u,Safe ((a++b)++u):=by
  intro a b l hc h0 hb u;rw [lS];rcases h0 with h0 | h0
  ·rw [←hc,h0];exact hb u
  ·exact h0 _
 have o6:=d1.app o5 (.inr s5);have s6:=app_safe d1.cat q1 s5;have o7:=d2.app o6 (.inr s6);have s7:=app_safe d2.cat q2 s6;have o8:=d3.app o7 (.inr s7);have s8:=app_safe d3.cat q3 s7;have o9:=d4.app o8 (.inr s8);have s9:=app_safe d4.cat q4 s8;have e1:bs "device " = bs "device"++[32]:=Yd;have e2:bs " width " = [32]++bs "width"++[32]:=Yd;have ep:(fun x:Rx=>bs "\nproc "++x.name++[40]++qT (x.params.map fun d=>d.name++[58]++qZ d.width.toNat)++[41]++jJ wide x.body)=zU2 wide:=rfl;have ei:(fun x:Ix=>bs " init "++qZ x.block.toNat++[61]++zP wide x.value)=zW9 wide:=rfl;refine⟨?_,?_,fun u hu=>?_⟩
 ·have:=o9.cat;unfold pcG pc6 pc5;rw [zF,zF,zF,zF,this];unfold zH2;rw [ep,ei,e1,e2];simp
 ·have:=o9.wd;unfold pcG pc6 pc5 wG wG6 wG5;rw [lY,lY,lY,lY,this];rfl
 ·unfold pcG pc6 pc5;rw [hkb,hkw];refine qP .nil (kB _ Yd) (qQ (c:=32) Yd) (zD7 xP hkb1 (qQ (c:=32) Yd) (qP xP (kB _ Yd) (qQ (c:=32) Yd) (zD7 xP hkw1 ?_ (o9.lex u hu))));intro d hd;rw [o9.cat]at hd;have:=s9 u d hd;exact⟨vZ this.1,this.2⟩
theorem jG3:∀ (l:List Pc) (o i:Nat),((yI o l)[i]?).map (fun t=>(t.kind,t.text))=(l[i]?).map wdP
 | [],o,i=>by simp [yI]
 | p :: r,o,0=>rfl
 | p :: r,o,i+1=>by rw [yI,List.getElem?_cons_succ,List.getElem?_cons_succ];exact jG3 r _ i
theorem zU3 (t:List UInt8) (l:List Pc) (o n:Nat):nw ⟨t,yI o l⟩ n=((l[n]?).map wdP).getD (0,[]):=by have h:=jG3 l o n;unfold nw;show(match (yI o l)[n]? with | some t=>(t.kind,t.text) | none=>(0,[]))=_;rw [←h];cases (yI o l)[n]? <;> rfl
theorem qM8 (t:List UInt8) (o:Nat) (l:List Pc):∀ (m:List Pc) (n:Nat),(∀ i p,m[i]?=some p→l[n+i]?=some p)→AtW ⟨t,yI o l⟩ n (m.map wdP)
 | [],n,_=>trivial
 | p :: r,n,h=>by
   refine⟨?_,qM8 t o l r (n+1) fun i q hq=>?_⟩
   ·rw [zU3,show l[n]?=some p from h 0 p rfl];rfl
   ·rw [Nat.add_assoc,Nat.add_comm 1 i];exact h (i+1) q hq
theorem xV:∀ (l:List Pc) (o:Nat),(yI o l).length=l.length
 | [],_=>rfl
 | p :: r,o=>by simp [yI,xV r]
theorem kI4 {p:Gx} (hg:zW8 p) (hf:kE1 p):zI3 (kG (zH2 wide p))=none∧zY (zH2 wide p) (kG (zH2 wide p))=yI 0 (pcG wide p) ∧
 Ev fun f=>kH ⟨zH2 wide p,yI 0 (pcG wide p)⟩ f (Qt 0 0 0 [])=some (p,Qt (pcG wide p).length 0 0 (plG ⟨zH2 wide p,yI 0 (pcG wide p)⟩ wide p)):=by
 have hp:=qG6 (wide:=wide) hg;have ht:=zJ2 (pcG wide p) [] (hp.lex [] Safe.nil) rfl;rw [cT,hp.cat]at ht;refine⟨ht.2,ht.1,?_⟩;have hl:(wG wide p).length=(pcG wide p).length:=by rw [←hp.wd,lW]
 rw [←hl];refine kQ5 _ wide p 0 hg hf ?_ ?_
 ·rw [←hp.wd];exact qM8 _ 0 _ _ 0 fun i q hq=>by rw [Nat.zero_add];exact hq
 ·rw [zU3,hl,cW (lF _)];exact⟨Yd,Yd,Yd,Yd⟩
end
end
end Go.Proofs.YtfdaebgllibphaaGreatDoor
