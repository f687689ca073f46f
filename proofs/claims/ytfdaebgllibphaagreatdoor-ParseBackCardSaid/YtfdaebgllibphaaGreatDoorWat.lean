import Derived.Lib.Replace
import Derived.Lib.CountLaws
import Derived.Maps.Own
import Derived.Test.YtfdaebgllibphaaGreatDoorWas
set_option linter.unusedVariables false
set_option linter.unusedSimpArgs false
set_option maxRecDepth 100000
set_option maxHeartbeats 16000000
namespace Go.Proofs.YtfdaebgllibphaaGreatDoor
open Go.Proofs.Tryz
section
open Go.RowKit Go.PlainAid
theorem kW7 (x:Ix) (S U:SV) (w:World) (hz:szX x.value≤1000000000) (hS:Ud (IxP (fun _=>True) w x S)) (hU:Ud (IxP (fun _=>True) w x U)) :
 Calls prog 64 #[.agg (kV9 x S),.agg (kV9 x U)] w fun e w'=>e=.returned (.bool true)∧Below w.heap.size w w':=by
 have HE:Ud (∀ W,Ue w W→Calls prog 65 #[.agg (qD5 x.value S),.agg (qD5 x.value U)] W fun e w'=>e=.returned (.bool true)∧Ue W w'):=Ph fun W h=>qD1 _ x.value S U W (lF _) hz (Ph (hS.o.t.bel h)) (Ph (hU.o.t.bel h));obtain⟨SA,Sn,Sc⟩:=S;obtain⟨UA,Un,Uc⟩:=U;obtain⟨kb,hkb⟩:∃ k,x.block=k:=⟨_,rfl⟩;obtain⟨k0,hk0⟩:∃ k,(x.value.kind:Int)=k:=⟨_,rfl⟩;obtain⟨k1,hk1⟩:∃ k,(x.value.op:Int)=k:=⟨_,rfl⟩;obtain⟨k2,hk2⟩:∃ k,(x.value.value:Int)=k:=⟨_,rfl⟩;obtain⟨k3,hk3⟩:∃ k,x.value.width=k:=⟨_,rfl⟩;obtain⟨k4,hk4⟩:∃ k,str x.value.name=k:=⟨_,rfl⟩;unfold kV9 uR;dsimp only [qD5]at HE;rw [hkb,hk0,hk1,hk2,hk3,hk4];rw [hk0,hk1,hk2,hk3,hk4]at HE;clear hkb hk0 hk1 hk2 hk3 hk4;have h1:=(Bk.new w 90 #[uI kb,uB k0,uB k1,uW k2,uI k3,.string k4,.slice SA Sn Sc]).alloc (.cells #[uI kb,uB k0,uB k1,uW k2,uI k3,.string k4,.slice UA Un Uc] 90);have h2:=Bk.new (w.alloc (.cells #[uI kb,uB k0,uB k1,uW k2,uI k3,.string k4,.slice SA Sn Sc] 90)) 90 #[uI kb,uB k0,uB k1,uW k2,uI k3,.string k4,.slice UA Un Uc];simp only [lO]at h2;have H1:=Ph h1;have H2:=Ph h2;have HB0:Ud (Ue w ((w.alloc (.cells #[uI kb,uB k0,uB k1,uW k2,uI k3,.string k4,.slice SA Sn Sc] 90)).alloc (.cells #[uI kb,uB k0,uB k1,uW k2,uI k3,.string k4,.slice UA Un Uc] 90))):=Ph (zG (zG (lB _ _) _) _);clear h1 h2;go_enter func64,ntmps64
 go_upto_region 1 with fail
 generalize ((World.alloc _ _))=W at H1 H2 HB0 ⊢;obtain⟨b1,hb1⟩:∃ b,w.heap.size=b:=⟨_,rfl⟩;obtain⟨b2,hb2⟩:∃ b,w.heap.size+1=b:=⟨_,rfl⟩;rw [hb1]at H1;rw [hb2]at H2;rw [hb2,hb1];clear hb1 hb2;have x0:W.cell? ⟨b1,0,none⟩=some (uI kb):=H1.o.cell 0;have x1:W.cell? ⟨b1,1,none⟩=some (uB k0):=H1.o.cell 1;have x2:W.cell? ⟨b1,2,none⟩=some (uB k1):=H1.o.cell 2;have x3:W.cell? ⟨b1,3,none⟩=some (uW k2):=H1.o.cell 3;have x4:W.cell? ⟨b1,4,none⟩=some (uI k3):=H1.o.cell 4;have x5:W.cell? ⟨b1,5,none⟩=some (.string k4):=H1.o.cell 5;have x6:W.cell? ⟨b1,6,none⟩=some (.slice SA Sn Sc):=H1.o.cell 6;have z0:W.cell? ⟨b2,0,none⟩=some (uI kb):=H2.o.cell 0;have z1:W.cell? ⟨b2,1,none⟩=some (uB k0):=H2.o.cell 1;have z2:W.cell? ⟨b2,2,none⟩=some (uB k1):=H2.o.cell 2;have z3:W.cell? ⟨b2,3,none⟩=some (uW k2):=H2.o.cell 3;have z4:W.cell? ⟨b2,4,none⟩=some (uI k3):=H2.o.cell 4;have z5:W.cell? ⟨b2,5,none⟩=some (.string k4):=H2.o.cell 5;have z6:W.cell? ⟨b2,6,none⟩=some (.slice UA Un Uc):=H2.o.cell 6;go_wp2_with fail
 refine(HE.o _ HB0.o).mono ?_;rintro e w1 ⟨rfl,hb⟩;have HB1:Ud (Ue w w1):=Ph (HB0.o.trans (hb.mono HB0.o.size));have H1':=Ph (zD H1.o hb);have H2':=Ph (zD H2.o hb);clear hb x0 x1 x2 x3 x4 x5 x6 z0 z1 z2 z3 z4 z5 z6 H1 H2;have H1:=H1';have H2:=H2';clear H1' H2';have x0:w1.cell? ⟨b1,0,none⟩=some (uI kb):=H1.o.cell 0;have x1:w1.cell? ⟨b1,1,none⟩=some (uB k0):=H1.o.cell 1;have x2:w1.cell? ⟨b1,2,none⟩=some (uB k1):=H1.o.cell 2;have x3:w1.cell? ⟨b1,3,none⟩=some (uW k2):=H1.o.cell 3;have x4:w1.cell? ⟨b1,4,none⟩=some (uI k3):=H1.o.cell 4;have x5:w1.cell? ⟨b1,5,none⟩=some (.string k4):=H1.o.cell 5;have x6:w1.cell? ⟨b1,6,none⟩=some (.slice SA Sn Sc):=H1.o.cell 6;have z0:w1.cell? ⟨b2,0,none⟩=some (uI kb):=H2.o.cell 0;have z1:w1.cell? ⟨b2,1,none⟩=some (uB k0):=H2.o.cell 1;have z2:w1.cell? ⟨b2,2,none⟩=some (uB k1):=H2.o.cell 2;have z3:w1.cell? ⟨b2,3,none⟩=some (uW k2):=H2.o.cell 3;have z4:w1.cell? ⟨b2,4,none⟩=some (uI k3):=H2.o.cell 4;have z5:w1.cell? ⟨b2,5,none⟩=some (.string k4):=H2.o.cell 5;have z6:w1.cell? ⟨b2,6,none⟩=some (.slice UA Un Uc):=H2.o.cell 6;go_wp2_with fail
 go_ret;exact⟨rfl,HB1.o⟩
theorem kW8 (x:Rx) (S U:SV×SV) (w:World) (hz:yE x.body≤1000000000) (hp:x.params.length≤1000000000) (hS:Ud (RxP (fun _=>True) w x S)) (hU:Ud (RxP (fun _=>True) w x U)) :
 Calls prog 66 #[.agg (kW1 x S),.agg (kW1 x U)] w fun e w'=>e=.returned (.bool true)∧Below w.heap.size w w':=by
 obtain⟨⟨SA,Sn,Sc⟩,⟨VA,Vn,Vc⟩⟩:=S;obtain⟨⟨UA,Un,Uc⟩,⟨XA,Xn,Xc⟩⟩:=U;have HE:Ud (∀ W,Ue w W→Calls prog 63 #[.slice SA Sn Sc,.slice UA Un Uc] W fun e w'=>e=.returned (.bool true)∧Ue W w'):=Ph fun W h=>eqD x.params ⟨SA,Sn,Sc⟩ ⟨UA,Un,Uc⟩ W (Ph (hS.o.ps.stay itD qC (Stays.below h))) (Ph (hU.o.ps.stay itD qC (Stays.below h))) hp;have HG:Ud (∀ W,Ue w W→Calls prog 46 #[.slice VA Vn Vc,.slice XA Xn Xc,uF 47] W fun e w'=>e=.returned (.bool true)∧Ue W w'):=Ph fun W h=>kV8 x.body ⟨VA,Vn,Vc⟩ ⟨XA,Xn,Xc⟩ W (Ph (hS.o.b.stay (Stays.below h))) (Ph (hU.o.b.stay (Stays.below h))) (by have:=zV9 x.body;omega) (Ph fun y hy V V' W h1 h2=>qS7 _ y V V' W (lF _) (by have:=vC hy;omega) h1 h2);obtain⟨k4,hk4⟩:∃ k,str x.name=k:=⟨_,rfl⟩;unfold kW1 uR;dsimp only;rw [hk4];clear hk4;have h1:=(Bk.new w 93 #[.string k4,.slice SA Sn Sc,.slice VA Vn Vc]).alloc (.cells #[.string k4,.slice UA Un Uc,.slice XA Xn Xc] 93);have h2:=Bk.new (w.alloc (.cells #[.string k4,.slice SA Sn Sc,.slice VA Vn Vc] 93)) 93 #[.string k4,.slice UA Un Uc,.slice XA Xn Xc];simp only [lO]at h2;have H1:=Ph h1;have H2:=Ph h2;have HB0:Ud (Ue w ((w.alloc (.cells #[.string k4,.slice SA Sn Sc,.slice VA Vn Vc] 93)).alloc (.cells #[.string k4,.slice UA Un Uc,.slice XA Xn Xc] 93))):=Ph (zG (zG (lB _ _) _) _);clear h1 h2;go_enter func66,ntmps66
 go_upto_region 1 with fail
 generalize ((World.alloc _ _))=W at H1 H2 HB0 ⊢;obtain⟨b1,hb1⟩:∃ b,w.heap.size=b:=⟨_,rfl⟩;obtain⟨b2,hb2⟩:∃ b,w.heap.size+1=b:=⟨_,rfl⟩;rw [hb1]at H1;rw [hb2]at H2;rw [hb2,hb1];clear hb1 hb2;have x0:W.cell? ⟨b1,0,none⟩=some (.string k4):=H1.o.cell 0;have x1:W.cell? ⟨b1,1,none⟩=some (.slice SA Sn Sc):=H1.o.cell 1;have x2:W.cell? ⟨b1,2,none⟩=some (.slice VA Vn Vc):=H1.o.cell 2;have z0:W.cell? ⟨b2,0,none⟩=some (.string k4):=H2.o.cell 0;have z1:W.cell? ⟨b2,1,none⟩=some (.slice UA Un Uc):=H2.o.cell 1;have z2:W.cell? ⟨b2,2,none⟩=some (.slice XA Xn Xc):=H2.o.cell 2;go_wp2_with fail
 refine(HE.o _ HB0.o).mono ?_;rintro e w1 ⟨rfl,hb⟩;have HB1:Ud (Ue w w1):=Ph (HB0.o.trans (hb.mono HB0.o.size));have H1':=Ph (zD H1.o hb);have H2':=Ph (zD H2.o hb);clear hb x0 x1 x2 z0 z1 z2 H1 H2;have H1:=H1';have H2:=H2';clear H1' H2';have x0:w1.cell? ⟨b1,0,none⟩=some (.string k4):=H1.o.cell 0;have x1:w1.cell? ⟨b1,1,none⟩=some (.slice SA Sn Sc):=H1.o.cell 1;have x2:w1.cell? ⟨b1,2,none⟩=some (.slice VA Vn Vc):=H1.o.cell 2;have z0:w1.cell? ⟨b2,0,none⟩=some (.string k4):=H2.o.cell 0;have z1:w1.cell? ⟨b2,1,none⟩=some (.slice UA Un Uc):=H2.o.cell 1;have z2:w1.cell? ⟨b2,2,none⟩=some (.slice XA Xn Xc):=H2.o.cell 2;go_wp2_with fail
 refine(HG.o _ HB1.o).mono ?_;rintro e w2 ⟨rfl,hb⟩;have HB2:Ud (Ue w w2):=Ph (HB1.o.trans (hb.mono HB1.o.size));have H1':=Ph (zD H1.o hb);have H2':=Ph (zD H2.o hb);clear hb x0 x1 x2 z0 z1 z2 H1 H2;have H1:=H1';have H2:=H2';clear H1' H2';have x0:w2.cell? ⟨b1,0,none⟩=some (.string k4):=H1.o.cell 0;have x1:w2.cell? ⟨b1,1,none⟩=some (.slice SA Sn Sc):=H1.o.cell 1;have x2:w2.cell? ⟨b1,2,none⟩=some (.slice VA Vn Vc):=H1.o.cell 2;have z0:w2.cell? ⟨b2,0,none⟩=some (.string k4):=H2.o.cell 0;have z1:w2.cell? ⟨b2,1,none⟩=some (.slice UA Un Uc):=H2.o.cell 1;have z2:w2.cell? ⟨b2,2,none⟩=some (.slice XA Xn Xc):=H2.o.cell 2;go_wp2_with fail
 go_ret;exact⟨rfl,HB2.o⟩
end
section
open Go.RowKit Go.PlainAid
theorem kC8 (x:Ex) (S U:SV) (w:World) (hz:szX x≤20000) (hS:Ud (TX (fun _=>True) w x S)) (hU:Ud (TX (fun _=>True) w x U)) :
 Calls prog 30 #[.agg (qD5 x S),.agg (qD5 x U)] w fun e w'=>e=.returned (.bool true)∧Below w.heap.size w w':=by
 have HE:Ud (∀ W,Ue w W→Calls prog 65 #[.agg (qD5 x S),.agg (qD5 x U)] W fun e w'=>e=.returned (.bool true)∧Ue W w'):=Ph fun W h=>qD1 _ x S U W (lF _) Yo (Ph (hS.o.bel h)) (Ph (hU.o.bel h));have HC1:Ud (∀ W,Ue w W→Calls prog 52 #[.agg (qD5 x S),uI 0] W fun e w'=>e=.returned (uI (szX x:Int))∧Ue W w'):=Ph fun W h=>by have h3:=qU3 x S 0 W (Ph (hS.o.bel h)) Yo;rw [Nat.zero_add]at h3;exact h3
 have HC2:Ud (∀ W,Ue w W→Calls prog 52 #[.agg (qD5 x U),uI 0] W fun e w'=>e=.returned (uI (szX x:Int))∧Ue W w'):=Ph fun W h=>by have h3:=qU3 x U 0 W (Ph (hU.o.bel h)) Yo;rw [Nat.zero_add]at h3;exact h3
 obtain⟨SA,Sn,Sc⟩:=S;obtain⟨UA,Un,Uc⟩:=U;obtain⟨k0,hk0⟩:∃ k,(x.kind:Int)=k:=⟨_,rfl⟩;obtain⟨k1,hk1⟩:∃ k,(x.op:Int)=k:=⟨_,rfl⟩;obtain⟨k2,hk2⟩:∃ k,(x.value:Int)=k:=⟨_,rfl⟩;obtain⟨k3,hk3⟩:∃ k,x.width=k:=⟨_,rfl⟩;obtain⟨k4,hk4⟩:∃ k,str x.name=k:=⟨_,rfl⟩;dsimp only [qD5]at HE HC1 HC2 ⊢;rw [hk0,hk1,hk2,hk3,hk4];rw [hk0,hk1,hk2,hk3,hk4]at HE HC1 HC2;clear hk0 hk1 hk2 hk3 hk4;have h1:=(Bk.new w 31 #[uB k0,uB k1,uW k2,uI k3,.string k4,.slice SA Sn Sc]).alloc (.cells #[uB k0,uB k1,uW k2,uI k3,.string k4,.slice UA Un Uc] 31);have h2:=Bk.new (w.alloc (.cells #[uB k0,uB k1,uW k2,uI k3,.string k4,.slice SA Sn Sc] 31)) 31 #[uB k0,uB k1,uW k2,uI k3,.string k4,.slice UA Un Uc];simp only [lO]at h2;have H1:=Ph h1;have H2:=Ph h2;have HB0:Ud (Ue w ((w.alloc (.cells #[uB k0,uB k1,uW k2,uI k3,.string k4,.slice SA Sn Sc] 31)).alloc (.cells #[uB k0,uB k1,uW k2,uI k3,.string k4,.slice UA Un Uc] 31))):=Ph (zG (zG (lB _ _) _) _);clear h1 h2;go_enter func30,ntmps30
 go_upto_region 1 with fail
 generalize ((World.alloc _ _))=W at H1 H2 HB0 ⊢;obtain⟨b1,hb1⟩:∃ b,w.heap.size=b:=⟨_,rfl⟩;obtain⟨b2,hb2⟩:∃ b,w.heap.size+1=b:=⟨_,rfl⟩;rw [hb1]at H1;rw [hb2]at H2;rw [hb2,hb1];clear hb1 hb2;have x0:W.cell? ⟨b1,0,none⟩=some (uB k0):=H1.o.cell 0;have x1:W.cell? ⟨b1,1,none⟩=some (uB k1):=H1.o.cell 1;have x2:W.cell? ⟨b1,2,none⟩=some (uW k2):=H1.o.cell 2;have x3:W.cell? ⟨b1,3,none⟩=some (uI k3):=H1.o.cell 3;have x4:W.cell? ⟨b1,4,none⟩=some (.string k4):=H1.o.cell 4;have x5:W.cell? ⟨b1,5,none⟩=some (.slice SA Sn Sc):=H1.o.cell 5;have z0:W.cell? ⟨b2,0,none⟩=some (uB k0):=H2.o.cell 0;have z1:W.cell? ⟨b2,1,none⟩=some (uB k1):=H2.o.cell 1;have z2:W.cell? ⟨b2,2,none⟩=some (uW k2):=H2.o.cell 2;have z3:W.cell? ⟨b2,3,none⟩=some (uI k3):=H2.o.cell 3;have z4:W.cell? ⟨b2,4,none⟩=some (.string k4):=H2.o.cell 4;have z5:W.cell? ⟨b2,5,none⟩=some (.slice UA Un Uc):=H2.o.cell 5;go_wp2_with fail
 refine(HC1.o _ HB0.o).mono ?_;rintro e w1 ⟨rfl,hb⟩;have HB1:Ud (Ue w w1):=Ph (HB0.o.trans (hb.mono HB0.o.size));have H1':=Ph (zD H1.o hb);have H2':=Ph (zD H2.o hb);clear hb x0 x1 x2 x3 x4 x5 z0 z1 z2 z3 z4 z5 H1 H2;have H1:=H1';have H2:=H2';clear H1' H2';have x0:w1.cell? ⟨b1,0,none⟩=some (uB k0):=H1.o.cell 0;have x1:w1.cell? ⟨b1,1,none⟩=some (uB k1):=H1.o.cell 1;have x2:w1.cell? ⟨b1,2,none⟩=some (uW k2):=H1.o.cell 2;have x3:w1.cell? ⟨b1,3,none⟩=some (uI k3):=H1.o.cell 3;have x4:w1.cell? ⟨b1,4,none⟩=some (.string k4):=H1.o.cell 4;have x5:w1.cell? ⟨b1,5,none⟩=some (.slice SA Sn Sc):=H1.o.cell 5;have z0:w1.cell? ⟨b2,0,none⟩=some (uB k0):=H2.o.cell 0;have z1:w1.cell? ⟨b2,1,none⟩=some (uB k1):=H2.o.cell 1;have z2:w1.cell? ⟨b2,2,none⟩=some (uW k2):=H2.o.cell 2;have z3:w1.cell? ⟨b2,3,none⟩=some (uI k3):=H2.o.cell 3;have z4:w1.cell? ⟨b2,4,none⟩=some (.string k4):=H2.o.cell 4;have z5:w1.cell? ⟨b2,5,none⟩=some (.slice UA Un Uc):=H2.o.cell 5;go_wp2_with fail
 refine(jK3 (szX x) hz w1).mono ?_;rintro e w' ⟨rfl,rfl⟩;go_wp2_with fail
 refine(HC2.o _ HB1.o).mono ?_;rintro e w2 ⟨rfl,hb⟩;have HB2:Ud (Ue w w2):=Ph (HB1.o.trans (hb.mono HB1.o.size));have H1':=Ph (zD H1.o hb);have H2':=Ph (zD H2.o hb);clear hb x0 x1 x2 x3 x4 x5 z0 z1 z2 z3 z4 z5 H1 H2;have H1:=H1';have H2:=H2';clear H1' H2';have x0:w2.cell? ⟨b1,0,none⟩=some (uB k0):=H1.o.cell 0;have x1:w2.cell? ⟨b1,1,none⟩=some (uB k1):=H1.o.cell 1;have x2:w2.cell? ⟨b1,2,none⟩=some (uW k2):=H1.o.cell 2;have x3:w2.cell? ⟨b1,3,none⟩=some (uI k3):=H1.o.cell 3;have x4:w2.cell? ⟨b1,4,none⟩=some (.string k4):=H1.o.cell 4;have x5:w2.cell? ⟨b1,5,none⟩=some (.slice SA Sn Sc):=H1.o.cell 5;have z0:w2.cell? ⟨b2,0,none⟩=some (uB k0):=H2.o.cell 0;have z1:w2.cell? ⟨b2,1,none⟩=some (uB k1):=H2.o.cell 1;have z2:w2.cell? ⟨b2,2,none⟩=some (uW k2):=H2.o.cell 2;have z3:w2.cell? ⟨b2,3,none⟩=some (uI k3):=H2.o.cell 3;have z4:w2.cell? ⟨b2,4,none⟩=some (.string k4):=H2.o.cell 4;have z5:w2.cell? ⟨b2,5,none⟩=some (.slice UA Un Uc):=H2.o.cell 5;go_wp2_with fail
 refine(jK3 (szX x) hz w2).mono ?_;rintro e w' ⟨rfl,rfl⟩;go_wp2_with fail
 refine(HE.o _ HB2.o).mono ?_;rintro e w3 ⟨rfl,hb⟩;have HB3:Ud (Ue w w3):=Ph (HB2.o.trans (hb.mono HB2.o.size));have H1':=Ph (zD H1.o hb);have H2':=Ph (zD H2.o hb);clear hb x0 x1 x2 x3 x4 x5 z0 z1 z2 z3 z4 z5 H1 H2;have H1:=H1';have H2:=H2';clear H1' H2';have x0:w3.cell? ⟨b1,0,none⟩=some (uB k0):=H1.o.cell 0;have x1:w3.cell? ⟨b1,1,none⟩=some (uB k1):=H1.o.cell 1;have x2:w3.cell? ⟨b1,2,none⟩=some (uW k2):=H1.o.cell 2;have x3:w3.cell? ⟨b1,3,none⟩=some (uI k3):=H1.o.cell 3;have x4:w3.cell? ⟨b1,4,none⟩=some (.string k4):=H1.o.cell 4;have x5:w3.cell? ⟨b1,5,none⟩=some (.slice SA Sn Sc):=H1.o.cell 5;have z0:w3.cell? ⟨b2,0,none⟩=some (uB k0):=H2.o.cell 0;have z1:w3.cell? ⟨b2,1,none⟩=some (uB k1):=H2.o.cell 1;have z2:w3.cell? ⟨b2,2,none⟩=some (uW k2):=H2.o.cell 2;have z3:w3.cell? ⟨b2,3,none⟩=some (uI k3):=H2.o.cell 3;have z4:w3.cell? ⟨b2,4,none⟩=some (.string k4):=H2.o.cell 4;have z5:w3.cell? ⟨b2,5,none⟩=some (.slice UA Un Uc):=H2.o.cell 5;go_wp2_with fail
 go_ret;exact⟨rfl,HB3.o⟩
theorem kC9 (x:Gx) (v:GV) (w:World) (HG:Ud (GxP (fun _=>True) w x v)) (hz:szG x≤20000) :
 Calls prog 62 #[.agg (uG x v)] w fun e w'=>e=.returned (.bool true)∧Below w.heap.size w w':=by
 have hb:Ue w (w.alloc (.cells (uG x v) 36)):=zG (lB _ _) _;have HC:=Ph (kK6 x v _ (Ph (itG.stay _ _ _ _ _ (Stays.below hb) HG.o)) hz);have HK:=Ph (Bk.new w 36 (uG x v));have HB:=Ph hb;clear hb;go_enter func62,ntmps62
 go_upto_region 1 with fail
 generalize (w.alloc _)=W at *;obtain⟨pb,hpb⟩:∃ b,w.heap.size=b:=⟨_,rfl⟩;rw [hpb]at HK ⊢;have HRG:Ud (W.rangeAt pb 0 [uI x.blocks,uI x.width,uL v.is,uL v.gs,uL v.vs,uL v.ar,uB x.require.kind,uB x.require.op,uW x.require.value,uI x.require.width,uR x.require.name,uL v.rq,uL v.ins,uL v.ps,uL v.wk,uL v.rc,uB x.invariant.kind,uB x.invariant.op,uW x.invariant.value,uI x.invariant.width,uR x.invariant.name,uL v.iv]):=Ph (yM HK.o);go_wp2_with (refine wpList_load_mid rfl 36 (.tmp 1) rfl pb 0 rfl [uI x.blocks,uI x.width,uL v.is,uL v.gs,uL v.vs,uL v.ar,uB x.require.kind,uB x.require.op,uW x.require.value,uI x.require.width,uR x.require.name,uL v.rq,uL v.ins,uL v.ps,uL v.wk,uL v.rc,uB x.invariant.kind,uB x.invariant.op,uW x.invariant.value,uI x.invariant.width,uR x.invariant.name,uL v.iv] _ HRG.o underlying36 rfl jR ?_)
 refine HC.o.mono ?_;rintro e w2 ⟨rfl,hb2⟩;go_wp2_with fail
 refine(jK3 (szG x) hz w2).mono ?_;rintro e w3 ⟨rfl,rfl⟩;have HB3:=Ph (zU HB.o hb2);clear hb2;go_wp2_with fail
 go_ret;exact⟨rfl,HB3.o⟩
end
section
open Go.RowKit Go.PlainAid
theorem jJ1 {y:Ix}:∀ {l:List Ix},y∈l→szX y.value≤jF9 l
 | x :: l,h=>by
   simp only [jF9];rcases lU.1 h with rfl | h
   ·omega
   ·have:=jJ1 h;omega
theorem qJ3 {y:Rx}:∀ {l:List Rx},y∈l→yE y.body+y.params.length≤jF7 l
 | x :: l,h=>by
   simp only [jF7,szR];rcases lU.1 h with rfl | h
   ·omega
   ·have:=qJ3 h;omega
theorem vN {P:Program} {ops:Array Oper} {rest:List Oper} {op:Oper} {a:Act} {w:World} {Q:Exit→Act→World→Prop} (hw:Region.wanted op (yielded ops a.tmps)=true) (ty:TypeId) (x:Operand) (ho:op.op=.load ty x)
 (b o:Nat) (hx:a.eval x=.pointer (some ⟨b,o,none⟩)) (cs:List Value) (d:TypeDesc) (hc:w.rangeAt b o cs)
 (hu:P.underlying ty=some d) (hd:d.isRow=true) (hi:(P.info? ty).map (·.size)=some cs.length)
 (h:wpList P ops Q rest (a.put op.dst (.agg cs.toArray)) w):wpList P ops Q (op :: rest) a w:=by
 unfold wpList;rw [lM hw];exact .inl (wp_load_mid ty x ho b o hx cs d hc hu hd hi h)
theorem kW9 (x:Gx) (v u:GV) (w:World) (hS:Ud (GxP (fun _=>True) w x v)) (hU:Ud (GxP (fun _=>True) w x u)) (hz:szG x≤20000) :
 Calls prog 24 #[.agg (uG x v),.agg (uG x u)] w fun e w'=>e=.returned (.bool true)∧Below w.heap.size w w':=by
 have HZ:=Ph hz;have hzz:szG x=1+x.inputs.length+x.ghosts.length+x.vars.length+x.arrays.length+szX x.require+jF9 x.inits+jF7 x.procs+yE x.work+yE x.recover+szX x.invariant:=rfl;have HL1:Ud (∀ W,Ue w W→Calls prog 62 #[.agg (uG x v)] W fun e w'=>e=.returned (.bool true)∧Ue W w'):=Ph fun W h=>kC9 x v W (Ph (itG.stay _ _ _ _ _ (Stays.below h) hS.o)) hz;have HL2:Ud (∀ W,Ue w W→Calls prog 62 #[.agg (uG x u)] W fun e w'=>e=.returned (.bool true)∧Ue W w'):=Ph fun W h=>kC9 x u W (Ph (itG.stay _ _ _ _ _ (Stays.below h) hU.o)) hz;have HD0:Ud (∀ W,Ue w W→Calls prog 63 #[uL v.is,uL u.is] W fun e w'=>e=.returned (.bool true)∧Ue W w'):=Ph fun W h=>eqD x.inputs v.is u.is W (Ph (hS.o.is.stay itD qC (Stays.below h))) (Ph (hU.o.is.stay itD qC (Stays.below h))) Yo;have HD1:Ud (∀ W,Ue w W→Calls prog 63 #[uL v.gs,uL u.gs] W fun e w'=>e=.returned (.bool true)∧Ue W w'):=Ph fun W h=>eqD x.ghosts v.gs u.gs W (Ph (hS.o.gs.stay itD qC (Stays.below h))) (Ph (hU.o.gs.stay itD qC (Stays.below h))) Yo;have HD2:Ud (∀ W,Ue w W→Calls prog 63 #[uL v.vs,uL u.vs] W fun e w'=>e=.returned (.bool true)∧Ue W w'):=Ph fun W h=>eqD x.vars v.vs u.vs W (Ph (hS.o.vs.stay itD qC (Stays.below h))) (Ph (hU.o.vs.stay itD qC (Stays.below h))) Yo;have HD3:Ud (∀ W,Ue w W→Calls prog 63 #[uL v.ar,uL u.ar] W fun e w'=>e=.returned (.bool true)∧Ue W w'):=Ph fun W h=>eqD x.arrays v.ar u.ar W (Ph (hS.o.ar.stay itD qC (Stays.below h))) (Ph (hU.o.ar.stay itD qC (Stays.below h))) Yo;have HX1:Ud (∀ W,Ue w W→Calls prog 65 #[.agg (qD5 x.require v.rq),.agg (qD5 x.require u.rq)] W fun e w'=>e=.returned (.bool true)∧Ue W w'):=Ph fun W h=>qD1 _ x.require v.rq u.rq W (lF _) Yo (Ph (hS.o.rq.stay (Stays.below h))) (Ph (hU.o.rq.stay (Stays.below h)));have HEI:Ud (∀ W,Ue w W→Calls prog 67 #[uL v.ins,uL u.ins,uF 64] W fun e w'=>e=.returned (.bool true)∧Ue W w'):=Ph fun W h=>kZ2 x.inits v.ins u.ins W (Ph (hS.o.ins.stay itI jZ (Stays.below h))) (Ph (hU.o.ins.stay itI jZ (Stays.below h))) (by have:=jJ5 x.inits;omega) (Ph fun y hy V V' W h1 h2=>kW7 y V V' W (by have:=jJ1 hy;omega) h1 h2);have HEP:Ud (∀ W,Ue w W→Calls prog 68 #[uL v.ps,uL u.ps,uF 66] W fun e w'=>e=.returned (.bool true)∧Ue W w'):=Ph fun W h=>kZ3 x.procs v.ps u.ps W (Ph (hS.o.ps.stay itR zD1 (Stays.below h))) (Ph (hU.o.ps.stay itR zD1 (Stays.below h))) (by have:=jJ6 x.procs;omega) (Ph fun y hy V V' W h1 h2=>kW8 y V V' W (by have:=qJ3 hy;omega) (by have:=qJ3 hy;omega) h1 h2);have HW1:Ud (∀ W,Ue w W→Calls prog 46 #[uL v.wk,uL u.wk,uF 47] W fun e w'=>e=.returned (.bool true)∧Ue W w'):=Ph fun W h=>kV8 x.work v.wk u.wk W (Ph (hS.o.wk.stay (Stays.below h))) (Ph (hU.o.wk.stay (Stays.below h))) (by have:=zV9 x.work;omega) (Ph fun y hy V V' W h1 h2=>qS7 _ y V V' W (lF _) (by have:=vC hy;omega) h1 h2);have HW2:Ud (∀ W,Ue w W→Calls prog 46 #[uL v.rc,uL u.rc,uF 47] W fun e w'=>e=.returned (.bool true)∧Ue W w'):=Ph fun W h=>kV8 x.recover v.rc u.rc W (Ph (hS.o.rc.stay (Stays.below h))) (Ph (hU.o.rc.stay (Stays.below h))) (by have:=zV9 x.recover;omega) (Ph fun y hy V V' W h1 h2=>qS7 _ y V V' W (lF _) (by have:=vC hy;omega) h1 h2);have HX2:Ud (∀ W,Ue w W→Calls prog 65 #[.agg (qD5 x.invariant v.iv),.agg (qD5 x.invariant u.iv)] W fun e w'=>e=.returned (.bool true)∧Ue W w'):=Ph fun W h=>qD1 _ x.invariant v.iv u.iv W (lF _) Yo (Ph (hS.o.iv.stay (Stays.below h))) (Ph (hU.o.iv.stay (Stays.below h)));clear hS hU hzz;dsimp only [qD5]at HX1 HX2;have h1:=(Bk.new w 36 (uG x v)).alloc (.cells (uG x u) 36);have h2:=Bk.new (w.alloc (.cells (uG x v) 36)) 36 (uG x u);simp only [lO]at h2;have H1:=Ph h1;have H2:=Ph h2;have HB0:Ud (Ue w ((w.alloc (.cells (uG x v) 36)).alloc (.cells (uG x u) 36))):=Ph (zG (zG (lB _ _) _) _);clear h1 h2;go_enter func24,ntmps24
 go_upto_region 1 with fail
 generalize ((World.alloc _ _))=W at H1 H2 HB0 ⊢;obtain⟨b1,hb1⟩:∃ b,w.heap.size=b:=⟨_,rfl⟩;obtain⟨b2,hb2⟩:∃ b,w.heap.size+1=b:=⟨_,rfl⟩;rw [hb1]at H1;rw [hb2]at H2;rw [hb2,hb1];clear hb1 hb2;have HR1:Ud (W.rangeAt b1 0 [uI x.blocks,uI x.width,uL v.is,uL v.gs,uL v.vs,uL v.ar,uB x.require.kind,uB x.require.op,uW x.require.value,uI x.require.width,uR x.require.name,uL v.rq,uL v.ins,uL v.ps,uL v.wk,uL v.rc,uB x.invariant.kind,uB x.invariant.op,uW x.invariant.value,uI x.invariant.width,uR x.invariant.name,uL v.iv]):=Ph (yM H1.o);go_wp2_with (refine wpList_load_mid rfl 36 (.tmp 2) rfl b1 0 rfl [uI x.blocks,uI x.width,uL v.is,uL v.gs,uL v.vs,uL v.ar,uB x.require.kind,uB x.require.op,uW x.require.value,uI x.require.width,uR x.require.name,uL v.rq,uL v.ins,uL v.ps,uL v.wk,uL v.rc,uB x.invariant.kind,uB x.invariant.op,uW x.invariant.value,uI x.invariant.width,uR x.invariant.name,uL v.iv] _ HR1.o underlying36 rfl jR ?_)
 refine(HL1.o _ HB0.o).mono ?_;rintro e w1 ⟨rfl,hb⟩;have HB1:Ud (Ue w w1):=Ph (HB0.o.trans (hb.mono HB0.o.size));have H1':=Ph (zD H1.o hb);have H2':=Ph (zD H2.o hb);clear hb H1 H2 HL1 HR1;have H1:=H1';have H2:=H2';clear H1' H2';have HR2:Ud (w1.rangeAt b2 0 [uI x.blocks,uI x.width,uL u.is,uL u.gs,uL u.vs,uL u.ar,uB x.require.kind,uB x.require.op,uW x.require.value,uI x.require.width,uR x.require.name,uL u.rq,uL u.ins,uL u.ps,uL u.wk,uL u.rc,uB x.invariant.kind,uB x.invariant.op,uW x.invariant.value,uI x.invariant.width,uR x.invariant.name,uL u.iv]):=Ph (yM H2.o);go_wp2_with (refine vN Yr 36 (.tmp 3) rfl b2 0 rfl [uI x.blocks,uI x.width,uL u.is,uL u.gs,uL u.vs,uL u.ar,uB x.require.kind,uB x.require.op,uW x.require.value,uI x.require.width,uR x.require.name,uL u.rq,uL u.ins,uL u.ps,uL u.wk,uL u.rc,uB x.invariant.kind,uB x.invariant.op,uW x.invariant.value,uI x.invariant.width,uR x.invariant.name,uL u.iv] _ HR2.o underlying36 rfl jR ?_)
 refine(HL2.o _ HB1.o).mono ?_;rintro e w2 ⟨rfl,hb⟩;have HB2:Ud (Ue w w2):=Ph (HB1.o.trans (hb.mono HB1.o.size));have H1':=Ph (zD H1.o hb);have H2':=Ph (zD H2.o hb);clear hb H1 H2 HL2 HR2;have H1:=H1';have H2:=H2';clear H1' H2';have p0:w2.cell? ⟨b1,0,none⟩=some (uI x.blocks):=H1.o.cell 0;have q0:w2.cell? ⟨b2,0,none⟩=some (uI x.blocks):=H2.o.cell 0;have p1:w2.cell? ⟨b1,1,none⟩=some (uI x.width):=H1.o.cell 1;have q1:w2.cell? ⟨b2,1,none⟩=some (uI x.width):=H2.o.cell 1;have p2:w2.cell? ⟨b1,2,none⟩=some (uL v.is):=H1.o.cell 2;have q2:w2.cell? ⟨b2,2,none⟩=some (uL u.is):=H2.o.cell 2;go_wp2_with fail
 refine(HD0.o _ HB2.o).mono ?_;rintro e w3 ⟨rfl,hb⟩;have HB3:Ud (Ue w w3):=Ph (HB2.o.trans (hb.mono HB2.o.size));have H1':=Ph (zD H1.o hb);have H2':=Ph (zD H2.o hb);clear hb H1 H2 HD0 p0 q0 p1 q1 p2 q2;have H1:=H1';have H2:=H2';clear H1' H2';have p3:w3.cell? ⟨b1,3,none⟩=some (uL v.gs):=H1.o.cell 3;have q3:w3.cell? ⟨b2,3,none⟩=some (uL u.gs):=H2.o.cell 3;go_wp2_with fail
 refine(HD1.o _ HB3.o).mono ?_;rintro e w4 ⟨rfl,hb⟩;have HB4:Ud (Ue w w4):=Ph (HB3.o.trans (hb.mono HB3.o.size));have H1':=Ph (zD H1.o hb);have H2':=Ph (zD H2.o hb);clear hb H1 H2 HD1 p3 q3;have H1:=H1';have H2:=H2';clear H1' H2';have p4:w4.cell? ⟨b1,4,none⟩=some (uL v.vs):=H1.o.cell 4;have q4:w4.cell? ⟨b2,4,none⟩=some (uL u.vs):=H2.o.cell 4;go_wp2_with fail
 refine(HD2.o _ HB4.o).mono ?_;rintro e w5 ⟨rfl,hb⟩;have HB5:Ud (Ue w w5):=Ph (HB4.o.trans (hb.mono HB4.o.size));have H1':=Ph (zD H1.o hb);have H2':=Ph (zD H2.o hb);clear hb H1 H2 HD2 p4 q4;have H1:=H1';have H2:=H2';clear H1' H2';have p5:w5.cell? ⟨b1,5,none⟩=some (uL v.ar):=H1.o.cell 5;have q5:w5.cell? ⟨b2,5,none⟩=some (uL u.ar):=H2.o.cell 5;go_wp2_with fail
 refine(HD3.o _ HB5.o).mono ?_;rintro e w6 ⟨rfl,hb⟩;have HB6:Ud (Ue w w6):=Ph (HB5.o.trans (hb.mono HB5.o.size));have H1':=Ph (zD H1.o hb);have H2':=Ph (zD H2.o hb);clear hb H1 H2 HD3 p5 q5;have H1:=H1';have H2:=H2';clear H1' H2';have p6:w6.cell? ⟨b1,6,none⟩=some (uB x.require.kind):=H1.o.cell 6;have q6:w6.cell? ⟨b2,6,none⟩=some (uB x.require.kind):=H2.o.cell 6;have p7:w6.cell? ⟨b1,7,none⟩=some (uB x.require.op):=H1.o.cell 7;have q7:w6.cell? ⟨b2,7,none⟩=some (uB x.require.op):=H2.o.cell 7;have p8:w6.cell? ⟨b1,8,none⟩=some (uW x.require.value):=H1.o.cell 8;have q8:w6.cell? ⟨b2,8,none⟩=some (uW x.require.value):=H2.o.cell 8;have p9:w6.cell? ⟨b1,9,none⟩=some (uI x.require.width):=H1.o.cell 9;have q9:w6.cell? ⟨b2,9,none⟩=some (uI x.require.width):=H2.o.cell 9;have p10:w6.cell? ⟨b1,10,none⟩=some (uR x.require.name):=H1.o.cell 10;have q10:w6.cell? ⟨b2,10,none⟩=some (uR x.require.name):=H2.o.cell 10;have p11:w6.cell? ⟨b1,11,none⟩=some (uL v.rq):=H1.o.cell 11;have q11:w6.cell? ⟨b2,11,none⟩=some (uL u.rq):=H2.o.cell 11;go_wp2_with fail
 refine(HX1.o _ HB6.o).mono ?_;rintro e w7 ⟨rfl,hb⟩;have HB7:Ud (Ue w w7):=Ph (HB6.o.trans (hb.mono HB6.o.size));have H1':=Ph (zD H1.o hb);have H2':=Ph (zD H2.o hb);clear hb H1 H2 HX1 p6 q6 p7 q7 p8 q8 p9 q9 p10 q10 p11 q11;have H1:=H1';have H2:=H2';clear H1' H2';have p12:w7.cell? ⟨b1,12,none⟩=some (uL v.ins):=H1.o.cell 12;have q12:w7.cell? ⟨b2,12,none⟩=some (uL u.ins):=H2.o.cell 12;go_wp2_with fail
 refine(HEI.o _ HB7.o).mono ?_;rintro e w8 ⟨rfl,hb⟩;have HB8:Ud (Ue w w8):=Ph (HB7.o.trans (hb.mono HB7.o.size));have H1':=Ph (zD H1.o hb);have H2':=Ph (zD H2.o hb);clear hb H1 H2 HEI p12 q12;have H1:=H1';have H2:=H2';clear H1' H2';have p13:w8.cell? ⟨b1,13,none⟩=some (uL v.ps):=H1.o.cell 13;have q13:w8.cell? ⟨b2,13,none⟩=some (uL u.ps):=H2.o.cell 13;go_wp2_with fail
 refine(HEP.o _ HB8.o).mono ?_;rintro e w9 ⟨rfl,hb⟩;have HB9:Ud (Ue w w9):=Ph (HB8.o.trans (hb.mono HB8.o.size));have H1':=Ph (zD H1.o hb);have H2':=Ph (zD H2.o hb);clear hb H1 H2 HEP p13 q13;have H1:=H1';have H2:=H2';clear H1' H2';have p14:w9.cell? ⟨b1,14,none⟩=some (uL v.wk):=H1.o.cell 14;have q14:w9.cell? ⟨b2,14,none⟩=some (uL u.wk):=H2.o.cell 14;go_wp2_with fail
 refine(HW1.o _ HB9.o).mono ?_;rintro e w10 ⟨rfl,hb⟩;have HB10:Ud (Ue w w10):=Ph (HB9.o.trans (hb.mono HB9.o.size));have H1':=Ph (zD H1.o hb);have H2':=Ph (zD H2.o hb);clear hb H1 H2 HW1 p14 q14;have H1:=H1';have H2:=H2';clear H1' H2';have p15:w10.cell? ⟨b1,15,none⟩=some (uL v.rc):=H1.o.cell 15;have q15:w10.cell? ⟨b2,15,none⟩=some (uL u.rc):=H2.o.cell 15;go_wp2_with fail
 refine(HW2.o _ HB10.o).mono ?_;rintro e w11 ⟨rfl,hb⟩;have HB11:Ud (Ue w w11):=Ph (HB10.o.trans (hb.mono HB10.o.size));have H1':=Ph (zD H1.o hb);have H2':=Ph (zD H2.o hb);clear hb H1 H2 HW2 p15 q15;have H1:=H1';have H2:=H2';clear H1' H2';have p16:w11.cell? ⟨b1,16,none⟩=some (uB x.invariant.kind):=H1.o.cell 16;have q16:w11.cell? ⟨b2,16,none⟩=some (uB x.invariant.kind):=H2.o.cell 16;have p17:w11.cell? ⟨b1,17,none⟩=some (uB x.invariant.op):=H1.o.cell 17;have q17:w11.cell? ⟨b2,17,none⟩=some (uB x.invariant.op):=H2.o.cell 17;have p18:w11.cell? ⟨b1,18,none⟩=some (uW x.invariant.value):=H1.o.cell 18;have q18:w11.cell? ⟨b2,18,none⟩=some (uW x.invariant.value):=H2.o.cell 18;have p19:w11.cell? ⟨b1,19,none⟩=some (uI x.invariant.width):=H1.o.cell 19;have q19:w11.cell? ⟨b2,19,none⟩=some (uI x.invariant.width):=H2.o.cell 19;have p20:w11.cell? ⟨b1,20,none⟩=some (uR x.invariant.name):=H1.o.cell 20;have q20:w11.cell? ⟨b2,20,none⟩=some (uR x.invariant.name):=H2.o.cell 20;have p21:w11.cell? ⟨b1,21,none⟩=some (uL v.iv):=H1.o.cell 21;have q21:w11.cell? ⟨b2,21,none⟩=some (uL u.iv):=H2.o.cell 21;go_wp2_with fail
 refine(HX2.o _ HB11.o).mono ?_;rintro e w12 ⟨rfl,hb⟩;have HB12:Ud (Ue w w12):=Ph (HB11.o.trans (hb.mono HB11.o.size));have H1':=Ph (zD H1.o hb);have H2':=Ph (zD H2.o hb);clear hb H1 H2 HX2 p16 q16 p17 q17 p18 q18 p19 q19 p20 q20 p21 q21;have H1:=H1';have H2:=H2';clear H1' H2';go_wp2_with fail
 go_ret;exact⟨rfl,HB12.o⟩
end
section
section
variable {E E':Env} {k a:Nat} {d:Int} {s:PSt} {w:List UInt8}
end
end
section
section
variable {E:Env}
end
end
section
section
variable {E E':Env} {k a:Nat}
end
end
section
section
variable {E E':Env} {k a:Nat} {d:Int} {q:QSt}
end
end
section
section
variable {E E':Env} {k a:Nat} {d:Int} {q q':QSt} {P P':Prop} {w:List UInt8}
end
end
section
section
variable {E E':Env} {k a:Nat} {d:Int} {q q':QSt} {P P':Prop} {w:List UInt8}
end
end
structure jR1 (x:UInt8):Prop where
 p:yU x=false
 d:zV x=false
 c:x.toNat≠58
 s:∀ c,wV c x=false
theorem qO1:jR1 32:=⟨Yd,Yd,Yd,fun c=>by simp [wV]⟩
def SimU (u u':List UInt8):Prop:=∃ c z x r,u=c++z∧u'=c++x :: r∧jR1 x
theorem SimU.pre {u u':List UInt8} (h:SimU u u') (a:List UInt8):SimU (a++u) (a++u'):=by obtain⟨c,z,x,r,rfl,rfl,hx⟩:=h;exact⟨a++c,z,x,r,Ym,Ym,hx⟩
theorem qY6:∀ (r rest:List UInt8),vF (r++rest)=r.length→(∀ y∈r,yU y=true)∧∀ d,rest.head?=some d→yU d=false
 | [],rest,h=>by
   refine⟨fun y hy=>(by cases hy),fun d hd=>?_⟩;cases rest with
   | nil=>cases hd
   | cons e rest =>
     injection hd with hd;subst hd;simp only [cF,vF,Yn]at h;cases hp:yU e with
     | false=>rfl
     | true=>rw [hp]at h;simp at h
 | y :: r,rest,h=>by
   simp only [lR,vF,Yc]at h;cases hp:yU y with
   | false=>rw [hp]at h;simp at h
   | true =>
     rw [hp]at h;obtain⟨h1,h2⟩:=qY6 r rest (by simpa using h);exact⟨fun z hz=>by rcases lU.1 hz with rfl | hz;exact hp;exact h1 z hz,h2⟩
theorem jR2:∀ (r rest:List UInt8),jT (r++rest)=r.length→(∀ y∈r,zV y=true)∧∀ d,rest.head?=some d→zV d=false
 | [],rest,h=>by
   refine⟨fun y hy=>(by cases hy),fun d hd=>?_⟩;cases rest with
   | nil=>cases hd
   | cons e rest =>
     injection hd with hd;subst hd;simp only [cF,jT,Yn]at h;cases hp:zV e with
     | false=>rfl
     | true=>rw [hp]at h;simp at h
 | y :: r,rest,h=>by
   simp only [lR,jT,Yc]at h;cases hp:zV y with
   | false=>rw [hp]at h;simp at h
   | true =>
     rw [hp]at h;obtain⟨h1,h2⟩:=jR2 r rest (by simpa using h);exact⟨fun z hz=>by rcases lU.1 hz with rfl | hz;exact hp;exact h1 z hz,h2⟩
theorem zL5:∀ (t:List UInt8),∃ a b,t=a++b∧jT t=a.length∧(∀ y∈a,zV y=true)∧∀ d,b.head?=some d→zV d=false
 | []=>⟨[],[],rfl,rfl,fun y hy=>(by cases hy),fun d hd=>by cases hd⟩
 | y :: t=>by
   cases hp:zV y with
   | false=>exact⟨[],y :: t,rfl,by simp [jT,hp],fun y hy=>(by cases hy),fun d hd=>by injection hd with hd;exact hd▸hp⟩
   | true =>
     obtain⟨a,b,h1,h2,h3,h4⟩:=zL5 t;exact⟨y :: a,b,by rw [h1];rfl,by simp [jT,hp,h2],fun z hz=>by rcases lU.1 hz with rfl | hz;exact hp;exact h3 z hz,h4⟩
theorem qI9 {c z r:List UInt8} {x d:UInt8} (h:(c++x :: r).head?=some d):d=x∨(c++z).head?=some d:=by
 cases c with
 | nil=>injection h with h;exact .inl h.symm
 | cons e c=>exact .inr h
theorem jR3 {tok u u':List UInt8} {k:Nat} (h:zC1 (tok++u)=(k,tok.length)) (hk:k≠0) (hn:tok≠[]) (hs:SimU u u'):zC1 (tok++u')=(k,tok.length):=by
 obtain⟨c,z,x,r',rfl,rfl,hx⟩:=hs;cases tok with
 | nil=>exact absurd rfl hn
 | cons a r =>
   rw [lR]at h ⊢;rw [zC1]at h ⊢;by_cases hl:qM a=true
   ·rw [lM hl]at h ⊢;injection h with h1 h2;obtain⟨p1,p2⟩:=qY6 r (c++z) (by simp only [Yc]at h2;omega);rw [zT3 r (c++x :: r') p1 fun d hd=>by
     rcases qI9 (z:=z) hd with rfl | hd
     ·exact hx.p
     ·exact p2 d hd]
    exact Prod.ext h1 (by simp only [Yc];omega)
   ·rw [lN hl]at h ⊢;by_cases hd:zV a=true
    ·rw [lM hd]at h ⊢;rw [←lR]at h ⊢;obtain⟨da,db,e1,e2,e3,e4⟩:=zL5 (a :: r++(c++z));have hda:(a :: r++(c++z)).drop (jT (a :: r++(c++z)))=db:=by rw [e2,e1];exact List.drop_left
     rw [hda]at h;have key2:∀ u:List UInt8,(∀ y∈a :: r,zV y=true)→(∀ d,u.head?=some d→zV d=false)→jT (a :: r++u)=(a :: r).length∧(a :: r++u).drop (jT (a :: r++u))=u:=fun u h1 h2=>by have:=vK (a :: r) u h1 h2;exact⟨this,by rw [this];exact List.drop_left⟩
     by_cases hlit:∃ e b',db=58 :: e :: b'∧zV e=true
     ·obtain⟨e,b',rfl,he⟩:=hlit;simp only [he]at h;rw [lM Yd]at h;injection h with h1 h2;obtain⟨ea,eb,f1,f2,f3,f4⟩:=zL5 (e :: b');rw [e2,f2]at h2;have hea:ea≠[]:=by intro e0;rw [e0]at f2;simp [jT,he]at f2
      have ht:a :: r=da++58 :: ea∧c++z=eb:=by
       have hw:a :: r++(c++z)=(da++58 :: ea)++eb:=by rw [e1,f1];simp
       have hlen:(a :: r).length=(da++58 :: ea).length:=by rw [←h2];simp;omega
       exact List.append_inj hw hlen
      obtain⟨t1,t2⟩:=ht;rw [t1];have hh:∀ d,((58 :: ea)++(c++x :: r')).head?=some d→zV d=false:=fun d hd=>by injection hd with hd;subst hd;decide
      have g1:jT (da++((58 :: ea)++(c++x :: r')))=da.length:=vK da _ e3 hh;have g2:(da++58 :: ea)++(c++x :: r')=da++((58 :: ea)++(c++x :: r')):=Ym;rw [g2,g1,List.drop_left];cases ea with
      | nil=>exact absurd rfl hea
      | cons e' ea =>
        have he':zV e'=true:=f3 e' Ym;have g3:jT (e' :: ea++(c++x :: r'))=(e' :: ea).length:=vK (e' :: ea) _ f3 fun d hd=>by
         rcases qI9 (z:=z) hd with rfl | hd
         ·exact hx.d
         ·exact f4 d (t2▸hd)
        simp only [lR];rw [lM ⟨Yd,he'⟩];simp only [lR]at g3;rw [g3,←h1];simp only [Ya,Yc];congr 1;omega
     ·have h':(2,jT (a :: r++(c++z)))=(k,(a :: r).length):=by
       rw [←h];cases db with
       | nil=>rfl
       | cons d db =>
         cases db with
         | nil=>rfl
         | cons e db =>
           show _=if d.toNat=58∧zV e=true then _ else _
           rw [lN];rintro⟨h1,h2⟩;exact hlit ⟨e,db,by rw [show d=58 from UInt8.toNat_inj.1 h1],h2⟩
      injection h' with h1 h2;obtain⟨q1,q2⟩:=jR2 (a :: r) (c++z) h2;have hdb:db=c++z:=by have hw:a :: r++(c++z)=da++db:=e1;exact(List.append_inj hw (by rw [←e2,h2])).2.symm
      obtain⟨g1,g2⟩:=key2 (c++x :: r') q1 fun d hd=>by
       rcases qI9 (z:=z) hd with rfl | hd
       ·exact hx.d
       ·exact q2 d hd
      rw [g2,g1,←h1];cases c with
      | nil =>
        cases r' with
        | nil=>rfl
        | cons e r' =>
          show(if x.toNat=58∧zV e=true then _ else _)=_;rw [lN fun h=>hx.c h.1]
      | cons d c =>
        cases c with
        | nil =>
          show(if d.toNat=58∧zV x=true then _ else _)=_;rw [lN fun h=>by have:=hx.d;rw [h.2]at this;cases this]
        | cons e c =>
          show(if d.toNat=58∧zV e=true then _ else _)=_;rw [lN];rintro⟨y1,y2⟩;exact hlit ⟨e,c++z,by rw [hdb,show d=58 from UInt8.toNat_inj.1 y1];rfl,y2⟩
    ·rw [lN hd]at h ⊢;by_cases hsg:0<xG (a :: (r++(c++z)))
     ·rw [lM hsg]at h;injection h with h1 h2;have hgoal:xG (a :: (r++(c++x :: r')))=(a :: r).length:=by
       cases r with
       | nil =>
         simp only [cF,Yc,Yn]at h2 ⊢;have hsingle:yF.contains a=true∧∀ d,(c++z).head?=some d→wV a d=false:=by
          cases hcz:c++z with
          | nil =>
            rw [hcz,zT4]at h2;refine⟨?_,fun d hd=>by cases hd⟩;cases hs:yF.contains a with
            | true=>rfl
            | false=>rw [hs]at h2;simp at h2
          | cons d w =>
            rw [hcz,wW]at h2;cases hp:wV a d with
            | true=>rw [hp]at h2;simp at h2
            | false =>
              rw [hp]at h2;refine⟨?_,fun d' hd'=>by injection hd' with hd';exact hd'▸hp⟩;cases hs:yF.contains a with
              | true=>rfl
              | false=>rw [hs]at h2;simp at h2
         cases c with
         | nil =>
           rw [cF,wW,hx.s a,hsingle.1];rfl
         | cons d c =>
           rw [lR,wW,hsingle.2 d rfl,hsingle.1];rfl
       | cons b r =>
         rw [lR,wW]at h2 ⊢;cases hp:wV a b with
         | true =>
           rw [hp]at h2;simpa using h2
         | false =>
           rw [hp]at h2;exfalso;simp only [Yc]at h2;rw [lN Yd]at h2;split at h2 <;> omega
      rw [hgoal,lM Ym,h1]
     ·rw [lN hsg]at h;injection h with h1 h2;exact absurd h1.symm hk
theorem qY7:∀ (g z:List UInt8) (b:Bool),jG b (g++z)=g.length→z≠[]→∀ x,jG b (g++x)=g.length+jG false x
 | [],z,b,h,hz,x=>by
   cases z with
   | nil=>exact absurd rfl hz
   | cons c z =>
     cases b with
     | true=>simp [jG]at h
     | false=>simp
 | c :: g,z,true,h,hz,x=>by simp only [lR,jG,Yc]at h ⊢;rw [qY7 g z _ Yo hz x];omega
 | c :: g,z,false,h,hz,x=>by
   simp only [lR,jG,Yc]at h ⊢;by_cases h1:c.toNat=35
   ·rw [lM h1]at h ⊢;rw [qY7 g z _ Yo hz x];omega
   ·rw [lN h1]at h ⊢;by_cases h2:yJ c=true
    ·rw [lM h2]at h ⊢;rw [qY7 g z _ Yo hz x];omega
    ·rw [lN h2]at h;omega
theorem zA5 {g tok u:List UInt8} (h:jG false (g++(tok++u))=g.length) (hn:tok≠[]):GapOk g∧∀ u',jG false (tok++u')=0:=by
 have hg:=qY7 g (tok++u) false h (by simp [hn]);refine⟨hg,fun u'=>?_⟩;have h0:=hg (tok++u);rw [h]at h0;have h1:jG false (tok++u)=0:=Yo;cases tok with
 | nil=>exact absurd rfl hn
 | cons c tok =>
   rw [lR]at h1 ⊢;simp only [jG]at h1 ⊢;split at h1
   ·omega
   ·rename_i q1;rw [lN q1];split at h1
    ·omega
    ·rename_i q2;rw [lN q2]
theorem LexOk.sim:∀ {A:List Pc} {u u':List UInt8},LexOk A u→SimU u u'→LexOk A u'
 | [],_,_,_,_=>trivial
 | p :: r,u,u',h,hs=>by obtain⟨h1,h2,h3,h4,h5⟩:=h;obtain⟨g1,g2⟩:=zA5 h1 h4;exact⟨by rw [g1,g2];rfl,jR3 h2 h3 h4 (hs.pre _),h3,h4,h5.sim hs⟩
def kT (g:List UInt8):List (List UInt8)→List UInt8
 | []=>[]
 | [x]=>x
 | x :: y :: l=>x++(g++kT g (y :: l))
def zH7 (g:List UInt8) (l:List Pc):List Pc:=l.map fun p=>⟨g,p.kind,p.tok⟩
def reG (g:List UInt8):List Pc→List Pc
 | []=>[]
 | p :: r=>⟨[],p.kind,p.tok⟩ :: zH7 g r
theorem jR7 (g:List UInt8) (l:List Pc):(zH7 g l).map wdP=l.map wdP:=by simp [zH7,wdP]
theorem kW3 (g:List UInt8) (l:List Pc):(reG g l).map wdP=l.map wdP:=by
 cases l with
 | nil=>rfl
 | cons p r=>rw [reG,lY,jR7];rfl
theorem zL6 (g:List UInt8):∀ (p:Pc) (l:List Pc),jF (zH7 g (p :: l))=g++kT g ((p :: l).map (·.tok))
 | p,[]=>by simp [zH7,jF,kT]
 | p,q :: l=>by have h:=zL6 g q l;rw [zH7,lY,zF];show g++p.tok++jF (zH7 g (q :: l))=_;rw [h];simp [kT]
theorem kU4 (g:List UInt8):∀ (l:List Pc),jF (reG g l)=kT g (l.map (·.tok))
 | []=>rfl
 | [p]=>by simp [reG,zH7,jF,kT]
 | p :: q :: l=>by rw [reG,zF,zL6];simp [kT]
structure kP4 (g:List UInt8):Prop where
 ok:GapOk g
 hd:∃ x r,g=x :: r∧jR1 x
theorem qC9 {g:List UInt8} (hg:kP4 g):∀ {l:List Pc},LexOk l []→LexOk (zH7 g l) []
 | [],_=>trivial
 | p :: r,h=>by
   obtain⟨h1,h2,h3,h4,h5⟩:=h;obtain⟨g1,g2⟩:=zA5 h1 h4;refine⟨?_,?_,h3,h4,qC9 hg h5⟩
   ·show jG false (g++(p.tok++_))=g.length;rw [hg.ok,g2];rfl
   ·show zC1 (p.tok++(jF (zH7 g r)++[]))=(p.kind,p.tok.length);cases r with
    | nil=>exact h2
    | cons q r =>
      obtain⟨x,y,hx,hs⟩:=hg.hd;refine jR3 h2 h3 h4 ⟨[],_,x,y++kT g ((q :: r).map (·.tok)),rfl,?_,hs⟩;rw [zL6,hx];simp
theorem kU5 {g:List UInt8} (hg:kP4 g):∀ {l:List Pc},LexOk l []→LexOk (reG g l) []
 | [],_=>trivial
 | p :: r,h=>by have h0:=qC9 hg h;obtain⟨h1,h2,h3,h4,h5⟩:=h;obtain⟨g1,g2⟩:=zA5 h1 h4;refine⟨?_,h0.2.1,h3,h4,h0.2.2.2.2⟩;show jG false ([]++(p.tok++_))=0;rw [cF,g2]
theorem kU6:kP4 [32]:=⟨GapOk.cons Yd GapOk.nil,32,[],rfl,qO1⟩
theorem kW4:jR1 10:=⟨Yd,Yd,Yd,fun c=>by simp [wV]⟩
theorem kX6:jR1 9:=⟨Yd,Yd,Yd,fun c=>by simp [wV]⟩
theorem kU7:kP4 [10]:=⟨GapOk.cons Yd GapOk.nil,10,[],rfl,kW4⟩
theorem kP5:kP4 [9]:=⟨GapOk.cons Yd GapOk.nil,9,[],rfl,kX6⟩
theorem kQ9:kP4 [32,32]:=⟨GapOk.cons Yd (GapOk.cons Yd GapOk.nil),32,[32],rfl,qO1⟩
theorem kR1:kP4 [32,35,32,120,32,123,10]:=⟨fun x=>by simp [jG,yJ];omega,32,[35,32,120,32,123,10],rfl,qO1⟩
def qJ4 (k:Nat):List UInt8:=match k % 4 with
 | 0=>[10]
 | 1=>[32,32]
 | 2=>[32,35,32,120,32,123,10]
 | _=>[9]
theorem kU8 (k:Nat):kP4 (qJ4 k):=by
 unfold qJ4;split
 ·exact kU7
 ·exact kQ9
 ·exact kR1
 ·exact kP5
theorem jI9 (k:Nat):(qJ4 k).length≤7:=by unfold qJ4;split <;> decide
theorem kU9 (k:Nat):([32]:List UInt8)≠qJ4 k:=by unfold qJ4;split <;> decide
theorem kS2 {P:List Pc} {p:Gx} {wide:Bool} (hg:zW8 p) (hf:kE1 p) (hw:P.map wdP=wG wide p) (hl:LexOk P []) :
 zI3 (kG (jF P))=none∧zY (jF P) (kG (jF P))=yI 0 P∧Ev fun f=>kH ⟨jF P,yI 0 P⟩ f (Qt 0 0 0 [])=some (p,Qt P.length 0 0 (plG ⟨jF P,yI 0 P⟩ wide p)):=by
 have ht:=zJ2 P [] hl rfl;rw [cT]at ht;refine⟨ht.2,ht.1,?_⟩;have hle:(wG wide p).length=P.length:=by rw [←hw,lW]
 rw [←hle];refine kQ5 _ wide p 0 hg hf ?_ ?_
 ·rw [←hw];exact qM8 _ 0 _ _ 0 fun i q hq=>by rw [Nat.zero_add];exact hq
 ·rw [zU3,hle,cW (lF _)];exact⟨Yd,Yd,Yd,Yd⟩
theorem jR9 {P:List Pc} {p:Gx} {wide:Bool} (hg:zW8 p) (hf:kE1 p) (hw:P.map wdP=wG wide p) (hl:LexOk P []) :
 ∃ (f:Nat) (l:List Nat),PgR f (jF P) p l (jF P).length 0∧l.length=szG p:=by
 obtain⟨h1,h2,h3⟩:=kS2 hg hf hw hl;obtain⟨f,h3⟩:=Ev.ex h3;rw [←h2]at h3;exact⟨f,_,PgR.ok p _ h1 h3 rfl (by rw [h2,xV];exact lF _),kA3 _ _ hg⟩
theorem jS1 {b c:UInt8} (h:b≠c) (X:List UInt8):∀ (k:Nat) (l:List UInt8),Lib.replaceK [b] X k (c :: l)=c :: Lib.replaceK [b] X k l
 | 0,l=>rfl
 | k+1,l=>by
   have hp:([b]:List UInt8).isPrefixOf (c :: l)=false:=by simp [List.isPrefixOf,h]
   have hi:Lib.index (c :: l) [b]=if Lib.index l [b] == -1 then -1 else Lib.index l [b]+1:=by rw [Lib.index,hp];simp
   by_cases hm:Lib.index l [b]=-1
   ·rw [hm]at hi;simp only [Lib.replaceK,hi,hm];simp
   ·have hg:=Lib.index_ge l [b];obtain⟨i,hi2⟩:∃ i:Nat,Lib.index l [b]=i:=⟨(Lib.index l [b]).toNat,Yo⟩;have hi3:Lib.index (c :: l) [b]=((i+1:Nat):Int):=by rw [hi,lN (by simpa using hm),hi2];omega
    rw [Lib.replaceK_hit _ _ _ _ _ hi3,Lib.replaceK_hit _ _ _ _ _ hi2];have e1:i+1+[b].length=(i+[b].length)+1:=Ym;rw [e1,cR,List.drop_succ_cons];rfl
def kS3 (b:UInt8) (X:List UInt8) (s:List UInt8):List UInt8:=s.flatMap fun c=>if c=b then X else [c]
theorem qC5 (b:UInt8) (X:List UInt8) (hX:[b]≠X) (s:List UInt8):Lib.replaceAll s [b] X=kS3 b X s:=by
 have key:∀ s:List UInt8,Lib.replaceK [b] X (Lib.count s [b]) s=kS3 b X s:=by
  intro s;induction s with
  | nil =>
    rw [Lib.count_one];rfl
  | cons c l ih =>
    by_cases h:b=c
    ·subst h;have h0:Lib.index (b :: l) [b]=((0:Nat):Int):=by simp [Lib.index,List.isPrefixOf]
     rw [Lib.count_cons_eq,Nat.add_comm,Lib.replaceK_hit _ _ _ _ _ h0];simp only [List.take_zero,cF,Nat.zero_add,List.length_singleton,List.drop_succ_cons,List.drop_zero,ih];simp [kS3]
    ·rw [Lib.count_cons_ne c b l (fun e=>h e.symm),jS1 h,ih];have h':¬c=b:=fun e=>h e.symm;simp [kS3,h']
 unfold Lib.replaceAll Lib.replace;rw [lN (by simpa using hX)];unfold Lib.replaceNum;rw [lM (Or.inl Yd)];exact key s
theorem zY7 {b:UInt8} {X:List UInt8}:∀ {w:List UInt8},b ∉ w→kS3 b X w=w
 | [],_=>rfl
 | c :: w,h=>by have h1:¬c=b:=fun e=>h (by simp [e]);have h2:=zY7 (X:=X) (w:=w) fun e=>h (List.mem_cons_of_mem _ e);unfold kS3 at h2 ⊢;rw [lQ,h2,lN h1];rfl
theorem qO2 {b:UInt8} {X:List UInt8}:∀ (ws:List (List UInt8)),(∀ w∈ws,b ∉ w)→kS3 b X (kT [b] ws)=kT X ws
 | [],_=>rfl
 | [x],h=>zY7 (h x Ym)
 | x :: y :: l,h=>by have h1:=qO2 (b:=b) (X:=X) (y :: l) fun w hw=>h w (List.mem_cons_of_mem _ hw);have h2:=zY7 (X:=X) (h x Ym);unfold kS3 at h1 h2;unfold kS3;rw [kT,kT,List.flatMap_append,List.flatMap_append,h1,h2];simp
theorem qS5:∀ (a r:List UInt8),vF (a++32 :: r)≤a.length
 | [],r=>by simp [vF,show yU 32=false by decide]
 | c :: a,r=>by have:=qS5 a r;rw [lR,vF];split <;> simp <;> omega
theorem qJ1:∀ (a r:List UInt8),jT (a++32 :: r)≤a.length
 | [],r=>by simp [jT,show zV 32=false by decide]
 | c :: a,r=>by have:=qJ1 a r;rw [lR,jT];split <;> simp <;> omega
theorem kS4 (t:List UInt8):xG t≤2:=by
 have h:∀ f k,yG t f k≤2:=by
  intro f;induction f with
  | zero =>
    intro k;unfold yG;split
    ·omega
    ·split <;> omega
  | succ f ih =>
    intro k;unfold yG;split
    ·omega
    ·exact ih _
 exact h 5 0
theorem kS5 (c:UInt8) (r:List UInt8):xG (c :: 32 :: r)≤1:=by
 have hp:∀ k,(vT k).isPrefixOf (c :: 32 :: r)=false:=by intro k;unfold vT;split <;> simp [List.isPrefixOf]
 have h:∀ f k,yG (c :: 32 :: r) f k≤1:=by
  intro f;induction f with
  | zero =>
    intro k;simp only [yG];split <;> omega
  | succ f ih =>
    intro k;rw [yG,hp k];exact ih _
 exact h 5 0
theorem jS3 (r:List UInt8):xG (32 :: r)=0:=by
 have hp:∀ k,(vT k).isPrefixOf (32 :: r)=false:=by intro k;unfold vT;split <;> simp [List.isPrefixOf]
 have h:∀ f k,yG (32 :: r) f k=0:=by
  intro f;induction f with
  | zero =>
    intro k;simp only [yG];rw [lN Yd]
  | succ f ih =>
    intro k;rw [yG,hp k];exact ih _
 exact h 5 0
theorem kS7 (a r:List UInt8):(zC1 (a++32 :: r)).2≤a.length:=by
 cases a with
 | nil =>
   rw [cF,zC1,lN Yd,lN Yd,jS3,lN Yd];exact lF _
 | cons c a =>
   rw [lR,zC1];by_cases hl:qM c=true
   ·rw [lM hl];have:=qS5 a r;simp only [Yc];omega
   ·rw [lN hl];by_cases hd:zV c=true
    ·rw [lM hd];have h1:=qJ1 (c :: a) r;rw [lR]at h1;obtain⟨n,hn⟩:∃ n,jT (c :: (a++32 :: r))=n:=⟨_,rfl⟩;rw [hn]at h1 ⊢;have hdr:(c :: (a++32 :: r)).drop n=(c :: a).drop n++32 :: r:=by rw [←lR,List.drop_append_of_le_length h1]
     have hlen:((c :: a).drop n).length=(c :: a).length-n:=cU;rw [hdr];obtain⟨z,hz⟩:∃ z,(c :: a).drop n=z:=⟨_,rfl⟩;rw [hz]at hlen ⊢;split
     ·rename_i d e r' he;split
      ·rename_i h58;cases z with
       | nil =>
         injection he with h2 _;rw [←h2]at h58;exact absurd h58.1 Yd
       | cons d' z =>
         injection he with h2 h3;have h4:=qJ1 z r;have h3:z++32 :: r=e :: r':=h3;rw [h3]at h4;simp only [Yc]at hlen ⊢;simp only [Yc]at h1;show n+1+jT (e :: r')≤_;omega
      ·exact h1
     ·exact h1
    ·rw [lN hd];by_cases hs:0<xG (c :: (a++32 :: r))
     ·rw [lM hs];cases a with
      | nil=>exact kS5 c r
      | cons b a =>
        have:=kS4 (c :: (b :: a++32 :: r));simp only [Yc];show xG _≤_;omega
     ·rw [lN hs];exact lV _
theorem kS8 {tok u:List UInt8} {k:Nat} (h:zC1 (tok++u)=(k,tok.length)):(32:UInt8) ∉ tok:=by intro hm;obtain⟨a,b,rfl⟩:=List.append_of_mem hm;have h1:=kS7 a (b++u);rw [lS,lR]at h;rw [h]at h1;simp only [Ya,Yc]at h1;omega
theorem LexOk.nosp:∀ {l:List Pc} {t:List UInt8},LexOk l t→∀ p∈l,(32:UInt8) ∉ p.tok
 | [],_,_,p,hp=>by cases hp
 | q :: r,t,h,p,hp=>by
   rcases lU.1 hp with rfl | hp
   ·exact kS8 h.2.1
   ·exact h.2.2.2.2.nosp p hp
theorem kS9 {l:List Pc} (h:LexOk l []) (k:Nat):Lib.replaceAll (kT [32] (l.map (·.tok))) [32] (qJ4 k)=kT (qJ4 k) (l.map (·.tok)):=by rw [qC5 32 _ (kU9 k),qO2];intro w hw;obtain⟨p,hp,rfl⟩:=List.mem_map.1 hw;exact h.nosp p hp
section
open Go.RowKit Go.PlainAid
end
section
section
variable {f:Nat→Nat} {a b c d:Nat} {l m:List Nat}
end
section
variable {E:Env} {wide:Bool}
end
end
section
section
variable {E:Env} {wide:Bool}
end
end
section
section
variable {E:Env} {wide:Bool}
end
theorem jJ9:∀ (l:List Pc) (o i:Nat) (t:Tk),(yI o l)[i]?=some t→o≤t.at'∧t.at'+t.text.length≤o+(jF l).length
 | [],o,i,t,h=>by simp [yI]at h
 | p :: l,o,0,t,h=>by injection h with h;subst h;rw [zF];simp only [Ya];exact⟨Yo,Yo⟩
 | p :: l,o,i+1,t,h=>by have:=jJ9 l (o+p.gap.length+p.tok.length) i t h;rw [zF];simp only [Ya];omega
end
section
open Go.RowKit
end
end Go.Proofs.YtfdaebgllibphaaGreatDoor
