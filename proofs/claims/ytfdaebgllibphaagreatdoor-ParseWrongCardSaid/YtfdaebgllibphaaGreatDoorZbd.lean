import Derived.Test.YtfdaebgllibphaaGreatDoorZao
import Derived.Test.YtfdaebgllibphaaGreatDoorZbc
set_option linter.unusedVariables false
set_option linter.unusedSimpArgs false
set_option maxRecDepth 100000
set_option maxHeartbeats 16000000
namespace Go.Proofs.YtfdaebgllibphaaGreatDoor
section
open Go.RowKit Go.PlainAid
theorem zU9 {B:Nat} {w:World} {x:Ex} (ok:zX3 x) (hs:x.subs=[]):TrT B w x ⟨none,0,0⟩:=.leaf ok hs 0
theorem zB8 {v:World} {x:Ex} (L:List (Ex×SV)) (ok:zX3 x) (hx:x.subs=L.map fun q=>q.1) (hL:∀ q∈L,TrT 0 v q.1 q.2):TrT 0 (v.alloc (.cells (L.flatMap fun q=>qX q.1 q.2).toArray 31)) x ⟨some ⟨v.heap.size,0,none⟩,L.length,L.length⟩:=by have h:=RdT.new v (L.flatMap fun q=>qX q.1 q.2).toArray 31;rw [List.toList_toArray]at h;exact jI8 L ok hx h (fun _ _ _=>lV _) (fun q hq=>(hL q hq).bel zB)
theorem okV (c:UInt8):zX3 (vrX c):=⟨by show(2:Nat)≤255;decide,by show(0:Nat)≤255;decide,by show(0:Nat)≤4294967295;decide,by show(-9223372036854775808:Int)≤0;decide,by show(0:Int)≤9223372036854775807;decide,by show(1:Nat)≤1000000;decide,by show(0:Nat)≤1000;decide⟩
theorem okN (v:Nat) (k:Int) (hv:v≤4294967295) (h0:-9223372036854775808≤k) (h1:k≤9223372036854775807):zX3 (zW5 v k):=⟨by show(1:Nat)≤255;decide,by show(0:Nat)≤255;decide,hv,h0,h1,by show(0:Nat)≤1000000;decide,by show(0:Nat)≤1000;decide⟩
theorem okC (k:Int) (x:Ex) (h0:-9223372036854775808≤k) (h1:k≤9223372036854775807):zX3 (zF8 k x):=⟨by show(8:Nat)≤255;decide,by show(0:Nat)≤255;decide,by show(0:Nat)≤4294967295;decide,h0,h1,by show(0:Nat)≤1000000;decide,by show(1:Nat)≤1000;decide⟩
theorem okU (o:Nat) (x:Ex) (ho:o≤255):zX3 (unX o x):=⟨by show(5:Nat)≤255;decide,ho,by show(0:Nat)≤4294967295;decide,by show(-9223372036854775808:Int)≤0;decide,by show(0:Int)≤9223372036854775807;decide,by show(0:Nat)≤1000000;decide,by show(1:Nat)≤1000;decide⟩
theorem okE (n:UInt8) (x:Ex):zX3 (qN3 [n] x):=⟨by show(3:Nat)≤255;decide,by show(0:Nat)≤255;decide,by show(0:Nat)≤4294967295;decide,by show(-9223372036854775808:Int)≤0;decide,by show(0:Int)≤9223372036854775807;decide,by show(1:Nat)≤1000000;decide,by show(1:Nat)≤1000;decide⟩
theorem okM (x y z:Ex):zX3 (kC4 x y z):=⟨by show(7:Nat)≤255;decide,by show(0:Nat)≤255;decide,by show(0:Nat)≤4294967295;decide,by show(-9223372036854775808:Int)≤0;decide,by show(0:Int)≤9223372036854775807;decide,by show(0:Nat)≤1000000;decide,by show(3:Nat)≤1000;decide⟩
theorem qI3 {w:World} {x:Ex} {S:SV} (h:TrT 0 w x S):∀ q∈[(x,S)],TrT 0 w q.1 q.2:=fun q hq=>by rw [cQ.1 hq];exact h
theorem qS4 {w:World} {x y z:Ex} {S V U:SV} (h1:TrT 0 w x S) (h2:TrT 0 w y V) (h3:TrT 0 w z U):∀ q∈[(x,S),(y,V),(z,U)],TrT 0 w q.1 q.2:=fun q hq=>by
 simp only [lU,lT,or_false]at hq;rcases hq with rfl | rfl | rfl
 ·exact h1
 ·exact h2
 ·exact h3
def SAW (b1 b2 b3 b4 b5:Nat) (S1 S2 S3 S4 S5:SV) (w':World):Prop:=w'.cell? ⟨b1,0,none⟩=some (uB 8)∧w'.cell? ⟨b1,1,none⟩=some (uB 0)∧w'.cell? ⟨b1,2,none⟩=some (uW 0)∧w'.cell? ⟨b1,3,none⟩=some (uI 2)∧w'.cell? ⟨b1,4,none⟩=some (uT)∧w'.cell? ⟨b1,5,none⟩=some (.slice S1.A S1.n S1.c)∧w'.cell? ⟨b2,0,none⟩=some (uB 5)∧w'.cell? ⟨b2,1,none⟩=some (uB 1)∧w'.cell? ⟨b2,2,none⟩=some (uW 0)∧w'.cell? ⟨b2,3,none⟩=some (uI 0)∧w'.cell? ⟨b2,4,none⟩=some (uT)∧w'.cell? ⟨b2,5,none⟩=some (.slice S2.A S2.n S2.c)∧w'.cell? ⟨b3,0,none⟩=some (uB 3)∧w'.cell? ⟨b3,1,none⟩=some (uB 0)∧w'.cell? ⟨b3,2,none⟩=some (uW 0)∧w'.cell? ⟨b3,3,none⟩=some (uI 0)∧w'.cell? ⟨b3,4,none⟩=some (.string ⟨#[97]⟩)∧w'.cell? ⟨b3,5,none⟩=some (.slice S3.A S3.n S3.c)∧w'.cell? ⟨b4,0,none⟩=some (uB 5)∧w'.cell? ⟨b4,1,none⟩=some (uB 2)∧w'.cell? ⟨b4,2,none⟩=some (uW 0)∧w'.cell? ⟨b4,3,none⟩=some (uI 0)∧w'.cell? ⟨b4,4,none⟩=some (uT)∧w'.cell? ⟨b4,5,none⟩=some (.slice S4.A S4.n S4.c)∧w'.cell? ⟨b5,0,none⟩=some (uB 7)∧w'.cell? ⟨b5,1,none⟩=some (uB 0)∧w'.cell? ⟨b5,2,none⟩=some (uW 0)∧w'.cell? ⟨b5,3,none⟩=some (uI 0)∧w'.cell? ⟨b5,4,none⟩=some (uT)∧w'.cell? ⟨b5,5,none⟩=some (.slice S5.A S5.n S5.c)
theorem kK2 {W w':World} {b1 b2 b3 b4 b5:Nat} {S1 S2 S3 S4 S5:SV} (h1:Bk W b1 31 #[uB 8,uB 0,uW 0,uI 2,uT,.slice S1.A S1.n S1.c]) (h2:Bk W b2 31 #[uB 5,uB 1,uW 0,uI 0,uT,.slice S2.A S2.n S2.c]) (h3:Bk W b3 31 #[uB 3,uB 0,uW 0,uI 0,.string ⟨#[97]⟩,.slice S3.A S3.n S3.c]) (h4:Bk W b4 31 #[uB 5,uB 2,uW 0,uI 0,uT,.slice S4.A S4.n S4.c]) (h5:Bk W b5 31 #[uB 7,uB 0,uW 0,uI 0,uT,.slice S5.A S5.n S5.c]) (hb:Below W.heap.size W w'):SAW b1 b2 b3 b4 b5 S1 S2 S3 S4 S5 w':=by obtain⟨x10,x11,x12,x13,x14,x15⟩:=zH (zD h1 hb);obtain⟨x20,x21,x22,x23,x24,x25⟩:=zH (zD h2 hb);obtain⟨x30,x31,x32,x33,x34,x35⟩:=zH (zD h3 hb);obtain⟨x40,x41,x42,x43,x44,x45⟩:=zH (zD h4 hb);obtain⟨x50,x51,x52,x53,x54,x55⟩:=zH (zD h5 hb);exact⟨x10,x11,x12,x13,x14,x15,x20,x21,x22,x23,x24,x25,x30,x31,x32,x33,x34,x35,x40,x41,x42,x43,x44,x45,x50,x51,x52,x53,x54,x55⟩
theorem kK3 (w:World) (hv:Hid (Vars w)):Calls Tryz.prog 7 #[] w fun e w'=>e=.returned (.bool true)∧Below w.heap.size w w':=by
 go_enter Tryz.func7,Tryz.ntmps7
 have HB0:Hid (Below w.heap.size w w):=lB _ _;go_wp2_with fail
 refine(nmC ⟨#[121]⟩ w).mono ?_;rintro e w1 ⟨rfl,hb⟩;have HB1:=Ph (zU HB0.out hb);clear HB0;clear hb;have ht0:TrT 0 (w1.alloc (.cells #[uB 2,uB 0,uW 0,uI 0,.string ⟨#[121]⟩,uN] 31)) (zF8 2 (vrX 121)) ⟨some ⟨w1.heap.size,0,none⟩,1,1⟩:=zB8 [((vrX 121),⟨none,0,0⟩)] (okC 2 _ Yd Yd) rfl (qI3 (zU9 (okV 121) rfl));have HTn:=Ph (ht0.bel (zB (o:=.cells #[uB 8,uB 0,uW 0,uI 2,uT,.slice (some ⟨w1.heap.size,0,none⟩) 1 1] 31)));have hx:=Bk.new (w1.alloc (.cells #[uB 2,uB 0,uW 0,uI 0,.string ⟨#[121]⟩,uN] 31)) 31 #[uB 8,uB 0,uW 0,uI 2,uT,.slice (some ⟨w1.heap.size,0,none⟩) 1 1];simp only [lO]at hx;have HXn:=Ph hx;clear hx ht0;have hb:Below w1.heap.size w1 ((w1.alloc (.cells #[uB 2,uB 0,uW 0,uI 0,.string ⟨#[121]⟩,uN] 31)).alloc (.cells #[uB 8,uB 0,uW 0,uI 2,uT,.slice (some ⟨w1.heap.size,0,none⟩) 1 1] 31)):=zG (zG (lB _ _) _) _;have HB2:=Ph (zU HB1.out hb);clear HB1;clear hb;go_upto_region 2 with fail
 generalize ((World.alloc _ _))=w2 at HB2 HTn HXn ⊢;obtain⟨b1,hbn⟩:∃ b,w1.heap.size+1=b:=⟨_,rfl⟩;rw [hbn]at HXn;rw [hbn];clear hbn;obtain⟨S1,hSn⟩:∃ S:SV,S=⟨some ⟨w1.heap.size,0,none⟩,1,1⟩:=⟨_,rfl⟩;rw [←hSn]at HTn;have hSl:Value.slice (some ⟨w1.heap.size,0,none⟩) 1 1=uL S1:=by rw [hSn]
 rw [hSl]at HXn;try rw [hSl]
 clear hSn hSl;have HT1:=HTn;have HX1:=HXn;clear HTn HXn;go_wp2_with fail
 refine(nmC ⟨#[122]⟩ w2).mono ?_;rintro e w3 ⟨rfl,hb⟩;have HB3:=Ph (zU HB2.out hb);have HTx:=Ph (HT1.out.bel hb);clear HT1;have HT1:=HTx;clear HTx;have HXx:=Ph (zD HX1.out hb);clear HX1;have HX1:=HXx;clear HXx;clear HB2;clear hb;have ht0:TrT 0 (w3.alloc (.cells #[uB 2,uB 0,uW 0,uI 0,.string ⟨#[122]⟩,uN] 31)) (unX 1 (vrX 122)) ⟨some ⟨w3.heap.size,0,none⟩,1,1⟩:=zB8 [((vrX 122),⟨none,0,0⟩)] (okU 1 _ Yd) rfl (qI3 (zU9 (okV 122) rfl));have HTn:=Ph (ht0.bel (zB (o:=.cells #[uB 5,uB 1,uW 0,uI 0,uT,.slice (some ⟨w3.heap.size,0,none⟩) 1 1] 31)));have hx:=Bk.new (w3.alloc (.cells #[uB 2,uB 0,uW 0,uI 0,.string ⟨#[122]⟩,uN] 31)) 31 #[uB 5,uB 1,uW 0,uI 0,uT,.slice (some ⟨w3.heap.size,0,none⟩) 1 1];simp only [lO]at hx;have HXn:=Ph hx;clear hx ht0;have hb:Below w3.heap.size w3 ((w3.alloc (.cells #[uB 2,uB 0,uW 0,uI 0,.string ⟨#[122]⟩,uN] 31)).alloc (.cells #[uB 5,uB 1,uW 0,uI 0,uT,.slice (some ⟨w3.heap.size,0,none⟩) 1 1] 31)):=zG (zG (lB _ _) _) _;have HB4:=Ph (zU HB3.out hb);have HTx:=Ph (HT1.out.bel hb);clear HT1;have HT1:=HTx;clear HTx;have HXx:=Ph (zD HX1.out hb);clear HX1;have HX1:=HXx;clear HXx;clear HB3;clear hb;go_upto_region 3 with fail
 generalize ((World.alloc _ _))=w4 at HB4 HTn HXn HT1 HX1 ⊢;obtain⟨b2,hbn⟩:∃ b,w3.heap.size+1=b:=⟨_,rfl⟩;rw [hbn]at HXn;rw [hbn];clear hbn;obtain⟨S2,hSn⟩:∃ S:SV,S=⟨some ⟨w3.heap.size,0,none⟩,1,1⟩:=⟨_,rfl⟩;rw [←hSn]at HTn;have hSl:Value.slice (some ⟨w3.heap.size,0,none⟩) 1 1=uL S2:=by rw [hSn]
 rw [hSl]at HXn;try rw [hSl]
 clear hSn hSl;have HT2:=HTn;have HX2:=HXn;clear HTn HXn;go_wp2_with fail
 refine(nuC 0 1 w4).mono ?_;rintro e w5 ⟨rfl,hb⟩;have HB5:=Ph (zU HB4.out hb);have HTx:=Ph (HT1.out.bel hb);clear HT1;have HT1:=HTx;clear HTx;have HXx:=Ph (zD HX1.out hb);clear HX1;have HX1:=HXx;clear HXx;have HTx:=Ph (HT2.out.bel hb);clear HT2;have HT2:=HTx;clear HTx;have HXx:=Ph (zD HX2.out hb);clear HX2;have HX2:=HXx;clear HXx;clear HB4;clear hb;have ht0:TrT 0 (w5.alloc (.cells #[uB 1,uB 0,uW 0,uI 1,uT,uN] 31)) (qN3 [97] (zW5 0 1)) ⟨some ⟨w5.heap.size,0,none⟩,1,1⟩:=zB8 [((zW5 0 1),⟨none,0,0⟩)] (okE 97 _) rfl (qI3 (zU9 (okN 0 1 Yd Yd Yd) rfl));have HTn:=Ph (ht0.bel (zB (o:=.cells #[uB 3,uB 0,uW 0,uI 0,.string ⟨#[97]⟩,.slice (some ⟨w5.heap.size,0,none⟩) 1 1] 31)));have hx:=Bk.new (w5.alloc (.cells #[uB 1,uB 0,uW 0,uI 1,uT,uN] 31)) 31 #[uB 3,uB 0,uW 0,uI 0,.string ⟨#[97]⟩,.slice (some ⟨w5.heap.size,0,none⟩) 1 1];simp only [lO]at hx;have HXn:=Ph hx;clear hx ht0;have hb:Below w5.heap.size w5 ((w5.alloc (.cells #[uB 1,uB 0,uW 0,uI 1,uT,uN] 31)).alloc (.cells #[uB 3,uB 0,uW 0,uI 0,.string ⟨#[97]⟩,.slice (some ⟨w5.heap.size,0,none⟩) 1 1] 31)):=zG (zG (lB _ _) _) _;have HB6:=Ph (zU HB5.out hb);have HTx:=Ph (HT1.out.bel hb);clear HT1;have HT1:=HTx;clear HTx;have HXx:=Ph (zD HX1.out hb);clear HX1;have HX1:=HXx;clear HXx;have HTx:=Ph (HT2.out.bel hb);clear HT2;have HT2:=HTx;clear HTx;have HXx:=Ph (zD HX2.out hb);clear HX2;have HX2:=HXx;clear HXx;clear HB5;clear hb;go_upto_region 4 with fail
 generalize ((World.alloc _ _))=w6 at HB6 HTn HXn HT1 HX1 HT2 HX2 ⊢;obtain⟨b3,hbn⟩:∃ b,w5.heap.size+1=b:=⟨_,rfl⟩;rw [hbn]at HXn;rw [hbn];clear hbn;obtain⟨S3,hSn⟩:∃ S:SV,S=⟨some ⟨w5.heap.size,0,none⟩,1,1⟩:=⟨_,rfl⟩;rw [←hSn]at HTn;have hSl:Value.slice (some ⟨w5.heap.size,0,none⟩) 1 1=uL S3:=by rw [hSn]
 rw [hSl]at HXn;try rw [hSl]
 clear hSn hSl;have HT3:=HTn;have HX3:=HXn;clear HTn HXn;go_wp2_with fail
 refine(nmC ⟨#[120]⟩ w6).mono ?_;rintro e w7 ⟨rfl,hb⟩;have HB7:=Ph (zU HB6.out hb);have HTx:=Ph (HT1.out.bel hb);clear HT1;have HT1:=HTx;clear HTx;have HXx:=Ph (zD HX1.out hb);clear HX1;have HX1:=HXx;clear HXx;have HTx:=Ph (HT2.out.bel hb);clear HT2;have HT2:=HTx;clear HTx;have HXx:=Ph (zD HX2.out hb);clear HX2;have HX2:=HXx;clear HXx;have HTx:=Ph (HT3.out.bel hb);clear HT3;have HT3:=HTx;clear HTx;have HXx:=Ph (zD HX3.out hb);clear HX3;have HX3:=HXx;clear HXx;clear HB6;clear hb;have ht0:TrT 0 (w7.alloc (.cells #[uB 2,uB 0,uW 0,uI 0,.string ⟨#[120]⟩,uN] 31)) (unX 2 (vrX 120)) ⟨some ⟨w7.heap.size,0,none⟩,1,1⟩:=zB8 [((vrX 120),⟨none,0,0⟩)] (okU 2 _ Yd) rfl (qI3 (zU9 (okV 120) rfl));have ht1:TrT 0 ((w7.alloc (.cells #[uB 2,uB 0,uW 0,uI 0,.string ⟨#[120]⟩,uN] 31)).alloc (.cells #[uB 5,uB 2,uW 0,uI 0,uT,.slice (some ⟨w7.heap.size,0,none⟩) 1 1] 31)) (unX 2 (unX 2 (vrX 120))) ⟨some ⟨w7.heap.size+1,0,none⟩,1,1⟩:=by have hq:=zB8 [((unX 2 (vrX 120)),⟨some ⟨w7.heap.size,0,none⟩,1,1⟩)] (okU 2 _ Yd) rfl (qI3 ht0);rw [lO]at hq;exact hq
 have HTn:=Ph (ht1.bel (zB (o:=.cells #[uB 5,uB 2,uW 0,uI 0,uT,.slice (some ⟨w7.heap.size+1,0,none⟩) 1 1] 31)));have hx:=Bk.new ((w7.alloc (.cells #[uB 2,uB 0,uW 0,uI 0,.string ⟨#[120]⟩,uN] 31)).alloc (.cells #[uB 5,uB 2,uW 0,uI 0,uT,.slice (some ⟨w7.heap.size,0,none⟩) 1 1] 31)) 31 #[uB 5,uB 2,uW 0,uI 0,uT,.slice (some ⟨w7.heap.size+1,0,none⟩) 1 1];simp only [lO]at hx;have HXn:=Ph hx;clear hx ht0 ht1;have hb:Below w7.heap.size w7 (((w7.alloc (.cells #[uB 2,uB 0,uW 0,uI 0,.string ⟨#[120]⟩,uN] 31)).alloc (.cells #[uB 5,uB 2,uW 0,uI 0,uT,.slice (some ⟨w7.heap.size,0,none⟩) 1 1] 31)).alloc (.cells #[uB 5,uB 2,uW 0,uI 0,uT,.slice (some ⟨w7.heap.size+1,0,none⟩) 1 1] 31)):=zG (zG (zG (lB _ _) _) _) _;have HB8:=Ph (zU HB7.out hb);have HTx:=Ph (HT1.out.bel hb);clear HT1;have HT1:=HTx;clear HTx;have HXx:=Ph (zD HX1.out hb);clear HX1;have HX1:=HXx;clear HXx;have HTx:=Ph (HT2.out.bel hb);clear HT2;have HT2:=HTx;clear HTx;have HXx:=Ph (zD HX2.out hb);clear HX2;have HX2:=HXx;clear HXx;have HTx:=Ph (HT3.out.bel hb);clear HT3;have HT3:=HTx;clear HTx;have HXx:=Ph (zD HX3.out hb);clear HX3;have HX3:=HXx;clear HXx;clear HB7;clear hb;go_upto_region 5 with fail
 generalize ((World.alloc _ _))=w8 at HB8 HTn HXn HT1 HX1 HT2 HX2 HT3 HX3 ⊢;obtain⟨b4,hbn⟩:∃ b,w7.heap.size+1+1=b:=⟨_,rfl⟩;rw [hbn]at HXn;rw [hbn];clear hbn;obtain⟨S4,hSn⟩:∃ S:SV,S=⟨some ⟨w7.heap.size+1,0,none⟩,1,1⟩:=⟨_,rfl⟩;rw [←hSn]at HTn;have hSl:Value.slice (some ⟨w7.heap.size+1,0,none⟩) 1 1=uL S4:=by rw [hSn]
 rw [hSl]at HXn;try rw [hSl]
 clear hSn hSl;have HT4:=HTn;have HX4:=HXn;clear HTn HXn;go_wp2_with fail
 refine(nmC ⟨#[100]⟩ w8).mono ?_;rintro e w9 ⟨rfl,hb⟩;have HB9:=Ph (zU HB8.out hb);have HTx:=Ph (HT1.out.bel hb);clear HT1;have HT1:=HTx;clear HTx;have HXx:=Ph (zD HX1.out hb);clear HX1;have HX1:=HXx;clear HXx;have HTx:=Ph (HT2.out.bel hb);clear HT2;have HT2:=HTx;clear HTx;have HXx:=Ph (zD HX2.out hb);clear HX2;have HX2:=HXx;clear HXx;have HTx:=Ph (HT3.out.bel hb);clear HT3;have HT3:=HTx;clear HTx;have HXx:=Ph (zD HX3.out hb);clear HX3;have HX3:=HXx;clear HXx;have HTx:=Ph (HT4.out.bel hb);clear HT4;have HT4:=HTx;clear HTx;have HXx:=Ph (zD HX4.out hb);clear HX4;have HX4:=HXx;clear HXx;clear HB8;clear hb;go_wp2_with fail
 refine(nmC ⟨#[120]⟩ w9).mono ?_;rintro e w10 ⟨rfl,hb⟩;have HB10:=Ph (zU HB9.out hb);have HTx:=Ph (HT1.out.bel hb);clear HT1;have HT1:=HTx;clear HTx;have HXx:=Ph (zD HX1.out hb);clear HX1;have HX1:=HXx;clear HXx;have HTx:=Ph (HT2.out.bel hb);clear HT2;have HT2:=HTx;clear HTx;have HXx:=Ph (zD HX2.out hb);clear HX2;have HX2:=HXx;clear HXx;have HTx:=Ph (HT3.out.bel hb);clear HT3;have HT3:=HTx;clear HTx;have HXx:=Ph (zD HX3.out hb);clear HX3;have HX3:=HXx;clear HXx;have HTx:=Ph (HT4.out.bel hb);clear HT4;have HT4:=HTx;clear HTx;have HXx:=Ph (zD HX4.out hb);clear HX4;have HX4:=HXx;clear HXx;clear HB9;clear hb;go_wp2_with fail
 refine(nmC ⟨#[121]⟩ w10).mono ?_;rintro e w11 ⟨rfl,hb⟩;have HB11:=Ph (zU HB10.out hb);have HTx:=Ph (HT1.out.bel hb);clear HT1;have HT1:=HTx;clear HTx;have HXx:=Ph (zD HX1.out hb);clear HX1;have HX1:=HXx;clear HXx;have HTx:=Ph (HT2.out.bel hb);clear HT2;have HT2:=HTx;clear HTx;have HXx:=Ph (zD HX2.out hb);clear HX2;have HX2:=HXx;clear HXx;have HTx:=Ph (HT3.out.bel hb);clear HT3;have HT3:=HTx;clear HTx;have HXx:=Ph (zD HX3.out hb);clear HX3;have HX3:=HXx;clear HXx;have HTx:=Ph (HT4.out.bel hb);clear HT4;have HT4:=HTx;clear HTx;have HXx:=Ph (zD HX4.out hb);clear HX4;have HX4:=HXx;clear HXx;clear HB10;clear hb;have ht0:TrT 0 (w11.alloc (.cells #[uB 2,uB 0,uW 0,uI 0,.string ⟨#[100]⟩,uN,uB 2,uB 0,uW 0,uI 0,.string ⟨#[120]⟩,uN,uB 2,uB 0,uW 0,uI 0,.string ⟨#[121]⟩,uN] 31)) (kC4 (vrX 100) (vrX 120) (vrX 121)) ⟨some ⟨w11.heap.size,0,none⟩,3,3⟩:=zB8 [((vrX 100),⟨none,0,0⟩),((vrX 120),⟨none,0,0⟩),((vrX 121),⟨none,0,0⟩)] (okM _ _ _) rfl (qS4 (zU9 (okV 100) rfl) (zU9 (okV 120) rfl) (zU9 (okV 121) rfl));have HTn:=Ph (ht0.bel (zB (o:=.cells #[uB 7,uB 0,uW 0,uI 0,uT,.slice (some ⟨w11.heap.size,0,none⟩) 3 3] 31)));have hx:=Bk.new (w11.alloc (.cells #[uB 2,uB 0,uW 0,uI 0,.string ⟨#[100]⟩,uN,uB 2,uB 0,uW 0,uI 0,.string ⟨#[120]⟩,uN,uB 2,uB 0,uW 0,uI 0,.string ⟨#[121]⟩,uN] 31)) 31 #[uB 7,uB 0,uW 0,uI 0,uT,.slice (some ⟨w11.heap.size,0,none⟩) 3 3];simp only [lO]at hx;have HXn:=Ph hx;clear hx ht0;have hb:Below w11.heap.size w11 ((w11.alloc (.cells #[uB 2,uB 0,uW 0,uI 0,.string ⟨#[100]⟩,uN,uB 2,uB 0,uW 0,uI 0,.string ⟨#[120]⟩,uN,uB 2,uB 0,uW 0,uI 0,.string ⟨#[121]⟩,uN] 31)).alloc (.cells #[uB 7,uB 0,uW 0,uI 0,uT,.slice (some ⟨w11.heap.size,0,none⟩) 3 3] 31)):=zG (zG (lB _ _) _) _;have HB12:=Ph (zU HB11.out hb);have HTx:=Ph (HT1.out.bel hb);clear HT1;have HT1:=HTx;clear HTx;have HXx:=Ph (zD HX1.out hb);clear HX1;have HX1:=HXx;clear HXx;have HTx:=Ph (HT2.out.bel hb);clear HT2;have HT2:=HTx;clear HTx;have HXx:=Ph (zD HX2.out hb);clear HX2;have HX2:=HXx;clear HXx;have HTx:=Ph (HT3.out.bel hb);clear HT3;have HT3:=HTx;clear HTx;have HXx:=Ph (zD HX3.out hb);clear HX3;have HX3:=HXx;clear HXx;have HTx:=Ph (HT4.out.bel hb);clear HT4;have HT4:=HTx;clear HTx;have HXx:=Ph (zD HX4.out hb);clear HX4;have HX4:=HXx;clear HXx;clear HB11;clear hb;go_upto_region 6 with fail
 generalize ((World.alloc _ _))=w12 at HB12 HTn HXn HT1 HX1 HT2 HX2 HT3 HX3 HT4 HX4 ⊢;obtain⟨b5,hbn⟩:∃ b,w11.heap.size+1=b:=⟨_,rfl⟩;rw [hbn]at HXn;rw [hbn];clear hbn;obtain⟨S5,hSn⟩:∃ S:SV,S=⟨some ⟨w11.heap.size,0,none⟩,3,3⟩:=⟨_,rfl⟩;rw [←hSn]at HTn;have hSl:Value.slice (some ⟨w11.heap.size,0,none⟩) 3 3=uL S5:=by rw [hSn]
 rw [hSl]at HXn;try rw [hSl]
 clear hSn hSl;have HT5:=HTn;have HX5:=HXn;clear HTn HXn;have HSS:Hid (∀ w',Below w12.heap.size w12 w'→SAW b1 b2 b3 b4 b5 S1 S2 S3 S4 S5 w'):=fun w' hb=>kK2 HX1.out HX2.out HX3.out HX4.out HX5.out hb;have HVV:=Ph (hv.out.below HB12.out);have HBC:Hid (Below w12.heap.size w12 w12.drew):=(lB _ _).drew;have H28:Hid (∀ w',Below w12.heap.size w12 w'→Calls Tryz.prog 34 #[uB 5,.agg #[uB 2,uB 0,uW 0,uI 0,.string ⟨#[120]⟩,uN],.agg #[uB 8,uB 0,uW 0,uI 2,uT,uL S1]] w' (fun e w''=>∃ U:SV,e=.returned (.agg #[uB 6,uB 5,uW 0,uI 0,uT,uL U])∧TrT 0 w'' (zD8 5 (vrX 120) (zF8 2 (vrX 121))) U∧Below w'.heap.size w' w'')):=Ph fun w' hb=>biC 0 5 (vrX 120) (zF8 2 (vrX 121)) ⟨none,0,0⟩ S1 Yd w' (lV _) (zU9 (okV 120) rfl) (HT1.out.bel hb);have H29:Hid (∀ w' U,Below w12.heap.size w12 w'→TrT 0 w' (zD8 5 (vrX 120) (zF8 2 (vrX 121))) U→Calls Tryz.prog 34 #[uB 3,.agg #[uB 1,uB 0,uW 1,uI 4,uT,uN],.agg #[uB 6,uB 5,uW 0,uI 0,uT,uL U]] w' (fun e w''=>∃ U:SV,e=.returned (.agg #[uB 6,uB 3,uW 0,uI 0,uT,uL U])∧TrT 0 w'' (zD8 3 (zW5 1 4) (zD8 5 (vrX 120) (zF8 2 (vrX 121)))) U∧Below w'.heap.size w' w'')):=Ph fun w' U hb hu=>biC 0 3 (zW5 1 4) (zD8 5 (vrX 120) (zF8 2 (vrX 121))) ⟨none,0,0⟩ U Yd w' (lV _) (zU9 (okN 1 4 Yd Yd Yd) rfl) hu;have H31:Hid (∀ w' U,Below w12.heap.size w12 w'→TrT 0 w' (zD8 3 (zW5 1 4) (zD8 5 (vrX 120) (zF8 2 (vrX 121)))) U→Calls Tryz.prog 34 #[uB 13,.agg #[uB 6,uB 3,uW 0,uI 0,uT,uL U],.agg #[uB 5,uB 1,uW 0,uI 0,uT,uL S2]] w' (fun e w''=>∃ U:SV,e=.returned (.agg #[uB 6,uB 13,uW 0,uI 0,uT,uL U])∧TrT 0 w'' (zD8 13 (zD8 3 (zW5 1 4) (zD8 5 (vrX 120) (zF8 2 (vrX 121)))) (unX 1 (vrX 122))) U∧Below w'.heap.size w' w'')):=Ph fun w' U hb hu=>biC 0 13 (zD8 3 (zW5 1 4) (zD8 5 (vrX 120) (zF8 2 (vrX 121)))) (unX 1 (vrX 122)) U S2 Yd w' (lV _) hu (HT2.out.bel hb);have H33:Hid (∀ w' U,Below w12.heap.size w12 w'→TrT 0 w' (zD8 13 (zD8 3 (zW5 1 4) (zD8 5 (vrX 120) (zF8 2 (vrX 121)))) (unX 1 (vrX 122))) U→Calls Tryz.prog 34 #[uB 8,.agg #[uB 6,uB 13,uW 0,uI 0,uT,uL U],.agg #[uB 3,uB 0,uW 0,uI 0,.string ⟨#[97]⟩,uL S3]] w' (fun e w''=>∃ U:SV,e=.returned (.agg #[uB 6,uB 8,uW 0,uI 0,uT,uL U])∧TrT 0 w'' (zD8 8 (zD8 13 (zD8 3 (zW5 1 4) (zD8 5 (vrX 120) (zF8 2 (vrX 121)))) (unX 1 (vrX 122))) (qN3 [97] (zW5 0 1))) U∧Below w'.heap.size w' w'')):=Ph fun w' U hb hu=>biC 0 8 (zD8 13 (zD8 3 (zW5 1 4) (zD8 5 (vrX 120) (zF8 2 (vrX 121)))) (unX 1 (vrX 122))) (qN3 [97] (zW5 0 1)) U S3 Yd w' (lV _) hu (HT3.out.bel hb);have H34:Hid (∀ w' U,Below w12.heap.size w12 w'→TrT 0 w' (zD8 8 (zD8 13 (zD8 3 (zW5 1 4) (zD8 5 (vrX 120) (zF8 2 (vrX 121)))) (unX 1 (vrX 122))) (qN3 [97] (zW5 0 1))) U→Calls Tryz.prog 33 #[.string ⟨#[49,58,52,32,43,32,120,32,42,32,121,32,64,32,50,32,61,61,32,126,122,32,38,32,97,91,48,58,49,93]⟩,.agg #[uB 6,uB 8,uW 0,uI 0,uT,uL U]] w' (fun e w''=>e=.returned (.bool true)∧Below w'.heap.size w' w'')):=Ph fun w' U hb hu=>kC3 zA3 0 a1T (zD8 8 (zD8 13 (zD8 3 (zW5 1 4) (zD8 5 (vrX 120) (zF8 2 (vrX 121)))) (unX 1 (vrX 122))) (qN3 [97] (zW5 0 1))) U w' vM.h1 Yd (by decide +kernel) (Ph (HVV.out.below hb)) hu;have H41:Hid (∀ w',Below w12.heap.size w12 w'→Calls Tryz.prog 33 #[.string ⟨#[99,32,63,32,49,58,50,32,58,32,100,32,63,32,120,32,58,32,121]⟩,.agg #[uB 7,uB 0,uW 0,uI 0,uT,.slice (some ⟨w'.heap.size,0,none⟩) 3 3]] (w'.alloc (.cells #[uB 2,uB 0,uW 0,uI 0,.string ⟨#[99]⟩,uN,uB 1,uB 0,uW 1,uI 2,uT,uN,uB 7,uB 0,uW 0,uI 0,uT,uL S5] 31)) (fun e w''=>e=.returned (.bool true)∧Below (w'.alloc (.cells #[uB 2,uB 0,uW 0,uI 0,.string ⟨#[99]⟩,uN,uB 1,uB 0,uW 1,uI 2,uT,uN,uB 7,uB 0,uW 0,uI 0,uT,uL S5] 31)).heap.size (w'.alloc (.cells #[uB 2,uB 0,uW 0,uI 0,.string ⟨#[99]⟩,uN,uB 1,uB 0,uW 1,uI 2,uT,uN,uB 7,uB 0,uW 0,uI 0,uT,uL S5] 31)) w'')):=Ph fun w' hb=>kC3 zA3 0 a2T (kC4 (vrX 99) (zW5 1 2) (kC4 (vrX 100) (vrX 120) (vrX 121))) ⟨some ⟨w'.heap.size,0,none⟩,3,3⟩ _ vM.h2 Yd (by decide +kernel) (Ph ((HVV.out.below hb).below zB)) (zB8 [((vrX 99),⟨none,0,0⟩),((zW5 1 2),⟨none,0,0⟩),((kC4 (vrX 100) (vrX 120) (vrX 121)),S5)] (okM _ _ _) rfl (qS4 (zU9 (okV 99) rfl) (zU9 (okN 1 2 Yd Yd Yd) rfl) (HT5.out.bel hb)));have H45:Hid (∀ w',Below w12.heap.size w12 w'→Calls Tryz.prog 33 #[.string ⟨#[45,32,45,32,120]⟩,.agg #[uB 5,uB 2,uW 0,uI 0,uT,uL S4]] w' (fun e w''=>e=.returned (.bool true)∧Below w'.heap.size w' w'')):=Ph fun w' hb=>kC3 zA3 0 a3T (unX 2 (unX 2 (vrX 120))) S4 w' vM.h3 Yd (by decide +kernel) (Ph (HVV.out.below hb)) (HT4.out.bel hb);have HWA0:Hid (∀ w',Below w12.heap.size w12 w'→Calls Tryz.prog 35 #[.string ⟨#[120,32,43]⟩,uI 3,uI 300] w' (fun e w''=>e=.returned (.bool true)∧Below w'.heap.size w' w'')):=Ph fun w' hb=>zK8 zA3 _ 3 300 w' vM.h4 Yd (Ph (HVV.out.below hb));have HWA1:Hid (∀ w',Below w12.heap.size w12 w'→Calls Tryz.prog 35 #[.string ⟨#[40,120]⟩,uI 2,uI 300] w' (fun e w''=>e=.returned (.bool true)∧Below w'.heap.size w' w'')):=Ph fun w' hb=>zK8 zA3 _ 2 300 w' vM.h5 Yd (Ph (HVV.out.below hb));have HWA2:Hid (∀ w',Below w12.heap.size w12 w'→Calls Tryz.prog 35 #[.string ⟨#[120,32,121]⟩,uI 2,uI 300] w' (fun e w''=>e=.returned (.bool true)∧Below w'.heap.size w' w'')):=Ph fun w' hb=>zK8 zA3 _ 2 300 w' vM.h6 Yd (Ph (HVV.out.below hb));have HWA3:Hid (∀ w',Below w12.heap.size w12 w'→Calls Tryz.prog 35 #[.string ⟨#[119,104,105,108,101]⟩,uI 0,uI 300] w' (fun e w''=>e=.returned (.bool true)∧Below w'.heap.size w' w'')):=Ph fun w' hb=>zK8 zA3 _ 0 300 w' vM.h7 Yd (Ph (HVV.out.below hb));have HWA4:Hid (∀ w',Below w12.heap.size w12 w'→Calls Tryz.prog 35 #[.string ⟨#[49,58,57,57,57,57,57,57,57,57,57,57]⟩,uI 0,uI 302] w' (fun e w''=>e=.returned (.bool true)∧Below w'.heap.size w' w'')):=Ph fun w' hb=>zK8 zA3 _ 0 302 w' vM.h8 Yd (Ph (HVV.out.below hb));clear HT1 HX1 HT2 HX2 HT3 HX3 HT4 HX4 HT5 HX5 HVV hv
 go_region_held3 (fun w'=>w'.cell? ⟨b1,0,none⟩=some (uB 8)∧w'.cell? ⟨b1,1,none⟩=some (uB 0)∧w'.cell? ⟨b1,2,none⟩=some (uW 0)∧w'.cell? ⟨b1,3,none⟩=some (uI 2)∧w'.cell? ⟨b1,4,none⟩=some (uT)∧w'.cell? ⟨b1,5,none⟩=some (uL S1)∧w'.cell? ⟨b2,0,none⟩=some (uB 5)∧w'.cell? ⟨b2,1,none⟩=some (uB 1)∧w'.cell? ⟨b2,2,none⟩=some (uW 0)∧w'.cell? ⟨b2,3,none⟩=some (uI 0)∧w'.cell? ⟨b2,4,none⟩=some (uT)∧w'.cell? ⟨b2,5,none⟩=some (uL S2)∧w'.cell? ⟨b3,0,none⟩=some (uB 3)∧w'.cell? ⟨b3,1,none⟩=some (uB 0)∧w'.cell? ⟨b3,2,none⟩=some (uW 0)∧w'.cell? ⟨b3,3,none⟩=some (uI 0)∧w'.cell? ⟨b3,4,none⟩=some (.string ⟨#[97]⟩)∧w'.cell? ⟨b3,5,none⟩=some (uL S3)∧w'.cell? ⟨b4,0,none⟩=some (uB 5)∧w'.cell? ⟨b4,1,none⟩=some (uB 2)∧w'.cell? ⟨b4,2,none⟩=some (uW 0)∧w'.cell? ⟨b4,3,none⟩=some (uI 0)∧w'.cell? ⟨b4,4,none⟩=some (uT)∧w'.cell? ⟨b4,5,none⟩=some (uL S4)∧w'.cell? ⟨b5,0,none⟩=some (uB 7)∧w'.cell? ⟨b5,1,none⟩=some (uB 0)∧w'.cell? ⟨b5,2,none⟩=some (uW 0)∧w'.cell? ⟨b5,3,none⟩=some (uI 0)∧w'.cell? ⟨b5,4,none⟩=some (uT)∧w'.cell? ⟨b5,5,none⟩=some (uL S5))
  ((refine(show SAW b1 b2 b3 b4 b5 S1 S2 S3 S4 S5 _ from ?_);first | with_reducible exact HSS.out _ HBC.out | with_reducible exact HSS.out _ (zG HBC.out _)))
  (first
    | (go_at_call 32
       with_reducible refine(nuC _ _ _).mono ?_
       rintro e v1 ⟨rfl,hb⟩;have HBn:=Ph (zU HBC.out hb);clear HBC hb;have HBC:=HBn;clear HBn)
    | (go_at_call 31
       with_reducible refine(nmC _ _).mono ?_
       rintro e v1 ⟨rfl,hb⟩;have HBn:=Ph (zU HBC.out hb);clear HBC hb;have HBC:=HBn;clear HBn)
    | (go_at_call 34
       first
        | with_reducible refine(H28.out _ HBC.out).mono ?_
        | with_reducible refine(H29.out _ _ HBC.out HU.out).mono ?_
        | with_reducible refine(H31.out _ _ HBC.out HU.out).mono ?_
        | with_reducible refine(H33.out _ _ HBC.out HU.out).mono ?_
       rintro e v1 ⟨U,rfl,ht,hb⟩;have HBn:=Ph (zU HBC.out hb);clear HBC hb;have HBC:=HBn;clear HBn;try clear HU
       have HU:=Ph ht;clear ht)
    | (go_at_call 33
       first
        | with_reducible refine(H34.out _ _ HBC.out HU.out).mono ?_
        | with_reducible refine(H41.out _ HBC.out).mono ?_
        | with_reducible refine(H45.out _ HBC.out).mono ?_
       rintro e v1 ⟨rfl,hb⟩
       first
        | (have HBn:=Ph (zU HBC.out hb))
        | (have HBn:=Ph (zU (zG HBC.out _) hb))
       clear HBC hb;have HBC:=HBn;clear HBn)
    | (go_at_call 35
       first
        | with_reducible refine(HWA0.out _ HBC.out).mono ?_
        | with_reducible refine(HWA1.out _ HBC.out).mono ?_
        | with_reducible refine(HWA2.out _ HBC.out).mono ?_
        | with_reducible refine(HWA3.out _ HBC.out).mono ?_
        | with_reducible refine(HWA4.out _ HBC.out).mono ?_
       rintro e v1 ⟨rfl,hb⟩;have HBn:=Ph (zU HBC.out hb);clear HBC hb;have HBC:=HBn;clear HBn))
 all_goals
  have HBF:=Ph (zU HB12.out HBC.out);go_wp2
  go_ret;exact⟨rfl,HBF.out⟩
end
section
def wH:List UInt8:=[100,101,118,105,99,101]
structure kT (E E':Env) (k a:Nat):Prop where
 same:∀ i,i<k→∃ t,E.toks[i]?=some t∧E'.toks[i]?=some t
 stop:(E'.toks[k]?=none∧E'.text.length=a)∨∃ t,E'.toks[k]?=some t∧t.kind=1∧t.text=wH∧t.at'=a
structure Blk (k a:Nat) (d:Int) (s:PSt):Prop where
 n:s.n=k
 d:s.deep=d
 e:s.e=0∨(s.e=300∧s.fail=a)
def ze (s:PSt):Nat:=if s.e=0 then 1 else 0
theorem zD9 (s:PSt):ze s≤1:=by unfold ze;split <;> omega
section
variable {E E':Env} {k a:Nat} {d:Int} {s:PSt} {w:List UInt8}
theorem Blk.next (L:kT E E' k a) (h:Blk k a d s):((zC E' s).kind=0∧(zC E' s).text=[]∨(zC E' s).kind=1∧(zC E' s).text=wH)∧(s.e=0→(zC E' s).at'=a):=by
 unfold zC;by_cases he:s.e≠0
 ·rw [lM he];exact⟨.inl ⟨rfl,rfl⟩,fun h=>absurd h he⟩
 ·rw [lN he,h.n];rcases L.stop with⟨h1,h2⟩ | ⟨t,h1,h2,h3,h4⟩
  ·rw [h1];exact⟨.inl ⟨rfl,rfl⟩,fun _=>h2⟩
  ·rw [h1];exact⟨.inr ⟨h2,h3⟩,fun _=>h4⟩
theorem Blk.wrong (L:kT E E' k a) (h:Blk k a d s):Blk k a d (qH E' s 300)∧ze (qH E' s 300)=0:=by
 unfold qH;by_cases he:s.e=0
 ·rw [lM he];exact⟨⟨h.n,h.d,.inr ⟨rfl,(h.next L).2 he⟩⟩,rfl⟩
 ·rw [lN he];exact⟨h,lN he⟩
theorem Blk.text (L:kT E E' k a) (h:Blk k a d s) (hw:w≠wH) (hn:w≠[]):(zC E' s).text≠w:=by
 rcases(h.next L).1 with⟨_,h2⟩ | ⟨_,h2⟩
 ·rw [h2];exact cX hn
 ·rw [h2];exact cX hw
theorem Blk.kind (L:kT E E' k a) (h:Blk k a d s):(zC E' s).kind≠4∧(zC E' s).kind≠3∧(zC E' s).kind≠2:=by rcases(h.next L).1 with⟨h2,_⟩ | ⟨h2,_⟩ <;> rw [h2] <;> decide
theorem Blk.is (L:kT E E' k a) (h:Blk k a d s) (hw:w≠wH):isP E' s w=false:=by
 unfold isP;rcases(h.next L).1 with⟨h2,h3⟩ | ⟨h2,h3⟩
 ·rw [h2];rfl
 ·rw [h2,h3,lG (p:=wH=w) (cX hw)];rfl
theorem Blk.must (L:kT E E' k a) (h:Blk k a d s) (hw:w≠wH):Blk k a d (zI E' s w)∧ze (zI E' s w)=0:=by unfold zI;rw [h.is L hw];exact h.wrong L
theorem Blk.isS (L:kT E E' k a) (h:Blk k a d s) (hw:w≠wH):isS E' s w=s:=by unfold Go.Proofs.YtfdaebgllibphaaGreatDoor.isS;rw [h.is L hw];rfl
theorem Blk.nameB (L:kT E E' k a) (h:Blk k a d s):nameB E' s=false:=by
 unfold Go.Proofs.YtfdaebgllibphaaGreatDoor.nameB;rcases(h.next L).1 with⟨h2,h3⟩ | ⟨h2,h3⟩
 ·rw [h2];rfl
 ·rw [h2,h3];decide
theorem Blk.name (L:kT E E' k a) (h:Blk k a d s):Blk k a d (zL E' s)∧ze (zL E' s)=0:=by unfold zL;rw [h.nameB L];exact h.wrong L
theorem Blk.num (L:kT E E' k a) (h:Blk k a d s):Blk k a d (jB E' s).2∧ze (jB E' s).2=0:=by unfold jB;rw [lN (h.kind L).2.2];exact h.wrong L
theorem Blk.ent (L:kT E E' k a) (h:Blk k a d s) (hw:w≠wH):zC7 E' s w=false:=by
 unfold zC7;rcases(h.next L).1 with⟨h2,h3⟩ | ⟨h2,h3⟩
 ·rw [h3];simp
 ·rw [h3,lG (p:=wH=w) (cX hw)];rfl
theorem Blk.deep (h:Blk k a d s) (c:Int):Blk k a (d+c) (yH s c):=⟨h.n,by show s.deep+c=d+c;rw [h.d],h.e⟩
theorem qN4 (s:PSt) (c:Int):ze (yH s c)=ze s:=rfl
theorem Blk.open (L:kT E E' k a) (h:Blk k a d s) (hw:w≠wH):Blk k a (d+1) (kV E' s w)∧ze (kV E' s w)=0:=by unfold kV;rw [h.ent L hw];exact⟨(h.wrong L).1.deep 1,(h.wrong L).2⟩
theorem Blk.shut (L:kT E E' k a) (h:Blk k a (d+1) s) (hw:w≠wH):Blk k a d (wN E' s w)∧ze (wN E' s w)=0:=by unfold wN;have h1:=(h.must L hw).1.deep (-1);exact⟨⟨h1.n,by rw [h1.d];omega,h1.e⟩,(h.must L hw).2⟩
theorem Blk.okP (h:Blk k a d s) (h0:0≤d) (h1:d≤1000):okP s=true:=by unfold Go.Proofs.YtfdaebgllibphaaGreatDoor.okP;have:=h.d;simp only [lZ,cC];omega
theorem Blk.lit (L:kT E E' k a) (h:Blk k a d s) (c:UInt8) (u:List UInt8) (hw:c :: u≠wH):(zC E' s).text≠c :: u:=h.text L hw Ym
theorem dv (w:List UInt8) (h:(w == wH)=false):w≠wH:=fun e=>by rw [e]at h;revert h;decide
theorem jI9 (L:kT E E' k a) (h:Blk k a d s) (f:Nat):∃ r,qJ E' (f+1) s=some r∧Blk k a d r.2∧r.1.2.length+ze r.2≤ze s:=by
 rw [qJ];by_cases he:s.e=0
 ·rw [lH he,lG (h.kind L).2.1,lG (h.text L (w:=[40]) Yd Yd),lG (h.text L (w:=[100,105,115,107]) Yd Yd),lG ((h.name L).1.text L (w:=[91]) Yd Yd)];refine⟨_,rfl,(h.name L).1,?_⟩;dsimp only [qI];rw [(h.name L).2];unfold ze;rw [lM he];simp
 ·rw [lG he];exact⟨_,rfl,h,by simp [nd0]⟩
theorem zK9 (L:kT E E' k a) (h:Blk k a d s) (f:Nat) (x:Nd):jI E' (f+1) x s=some (x,s):=by rw [jI,h.is L Yd]
theorem zV1 (L:kT E E' k a) (h:Blk k a d s) (f r:Nat) (x:Nd):qR E' (f+1) r x s=some (x,s):=by
 rw [qR];cases decide (s.e=0)with
 | false=>rfl
 | true=>rw [lN (h.kind L).1]
theorem zV2 (L:kT E E' k a) (h:Blk k a d s) (f:Nat):∃ r,zR E' (f+2) s=some r∧Blk k a d r.2∧r.1.2.length+ze r.2≤ze s:=by obtain⟨⟨x,s1⟩,h1,h2,h3⟩:=jI9 L h f;rw [zR,lN (h.kind L).1,h1];exact⟨(x,s1),zK9 L h2 f x,h2,h3⟩
theorem qI4 (L:kT E E' k a) (h:Blk k a d s) (f r0:Nat):∃ r,qN E' (f+3) r0 s=some r∧Blk k a d r.2∧r.1.2.length+ze r.2≤ze s:=by obtain⟨⟨x,s1⟩,h1,h2,h3⟩:=zV2 L h f;rw [qN,h1];exact⟨(x,s1),zV1 L h2 _ r0 x,h2,h3⟩
theorem wK (L:kT E E' k a) (h:Blk k a d s) (f:Nat) (h0:0≤d) (h9:d≤1000):∃ r,zM E' (f+4) s=some r∧Blk k a d r.2∧r.1.2.length+ze r.2≤ze s:=by obtain⟨⟨x,s1⟩,h1,h2,h3⟩:=qI4 L h f 1;rw [zM,h1];dsimp only;rw [h2.okP h0 h9];dsimp only;rw [h2.ent L Yd];exact⟨(x,s1),rfl,h2,h3⟩
theorem qY1 (L:kT E E' k a) (h:Blk k a d s) (f:Nat) (h0:0≤d) (h9:d≤900) (u v:List UInt8) (hu:u≠wH) (hv:v≠wH):∃ r,zX E' (f+5) s u v=some r∧Blk k a d r.2∧r.1.2.length+ze r.2≤0:=by obtain⟨ho,hz⟩:=h.open L hu;obtain⟨⟨x,s1⟩,h1,h2,h3⟩:=wK L ho f Yo Yo;rw [zX,h.okP h0 Yo];dsimp only;rw [h1];(try dsimp only at h2 ⊢);rw [h2.okP Yo Yo];obtain⟨h4,h5⟩:=h2.shut L hv;refine⟨_,rfl,h4,?_⟩;(try dsimp only at h3 ⊢);rw [hz]at h3;omega
theorem qO (L:kT E E' k a) (he:s.e=0) (hn:s.n<k):zC E' s=zC E s:=by unfold zC;obtain⟨t,h1,h2⟩:=L.same _ hn;rw [lN Yo,lN Yo,h1,h2]
theorem vC (L:kT E E' k a) (he:s.e=0) (hn:s.n<k):isP E' s w=isP E s w:=by unfold isP;rw [qO L he hn]
theorem zY7 (L:kT E E' k a) (he:s.e=0) (hn:s.n<k):nameB E' s=nameB E s:=by unfold nameB;rw [qO L he hn]
theorem wL (L:kT E E' k a) (he:s.e=0) (hn:s.n<k) (c:Nat):qH E' s c=qH E s c:=by unfold qH;rw [qO L he hn]
theorem zL1 (L:kT E E' k a) (he:s.e=0) (hn:s.n<k):zI E' s w=zI E s w:=by unfold zI;rw [vC L he hn,wL L he hn]
theorem zV3 (L:kT E E' k a) (he:s.e=0) (hn:s.n<k):zL E' s=zL E s:=by unfold zL;rw [zY7 L he hn,wL L he hn]
theorem zO6 (L:kT E E' k a) (he:s.e=0) (hn:s.n<k):jA E' s=jA E s:=by unfold jA;rw [zY7 L he hn,qO L he hn]
theorem qS5 (L:kT E E' k a) (he:s.e=0) (hn:s.n<k):jB E' s=jB E s:=by unfold jB;rw [qO L he hn,wL L he hn,wL L he hn]
theorem zR1 (L:kT E E' k a) (he:s.e=0) (hn:s.n<k):zC7 E' s w=zC7 E s w:=by unfold zC7;rw [qO L he hn]
theorem qI5 (L:kT E E' k a) (he:s.e=0) (hn:s.n<k):zI4 E' s w=zI4 E s w:=by unfold zI4;rw [zR1 L he hn,wL L he hn]
theorem zV4 (L:kT E E' k a) (he:s.e=0) (hn:s.n<k):kV E' s w=kV E s w:=by unfold kV;rw [zR1 L he hn,qI5 L he hn,wL L he hn]
theorem qI6 (L:kT E E' k a) (he:s.e=0) (hn:s.n<k):wN E' s w=wN E s w:=by unfold wN;rw [zL1 L he hn]
theorem yQ (he:s.e=0) (hd:s.deep=d) (hn:s.n<k):(zE s).n<k∨Blk k a d (zE s):=by
 rcases Nat.lt_or_ge (s.n+1) k with h | h
 ·exact .inl h
 ·exact .inr ⟨by show s.n+1=k;omega,hd,.inl he⟩
theorem vN (E:Env) (s:PSt) {c:Nat} (hc:c≠0):(qH E s c).e≠0:=by
 unfold qH;by_cases he:s.e=0
 ·rw [lM he];exact hc
 ·rw [lN he];exact he
theorem jU (h:(zI E s w).e=0):s.e=0∧isP E s w=true∧zI E s w=zE s:=by
 unfold zI at h ⊢;cases hi:isP E s w with
 | false=>rw [hi]at h;exact absurd h (vN E s Yd)
 | true=>rw [hi]at h;exact⟨h,rfl,rfl⟩
theorem kQ (h:(zL E s).e=0):s.e=0∧nameB E s=true∧zL E s=zE s:=by
 unfold zL at h ⊢;cases hi:nameB E s with
 | false=>rw [hi]at h;exact absurd h (vN E s Yd)
 | true=>rw [hi]at h;exact⟨h,rfl,rfl⟩
theorem wC (h:(jB E s).2.e=0):s.e=0∧(jB E s).2=zE s:=by
 unfold jB at h ⊢;by_cases hk:(zC E s).kind=2
 ·rw [lM hk]at h ⊢;by_cases hv:(vS (zC E s).text).2=0
  ·rw [lM hv]at h ⊢;exact⟨h,rfl⟩
  ·rw [lN hv]at h;exact absurd h (vN E s Yd)
 ·rw [lN hk]at h;exact absurd h (vN E s Yd)
theorem qN5 (hb:zC7 E s w=true) (h:(zI4 E s w).e=0):s.e=0∧s.deep<200∧zI4 E s w=yH (zE s) 1:=by
 unfold zI4 at h ⊢;rw [hb]at h ⊢;by_cases hd:200≤s.deep
 ·rw [lM rfl,lM hd]at h;exact absurd h (vN E s Yd)
 ·rw [lM rfl,lN hd]at h ⊢;exact⟨h,Yo,rfl⟩
theorem zV5 (h:(kV E s w).e=0):s.e=0∧s.deep<200∧kV E s w=yH (zE s) 1:=by
 unfold kV at h ⊢;cases hb:zC7 E s w with
 | false=>rw [hb]at h;exact absurd h (vN E s Yd)
 | true=>rw [hb]at h;exact qN5 hb h
theorem qN6 (h:(wN E s w).e=0):s.e=0∧isP E s w=true∧wN E s w=yH (zE s) (-1):=by obtain⟨h1,h2,h3⟩:=jU (E:=E) (s:=s) (w:=w) h;exact⟨h1,h2,by unfold wN;rw [h3]⟩
end
end
section
section
variable {E:Env}
theorem qI7 {f:Nat} {s s':PSt} {X:Nd} (h:zM E (f+1) s=some (X,s')):∃ x s1,qN E f 1 s=some (x,s1)∧okP s1=true∧((zC7 E s1 [63]=false∧X=x∧s'=s1)∨(zC7 E s1 [63]=true∧∃ y s3 z s5,zM E f (zI4 E s1 [63])=some (y,s3)∧zM E f (zI E s3 [58])=some (z,s5)∧okP s5=true∧okW [x,y,z]=true∧X=qI 7 0 0 0 [] (yK x) [x,y,z]∧s'=yH s5 (-1))):=by
 unfold zM at h;cases h1:qN E f 1 s with
 | none=>rw [h1]at h;cases h
 | some q =>
   obtain⟨x,s1⟩:=q;rw [h1]at h;(try dsimp only at h);cases h2:okP s1 with
   | false=>rw [h2]at h;cases h
   | true =>
     rw [h2]at h;(try dsimp only at h);refine⟨x,s1,rfl,h2,?_⟩;cases h3:zC7 E s1 [63]with
     | false =>
       rw [h3]at h;(try dsimp only at h);injection h with h;injection h with h4 h5;exact .inl ⟨rfl,h4.symm,h5.symm⟩
     | true =>
       rw [h3]at h;(try dsimp only at h);cases h4:zM E f (zI4 E s1 [63])with
       | none=>rw [h4]at h;cases h
       | some q =>
         obtain⟨y,s3⟩:=q;rw [h4]at h;(try dsimp only at h);cases h5:zM E f (zI E s3 [58])with
         | none=>rw [h5]at h;cases h
         | some q =>
           obtain⟨z,s5⟩:=q;rw [h5]at h;(try dsimp only at h);cases h6:(okP s5 && okW [x,y,z])with
           | false=>rw [h6]at h;cases h
           | true =>
             rw [h6]at h;(try dsimp only at h);injection h with h;injection h with h7 h8;rw [lZ]at h6;exact .inr ⟨rfl,y,s3,z,s5,rfl,h5,h6.1,h6.2,h7.symm,h8.symm⟩
theorem qS6 {f r:Nat} {s s':PSt} {X:Nd} (h:qN E (f+1) r s=some (X,s')):∃ x s1,zR E f s=some (x,s1)∧qR E f r x s1=some (X,s'):=by
 unfold qN at h;cases h3:zR E f s with
 | none=>rw [h3]at h;cases h
 | some q =>
   obtain⟨x,s1⟩:=q;rw [h3]at h;exact⟨x,s1,rfl,h⟩
inductive LkK (E:Env) (f r:Nat) (x:Nd) (s:PSt) (X:Nd) (s':PSt):Prop where
 | err:s.e≠0→X=x→s'=s→LkK E f r x s X s'
 | sign:s.e=0→(zC E s).kind≠4→X=x→s'=s→LkK E f r x s X s'
 | find:s.e=0→jY (zC E s).text true=none→X=x→s'=s→LkK E f r x s X s'
 | low (op:Nat):s.e=0→(zC E s).kind=4→jY (zC E s).text true=some op→kD op<r→X=x→s'=s→LkK E f r x s X s'
 | go (op:Nat) (y:Nd) (s2:PSt):s.e=0→(zC E s).kind=4→jY (zC E s).text true=some op→¬kD op<r→qN E f (kD op+1) (zE s)=some (y,s2)→okW [x,y]=true →
    qR E f r (qI 6 op 0 0 [] (yK x) [x,y]) s2=some (X,s')→LkK E f r x s X s'
theorem qC5 {f r:Nat} {x:Nd} {s s':PSt} {X:Nd} (h:qR E (f+1) r x s=some (X,s')):LkK E f r x s X s':=by
 unfold qR at h;by_cases h1:s.e=0
 ·rw [lH h1]at h;(try dsimp only at h);by_cases h2:(zC E s).kind=4
  ·rw [lM h2]at h;cases h3:jY (zC E s).text true with
   | none =>
     rw [h3]at h;injection h with h;injection h with h7 h8;exact .find h1 h3 h7.symm h8.symm
   | some op =>
     rw [h3]at h;(try dsimp only at h);by_cases h4:kD op<r
     ·rw [lH h4]at h;injection h with h;injection h with h7 h8;exact .low op h1 h2 h3 h4 h7.symm h8.symm
     ·rw [lG h4]at h;(try dsimp only at h);cases h5:qN E f (kD op+1) (zE s)with
      | none=>rw [h5]at h;cases h
      | some q =>
        obtain⟨y,s2⟩:=q;rw [h5]at h;(try dsimp only at h);cases h6:okW [x,y]with
        | false=>rw [h6]at h;cases h
        | true =>
          rw [h6]at h;exact .go op y s2 h1 h2 h3 h4 h5 h6 h
  ·rw [lN h2]at h;injection h with h;injection h with h7 h8;exact .sign h1 h2 h7.symm h8.symm
 ·rw [lG h1]at h;injection h with h;injection h with h7 h8;exact .err h1 h7.symm h8.symm
theorem qY2 {f:Nat} {s s':PSt} {X:Nd} (h:zR E (f+1) s=some (X,s')) :
 (∃ op,(zC E s).kind=4∧jY (zC E s).text false=some op∧okP s=true∧∃ x s2,zR E f (kV E s (zC E s).text)=some (x,s2)∧okP s2=true∧okW [x]=true∧X=qI 5 op 0 0 [] (zC E s).at' [x]∧s'=yH s2 (-1)) ∨
 (((zC E s).kind≠4∨jY (zC E s).text false=none)∧∃ x s1,qJ E f s=some (x,s1)∧jI E f x s1=some (X,s')):=by
 unfold zR at h;by_cases h1:(zC E s).kind=4
 ·rw [lM h1]at h;cases h2:jY (zC E s).text false with
  | none =>
    rw [h2]at h;(try dsimp only at h);refine .inr ⟨.inr rfl,?_⟩;cases h3:qJ E f s with
    | none=>rw [h3]at h;cases h
    | some q =>
      obtain⟨x,s1⟩:=q;rw [h3]at h;exact⟨x,s1,rfl,h⟩
  | some op =>
    rw [h2]at h;(try dsimp only at h);refine .inl ⟨op,h1,rfl,?_⟩;cases h3:okP s with
    | false=>rw [h3]at h;cases h
    | true =>
      rw [h3]at h;(try dsimp only at h);refine⟨rfl,?_⟩;cases h4:zR E f (kV E s (zC E s).text)with
      | none=>rw [h4]at h;cases h
      | some q =>
        obtain⟨x,s2⟩:=q;rw [h4]at h;(try dsimp only at h);cases h5:(okP s2 && okW [x])with
        | false=>rw [h5]at h;cases h
        | true =>
          rw [h5]at h;injection h with h;injection h with h7 h8;rw [lZ]at h5;exact⟨x,s2,rfl,h5.1,h5.2,h7.symm,h8.symm⟩
 ·rw [lN h1]at h;(try dsimp only at h);refine .inr ⟨.inl h1,?_⟩;cases h3:qJ E f s with
  | none=>rw [h3]at h;cases h
  | some q =>
    obtain⟨x,s1⟩:=q;rw [h3]at h;exact⟨x,s1,rfl,h⟩
theorem qS7 {f:Nat} {x X:Nd} {s s':PSt} (h:jI E (f+1) x s=some (X,s')):(isP E s [64]=false∧X=x∧s'=s)∨(isP E s [64]=true∧okW [x]=true∧jI E f (qI 8 0 0 (jB E (zE s)).1 [] (yK x) [x]) (jB E (zE s)).2=some (X,s')):=by
 unfold jI at h;cases h1:isP E s [64]with
 | false =>
   rw [h1]at h;injection h with h;injection h with h7 h8;exact .inl ⟨rfl,h7.symm,h8.symm⟩
 | true =>
   rw [h1]at h;(try dsimp only at h);cases h2:okW [x]with
   | false=>rw [h2]at h;cases h
   | true =>
     rw [h2]at h;exact .inr ⟨rfl,rfl,h⟩
theorem qI8 {f:Nat} {s s':PSt} {a b:List UInt8} {x:Nd} (h:zX E (f+1) s a b=some (x,s')):okP s=true∧∃ s2,zM E f (kV E s a)=some (x,s2)∧okP s2=true∧s'=wN E s2 b:=by
 unfold zX at h;cases h1:okP s with
 | false=>rw [h1]at h;cases h
 | true =>
   rw [h1]at h;(try dsimp only at h);cases h2:zM E f (kV E s a)with
   | none=>rw [h2]at h;cases h
   | some q =>
     obtain⟨y,s2⟩:=q;rw [h2]at h;(try dsimp only at h);cases h3:okP s2 with
     | false=>rw [h3]at h;cases h
     | true =>
       rw [h3]at h;(try dsimp only at h);injection h with h;injection h with h4 h5;subst h4 h5;exact⟨rfl,s2,rfl,h3,rfl⟩
inductive zP9 (E:Env) (f:Nat) (s:PSt):Nd→PSt→Prop where
 | err:s.e≠0→zP9 E f s nd0 s
 | lit0:s.e=0→(zC E s).kind=3→(zH8 (zC E s).text).2.2≠0→zP9 E f s nd0 (qH E s 302)
 | lit:s.e=0→(zC E s).kind=3→(zH8 (zC E s).text).2.2=0→zP9 E f s (qI 1 0 (zH8 (zC E s).text).1 (zH8 (zC E s).text).2.1 [] (zC E s).at' []) (zE s)
 | paren (X s'):s.e=0→(zC E s).kind≠3→(zC E s).text=[40]→zX E f s [40] [41]=some (X,s')→zP9 E f s X s'
 | disk (x s2):s.e=0→(zC E s).kind≠3→(zC E s).text≠[40]→(zC E s).text=[100,105,115,107]→zX E f (zE s) [91] [93]=some (x,s2)→okW [x]=true→zP9 E f s (qI 4 0 0 0 [] (zC E s).at' [x]) s2
 | elem (x s2):s.e=0→(zC E s).kind≠3→(zC E s).text≠[40]→(zC E s).text≠[100,105,115,107]→(zC E (zL E s)).text=[91]→zX E f (zL E s) [91] [93]=some (x,s2)→okW [x]=true→zP9 E f s (qI 3 0 0 0 (jA E s) (zC E s).at' [x]) s2
 | var:s.e=0→(zC E s).kind≠3→(zC E s).text≠[40]→(zC E s).text≠[100,105,115,107]→(zC E (zL E s)).text≠[91]→zP9 E f s (qI 2 0 0 0 (jA E s) (zC E s).at' []) (zL E s)
theorem qS8 {f:Nat} {s s':PSt} {X:Nd} (h:qJ E (f+1) s=some (X,s')):zP9 E f s X s':=by
 unfold qJ at h;by_cases h1:s.e=0;rotate_left
 ·rw [lG h1]at h;injection h with h;injection h with h7 h8;subst h7 h8;exact .err h1
 rw [lH h1]at h;(try dsimp only at h);by_cases h2:(zC E s).kind=3
 ·rw [lH h2]at h;(try dsimp only at h);by_cases h3:(zH8 (zC E s).text).2.2=0
  ·rw [lH h3]at h;injection h with h;injection h with h7 h8;subst h7 h8;exact .lit h1 h2 h3
  ·rw [lG h3]at h;injection h with h;injection h with h7 h8;subst h7 h8;exact .lit0 h1 h2 h3
 rw [lG h2]at h;(try dsimp only at h);by_cases h3:(zC E s).text=[40]
 ·rw [lH h3]at h;exact .paren _ _ h1 h2 h3 h
 rw [lG h3]at h;(try dsimp only at h);by_cases h4:(zC E s).text=[100,105,115,107]
 ·rw [lH h4]at h;(try dsimp only at h);cases h5:zX E f (zE s) [91] [93]with
  | none=>rw [h5]at h;cases h
  | some q =>
    obtain⟨x,s2⟩:=q;rw [h5]at h;(try dsimp only at h);cases h6:okW [x]with
    | false=>rw [h6]at h;cases h
    | true =>
      rw [h6]at h;injection h with h;injection h with h7 h8;subst h7 h8;exact .disk x s2 h1 h2 h3 h4 h5 h6
 rw [lG h4]at h;(try dsimp only at h);by_cases h9:(zC E (zL E s)).text=[91]
 ·rw [lH h9]at h;(try dsimp only at h);cases h5:zX E f (zL E s) [91] [93]with
  | none=>rw [h5]at h;cases h
  | some q =>
    obtain⟨x,s2⟩:=q;rw [h5]at h;(try dsimp only at h);cases h6:okW [x]with
    | false=>rw [h6]at h;cases h
    | true =>
      rw [h6]at h;injection h with h;injection h with h7 h8;subst h7 h8;exact .elem x s2 h1 h2 h3 h4 h9 h5 h6
 ·rw [lG h9]at h;injection h with h;injection h with h7 h8;subst h7 h8;exact .var h1 h2 h3 h4 h9
theorem qS9 {q q':QSt} {u:List UInt8} (h:kN E q u=some q'):okP q.s=true∧q'=q.on (kV E q.s u):=by
 unfold kN at h;split at h
 ·rename_i h0;injection h with h;exact⟨h0,h.symm⟩
 ·cases h
theorem qT1 {q q':QSt} {u:List UInt8} (h:jX E q u=some q'):okP q.s=true∧q'=q.on (wN E q.s u):=by
 unfold jX at h;split at h
 ·rename_i h0;injection h with h;exact⟨h0,h.symm⟩
 ·cases h
theorem qT2 {u:List UInt8} {arr:Bool} {f:Nat} {q:QSt} {out:List Dx} {r:List Dx×QSt} (h:jK E u arr (f+1) q out=some r):(isP E q.s u=false∧r=(out,q))∨(isP E q.s u=true∧q.l.length≤800000000 ∧
 ((arr=true∧∃ r1 u1,kN E ⟨zL E (zE q.s),q.l++[(zC E q.s).at']⟩ [91]=some r1∧jX E (r1.on (jB E r1.s).2) [93]=some u1∧jK E u arr f (u1.on (jB E (zI E u1.s [58])).2) (out++[⟨jA E (zE q.s),(jB E (zI E u1.s [58])).1,(jB E r1.s).1⟩])=some r) ∨
  (arr=false∧jK E u arr f ⟨(jB E (zI E (zL E (zE q.s)) [58])).2,q.l++[(zC E q.s).at']⟩ (out++[⟨jA E (zE q.s),(jB E (zI E (zL E (zE q.s)) [58])).1,0⟩])=some r))):=by
 rw [jK]at h;cases hi:isP E q.s u with
 | false=>rw [hi]at h;injection h with h;exact .inl ⟨rfl,h.symm⟩
 | true =>
   rw [hi,lM rfl]at h;cases hl:okL q with
   | false=>rw [hl]at h;cases h
   | true =>
     rw [hl,lM rfl]at h;refine .inr ⟨rfl,cM hl,?_⟩;cases arr with
     | false=>exact .inr ⟨rfl,h⟩
     | true =>
       rw [lM rfl]at h;cases h1:kN E ⟨zL E (zE q.s),q.l++[(zC E q.s).at']⟩ [91]with
       | none=>rw [h1]at h;cases h
       | some r1 =>
         rw [h1]at h;(try dsimp only at h);cases h2:jX E (r1.on (jB E r1.s).2) [93]with
         | none=>rw [h2]at h;cases h
         | some u1 =>
           rw [h2]at h;exact .inl ⟨rfl,r1,u1,rfl,h2,h⟩
end
end
end Go.Proofs.YtfdaebgllibphaaGreatDoor
