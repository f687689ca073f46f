import Derived.Test.YtfdaebgllibphaaGreatDoorWak
set_option linter.unusedVariables false
set_option linter.unusedSimpArgs false
set_option maxRecDepth 100000
set_option maxHeartbeats 16000000
namespace Go.Proofs.YtfdaebgllibphaaGreatDoor
open Go.Proofs.Tryz
section
open Go.RowKit Go.PlainAid Go.Shelf
attribute [local go_sem] Oper.semAt_some
section
variable {B:Nat} {p:Nat} {E:Env} {T:TV}
theorem kM8 (f:Nat) (q0:QSt) (lst:List Sx) (q':QSt) (hx:jM E f q0 []=some (lst,q')) (IH:∀ g,g<f→qF4 B p E T g) (w:World) (h:Ud (Pq B w p E T q0)):Calls prog 70 #[uQ p 0] w fun e w'=>∃ S:SV,e=.returned (.slice S.A S.n S.c)∧StsP (fun k=>w.heap.size≤k) w' lst S∧PQ B w p E T q' w':=by
 have HX:=Ph hx;have HIH:=Ph IH;clear hx IH;have hpw:p<w.heap.size:=h.o.lt;have HP:=Ph (PQ.below h.o (zB (o:=.cells #[uN] 34)));have hb0:=Ph (Bk.new w 34 #[uN]);have HB0:=Ph h.o.b;refine(callsIn_wide (n:=6)).1 ?_;refine callsIn_of_wp_marks func70 rfl trivial ?_ rfl;simp only [ntmps70,List.size_toArray,Yc,Yn,Nat.reduceAdd,Nat.reduceSub,Array.replicate_succ,Array.replicate_zero,List.push_toArray,List.append_toArray,cF,lR];refine wpIn_wide.2 ?_;go_upto_region 2 with fail
 have hw1:(w.alloc (.cells #[uN] 34)).heap.size=w.heap.size+1:=lO _ _;generalize (w.alloc _)=w1 at *;go_wp2_with fail
 refine(kH1 p w1).mono ?_;rintro e w2 ⟨pb,rfl,hpb,hbk,hb⟩;have HP2:=Ph (HP.o.then hb);have HB2:=Ph (zD hb0.o hb);have HPB:=Ph hbk;have hs2:w1.heap.size≤w2.heap.size:=hb.size;generalize hlb:w.heap.size=lb at *;clear HP hbk hb hb0;go_wp2_with fail
 refine(wpIn_wide (n:=6)).1 ?_;refine jD7 (α:=Yi) (encs:=fun x=>#[stV x.1 x.2.1]) rfl Yo rfl trivial (enters_of func130 Yk rfl) (fun _=>rfl) (LI B w p lb pb) (fun pre x W0 W=>GY B p E T x W0 W∧pre.length<1000000000) (fun x W=>Pq B W p E T x.2.2) (fun xs=>xs.map (·.1)=lst) (fun W=>Pq B W p E T q') ?hI ?hR ?hRf ?h0 ?hseq ?hround ?hdone
 case hI=>exact fun pre W l o o' hl hi ho hc=>hi.putN ho hc Yo
 case hR=>exact fun x W l o o' hl hi ho hc=>Pq.putN hi ho hc (by have:=HB0.o;omega)
 case hRf=>exact fun W l o o' hl hi ho hc=>Pq.putN hi ho hc (by have:=HB0.o;omega)
 case h0 =>
  intro o;have hb:Below w2.heap.size w2 ((w2.alloc (.deferred (some []))).alloc (.loop o)):=zG (zG (lB _ _) _) _;exact LI.below ⟨⟨⟨none,0,0⟩,HB2.o,OwnG.nil⟩,HPB.o,HP2.o.fr⟩ hb
 case hseq =>
  intro l J o hJI hJK hY h00;have hb:Below w2.heap.size w2 ((w2.alloc (.deferred (some []))).alloc (.loop o)):=zG (zG (lB _ _) _) _
  exact jD8 5 l pb f q0 lst q' HX.o HIH.o _ (HP2.o.pq.below hb) J
   (fun pre W W' hj ⟨q,hq⟩ hf=>hJK pre W W' hj (hf.keeps hq) ((hJI _ _ hj).frq hf hpw Yo))
   (fun pre W hj=>(hJI _ _ hj).ptr) (fun pre x W0 W h0 h1 hg hl=>hY pre x W0 W h0 h1 ⟨hg,hl⟩) h00
 case hround =>
  intro l pre x W0 W hi0 hg;obtain⟨hg,hlen⟩:=hg;obtain⟨X,⟨S1,S2,S3⟩,q1⟩:=x;obtain⟨⟨S,hA0,hown0⟩,hptr0,hfr0⟩:=hi0;have hA:Bk W lb 34 #[uL S]:=hg.pq.fr.bk hA0 Yd Yo;have hptr:=hg.pq.fr.bk hptr0 Yd Yo;have hown:=hown0.stay itS yW (hg.pq.fr.staysP hpw);have hx:SxP (fun k=>lb+1≤k∧(uL S).ownBlock≠some k) W X (S1,S2,S3):=itS.mono _ _ _ _ _ (fun b _ hb=>⟨by have:=hA0.lt;omega,hown0.fresh hb⟩) hg.s;have hfr:=hfr0.trans hg.pq.fr;have hpq:Pq B W p E T q1:=hg.pq.pq;clear hA0 hown0 hptr0 hfr0 hg;simp only [List.setIfInBounds_toArray,List.set_cons_succ,List.set_cons_zero];rw [jZ4];gi_wp2
  have hsb:=Bk.new W 108 #[uB X.kind,uR X.name,uL S1,uI X.bound,uL S2,uL S3];have hbl:Below W.heap.size W (W.alloc (.cells #[uB X.kind,uR X.name,uL S1,uI X.bound,uL S2,uL S3] 108)):=zB;refine⟨KeepsOthers.alloc _ _,fun o o' hl ho hc=>?_⟩;have hf:FrN (W.alloc (.cells #[uB X.kind,uR X.name,uL S1,uI X.bound,uL S2,uL S3] 108)) ((W.alloc (.cells #[uB X.kind,uR X.name,uL S1,uI X.bound,uL S2,uL S3] 108)).putObj l o'):=FrN.put ho hc;have HS:=Ph (hf.bk hsb);have HL:=Ph (hf.bk (zD hA hbl));have HO:=Ph ((hown.stay itS yW (Stays.below hbl)).stay itS yW hf.stays);have HX':=Ph (itS.stay _ _ _ _ _ hf.stays (itS.stay _ _ _ _ _ (Stays.below hbl) hx));have HQ:=Ph (Pq.putN (o':=o') (hpq.below hbl) ho hc (by have:=HB0.o;omega));have HR:=Ph (hf.bk (zD hptr hbl));have HF:Ud (FrQ B p w ((W.alloc (.cells #[uB X.kind,uR X.name,uL S1,uI X.bound,uL S2,uL S3] 108)).putObj l o')):=Ph (Fr.then (hfr.then hbl) (wP _ l o') fun i hi e=>Yo);have hsbl:lb<W.heap.size:=hA.lt;have hpbl:pb<W.heap.size:=hptr.lt;clear hA hptr hown hx hfr hpq hsb hbl ho hf;generalize ((W.alloc (.cells #[uB X.kind,uR X.name,uL S1,uI X.bound,uL S2,uL S3] 108)).putObj l o')=U at *;generalize W.heap.size=sb at *;have hbig:S.n<1000000000:=by have h9:S.n=(pre.map (·.1)).length:=HO.o.len;rw [lW]at h9;omega
  obtain⟨g,c',w6,hrun,hgl,hgu,hc6,hfz,hF1,hF2,hF3⟩:=jZ5 (B:=B) (E:=E) (T:=T) hpw HS.o HL.o HO.o HX'.o HQ.o HR.o HF.o hbig hsbl hlb HB0.o;have HRUN:=Ph hrun;have HF1:=Ph hF1;have HF2:=Ph hF2;have HF3:=Ph hF3;refine wpIn_block ?_;refine qF5 Yk ?hlets ?hdef ?_
  case hlets=>rintro⟨a,w',h⟩;cases h.1
  case hdef =>
   intro o ho c;simp only [List.mem_toArray,lU,lT,or_false]at ho;rcases ho with rfl | rfl | rfl | rfl | rfl | rfl | rfl | rfl <;> (intro h;cases h)
  have m2:(U.alloc (.cells uS 108)).cell? ⟨lb,0,none⟩=some (uL S):=(zD HL.o (zB (o:=.cells uS 108))).cell 0;have m0:U.drew.cell? ⟨lb,0,none⟩=some (uL S):=HL.o.cell 0;have m1:(U.drew.alloc (.cells uS 108)).cell? ⟨lb,0,none⟩=some (uL S):=(zD HL.o (zB (o:=.cells uS 108))).cell 0;have n0:U.drew.cell? ⟨sb,0,none⟩=some (uB X.kind):=HS.o.cell 0;have j0:(U.alloc (.cells uS 108)).cell? ⟨sb,0,none⟩=some (uB X.kind):=(zD HS.o (zB (o:=.cells uS 108))).cell 0;have k0:(U.drew.alloc (.cells uS 108)).cell? ⟨sb,0,none⟩=some (uB X.kind):=(zD HS.o (zB (o:=.cells uS 108))).cell 0;have n1:U.drew.cell? ⟨sb,1,none⟩=some (uR X.name):=HS.o.cell 1;have j1:(U.alloc (.cells uS 108)).cell? ⟨sb,1,none⟩=some (uR X.name):=(zD HS.o (zB (o:=.cells uS 108))).cell 1;have k1:(U.drew.alloc (.cells uS 108)).cell? ⟨sb,1,none⟩=some (uR X.name):=(zD HS.o (zB (o:=.cells uS 108))).cell 1;have n2:U.drew.cell? ⟨sb,2,none⟩=some (uL S1):=HS.o.cell 2;have j2:(U.alloc (.cells uS 108)).cell? ⟨sb,2,none⟩=some (uL S1):=(zD HS.o (zB (o:=.cells uS 108))).cell 2;have k2:(U.drew.alloc (.cells uS 108)).cell? ⟨sb,2,none⟩=some (uL S1):=(zD HS.o (zB (o:=.cells uS 108))).cell 2;have n3:U.drew.cell? ⟨sb,3,none⟩=some (uI X.bound):=HS.o.cell 3;have j3:(U.alloc (.cells uS 108)).cell? ⟨sb,3,none⟩=some (uI X.bound):=(zD HS.o (zB (o:=.cells uS 108))).cell 3;have k3:(U.drew.alloc (.cells uS 108)).cell? ⟨sb,3,none⟩=some (uI X.bound):=(zD HS.o (zB (o:=.cells uS 108))).cell 3;have n4:U.drew.cell? ⟨sb,4,none⟩=some (uL S2):=HS.o.cell 4;have j4:(U.alloc (.cells uS 108)).cell? ⟨sb,4,none⟩=some (uL S2):=(zD HS.o (zB (o:=.cells uS 108))).cell 4;have k4:(U.drew.alloc (.cells uS 108)).cell? ⟨sb,4,none⟩=some (uL S2):=(zD HS.o (zB (o:=.cells uS 108))).cell 4;have n5:U.drew.cell? ⟨sb,5,none⟩=some (uL S3):=HS.o.cell 5;have j5:(U.alloc (.cells uS 108)).cell? ⟨sb,5,none⟩=some (uL S3):=(zD HS.o (zB (o:=.cells uS 108))).cell 5;have k5:(U.drew.alloc (.cells uS 108)).cell? ⟨sb,5,none⟩=some (uL S3):=(zD HS.o (zB (o:=.cells uS 108))).cell 5;obtain⟨⟨v0,p0⟩,⟨v1,p1⟩,⟨v2,p2⟩,⟨v3,p3⟩,⟨v4,p4⟩,⟨v5,p5⟩,⟨v6,p6⟩⟩:=hc6;have hidx:(S.n:Int)<(S.n:Int)+1:=Yo;obtain⟨f0,f1,f2,f3,f4,f5,f6⟩:=hfz;clear hrun hF1 hF2 hF3 HS HL HO HX' HQ HR HF;refine lI (rs:=[0,1,3]) Yk Ym ?_;refine lC rfl (fun K hK=>?_) ?_
  ·go_simp;refine hK _ _ ?_;clear hK K;refine lI (rs:=[1,2,3]) Yk Ym ?_;refine lC rfl (fun K hK=>?_) ?_
   ·go_simp;refine hK _ _ ?_;clear hK K;refine lI (rs:=[2,3]) Yk Ym ?_;refine lC rfl (fun K hK=>?_) ?_
    ·go_simp;refine hK _ _ ?_;clear hK K;refine lI (rs:=[3]) Yk Ym ?_;refine lC rfl (fun K hK=>?_) ?_
     ·go_simp;refine hK _ _ ?_;clear hK K;refine lI (rs:=[4]) Yk Ym ?_;refine lC rfl (fun K hK=>?_) ?_
      ·refine qG rfl (.tmp 8) (.tmp 11) rfl _ _ _ rfl rfl (HRUN.o _) ?_;try go_simp
       refine hK _ _ ?_;clear hK K;refine lI (rs:=[5,7]) Yk Ym ?_;refine lC rfl (fun K hK=>?_) ?_
       ·go_simp;refine hK _ _ ?_;clear hK K;refine lI (rs:=[6,7]) Yk Ym ?_;refine lC rfl (fun K hK=>?_) ?_
        ·go_simp;refine hK _ _ ?_;clear hK K;refine lI (rs:=[7]) Yk Ym ?_;refine lC rfl (fun K hK=>?_) ?_
         ·go_simp;refine hK _ _ ?_;clear hK K;refine lJ Yk ?_ _;exact HF1.o
         exact lD
        refine lC rfl (fun K hK=>?_) ?_
        ·go_simp;refine hK _ _ ?_;clear hK K;refine lI (rs:=[6]) Yk Ym ?_;refine lC rfl (fun K hK=>?_) ?_
         ·go_simp;refine hK _ _ ?_;clear hK K;refine lJ Yk ?_ _;exact HF2.o
         exact lD
        exact lD
       refine lC rfl (fun K hK=>?_) ?_
       ·go_simp;refine hK _ _ ?_;clear hK K;refine lI (rs:=[5]) Yk Ym ?_;refine lC rfl (fun K hK=>?_) ?_
        ·go_simp;refine hK _ _ ?_;clear hK K;refine lI (rs:=[6]) Yk Ym ?_;refine lC rfl (fun K hK=>?_) ?_
         ·go_simp;refine hK _ _ ?_;clear hK K;refine lJ Yk ?_ _;exact HF2.o
         exact lD
        exact lD
       exact lD
      exact lD
     exact lD
    refine lC rfl (fun K hK=>?_) ?_
    ·go_simp;refine hK _ _ ?_;clear hK K;refine lI (rs:=[2]) Yk Ym ?_;refine lC rfl (fun K hK=>?_) ?_
     ·go_simp;refine hK _ _ ?_;clear hK K;refine lI (rs:=[4]) Yk Ym ?_;refine lC rfl (fun K hK=>?_) ?_
      ·refine qG rfl (.tmp 8) (.tmp 11) rfl _ _ _ rfl rfl (HRUN.o _) ?_;try go_simp
       refine hK _ _ ?_;clear hK K;refine lI (rs:=[5,7]) Yk Ym ?_;refine lC rfl (fun K hK=>?_) ?_
       ·go_simp;refine hK _ _ ?_;clear hK K;refine lI (rs:=[6,7]) Yk Ym ?_;refine lC rfl (fun K hK=>?_) ?_
        ·go_simp;refine hK _ _ ?_;clear hK K;refine lI (rs:=[7]) Yk Ym ?_;refine lC rfl (fun K hK=>?_) ?_
         ·go_simp;refine hK _ _ ?_;clear hK K;refine lJ Yk ?_ _;exact HF1.o
         exact lD
        refine lC rfl (fun K hK=>?_) ?_
        ·go_simp;refine hK _ _ ?_;clear hK K;refine lI (rs:=[6]) Yk Ym ?_;refine lC rfl (fun K hK=>?_) ?_
         ·go_simp;refine hK _ _ ?_;clear hK K;refine lJ Yk ?_ _;exact HF2.o
         exact lD
        exact lD
       refine lC rfl (fun K hK=>?_) ?_
       ·go_simp;refine hK _ _ ?_;clear hK K;refine lI (rs:=[5]) Yk Ym ?_;refine lC rfl (fun K hK=>?_) ?_
        ·go_simp;refine hK _ _ ?_;clear hK K;refine lI (rs:=[6]) Yk Ym ?_;refine lC rfl (fun K hK=>?_) ?_
         ·go_simp;refine hK _ _ ?_;clear hK K;refine lJ Yk ?_ _;exact HF2.o
         exact lD
        exact lD
       exact lD
      exact lD
     exact lD
    exact lD
   refine lC rfl (fun K hK=>?_) ?_
   ·go_simp;refine hK _ _ ?_;clear hK K;refine lI (rs:=[1,3]) Yk Ym ?_;refine lC rfl (fun K hK=>?_) ?_
    ·go_simp;refine hK _ _ ?_;clear hK K;refine lI (rs:=[3]) Yk Ym ?_;refine lC rfl (fun K hK=>?_) ?_
     ·go_simp;refine hK _ _ ?_;clear hK K;refine lI (rs:=[4]) Yk Ym ?_;refine lC rfl (fun K hK=>?_) ?_
      ·refine qG rfl (.tmp 8) (.tmp 11) rfl _ _ _ rfl rfl (HRUN.o _) ?_;try go_simp
       refine hK _ _ ?_;clear hK K;refine lI (rs:=[5,7]) Yk Ym ?_;refine lC rfl (fun K hK=>?_) ?_
       ·go_simp;refine hK _ _ ?_;clear hK K;refine lI (rs:=[6,7]) Yk Ym ?_;refine lC rfl (fun K hK=>?_) ?_
        ·go_simp;refine hK _ _ ?_;clear hK K;refine lI (rs:=[7]) Yk Ym ?_;refine lC rfl (fun K hK=>?_) ?_
         ·go_simp;refine hK _ _ ?_;clear hK K;refine lJ Yk ?_ _;exact HF1.o
         exact lD
        refine lC rfl (fun K hK=>?_) ?_
        ·go_simp;refine hK _ _ ?_;clear hK K;refine lI (rs:=[6]) Yk Ym ?_;refine lC rfl (fun K hK=>?_) ?_
         ·go_simp;refine hK _ _ ?_;clear hK K;refine lJ Yk ?_ _;exact HF2.o
         exact lD
        exact lD
       refine lC rfl (fun K hK=>?_) ?_
       ·go_simp;refine hK _ _ ?_;clear hK K;refine lI (rs:=[5]) Yk Ym ?_;refine lC rfl (fun K hK=>?_) ?_
        ·go_simp;refine hK _ _ ?_;clear hK K;refine lI (rs:=[6]) Yk Ym ?_;refine lC rfl (fun K hK=>?_) ?_
         ·go_simp;refine hK _ _ ?_;clear hK K;refine lJ Yk ?_ _;exact HF2.o
         exact lD
        exact lD
       exact lD
      exact lD
     exact lD
    refine lC rfl (fun K hK=>?_) ?_
    ·go_simp;refine hK _ _ ?_;clear hK K;refine lI (rs:=[1]) Yk Ym ?_;refine lC rfl (fun K hK=>?_) ?_
     ·go_simp;refine hK _ _ ?_;clear hK K;refine lI (rs:=[4]) Yk Ym ?_;refine lC rfl (fun K hK=>?_) ?_
      ·refine qG rfl (.tmp 8) (.tmp 11) rfl _ _ _ rfl rfl (HRUN.o _) ?_;try go_simp
       refine hK _ _ ?_;clear hK K;refine lI (rs:=[5,7]) Yk Ym ?_;refine lC rfl (fun K hK=>?_) ?_
       ·go_simp;refine hK _ _ ?_;clear hK K;refine lI (rs:=[6,7]) Yk Ym ?_;refine lC rfl (fun K hK=>?_) ?_
        ·go_simp;refine hK _ _ ?_;clear hK K;refine lI (rs:=[7]) Yk Ym ?_;refine lC rfl (fun K hK=>?_) ?_
         ·go_simp;refine hK _ _ ?_;clear hK K;refine lJ Yk ?_ _;exact HF1.o
         exact lD
        refine lC rfl (fun K hK=>?_) ?_
        ·go_simp;refine hK _ _ ?_;clear hK K;refine lI (rs:=[6]) Yk Ym ?_;refine lC rfl (fun K hK=>?_) ?_
         ·go_simp;refine hK _ _ ?_;clear hK K;refine lJ Yk ?_ _;exact HF2.o
         exact lD
        exact lD
       refine lC rfl (fun K hK=>?_) ?_
       ·go_simp;refine hK _ _ ?_;clear hK K;refine lI (rs:=[5]) Yk Ym ?_;refine lC rfl (fun K hK=>?_) ?_
        ·go_simp;refine hK _ _ ?_;clear hK K;refine lI (rs:=[6]) Yk Ym ?_;refine lC rfl (fun K hK=>?_) ?_
         ·go_simp;refine hK _ _ ?_;clear hK K;refine lJ Yk ?_ _;exact HF2.o
         exact lD
        exact lD
       exact lD
      exact lD
     exact lD
    exact lD
   refine lC rfl (fun K hK=>?_) ?_
   ·go_simp;refine hK _ _ ?_;clear hK K;refine lI (rs:=[1,2]) Yk Ym ?_;refine lC rfl (fun K hK=>?_) ?_
    ·go_simp;refine hK _ _ ?_;clear hK K;refine lI (rs:=[2]) Yk Ym ?_;refine lC rfl (fun K hK=>?_) ?_
     ·go_simp;refine hK _ _ ?_;clear hK K;refine lI (rs:=[4]) Yk Ym ?_;refine lC rfl (fun K hK=>?_) ?_
      ·refine qG rfl (.tmp 8) (.tmp 11) rfl _ _ _ rfl rfl (HRUN.o _) ?_;try go_simp
       refine hK _ _ ?_;clear hK K;refine lI (rs:=[5,7]) Yk Ym ?_;refine lC rfl (fun K hK=>?_) ?_
       ·go_simp;refine hK _ _ ?_;clear hK K;refine lI (rs:=[6,7]) Yk Ym ?_;refine lC rfl (fun K hK=>?_) ?_
        ·go_simp;refine hK _ _ ?_;clear hK K;refine lI (rs:=[7]) Yk Ym ?_;refine lC rfl (fun K hK=>?_) ?_
         ·go_simp;refine hK _ _ ?_;clear hK K;refine lJ Yk ?_ _;exact HF1.o
         exact lD
        refine lC rfl (fun K hK=>?_) ?_
        ·go_simp;refine hK _ _ ?_;clear hK K;refine lI (rs:=[6]) Yk Ym ?_;refine lC rfl (fun K hK=>?_) ?_
         ·go_simp;refine hK _ _ ?_;clear hK K;refine lJ Yk ?_ _;exact HF2.o
         exact lD
        exact lD
       refine lC rfl (fun K hK=>?_) ?_
       ·go_simp;refine hK _ _ ?_;clear hK K;refine lI (rs:=[5]) Yk Ym ?_;refine lC rfl (fun K hK=>?_) ?_
        ·go_simp;refine hK _ _ ?_;clear hK K;refine lI (rs:=[6]) Yk Ym ?_;refine lC rfl (fun K hK=>?_) ?_
         ·go_simp;refine hK _ _ ?_;clear hK K;refine lJ Yk ?_ _;exact HF2.o
         exact lD
        exact lD
       exact lD
      exact lD
     exact lD
    refine lC rfl (fun K hK=>?_) ?_
    ·go_simp;refine hK _ _ ?_;clear hK K;refine lI (rs:=[1]) Yk Ym ?_;refine lC rfl (fun K hK=>?_) ?_
     ·go_simp;refine hK _ _ ?_;clear hK K;refine lI (rs:=[4]) Yk Ym ?_;refine lC rfl (fun K hK=>?_) ?_
      ·refine qG rfl (.tmp 8) (.tmp 11) rfl _ _ _ rfl rfl (HRUN.o _) ?_;try go_simp
       refine hK _ _ ?_;clear hK K;refine lI (rs:=[5,7]) Yk Ym ?_;refine lC rfl (fun K hK=>?_) ?_
       ·go_simp;refine hK _ _ ?_;clear hK K;refine lI (rs:=[6,7]) Yk Ym ?_;refine lC rfl (fun K hK=>?_) ?_
        ·go_simp;refine hK _ _ ?_;clear hK K;refine lI (rs:=[7]) Yk Ym ?_;refine lC rfl (fun K hK=>?_) ?_
         ·go_simp;refine hK _ _ ?_;clear hK K;refine lJ Yk ?_ _;exact HF1.o
         exact lD
        refine lC rfl (fun K hK=>?_) ?_
        ·go_simp;refine hK _ _ ?_;clear hK K;refine lI (rs:=[6]) Yk Ym ?_;refine lC rfl (fun K hK=>?_) ?_
         ·go_simp;refine hK _ _ ?_;clear hK K;refine lJ Yk ?_ _;exact HF2.o
         exact lD
        exact lD
       refine lC rfl (fun K hK=>?_) ?_
       ·go_simp;refine hK _ _ ?_;clear hK K;refine lI (rs:=[5]) Yk Ym ?_;refine lC rfl (fun K hK=>?_) ?_
        ·go_simp;refine hK _ _ ?_;clear hK K;refine lI (rs:=[6]) Yk Ym ?_;refine lC rfl (fun K hK=>?_) ?_
         ·go_simp;refine hK _ _ ?_;clear hK K;refine lJ Yk ?_ _;exact HF2.o
         exact lD
        exact lD
       exact lD
      exact lD
     exact lD
    exact lD
   exact lD
  refine lC rfl (fun K hK=>?_) ?_
  ·go_simp;refine hK _ _ ?_;clear hK K;refine lI (rs:=[0,3]) Yk Ym ?_;refine lC rfl (fun K hK=>?_) ?_
   ·go_simp;refine hK _ _ ?_;clear hK K;refine lI (rs:=[2,3]) Yk Ym ?_;refine lC rfl (fun K hK=>?_) ?_
    ·go_simp;refine hK _ _ ?_;clear hK K;refine lI (rs:=[3]) Yk Ym ?_;refine lC rfl (fun K hK=>?_) ?_
     ·go_simp;refine hK _ _ ?_;clear hK K;refine lI (rs:=[4]) Yk Ym ?_;refine lC rfl (fun K hK=>?_) ?_
      ·refine qG rfl (.tmp 8) (.tmp 11) rfl _ _ _ rfl rfl (HRUN.o _) ?_;try go_simp
       refine hK _ _ ?_;clear hK K;refine lI (rs:=[5,7]) Yk Ym ?_;refine lC rfl (fun K hK=>?_) ?_
       ·go_simp;refine hK _ _ ?_;clear hK K;refine lI (rs:=[6,7]) Yk Ym ?_;refine lC rfl (fun K hK=>?_) ?_
        ·go_simp;refine hK _ _ ?_;clear hK K;refine lI (rs:=[7]) Yk Ym ?_;refine lC rfl (fun K hK=>?_) ?_
         ·go_simp;refine hK _ _ ?_;clear hK K;refine lJ Yk ?_ _;exact HF1.o
         exact lD
        refine lC rfl (fun K hK=>?_) ?_
        ·go_simp;refine hK _ _ ?_;clear hK K;refine lI (rs:=[6]) Yk Ym ?_;refine lC rfl (fun K hK=>?_) ?_
         ·go_simp;refine hK _ _ ?_;clear hK K;refine lJ Yk ?_ _;exact HF2.o
         exact lD
        exact lD
       refine lC rfl (fun K hK=>?_) ?_
       ·go_simp;refine hK _ _ ?_;clear hK K;refine lI (rs:=[5]) Yk Ym ?_;refine lC rfl (fun K hK=>?_) ?_
        ·go_simp;refine hK _ _ ?_;clear hK K;refine lI (rs:=[6]) Yk Ym ?_;refine lC rfl (fun K hK=>?_) ?_
         ·go_simp;refine hK _ _ ?_;clear hK K;refine lJ Yk ?_ _;exact HF2.o
         exact lD
        exact lD
       exact lD
      exact lD
     exact lD
    refine lC rfl (fun K hK=>?_) ?_
    ·go_simp;refine hK _ _ ?_;clear hK K;refine lI (rs:=[2]) Yk Ym ?_;refine lC rfl (fun K hK=>?_) ?_
     ·go_simp;refine hK _ _ ?_;clear hK K;refine lI (rs:=[4]) Yk Ym ?_;refine lC rfl (fun K hK=>?_) ?_
      ·refine qG rfl (.tmp 8) (.tmp 11) rfl _ _ _ rfl rfl (HRUN.o _) ?_;try go_simp
       refine hK _ _ ?_;clear hK K;refine lI (rs:=[5,7]) Yk Ym ?_;refine lC rfl (fun K hK=>?_) ?_
       ·go_simp;refine hK _ _ ?_;clear hK K;refine lI (rs:=[6,7]) Yk Ym ?_;refine lC rfl (fun K hK=>?_) ?_
        ·go_simp;refine hK _ _ ?_;clear hK K;refine lI (rs:=[7]) Yk Ym ?_;refine lC rfl (fun K hK=>?_) ?_
         ·go_simp;refine hK _ _ ?_;clear hK K;refine lJ Yk ?_ _;exact HF1.o
         exact lD
        refine lC rfl (fun K hK=>?_) ?_
        ·go_simp;refine hK _ _ ?_;clear hK K;refine lI (rs:=[6]) Yk Ym ?_;refine lC rfl (fun K hK=>?_) ?_
         ·go_simp;refine hK _ _ ?_;clear hK K;refine lJ Yk ?_ _;exact HF2.o
         exact lD
        exact lD
       refine lC rfl (fun K hK=>?_) ?_
       ·go_simp;refine hK _ _ ?_;clear hK K;refine lI (rs:=[5]) Yk Ym ?_;refine lC rfl (fun K hK=>?_) ?_
        ·go_simp;refine hK _ _ ?_;clear hK K;refine lI (rs:=[6]) Yk Ym ?_;refine lC rfl (fun K hK=>?_) ?_
         ·go_simp;refine hK _ _ ?_;clear hK K;refine lJ Yk ?_ _;exact HF2.o
         exact lD
        exact lD
       exact lD
      exact lD
     exact lD
    exact lD
   refine lC rfl (fun K hK=>?_) ?_
   ·go_simp;refine hK _ _ ?_;clear hK K;refine lI (rs:=[0]) Yk Ym ?_;refine lC rfl (fun K hK=>?_) ?_
    ·go_simp;refine hK _ _ ?_;clear hK K;refine lI (rs:=[2]) Yk Ym ?_;refine lC rfl (fun K hK=>?_) ?_
     ·go_simp;refine hK _ _ ?_;clear hK K;refine lI (rs:=[4]) Yk Ym ?_;refine lC rfl (fun K hK=>?_) ?_
      ·refine qG rfl (.tmp 8) (.tmp 11) rfl _ _ _ rfl rfl (HRUN.o _) ?_;try go_simp
       refine hK _ _ ?_;clear hK K;refine lI (rs:=[5,7]) Yk Ym ?_;refine lC rfl (fun K hK=>?_) ?_
       ·go_simp;refine hK _ _ ?_;clear hK K;refine lI (rs:=[6,7]) Yk Ym ?_;refine lC rfl (fun K hK=>?_) ?_
        ·go_simp;refine hK _ _ ?_;clear hK K;refine lI (rs:=[7]) Yk Ym ?_;refine lC rfl (fun K hK=>?_) ?_
         ·go_simp;refine hK _ _ ?_;clear hK K;refine lJ Yk ?_ _;exact HF1.o
         exact lD
        refine lC rfl (fun K hK=>?_) ?_
        ·go_simp;refine hK _ _ ?_;clear hK K;refine lI (rs:=[6]) Yk Ym ?_;refine lC rfl (fun K hK=>?_) ?_
         ·go_simp;refine hK _ _ ?_;clear hK K;refine lJ Yk ?_ _;exact HF2.o
         exact lD
        exact lD
       refine lC rfl (fun K hK=>?_) ?_
       ·go_simp;refine hK _ _ ?_;clear hK K;refine lI (rs:=[5]) Yk Ym ?_;refine lC rfl (fun K hK=>?_) ?_
        ·go_simp;refine hK _ _ ?_;clear hK K;refine lI (rs:=[6]) Yk Ym ?_;refine lC rfl (fun K hK=>?_) ?_
         ·go_simp;refine hK _ _ ?_;clear hK K;refine lJ Yk ?_ _;exact HF2.o
         exact lD
        exact lD
       exact lD
      exact lD
     exact lD
    exact lD
   exact lD
  refine lC rfl (fun K hK=>?_) ?_
  ·go_simp;refine hK _ _ ?_;clear hK K;refine lI (rs:=[0,1]) Yk Ym ?_;refine lC rfl (fun K hK=>?_) ?_
   ·go_simp;refine hK _ _ ?_;clear hK K;refine lI (rs:=[1,2]) Yk Ym ?_;refine lC rfl (fun K hK=>?_) ?_
    ·go_simp;refine hK _ _ ?_;clear hK K;refine lI (rs:=[2]) Yk Ym ?_;refine lC rfl (fun K hK=>?_) ?_
     ·go_simp;refine hK _ _ ?_;clear hK K;refine lI (rs:=[4]) Yk Ym ?_;refine lC rfl (fun K hK=>?_) ?_
      ·refine qG rfl (.tmp 8) (.tmp 11) rfl _ _ _ rfl rfl (HRUN.o _) ?_;try go_simp
       refine hK _ _ ?_;clear hK K;refine lI (rs:=[5,7]) Yk Ym ?_;refine lC rfl (fun K hK=>?_) ?_
       ·go_simp;refine hK _ _ ?_;clear hK K;refine lI (rs:=[6,7]) Yk Ym ?_;refine lC rfl (fun K hK=>?_) ?_
        ·go_simp;refine hK _ _ ?_;clear hK K;refine lI (rs:=[7]) Yk Ym ?_;refine lC rfl (fun K hK=>?_) ?_
         ·go_simp;refine hK _ _ ?_;clear hK K;refine lJ Yk ?_ _;exact HF1.o
         exact lD
        refine lC rfl (fun K hK=>?_) ?_
        ·go_simp;refine hK _ _ ?_;clear hK K;refine lI (rs:=[6]) Yk Ym ?_;refine lC rfl (fun K hK=>?_) ?_
         ·go_simp;refine hK _ _ ?_;clear hK K;refine lJ Yk ?_ _;exact HF2.o
         exact lD
        exact lD
       refine lC rfl (fun K hK=>?_) ?_
       ·go_simp;refine hK _ _ ?_;clear hK K;refine lI (rs:=[5]) Yk Ym ?_;refine lC rfl (fun K hK=>?_) ?_
        ·go_simp;refine hK _ _ ?_;clear hK K;refine lI (rs:=[6]) Yk Ym ?_;refine lC rfl (fun K hK=>?_) ?_
         ·go_simp;refine hK _ _ ?_;clear hK K;refine lJ Yk ?_ _;exact HF2.o
         exact lD
        exact lD
       exact lD
      exact lD
     exact lD
    refine lC rfl (fun K hK=>?_) ?_
    ·go_simp;refine hK _ _ ?_;clear hK K;refine lI (rs:=[1]) Yk Ym ?_;refine lC rfl (fun K hK=>?_) ?_
     ·go_simp;refine hK _ _ ?_;clear hK K;refine lI (rs:=[4]) Yk Ym ?_;refine lC rfl (fun K hK=>?_) ?_
      ·refine qG rfl (.tmp 8) (.tmp 11) rfl _ _ _ rfl rfl (HRUN.o _) ?_;try go_simp
       refine hK _ _ ?_;clear hK K;refine lI (rs:=[5,7]) Yk Ym ?_;refine lC rfl (fun K hK=>?_) ?_
       ·go_simp;refine hK _ _ ?_;clear hK K;refine lI (rs:=[6,7]) Yk Ym ?_;refine lC rfl (fun K hK=>?_) ?_
        ·go_simp;refine hK _ _ ?_;clear hK K;refine lI (rs:=[7]) Yk Ym ?_;refine lC rfl (fun K hK=>?_) ?_
         ·go_simp;refine hK _ _ ?_;clear hK K;refine lJ Yk ?_ _;exact HF1.o
         exact lD
        refine lC rfl (fun K hK=>?_) ?_
        ·go_simp;refine hK _ _ ?_;clear hK K;refine lI (rs:=[6]) Yk Ym ?_;refine lC rfl (fun K hK=>?_) ?_
         ·go_simp;refine hK _ _ ?_;clear hK K;refine lJ Yk ?_ _;exact HF2.o
         exact lD
        exact lD
       refine lC rfl (fun K hK=>?_) ?_
       ·go_simp;refine hK _ _ ?_;clear hK K;refine lI (rs:=[5]) Yk Ym ?_;refine lC rfl (fun K hK=>?_) ?_
        ·go_simp;refine hK _ _ ?_;clear hK K;refine lI (rs:=[6]) Yk Ym ?_;refine lC rfl (fun K hK=>?_) ?_
         ·go_simp;refine hK _ _ ?_;clear hK K;refine lJ Yk ?_ _;exact HF2.o
         exact lD
        exact lD
       exact lD
      exact lD
     exact lD
    exact lD
   refine lC rfl (fun K hK=>?_) ?_
   ·go_simp;refine hK _ _ ?_;clear hK K;refine lI (rs:=[0]) Yk Ym ?_;refine lC rfl (fun K hK=>?_) ?_
    ·go_simp;refine hK _ _ ?_;clear hK K;refine lI (rs:=[2]) Yk Ym ?_;refine lC rfl (fun K hK=>?_) ?_
     ·go_simp;refine hK _ _ ?_;clear hK K;refine lI (rs:=[4]) Yk Ym ?_;refine lC rfl (fun K hK=>?_) ?_
      ·refine qG rfl (.tmp 8) (.tmp 11) rfl _ _ _ rfl rfl (HRUN.o _) ?_;try go_simp
       refine hK _ _ ?_;clear hK K;refine lI (rs:=[5,7]) Yk Ym ?_;refine lC rfl (fun K hK=>?_) ?_
       ·go_simp;refine hK _ _ ?_;clear hK K;refine lI (rs:=[6,7]) Yk Ym ?_;refine lC rfl (fun K hK=>?_) ?_
        ·go_simp;refine hK _ _ ?_;clear hK K;refine lI (rs:=[7]) Yk Ym ?_;refine lC rfl (fun K hK=>?_) ?_
         ·go_simp;refine hK _ _ ?_;clear hK K;refine lJ Yk ?_ _;exact HF1.o
         exact lD
        refine lC rfl (fun K hK=>?_) ?_
        ·go_simp;refine hK _ _ ?_;clear hK K;refine lI (rs:=[6]) Yk Ym ?_;refine lC rfl (fun K hK=>?_) ?_
         ·go_simp;refine hK _ _ ?_;clear hK K;refine lJ Yk ?_ _;exact HF2.o
         exact lD
        exact lD
       refine lC rfl (fun K hK=>?_) ?_
       ·go_simp;refine hK _ _ ?_;clear hK K;refine lI (rs:=[5]) Yk Ym ?_;refine lC rfl (fun K hK=>?_) ?_
        ·go_simp;refine hK _ _ ?_;clear hK K;refine lI (rs:=[6]) Yk Ym ?_;refine lC rfl (fun K hK=>?_) ?_
         ·go_simp;refine hK _ _ ?_;clear hK K;refine lJ Yk ?_ _;exact HF2.o
         exact lD
        exact lD
       exact lD
      exact lD
     exact lD
    exact lD
   exact lD
  exact lD
 case hdone =>
  intro D xs W hD hS hi hq hd;obtain⟨⟨S,hA,hown⟩,h1,h2⟩:=hi;have y0:=hA.cell 0;have HDD:=Ph hd;have hf:FrN W (W.putObj D (.deferred none)):=FrN.put hd rfl;have HPQ:Ud (PQ B w p E T q' (W.putObj D (.deferred none))):=Ph ⟨Pq.putN hq hd rfl (by have:=HB0.o;omega),Fr.then h2 (wP W D _) fun i hi e=>Yo⟩;have HST:Ud (StsP (fun k=>lb≤k) (W.putObj D (.deferred none)) lst S):=Ph (hS▸((hown.stay itS yW hf.stays).sts.mono fun b _ hb=>Yo));clear hA hown h1 h2 hd hf hq;go_wp2_with fail
  exact⟨Ym,.inl ⟨D,_,rfl,run_takeDeferred HDD.o,⟨uL S,by simp [results,results70,go_sem],S,rfl,by rw [hlb];exact HST.o,HPQ.o⟩⟩⟩
end
end
section
open Go.RowKit Go.PlainAid
section
variable {B:Nat} {p:Nat} {E:Env} {T:TV}
theorem jD9 (f:Nat) (IH:∀ g,g<f→qF4 B p E T g):qF4 B p E T (f+1):=by
 intro q l q' w hx h;obtain⟨q1,q2,h1,h2,h3⟩:=zI8 hx;have HOP:=Ph h1;have HST:=Ph h2;have HSH:=Ph h3;have HIH:=Ph IH;clear hx h1 h2 h3 IH;go_enter func89,ntmps89
 go_wp2_with fail
 refine(qF3 q [123] q1 HOP.o w h).mono ?_;rintro e w1 ⟨⟨v1,rfl⟩,hp1⟩;have HP1:=Ph hp1;clear hp1;go_wp2_with fail
 refine(kM8 f q1 l q2 HST.o HIH.o w1 (Ph HP1.o.pq)).mono ?_;rintro e w2 ⟨S,rfl,hs,hp⟩;have HS2:=Ph hs;have HP2:=Ph hp;clear hs hp;go_wp2_with fail
 refine(zI7 q2 [125] q' HSH.o w2 (Ph HP2.o.pq)).mono ?_;rintro e w3 ⟨⟨v3,rfl⟩,hp⟩;have HP3:=Ph hp;clear hp;go_wp2_with fail
 go_ret;have h1:=HP1.o.fr.size;exact⟨S,rfl,(HS2.o.stay (HP2.o.pq.stays HP3.o.fr)).mono fun b _ hb=>Yo,(HP1.o.trans HP2.o).trans HP3.o⟩
theorem jE1:∀ f,qF4 B p E T f:=by
 intro f;induction f using Nat.strongRecOn with
 | ind f ih =>
   cases f with
   | zero=>intro q l q' w hx h;simp [kE]at hx
   | succ f=>exact jD9 f fun g hg=>ih g Yo
end
end
section
section
variable {E:Env} {f:Nat} {q q':QSt}
theorem zA8 {out:List Dx} {r:List Dx×QSt} (h:jN E (f+1) q out=some r):(isP E q.s [44]=false∧r=(out,q))∨(isP E q.s [44]=true∧q.l.length≤800000000∧jN E f (qV E (q.on (zE q.s))).2 (out++[(qV E (q.on (zE q.s))).1])=some r):=by
 rw [jN]at h;cases hi:isP E q.s [44]with
 | false=>rw [hi]at h;injection h with h;exact .inl ⟨rfl,h.symm⟩
 | true =>
   rw [hi,lM rfl]at h;cases hl:okL q with
   | false=>rw [hl]at h;cases h
   | true =>
     rw [hl,lM rfl]at h;exact .inr ⟨rfl,cM hl,h⟩
theorem zJ1 {x:Rx} (h:zH1 E f q=some (x,q')):∃ q1 ps q2 q3 b,kN E (q.on (zL E q.s)) [40]=some q1 ∧
 (((zC E q1.s).text≠[41]∧q1.s.e=0∧q1.l.length≤800000000∧jN E f (qV E q1).2 [(qV E q1).1]=some (ps,q2))∨(¬((zC E q1.s).text≠[41]∧q1.s.e=0)∧ps=[]∧q2=q1)) ∧
 jX E q2 [41]=some q3∧kE E f q3=some (b,q')∧x=⟨jA E q.s,ps,b⟩:=by
 unfold zH1 at h;cases h1:kN E (q.on (zL E q.s)) [40]with
 | none=>simp [h1]at h
 | some q1 =>
   simp only [h1,cG,lP]at h;by_cases hc:(zC E q1.s).text≠[41]∧q1.s.e=0
   ·rw [lM hc]at h;cases hl:okL q1 with
    | false=>simp [hl]at h
    | true =>
      rw [hl,lM rfl]at h;cases h2:jN E f (qV E q1).2 [(qV E q1).1]with
      | none=>simp [h2]at h
      | some r =>
        obtain⟨ps,q2⟩:=r;simp only [h2,lP]at h;cases h3:jX E q2 [41]with
        | none=>simp [h3]at h
        | some q3 =>
          simp only [h3,lP]at h;cases h4:kE E f q3 with
          | none=>simp [h4]at h
          | some r =>
            obtain⟨b,q4⟩:=r;simp only [h4,lP]at h;injection h with h;injection h with e1 e2;subst e1 e2;exact⟨q1,ps,q2,q3,b,rfl,.inl ⟨hc.1,hc.2,cM hl,h2⟩,h3,h4,rfl⟩
   ·rw [lN hc]at h;simp only [lP]at h;cases h3:jX E q1 [41]with
    | none=>simp [h3]at h
    | some q3 =>
      simp only [h3,lP]at h;cases h4:kE E f q3 with
      | none=>simp [h4]at h
      | some r =>
        obtain⟨b,q4⟩:=r;simp only [h4,lP]at h;injection h with h;injection h with e1 e2;subst e1 e2;exact⟨q1,[],q1,q3,b,rfl,.inr ⟨hc,rfl,rfl⟩,h3,h4,rfl⟩
theorem zN3 {out:List Rx} {r:List Rx×QSt} (h:kX E (f+1) q out=some r):(isP E q.s (bs "proc")=false∧r=(out,q))∨(isP E q.s (bs "proc")=true∧q.l.length≤800000000∧∃ x q1,zH1 E f ⟨zE q.s,q.l++[(zC E q.s).at']⟩=some (x,q1)∧kX E f q1 (out++[x])=some r):=by
 rw [kX]at h;cases hi:isP E q.s (bs "proc")with
 | false=>rw [hi]at h;injection h with h;exact .inl ⟨rfl,h.symm⟩
 | true =>
   rw [hi,lM rfl]at h;cases hl:okL q with
   | false=>rw [hl]at h;cases h
   | true =>
     rw [hl,lM rfl]at h;cases h1:zH1 E f ⟨zE q.s,q.l++[(zC E q.s).at']⟩with
     | none=>simp [h1]at h
     | some y =>
       obtain⟨x,q1⟩:=y;simp only [h1,cG,lP]at h;exact .inr ⟨rfl,cM hl,x,q1,rfl,h⟩
theorem zN4 {out:List Ix} {r:List Ix×QSt} (h:kY E (f+1) q out=some r):(isP E q.s (bs "init")=false∧r=(out,q))∨(isP E q.s (bs "init")=true∧q.l.length≤800000000∧∃ x q1,qS E f ⟨zI E (jB E (zE q.s)).2 [61],q.l++[(zC E q.s).at']⟩=some (x,q1)∧kY E f q1 (out++[⟨(jB E (zE q.s)).1,x⟩])=some r):=by
 rw [kY]at h;cases hi:isP E q.s (bs "init")with
 | false=>rw [hi]at h;injection h with h;exact .inl ⟨rfl,h.symm⟩
 | true =>
   rw [hi,lM rfl]at h;cases hl:okL q with
   | false=>rw [hl]at h;cases h
   | true =>
     rw [hl,lM rfl]at h;(try dsimp only at h);cases h1:qS E f ⟨zI E (jB E (zE q.s)).2 [61],q.l++[(zC E q.s).at']⟩with
     | none=>simp [h1]at h
     | some y =>
       obtain⟨x,q1⟩:=y;simp only [h1,cG,lP]at h;exact .inr ⟨rfl,cM hl,x,q1,rfl,h⟩
theorem zP4 {x:Gx} (h:kH E f q=some (x,q')):∃ nb nw is q1 gs q2 vs q3 az q4 rq q5 ins q6 ps q7 wk q8 rc q9 iv,jB E (zI E (q.at E).s (bs "device"))=nb∧jB E (zI E nb.2 (bs "width"))=nw ∧
 jK E (bs "input") false f ((q.at E).on nw.2) []=some (is,q1)∧jK E (bs "ghost") false f q1 []=some (gs,q2)∧jK E (bs "var") false f q2 []=some (vs,q3)∧jK E (bs "array") true f q3 []=some (az,q4) ∧
 ((isP E q4.s (bs "require")=true∧qS E f (q4.on (zE q4.s))=some (rq,q5))∨(isP E q4.s (bs "require")=false∧q4.l.length≤800000000∧rq=.mk 1 0 1 1 [] []∧q5=q4.at E)) ∧
 kY E f q5 []=some (ins,q6)∧kX E f q6 []=some (ps,q7)∧kE E f (q7.on (zI E q7.s (bs "work")))=some (wk,q8)∧kE E f (q8.on (zI E q8.s (bs "recover")))=some (rc,q9)∧qS E f (q9.on (zI E q9.s (bs "invariant")))=some (iv,q') ∧
 x=⟨nb.1,nw.1,is,gs,vs,az,rq,ins,ps,wk,rc,iv⟩:=by
 unfold kH at h;(try dsimp only at h);have tk:∀ {α β:Type} {o:Option α} {g:α→Option β} {y:β},(o >>= g)=some y→∃ a,o=some a∧g a=some y:=by
  intro α β o g y h;cases o with
  | none=>cases h
  | some a=>exact⟨a,rfl,h⟩
 obtain⟨⟨is,q1⟩,h1,h⟩:=tk h;obtain⟨⟨gs,q2⟩,h2,h⟩:=tk h;obtain⟨⟨vs,q3⟩,h3,h⟩:=tk h;obtain⟨⟨az,q4⟩,h4,h⟩:=tk h;obtain⟨⟨rq,q5⟩,h5,h⟩:=tk h;obtain⟨⟨ins,q6⟩,h6,h⟩:=tk h;obtain⟨⟨ps,q7⟩,h7,h⟩:=tk h;obtain⟨⟨wk,q8⟩,h8,h⟩:=tk h;obtain⟨⟨rc,q9⟩,h9,h⟩:=tk h;obtain⟨⟨iv,q10⟩,h10,h⟩:=tk h;injection h with h;injection h with e1 e2;subst e1 e2;refine⟨_,_,is,q1,gs,q2,vs,q3,az,q4,rq,q5,ins,q6,ps,q7,wk,q8,rc,q9,iv,rfl,rfl,h1,h2,h3,h4,?_,h6,h7,h8,h9,h10,rfl⟩;cases hi:isP E q4.s (bs "require")with
 | true =>
   rw [lM hi]at h5;exact .inl ⟨rfl,h5⟩
 | false =>
   rw [lN (by rw [hi];decide)]at h5;cases hl:okL q4 with
   | false=>rw [hl]at h5;cases h5
   | true =>
     rw [hl,lM rfl]at h5;injection h5 with h5;injection h5 with e1 e2;subst e1 e2;exact .inr ⟨rfl,cM hl,rfl,rfl⟩
end
end
section
open Go.RowKit Go.PlainAid
section
variable {B:Nat} {p:Nat} {E:Env} {T:TV}
structure BxR (B:Nat) (p:Nat) (E:Env) (T:TV) (w:World) (r b:Nat) (cs:Array Value) (q:QSt) (W:World):Prop where
 pq:PQ B w p E T q W
 rs:Bk W r 93 #[uT,uN,uN]
 bx:Bk W b 93 cs
 rp:p≠r
 bp:p≠b
 br:b≠r
 wr:w.heap.size≤r
 wb:w.heap.size≤b
theorem BxR.then {w W W':World} {r b:Nat} {cs:Array Value} {q q':QSt} (h:BxR B p E T w r b cs q W) (k:PQ B W p E T q' W'):BxR B p E T w r b cs q' W':=⟨h.pq.trans k,k.bk h.rs Yd (cX h.rp),k.bk h.bx Yd (cX h.bp),h.rp,h.bp,h.br,h.wr,h.wb⟩
theorem BxR.lt {w W:World} {r b:Nat} {cs:Array Value} {q:QSt} (h:BxR B p E T w r b cs q W):r<W.heap.size∧b<W.heap.size:=⟨h.rs.lt,h.bx.lt⟩
theorem BxR.put {w W:World} {r b:Nat} {cs:Array Value} {q:QSt} (h:BxR B p E T w r b cs q W) (hB:B≤w.heap.size) (i:Nat) (u:Value):BxR B p E T w r b (cs.setIfInBounds i u) q (W.setCell ⟨b,i,none⟩ u)∧Fr (fun k=>k=b) W (W.setCell ⟨b,i,none⟩ u):=by have hf:Fr (fun k=>k=b) W (W.setCell ⟨b,i,none⟩ u):=(Fr.refl (fun k=>k=b) W).setCell (p:=⟨b,i,none⟩) (.inl rfl) u;exact⟨⟨h.pq.box h.bx Yd Yd h.bp (lE hB h.wb) h.wb hf,h.rs.fr hf (cX h.br),h.bx.put i u,h.rp,h.bp,h.br,h.wr,h.wb⟩,hf⟩
theorem BxR.data {w W W':World} {r b:Nat} {cs:Array Value} {q:QSt} {out:List Dx} {S:SV} (h:BxR B p E T w r b cs q W) (hB:B≤w.heap.size) (hf:Fr (fun k=>(Value.slice S.A S.n S.c).ownBlock=some k) W W') (ho:OwnD (b+1) W out S):BxR B p E T w r b cs q W':=by have hw:=h.wb;exact⟨h.pq.data hB hf (fun k _ e=>by obtain⟨h1,cs,h2⟩:=ho.typed e;exact⟨Yo,_,cs,h2,qC⟩),h.rs.fr hf (fun e=>by obtain⟨_,cs,h2⟩:=ho.typed e;exact h2.ne h.rs Yd rfl),h.bx.fr hf (fun e=>by obtain⟨h1,_⟩:=ho.typed e;omega),h.rp,h.bp,h.br,h.wr,h.wb⟩
theorem OwnD.push {B:Nat} {w:World} {out:List Dx} {S:SV} {X:Dx} (h:OwnD B w out S) (hB:B≤w.heap.size) (hx:jO4 X) (hn:S.n<1000000000) :
 ∃ A' c' w',(∀ ty,(Builtin.append_ #[25,25] ty #[.slice S.A S.n S.c,.slice (some ⟨w.heap.size,0,none⟩) 1 1]).run prog (w.alloc (.cells (yX X ()).toArray 87))=.ok (.slice A' (S.n+1) c') w')∧OwnD B w' (out++[X]) ⟨A',S.n+1,c'⟩∧Fr (fun k=>(Value.slice S.A S.n S.c).ownBlock=some k) (w.alloc (.cells (yX X ()).toArray 87)) w'∧OwnD B (w.alloc (.cells (yX X ()).toArray 87)) out S:=by
 have hb:Ue w (w.alloc (.cells (yX X ()).toArray 87)):=zB;have ho:=h.stay itD qC (Stays.below hb);have key:=fun ty=>OwnG.run itD jD5 qC zI9 (fun x v=>rfl) ho X () hx (some ⟨w.heap.size,0,none⟩) 1 (Rd.new w (yX X ()).toArray 87) hn Yp ty;obtain⟨A',c',w',h1,h2,h3⟩:=key 0;exact⟨A',c',w',fun ty=>h1,h2,h3,ho⟩
end
end
section
open Go.RowKit Go.PlainAid
section
variable {B:Nat} {p:Nat} {E:Env} {T:TV}
theorem kM9 (f:Nat) (q:QSt) (x:Rx) (q':QSt) (hx:zH1 E f q=some (x,q')) (w:World) (h:Ud (Pq B w p E T q)):Calls prog 88 #[uQ p 0] w fun e w'=>∃ v:SV×SV,e=.returned (.agg (zP2 x v).toArray)∧RxP (fun k=>w.heap.size≤k) w' x v∧PQ B w p E T q' w':=by
 obtain⟨q1,ps,q2,q3,b0,h1,h2,h3,h4,rfl⟩:=zJ1 hx;have HOP:=Ph h1;have HPS:=Ph h2;have HSH:=Ph h3;have HBO:=Ph h4;clear hx h1 h2 h3 h4;obtain⟨nm,hnm⟩:∃ n,jA E q.s=n:=⟨_,rfl⟩;have HNM:=Ph hnm;have HNL:=Ph (hnm▸h.o.name_len);rw [hnm];clear hnm;have HP:=Ph (PQ.below h.o (zB (o:=.cells #[uT,uN,uN] 93)));have HR:=Ph (Bk.new w 93 #[uT,uN,uN]);have hrp:p≠w.heap.size:=fun e=>by have:=h.o.lt;omega
 go_enter func88,ntmps88
 go_upto_region 1 with fail
 have hW:(w.alloc (.cells #[uT,uN,uN] 93)).heap.size=w.heap.size+1:=lO _ _;generalize (w.alloc _)=W at *;obtain⟨r,hr⟩:∃ r,w.heap.size=r:=⟨_,rfl⟩;have hwr:w.heap.size≤r:=Nat.le_of_eq hr;rw [hr]at HR hW hrp ⊢;clear hr;go_wp2_with fail
 refine(jD1 q W (Ph HP.o.pq)).mono ?_;rintro e w1 ⟨rfl,hp⟩;rw [HNM.o];have hr1:r+1≤w1.heap.size:=lE (Nat.le_of_eq hW.symm) hp.fr.size;have hp1:p<w1.heap.size:=hp.pq.lt;have HBX:Ud (BxR B p E T w r w1.heap.size #[uR nm,uN,uN] (q.on (zL E q.s)) (w1.alloc (.cells #[uR nm,uN,uN] 93))):=Ph ⟨(HP.o.trans hp).then zB,zD (hp.bk HR.o Yd (cX hrp)) zB,Bk.new _ _ _,hrp,Yo,Yo,hwr,Yo⟩;clear hp HP HR hW hp1;go_upto_region 2 with fail
 have hsz:(w1.alloc (.cells #[uR nm,uN,uN] 93)).heap.size=w1.heap.size+1:=lO _ _;generalize (w1.alloc _)=W2 at HBX hsz ⊢;obtain⟨b,hb⟩:∃ b,w1.heap.size=b:=⟨_,rfl⟩;rw [hb]at HBX hsz hr1 ⊢;clear hb;go_wp2_with fail
 refine(qF3 (q.on (zL E q.s)) [40] q1 HOP.o W2 (Ph HBX.o.pq.pq)).mono ?_;rintro e w2 ⟨⟨v2,rfl⟩,hp⟩;have HB2:=Ph (HBX.o.then hp);clear hp HBX;go_wp2_with fail
 refine(zI6 q1 w2 (Ph HB2.o.pq.pq)).mono ?_;rintro e w3 ⟨rfl,hp⟩;obtain⟨⟨tk,tt,ta,tf⟩,ht⟩:∃ t,zC E q1.s=t:=⟨_,rfl⟩;have HPT:=HPS;rw [ht]at HPT ⊢;(try dsimp only at HPT);dsimp only [nxV,kW];have hbt:((str tt).toList == [41])=decide (tt=[41]):=qA7 _ _;have HB:=Ph ((HB2.o.then (PQ.below HB2.o.pq.pq hp)).then (PQ.below (HB2.o.pq.pq.below hp) (zB (o:=.cells #[uB tk,uI ta,uI tf] 44))));clear hp HB2 HPS ht;go_upto_region 4 with fail
 generalize (w3.alloc _)=W3 at HB ⊢;rcases HPT.o with⟨hc1,hc2,hl,hps⟩ | ⟨hc,rfl,rfl⟩
 ·have HO:Ud (OwnD (b+1) W3 [] ⟨none,0,0⟩):=Ph OwnG.nil;have HL:=Ph hl;have HPR:=Ph hps;obtain⟨Qb,hps2,_⟩:=HB.o.pq.pq.ex;obtain⟨g0,g1,g2,g3,g4,g5,g6⟩:=hps2.cells;have hee:((q1.s.e:Int) == 0)=true:=Yp;rw [lG hc1]at hbt;clear hps2 hps hl hc1 hc2 HPT;obtain⟨⟨⟨xn,xw,xs⟩,qn⟩,hpe⟩:∃ y,qV E q1=y:=⟨_,rfl⟩;have HPE:=Ph hpe;rw [hpe]at HPR;clear hpe;go_upto_region 5 with fail
  go_cut [] (fun wx=>∃ (A2:Option Addr) (k2:Nat),Ud (BxR B p E T w r b #[uR nm,.slice A2 (0+1) k2,uN] qn wx)∧Ud (OwnD (b+1) wx (([]:List Dx)++[⟨xn,xw,xs⟩]) ⟨A2,0+1,k2⟩))
  case first =>
   have HBD:=Ph (HB.o.then (PQ.below HB.o.pq.pq (lB _ _).drew));have HOD:=Ph (HO.o.stay itD qC (Stays.below (lB _ _).drew));have hbl:b+1≤W3.drew.heap.size:=HBD.o.bx.lt;have hSn:0<1000000000:=Yd;obtain⟨c0,c1,c2⟩:=zJ HBD.o.bx;have HCL:Ud (Calls prog 114 #[uQ p 0] W3.drew fun e w'=>e=.returned (.agg #[uR xn,uI xw,uI xs])∧jO4 ⟨xn,xw,xs⟩∧PQ B W3.drew p E T qn w'):=Ph (by have h9:=jU1 q1 W3.drew (Ph HBD.o.pq.pq) HL.o;rw [HPE.o]at h9;exact h9)
   go_region_law (first
    | (refine qG rfl (.tmp 26) (.tmp 29) rfl _ _ _ rfl rfl (HRUN.o _) ?_
       clear c0 c1 c2 d0 d1 d2;obtain⟨c0,c1,c2⟩:=zJ HB7.o.bx;obtain⟨f0,f1,f2,f3,f4,f5,_⟩:=zZ HB7.o.bx)
    | (go_simp
       go_at_call 114
       with_reducible refine HCL.o.mono ?_
       rintro e w5 ⟨rfl,hdx,hp⟩;have hw5:=hp.fr.size;obtain⟨A2,k2,w6,hrun,hown,hfr,hown0⟩:=OwnD.push (B:=b+1) (S:=⟨none,0,0⟩) (HOD.o.stay itD qC (HBD.o.pq.pq.stays hp.fr)) (lE hbl hw5) hdx hSn;dsimp only [yX]at hrun hfr hown0;have HB5:=Ph (HBD.o.then hp);have HB6:=Ph (HB5.o.then (PQ.below HB5.o.pq.pq (zB (o:=.cells #[uR xn,uI xw,uI xs] 87))));have HB7:=Ph (HB6.o.data h.o.b hfr hown0);have HRUN:=Ph hrun;have HOW:=Ph hown;clear hrun hown hfr hown0 hp hdx HCL c0 c1 c2 hw5;obtain⟨c0,c1,c2⟩:=zJ HB5.o.bx;obtain⟨d0,d1,d2⟩:=zJ HB6.o.bx))
   all_goals
    obtain⟨hb1,hb2⟩:=HB7.o.put h.o.b 1 (.slice A2 (0+1) k2);have HBn:Ud (BxR B p E T w r b #[uR nm,.slice A2 (0+1) k2,uN] qn (w6.setCell ⟨b,1,none⟩ (.slice A2 (0+1) k2))):=Ph hb1;have HOn:=Ph (HOW.o.stay itD qC (Stays.fr hb2 (fun k _ hk e=>Yo)));clear hb1 hb2;go_wp2
    go_meet
    exact⟨A2,k2,HBn,HOn⟩
  case rest =>
  obtain⟨A2,k2,HBn,HOn⟩:=hcut;clear HB HO;have HB:=HBn;have HO:=HOn;clear HBn HOn;have HL1:Ud ((([]:List Dx)++[(⟨xn,xw,xs⟩:Dx)]).length≤qn.s.n+1):=Ph (Nat.le_add_left 1 _);clear HL HPE g0 g1 g2 g3 g4 g5 g6 hee hbt;go_wp2_with fail
  go_loopg [] f (fun g wr=>∃ (out:List Dx) (A1:Option Addr) (n1 k1:Nat) (qc:QSt),Ud (jN E g qc out=some (ps,q2))∧Ud (BxR B p E T w r b #[uR nm,.slice A1 n1 k1,uN] qc wr)∧Ud (OwnD (b+1) wr out ⟨A1,n1,k1⟩)∧Ud (out.length≤qc.s.n+1))
  case atStart=>exact⟨_,A2,0+1,k2,qn,HPR,HB,HO,HL1⟩
  case round =>
   obtain⟨out,A1,n1,k1,qc,HPc,HBc,HOc,HLc⟩:=hrel;clear HPR HB HO HL1;cases gk with
   | zero=>exact absurd HPc.o (by unfold jN;intro h;cases h)
   | succ gk =>
   have hps:=zA8 HPc.o;clear HPc;go_wp2_with fail
   refine(isQ qc [44] wr (Ph HBc.o.pq.pq)).mono ?_;rintro e wq ⟨rfl,hp⟩;rcases hps with⟨hi,hr⟩ | ⟨hi,hl,hm⟩
   ·have hq:qc.on (isS E qc.s [44])=qc:=by unfold isS;rw [hi];rfl
    rw [hi];rw [hq]at hp;injection hr with hr1 hr2;subst hr1 hr2;have HB:=Ph (HBc.o.then hp);have HRW:Ud (zE2 (fun k=>b+1≤k) wq ps ⟨A1,n1,k1⟩):=Ph ((HOc.o.stay itD qC (HBc.o.pq.pq.stays hp.fr)).row itD);clear hp hi HBc HOc HLc hq;go_wp2_with fail
    refine(zI7 _ [41] q3 HSH.o wq (Ph HB.o.pq.pq)).mono ?_;rintro e w4 ⟨⟨v4,rfl⟩,hp⟩;have HB4:=Ph (HB.o.then hp);have HRW4:=Ph (HRW.o.stay itD qC (HB.o.pq.pq.stays hp.fr));clear hp HB HRW;go_wp2_with fail
    refine(jE1 f q3 b0 q' w4 HBO.o (Ph HB4.o.pq.pq)).mono ?_;rintro e w5 ⟨SB,rfl,hsb,hp⟩;have HB5:=Ph (HB4.o.then hp);have HRW5:=Ph (HRW4.o.stay itD qC (HB4.o.pq.pq.stays hp.fr));have hs4:=HB4.o.bx.lt;have HSB5:Ud (StsP (fun k=>b+1≤k) w5 b0 SB):=Ph (hsb.mono fun k _ hk=>Yo);clear hp hsb HB4 HRW4 hs4;obtain⟨y0,y1,y2⟩:=zJ HB5.o.bx;obtain⟨f0,f1,f2,_,_,_,_⟩:=zZ HB5.o.bx;obtain⟨hb1,hb2⟩:=HB5.o.put h.o.b 2 (uL SB);have HBn:Ud (BxR B p E T w r b #[uR nm,.slice A1 n1 k1,uL SB] q' (w5.setCell ⟨b,2,none⟩ (uL SB))):=Ph hb1;have HRW6:=Ph (HRW5.o.stay itD qC (Stays.fr hb2 fun k _ hp e=>Yo));have HSB6:=Ph (HSB5.o.stay (Stays.fr hb2 fun k _ hp e=>Yo));clear hb1 hb2;go_upto_region 10 with fail
    generalize (World.setCell _ _ _)=W6 at *;clear y0 y1 y2 f0 f1 f2 HB5 HRW5 HSB5;obtain⟨x0,x1,x2⟩:=zJ HBn.o.bx;obtain⟨y0,y1,y2⟩:=zJ HBn.o.rs;obtain⟨f0,f1,f2,_,_,_,_⟩:=zZ HBn.o.rs;have HF:=Ph (jD4 W6 r (uR nm) (.slice A1 n1 k1) (uL SB));have HK:=Ph (qL7 (v0:=uR nm) (v1:=.slice A1 n1 k1) (v2:=uL SB) HBn.o.rs);go_wp2_with fail
    generalize (World.setCell _ _ _)=WF at HF HK ⊢;obtain⟨r0,r1,r2⟩:=zJ HK.o;refine lK (v:=.agg #[uR nm,.slice A1 n1 k1,uL SB]) (by simp [results,results88,go_sem,r0,r1,r2]) rfl ?_;exact⟨(⟨A1,n1,k1⟩,SB),rfl,⟨HNL.o,(HRW6.o.stay itD qC (Stays.fr HF.o fun k _ hp e=>Yo)).mono itD (fun k _ hk=>Yo),(HSB6.o.stay (Stays.fr HF.o fun k _ hp e=>Yo)).mono (fun k _ hk=>Yo)⟩,HBn.o.pq.box HBn.o.rs Yd Yd hrp (lE h.o.b hwr) hwr HF.o⟩
   ·have hq:qc.on (isS E qc.s [44])=qc.on (zE qc.s):=by unfold isS;rw [hi];rfl
    rw [hi];rw [hq]at hp;have HB:=Ph (HBc.o.then hp);have HO:=Ph (HOc.o.stay itD qC (HBc.o.pq.pq.stays hp.fr));have HL:Ud ((qc.on (zE qc.s)).l.length≤800000000):=Ph hl;have hS9:n1<1000000000:=by have h1:=HLc.o;have h2:n1=out.length:=HOc.o.len;obtain⟨Qc,hps,_⟩:=HBc.o.pq.pq.ex;have h3:=hps.n;have h4:=hps.ok.few;omega
    have HS9:=Ph hS9;have hgn:qc.s.n+1≤(qV E (qc.on (zE qc.s))).2.s.n:=by have g1:=zN1 (E:=E) (zE qc.s);have g2:=xK (E:=E) (zL E (zE qc.s)) [58];have g3:=zP3 (E:=E) (zI E (zL E (zE qc.s)) [58]);have g4:(zE qc.s).n=qc.s.n+1:=rfl;show qc.s.n+1≤(jB E (zI E (zL E (zE qc.s)) [58])).2.n;omega
    obtain⟨⟨⟨xn,xw,xs⟩,qn⟩,hpe⟩:∃ y,qV E (qc.on (zE qc.s))=y:=⟨_,rfl⟩;rw [hpe]at hm hgn;have HPE:=Ph hpe;have HPM:=Ph hm;have HL9:Ud ((out++[(⟨xn,xw,xs⟩:Dx)]).length≤qn.s.n+1):=Ph (by have:=HLc.o;rw [Ya];show out.length+1≤qn.s.n+1;(try dsimp only at hgn);omega);clear hpe hp hi HBc HOc hq hl hm hS9 HLc hgn;go_upto_region 7 with fail
    have HBD:=Ph (HB.o.then (PQ.below HB.o.pq.pq (lB _ _).drew));have HOD:=Ph (HO.o.stay itD qC (Stays.below (lB _ _).drew));have hbl:b+1≤wq.drew.heap.size:=HBD.o.bx.lt;have hSn:n1<1000000000:=HS9.o;obtain⟨c0,c1,c2⟩:=zJ HBD.o.bx;have HCL:Ud (Calls prog 114 #[uQ p 0] wq.drew fun e w'=>e=.returned (.agg #[uR xn,uI xw,uI xs])∧jO4 ⟨xn,xw,xs⟩∧PQ B wq.drew p E T qn w'):=Ph (by have h9:=jU1 (qc.on (zE qc.s)) wq.drew (Ph HBD.o.pq.pq) HL.o;rw [HPE.o]at h9;exact h9)
    go_region_law (first
     | (refine qG rfl (.tmp 35) (.tmp 38) rfl _ _ _ rfl rfl (HRUN.o _) ?_
        clear c0 c1 c2 d0 d1 d2;obtain⟨c0,c1,c2⟩:=zJ HB7.o.bx;obtain⟨f0,f1,f2,f3,f4,f5,_⟩:=zZ HB7.o.bx)
     | (go_simp
        go_at_call 114
        with_reducible refine HCL.o.mono ?_
        rintro e w5 ⟨rfl,hdx,hp⟩;have hw5:=hp.fr.size;obtain⟨A2,k2,w6,hrun,hown,hfr,hown0⟩:=OwnD.push (B:=b+1) (S:=⟨A1,n1,k1⟩) (HOD.o.stay itD qC (HBD.o.pq.pq.stays hp.fr)) (lE hbl hw5) hdx hSn;dsimp only [yX]at hrun hfr hown0;have HB5:=Ph (HBD.o.then hp);have HB6:=Ph (HB5.o.then (PQ.below HB5.o.pq.pq (zB (o:=.cells #[uR xn,uI xw,uI xs] 87))));have HB7:=Ph (HB6.o.data h.o.b hfr hown0);have HRUN:=Ph hrun;have HOW:=Ph hown;clear hrun hown hfr hown0 hp hdx HCL c0 c1 c2 hw5;obtain⟨c0,c1,c2⟩:=zJ HB5.o.bx;obtain⟨d0,d1,d2⟩:=zJ HB6.o.bx))
    all_goals
     obtain⟨hb1,hb2⟩:=HB7.o.put h.o.b 1 (.slice A2 (n1+1) k2);have HBn:Ud (BxR B p E T w r b #[uR nm,.slice A2 (n1+1) k2,uN] qn (w6.setCell ⟨b,1,none⟩ (.slice A2 (n1+1) k2))):=Ph hb1;have HOn:=Ph (HOW.o.stay itD qC (Stays.fr hb2 (fun k _ hk e=>Yo)));clear hb1 hb2;go_wp2
     go_roundg gk
     case measure=>omega
     case rel=>exact⟨out++[⟨xn,xw,xs⟩],A2,n1+1,k2,qn,HPM,HBn,HOn,HL9⟩
 ·have HRW:Ud (zE2 (fun k=>b+1≤k) W3 [] ⟨none,0,0⟩):=Ph RowG.nil;obtain⟨Qb,hps,_⟩:=HB.o.pq.pq.ex;obtain⟨g0,g1,g2,g3,g4,g5,g6⟩:=hps.cells;clear hps;by_cases htt:tt=[41]
  ·rw [lH htt]at hbt;clear htt hc HPT;go_wp2_with fail
   refine(zI7 _ [41] q3 HSH.o W3 (Ph HB.o.pq.pq)).mono ?_;rintro e w4 ⟨⟨v4,rfl⟩,hp⟩;have HB4:=Ph (HB.o.then hp);have HRW4:=Ph (HRW.o.stay itD qC (HB.o.pq.pq.stays hp.fr));clear hp HB HRW;go_wp2_with fail
   refine(jE1 f q3 b0 q' w4 HBO.o (Ph HB4.o.pq.pq)).mono ?_;rintro e w5 ⟨SB,rfl,hsb,hp⟩;have HB5:=Ph (HB4.o.then hp);have HRW5:=Ph (HRW4.o.stay itD qC (HB4.o.pq.pq.stays hp.fr));have hs4:=HB4.o.bx.lt;have HSB5:Ud (StsP (fun k=>b+1≤k) w5 b0 SB):=Ph (hsb.mono fun k _ hk=>Yo);clear hp hsb HB4 HRW4 hs4;obtain⟨y0,y1,y2⟩:=zJ HB5.o.bx;obtain⟨f0,f1,f2,_,_,_,_⟩:=zZ HB5.o.bx;obtain⟨hb1,hb2⟩:=HB5.o.put h.o.b 2 (uL SB);have HBn:Ud (BxR B p E T w r b #[uR nm,uN,uL SB] q' (w5.setCell ⟨b,2,none⟩ (uL SB))):=Ph hb1;have HRW6:=Ph (HRW5.o.stay itD qC (Stays.fr hb2 fun k _ hp e=>Yo));have HSB6:=Ph (HSB5.o.stay (Stays.fr hb2 fun k _ hp e=>Yo));clear hb1 hb2;go_upto_region 10 with fail
   generalize (World.setCell _ _ _)=W6 at *;clear y0 y1 y2 f0 f1 f2 HB5 HRW5 HSB5;obtain⟨x0,x1,x2⟩:=zJ HBn.o.bx;obtain⟨y0,y1,y2⟩:=zJ HBn.o.rs;obtain⟨f0,f1,f2,_,_,_,_⟩:=zZ HBn.o.rs;have HF:=Ph (jD4 W6 r (uR nm) (uN) (uL SB));have HK:=Ph (qL7 (v0:=uR nm) (v1:=uN) (v2:=uL SB) HBn.o.rs);go_wp2_with fail
   generalize (World.setCell _ _ _)=WF at HF HK ⊢;obtain⟨r0,r1,r2⟩:=zJ HK.o;refine lK (v:=.agg #[uR nm,uN,uL SB]) (by simp [results,results88,go_sem,r0,r1,r2]) rfl ?_;exact⟨(⟨none,0,0⟩,SB),rfl,⟨HNL.o,(HRW6.o.stay itD qC (Stays.fr HF.o fun k _ hp e=>Yo)).mono itD (fun k _ hk=>Yo),(HSB6.o.stay (Stays.fr HF.o fun k _ hp e=>Yo)).mono (fun k _ hk=>Yo)⟩,HBn.o.pq.box HBn.o.rs Yd Yd hrp (lE h.o.b hwr) hwr HF.o⟩
  ·rw [lG htt]at hbt;have hee:((q2.s.e:Int) == 0)=false:=by have:q2.s.e≠0:=fun e=>hc ⟨htt,e⟩;simp;omega
   clear htt hc HPT;go_wp2_with fail
   refine(zI7 _ [41] q3 HSH.o W3 (Ph HB.o.pq.pq)).mono ?_;rintro e w4 ⟨⟨v4,rfl⟩,hp⟩;have HB4:=Ph (HB.o.then hp);have HRW4:=Ph (HRW.o.stay itD qC (HB.o.pq.pq.stays hp.fr));clear hp HB HRW;go_wp2_with fail
   refine(jE1 f q3 b0 q' w4 HBO.o (Ph HB4.o.pq.pq)).mono ?_;rintro e w5 ⟨SB,rfl,hsb,hp⟩;have HB5:=Ph (HB4.o.then hp);have HRW5:=Ph (HRW4.o.stay itD qC (HB4.o.pq.pq.stays hp.fr));have hs4:=HB4.o.bx.lt;have HSB5:Ud (StsP (fun k=>b+1≤k) w5 b0 SB):=Ph (hsb.mono fun k _ hk=>Yo);clear hp hsb HB4 HRW4 hs4;obtain⟨y0,y1,y2⟩:=zJ HB5.o.bx;obtain⟨f0,f1,f2,_,_,_,_⟩:=zZ HB5.o.bx;obtain⟨hb1,hb2⟩:=HB5.o.put h.o.b 2 (uL SB);have HBn:Ud (BxR B p E T w r b #[uR nm,uN,uL SB] q' (w5.setCell ⟨b,2,none⟩ (uL SB))):=Ph hb1;have HRW6:=Ph (HRW5.o.stay itD qC (Stays.fr hb2 fun k _ hp e=>Yo));have HSB6:=Ph (HSB5.o.stay (Stays.fr hb2 fun k _ hp e=>Yo));clear hb1 hb2;go_upto_region 10 with fail
   generalize (World.setCell _ _ _)=W6 at *;clear y0 y1 y2 f0 f1 f2 HB5 HRW5 HSB5;obtain⟨x0,x1,x2⟩:=zJ HBn.o.bx;obtain⟨y0,y1,y2⟩:=zJ HBn.o.rs;obtain⟨f0,f1,f2,_,_,_,_⟩:=zZ HBn.o.rs;have HF:=Ph (jD4 W6 r (uR nm) (uN) (uL SB));have HK:=Ph (qL7 (v0:=uR nm) (v1:=uN) (v2:=uL SB) HBn.o.rs);go_wp2_with fail
   generalize (World.setCell _ _ _)=WF at HF HK ⊢;obtain⟨r0,r1,r2⟩:=zJ HK.o;refine lK (v:=.agg #[uR nm,uN,uL SB]) (by simp [results,results88,go_sem,r0,r1,r2]) rfl ?_;exact⟨(⟨none,0,0⟩,SB),rfl,⟨HNL.o,(HRW6.o.stay itD qC (Stays.fr HF.o fun k _ hp e=>Yo)).mono itD (fun k _ hk=>Yo),(HSB6.o.stay (Stays.fr HF.o fun k _ hp e=>Yo)).mono (fun k _ hk=>Yo)⟩,HBn.o.pq.box HBn.o.rs Yd Yd hrp (lE h.o.b hwr) hwr HF.o⟩
end
end
section
open Go.RowKit Go.PlainAid
theorem zT1 {w:World} {g:Nat} {t:TypeId} {u0 u1 u2 u3 u4 u5 u6 u7 u8 u9 u10 u11 u12 u13 u14 u15 u16 u17 u18 u19 u20 u21:Value} (h:Bk w g t #[u0,u1,u2,u3,u4,u5,u6,u7,u8,u9,u10,u11,u12,u13,u14,u15,u16,u17,u18,u19,u20,u21]):w.cell? ⟨g,0,none⟩=some u0∧w.cell? ⟨g,1,none⟩=some u1∧w.cell? ⟨g,2,none⟩=some u2∧w.cell? ⟨g,3,none⟩=some u3∧w.cell? ⟨g,4,none⟩=some u4∧w.cell? ⟨g,5,none⟩=some u5∧w.cell? ⟨g,6,none⟩=some u6∧w.cell? ⟨g,7,none⟩=some u7∧w.cell? ⟨g,8,none⟩=some u8∧w.cell? ⟨g,9,none⟩=some u9∧w.cell? ⟨g,10,none⟩=some u10∧w.cell? ⟨g,11,none⟩=some u11∧w.cell? ⟨g,12,none⟩=some u12∧w.cell? ⟨g,13,none⟩=some u13∧w.cell? ⟨g,14,none⟩=some u14∧w.cell? ⟨g,15,none⟩=some u15∧w.cell? ⟨g,16,none⟩=some u16∧w.cell? ⟨g,17,none⟩=some u17∧w.cell? ⟨g,18,none⟩=some u18∧w.cell? ⟨g,19,none⟩=some u19∧w.cell? ⟨g,20,none⟩=some u20∧w.cell? ⟨g,21,none⟩=some u21:=⟨h.cell 0,h.cell 1,h.cell 2,h.cell 3,h.cell 4,h.cell 5,h.cell 6,h.cell 7,h.cell 8,h.cell 9,h.cell 10,h.cell 11,h.cell 12,h.cell 13,h.cell 14,h.cell 15,h.cell 16,h.cell 17,h.cell 18,h.cell 19,h.cell 20,h.cell 21⟩
theorem xT:¬TTy 36:=by unfold TTy;decide
theorem qA9:¬TTy 44:=by unfold TTy;decide
structure KpI (K:(Nat→Prop)→World→Prop):Prop where
 stay:∀ P w w',Stays P w w'→K P w→K P w'
 mono:∀ (P P':Nat→Prop) w,(∀ b,b<w.heap.size→P b→P' b)→K P w→K P' w
theorem KpI.true:KpI (fun _ _=>True):=⟨fun _ _ _ _ h=>h,fun _ _ _ _ h=>h⟩
theorem KpI.and {K K':(Nat→Prop)→World→Prop} (h:KpI K) (k:KpI K'):KpI (fun P w=>K P w∧K' P w):=⟨fun P w w' hs hk=>⟨h.stay P w w' hs hk.1,k.stay P w w' hs hk.2⟩,fun P P' w hp hk=>⟨h.mono P P' w hp hk.1,k.mono P P' w hp hk.2⟩⟩
theorem KpI.item {α β:Type} {A:(Nat→Prop)→World→α→β→Prop} (I:qD6 A) (x:α) (v:β):KpI (fun P w=>A P w x v):=⟨fun P w w' hs hk=>I.stay P w w' x v hs hk,fun P P' w hp hk=>I.mono P P' w x v hp hk⟩
theorem KpI.row {α β:Type} {c:α→β→List Value} {t:TypeId} {A:(Nat→Prop)→World→α→β→Prop} (I:qD6 A) (ht:TTy t) (l:List α) (S:SV):KpI (fun P w=>RowG c t A P w l S):=⟨fun P w w' hs hk=>hk.stay I ht hs,fun P P' w hp hk=>hk.mono I hp⟩
theorem KpI.sts (l:List Sx) (S:SV):KpI (fun P w=>StsP P w l S):=⟨fun P w w' hs hk=>hk.stay hs,fun P P' w hp hk=>hk.mono hp⟩
structure GS (B:Nat) (p:Nat) (E:Env) (T:TV) (w:World) (r b t:Nat) (cs:Array Value) (tk ta tf:Nat) (q:QSt) (P0:Nat→Prop) (K:(Nat→Prop)→World→Prop) (W:World):Prop where
 pq:PQ B w p E T q W
 rs:Bk W r 36 uP
 bx:Bk W b 36 cs
 bt:Bk W t 44 #[uB tk,uI ta,uI tf]
 rp:p≠r
 bp:p≠b
 tp:p≠t
 br:b≠r
 wr:w.heap.size≤r
 wb:w.heap.size≤b
 wt:w.heap.size≤t
 ki:KpI K
 k:K P0 W
section
variable {B:Nat} {p:Nat} {E:Env} {T:TV} {w W W':World} {r b t:Nat} {cs:Array Value} {tk ta tf:Nat} {q q':QSt} {P0 P1:Nat→Prop} {K K':(Nat→Prop)→World→Prop}
theorem GS.then (h:GS B p E T w r b t cs tk ta tf q P0 K W) (k:PQ B W p E T q' W'):GS B p E T w r b t cs tk ta tf q' P0 K W' :=
 ⟨h.pq.trans k,k.bk h.rs Yd (cX h.rp),k.bk h.bx Yd (cX h.bp),k.bk h.bt Yd (cX h.tp),h.rp,h.bp,h.tp,h.br,h.wr,h.wb,h.wt,h.ki,h.ki.stay _ _ _ (h.pq.pq.stays k.fr) h.k⟩
theorem GS.below (h:GS B p E T w r b t cs tk ta tf q P0 K W) (k:Below W.heap.size W W'):GS B p E T w r b t cs tk ta tf q P0 K W':=h.then (PQ.below h.pq.pq k)
theorem GS.add (h:GS B p E T w r b t cs tk ta tf q P0 K W) (I:KpI K') (k:K' P0 W):GS B p E T w r b t cs tk ta tf q P0 (fun P w=>K P w∧K' P w) W :=
 ⟨h.pq,h.rs,h.bx,h.bt,h.rp,h.bp,h.tp,h.br,h.wr,h.wb,h.wt,h.ki.and I,⟨h.k,k⟩⟩
theorem GS.put (h:GS B p E T w r b t cs tk ta tf q P0 K W) (hB:B≤w.heap.size) (i:Nat) (u:Value):GS B p E T w r b t (cs.setIfInBounds i u) tk ta tf q P0 K (W.setCell ⟨b,i,none⟩ u):=by have hf:Fr (fun k=>k=b) W (W.setCell ⟨b,i,none⟩ u):=(Fr.refl (fun k=>k=b) W).setCell (p:=⟨b,i,none⟩) (.inl rfl) u;exact⟨h.pq.box h.bx Yd Yd h.bp (lE hB h.wb) h.wb hf,h.rs.fr hf (cX h.br),h.bx.put i u,h.bt.fr hf (fun e=>h.bx.ne h.bt Yd e.symm),h.rp,h.bp,h.tp,h.br,h.wr,h.wb,h.wt,h.ki,h.ki.stay _ _ _ (Stays.box hf h.bx xT) h.k⟩
theorem GS.tok (h:GS B p E T w r b t cs tk ta tf q P0 K W) (hB:B≤w.heap.size) (hA:∀ g off,T.A=some ⟨g,off,none⟩→g<w.heap.size) (k2 a2 f2:Nat):GS B p E T w r b t cs k2 a2 f2 q P0 K (((W.setCell ⟨t,0,none⟩ (uB k2)).setCell ⟨t,1,none⟩ (uI a2)).setCell ⟨t,2,none⟩ (uI f2)):=by have hf:=jD4 W t (uB k2) (uI a2) (uI f2);exact⟨⟨h.pq.pq.tokbox h.bt h.tp (lE hB h.wt) (fun g off e=>lX (hA g off e) h.wt) hf,h.pq.fr.box hf h.wt⟩,h.rs.fr hf (fun e=>h.bt.ne h.rs Yd e.symm),h.bx.fr hf (fun e=>h.bt.ne h.bx Yd e.symm),qL7 h.bt,h.rp,h.bp,h.tp,h.br,h.wr,h.wb,h.wt,h.ki,h.ki.stay _ _ _ (Stays.box hf h.bt qA9) h.k⟩
theorem GS.lt (h:GS B p E T w r b t cs tk ta tf q P0 K W):r<W.heap.size∧b<W.heap.size∧t<W.heap.size:=⟨h.rs.lt,h.bx.lt,h.bt.lt⟩
theorem GS.data {F:Nat→Prop} (h:GS B p E T w r b t cs tk ta tf q P0 K W) (hB:B≤w.heap.size) (hf:Fr F W W') (hF:∀ k,k<W.heap.size→F k→w.heap.size≤k∧∃ t cs,Bk W k t cs∧TTy t) (hP:∀ k,k<W.heap.size→P0 k→¬F k):GS B p E T w r b t cs tk ta tf q P0 K W':=by
 have key:∀ g ty c,Bk W g ty c→¬TTy ty→¬F g:=by intro g ty c hb hn e;obtain⟨_,t2,c2,hb2,ht2⟩:=hF g hb.lt e;unfold Bk at hb hb2;rw [hb]at hb2;injection hb2 with hb2;injection hb2 with _ e2;exact hn (e2▸ht2)
 exact⟨h.pq.data hB hf hF,h.rs.fr hf (key _ _ _ h.rs xT),h.bx.fr hf (key _ _ _ h.bx xT),h.bt.fr hf (key _ _ _ h.bt qA9),h.rp,h.bp,h.tp,h.br,h.wr,h.wb,h.wt,h.ki,h.ki.stay _ _ _ (Stays.fr hf hP) h.k⟩
theorem GS.mono (h:GS B p E T w r b t cs tk ta tf q P0 K W) (hp:∀ k,k<W.heap.size→P0 k→P1 k):GS B p E T w r b t cs tk ta tf q P1 K W:=⟨h.pq,h.rs,h.bx,h.bt,h.rp,h.bp,h.tp,h.br,h.wr,h.wb,h.wt,h.ki,h.ki.mono _ _ _ hp h.k⟩
end
structure GV where
 is:SV
 gs:SV
 vs:SV
 ar:SV
 rq:SV
 ins:SV
 ps:SV
 wk:SV
 rc:SV
 iv:SV
def zN5 (x:Gx) (v:GV):List Value:=[uI x.blocks,uI x.width,.slice v.is.A v.is.n v.is.c,.slice v.gs.A v.gs.n v.gs.c,.slice v.vs.A v.vs.n v.vs.c,.slice v.ar.A v.ar.n v.ar.c,uB x.require.kind,uB x.require.op,uW x.require.value,uI x.require.width,uR x.require.name,.slice v.rq.A v.rq.n v.rq.c,.slice v.ins.A v.ins.n v.ins.c,.slice v.ps.A v.ps.n v.ps.c,.slice v.wk.A v.wk.n v.wk.c,.slice v.rc.A v.rc.n v.rc.c,uB x.invariant.kind,uB x.invariant.op,uW x.invariant.value,uI x.invariant.width,uR x.invariant.name,.slice v.iv.A v.iv.n v.iv.c]
structure GxP (P:Nat→Prop) (w:World) (x:Gx) (v:GV):Prop where
 is:zE2 P w x.inputs v.is
 gs:zE2 P w x.ghosts v.gs
 vs:zE2 P w x.vars v.vs
 ar:zE2 P w x.arrays v.ar
 rq:TX P w x.require v.rq
 ins:jT5 P w x.inits v.ins
 ps:jT6 P w x.procs v.ps
 wk:StsP P w x.work v.wk
 rc:StsP P w x.recover v.rc
 iv:TX P w x.invariant v.iv
theorem itG:qD6 GxP:=⟨fun P w w' y v hs h=>⟨h.is.stay itD qC hs,h.gs.stay itD qC hs,h.vs.stay itD qC hs,h.ar.stay itD qC hs,h.rq.stay hs,h.ins.stay itI jZ hs,h.ps.stay itR zD1 hs,h.wk.stay hs,h.rc.stay hs,h.iv.stay hs⟩,fun P P' w y v hp h=>⟨h.is.mono itD hp,h.gs.mono itD hp,h.vs.mono itD hp,h.ar.mono itD hp,h.rq.mono hp,h.ins.mono itI hp,h.ps.mono itR hp,h.wk.mono hp,h.rc.mono hp,h.iv.mono hp⟩⟩
theorem qB1 (w:World) (cs:Array Value) (t:TypeId):Bk ((w.alloc (.cells cs t)).alloc (.cells cs t)) w.heap.size t cs∧Bk ((w.alloc (.cells cs t)).alloc (.cells cs t)) (w.heap.size+1) t cs∧Below w.heap.size w ((w.alloc (.cells cs t)).alloc (.cells cs t))∧((w.alloc (.cells cs t)).alloc (.cells cs t)).heap.size=w.heap.size+2:=by have h2:=Bk.new (w.alloc (.cells cs t)) t cs;rw [lO]at h2;exact⟨(Bk.new w t cs).alloc _,h2,zG (zG (lB _ _) _) _,by rw [lO,lO]⟩
theorem kH3:El prog 32 90 7:=El.mk' (z:=.agg #[uI 0,uB 0,uB 0,uW 0,uI 0,uT,uN]) (bytes:=64) underlying32 Yk rfl Yo Yo
theorem kN1:El prog 33 93 3:=El.mk' (z:=.agg #[uT,uN,uN]) (bytes:=64) underlying33 Yk rfl Yo Yo
theorem qF6 (x:Ix) (S:SV):∀ u∈jC8 x S,u.oneCell'=true:=by intro u hu;simp only [jC8,qX,lU,lT,or_false]at hu;rcases hu with rfl | rfl | rfl | rfl | rfl | rfl | rfl <;> rfl
theorem qW7 (x:Rx) (v:SV×SV):∀ u∈zP2 x v,u.oneCell'=true:=by intro u hu;simp only [zP2,lU,lT,or_false]at hu;rcases hu with rfl | rfl | rfl <;> rfl
theorem OwnG.pushG {α β:Type} {c:α→β→List Value} {t ts:TypeId} {m:Nat} {A:(Nat→Prop)→World→α→β→Prop} (I:qD6 A) (EL:El prog ts t m) (ht:TTy t) (h1:∀ x v,∀ u∈c x v,u.oneCell'=true) (hc:∀ x v,(c x v).length=m)
 {B:Nat} {w w2:World} {out:List α} {S:SV} {x:α} {v:β} (h:OwnG c t m A B w out S) (hB:B≤w.heap.size) (hs:Stays (fun k=>B≤k) w w2) (hsz:w.heap.size≤w2.heap.size) (hx:A (fun k=>w.heap.size≤k) w2 x v) (hn:S.n<1000000000) :
 ∃ A' c' w',(∀ ty,(Builtin.append_ #[ts,ts] ty #[.slice S.A S.n S.c,.slice (some ⟨w2.heap.size,0,none⟩) 1 1]).run prog (w2.alloc (.cells (c x v).toArray t))=.ok (.slice A' (S.n+1) c') w')∧OwnG c t m A B w' (out++[x]) ⟨A',S.n+1,c'⟩∧Fr (fun k=>(Value.slice S.A S.n S.c).ownBlock=some k) (w2.alloc (.cells (c x v).toArray t)) w'∧OwnG c t m A B (w2.alloc (.cells (c x v).toArray t)) out S:=by
 have hb:Ue w2 (w2.alloc (.cells (c x v).toArray t)):=zB;have ho:=h.stay I ht (hs.trans (Stays.below hb));have hx2:=I.mono _ (fun k=>B≤k∧(uL S).ownBlock≠some k) _ _ _ (fun k _ hk=>⟨lE hB hk,h.fresh hk⟩) (I.stay _ _ _ _ _ (Stays.below hb) hx);have key:=fun ty=>OwnG.run I EL ht h1 hc ho x v hx2 (some ⟨w2.heap.size,0,none⟩) 1 (Rd.new w2 (c x v).toArray t) hn Yp ty;obtain⟨A',c',w',g1,g2,g3⟩:=key 0;exact⟨A',c',w',fun ty=>g1,g2,g3,ho⟩
theorem kL5 (w:World) (g o:Nat) (v0 v1 v2 v3 v4 v5:Value):Fr (fun k=>k=g) w ((((((w.setCell ⟨g,o,none⟩ v0).setCell ⟨g,o+1,none⟩ v1).setCell ⟨g,o+2,none⟩ v2).setCell ⟨g,o+3,none⟩ v3).setCell ⟨g,o+4,none⟩ v4).setCell ⟨g,o+5,none⟩ v5):=((((((Fr.refl (fun k=>k=g) w).setCell (p:=⟨g,o,none⟩) (.inl rfl) v0).setCell (p:=⟨g,o+1,none⟩) (.inl rfl) v1).setCell (p:=⟨g,o+2,none⟩) (.inl rfl) v2).setCell (p:=⟨g,o+3,none⟩) (.inl rfl) v3).setCell (p:=⟨g,o+4,none⟩) (.inl rfl) v4).setCell (p:=⟨g,o+5,none⟩) (.inl rfl) v5
theorem TX.boxI {P:Nat→Prop} {w w':World} {x:Ex} {S:SV} {i:Nat} {cs:Array Value} (h:TX P w x S) (hi:Bk w i 90 cs) (hf:Fr (fun k=>k=i) w w'):TX P w' x S:=by
 induction h with
 | mk x S vs ok hl hn hP rd all ih =>
   refine .mk x S vs ok hl hn hP (rd.keeps (Keeps.fr hf fun b cs2 fr hb e=>?_)) ih;subst e;unfold Bk at hi;rw [hi]at hb;injection hb with hb;injection hb with _ hb;revert hb;decide
theorem qQ2 (E:Env) (q:QSt):q.s.n≤(qV E q).2.s.n:=by have g1:=zN1 (E:=E) q.s;have g2:=xK (E:=E) (zL E q.s) [58];have g3:=zP3 (E:=E) (zI E (zL E q.s) [58]);show q.s.n≤(jB E (zI E (zL E q.s) [58])).2.n;omega
theorem qF7 {E:Env}:∀ (f:Nat) (q q':QSt) (out l:List Dx),jN E f q out=some (l,q')→q.s.n≤q'.s.n
 | 0,_,_,_,_,h=>by simp [jN]at h
 | f+1,q,q',out,l,h=>by
   rcases zA8 h with⟨_,h2⟩ | ⟨_,_,h2⟩
   ·injection h2 with _ h2;subst h2;exact lF _
   ·have g1:=qF7 f _ _ _ _ h2;have g2:=qQ2 E (q.on (zE q.s));have g3:(q.on (zE q.s)).s.n=q.s.n+1:=rfl;omega
theorem jZ6 {E:Env} {f:Nat} {q q':QSt} {x:Rx} (h:zH1 E f q=some (x,q')):q.s.n≤q'.s.n:=by
 obtain⟨q1,ps,q2,q3,b,h1,h2,h3,h4,_⟩:=zJ1 h;have g0:=zN1 (E:=E) q.s;have g1:(zL E q.s).n≤q1.s.n:=zN2 h1;have g3:=zH3 h3;have g4:=(grT E f).body _ _ _ h4;have g2:q1.s.n≤q2.s.n:=by
  rcases h2 with⟨_,_,_,h2⟩ | ⟨_,_,rfl⟩
  ·have:=qF7 _ _ _ _ _ h2;have:=qQ2 E q1;omega
  ·exact lF _
 omega
theorem kN2:zX3 (.mk 1 0 1 1 [] []):=⟨Yd,Yd,Yd,Yd,Yd,Yd,Yd⟩
theorem TX.leaf {P:Nat→Prop} {w:World} {x:Ex} (ok:zX3 x) (hs:x.subs=[]):TX P w x ⟨none,0,0⟩:=.mk x _ [] ok (by rw [hs];rfl) (by rw [hs];rfl) (fun _ _ h=>by cases h) (by rw [hs];exact RdT.nil) (fun i y v hy _=>by rw [hs]at hy;simp at hy)
abbrev uG(x:Gx)(v:GV):Array Value:=#[uI x.blocks,uI x.width,.slice v.is.A v.is.n v.is.c,.slice v.gs.A v.gs.n v.gs.c,.slice v.vs.A v.vs.n v.vs.c,.slice v.ar.A v.ar.n v.ar.c,uB x.require.kind,uB x.require.op,uW x.require.value,uI x.require.width,uR x.require.name,.slice v.rq.A v.rq.n v.rq.c,.slice v.ins.A v.ins.n v.ins.c,.slice v.ps.A v.ps.n v.ps.c,.slice v.wk.A v.wk.n v.wk.c,.slice v.rc.A v.rc.n v.rc.c,uB x.invariant.kind,uB x.invariant.op,uW x.invariant.value,uI x.invariant.width,uR x.invariant.name,.slice v.iv.A v.iv.n v.iv.c]
end
end Go.Proofs.YtfdaebgllibphaaGreatDoor
