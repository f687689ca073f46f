/- ParsePlaces returns true, and its arguments read as before, for every list of bytes and both widths; the listed package variables start as the program's text lays them (the card ties them to it). -/
import Derived.Test.YtfdaebgllibphaaGreatDoorCards
import Derived.Test.YtfdaebgllibphaaGreatDoorTie
import Derived.ProofKit
import Derived.OpenShut
import Derived.Deep.DeepHandedRow
import Derived.Stop.LaidErr
import Derived.Shelf.Vars
import Derived.Deep.DeepWitnessRowRef
import Derived.ChangeSlices
import Derived.Deep.Slices
import Derived.ChangeMaps5
import Derived.ChangeSame
import Derived.JoinedOf
import Derived.JoinedAt
import Derived.JoinedStill
import Derived.RowKit
import Derived.Below
import Derived.Carry
import Derived.Deep.DeepLaidRun
import Derived.Test.YtfdaebgllibphaaGreatDoorXaw
set_option linter.unusedVariables false
set_option linter.unusedSimpArgs false
set_option maxRecDepth 100000
set_option maxHeartbeats 16000000
namespace Go.Proofs.YtfdaebgllibphaaGreatDoor
section
open Go.RowKit Go.PlainAid
structure WkS (w:World) (kb gb mbx fb mb b off c:Nat) (l:List Nat) (toks:List Tk) (k:Nat):Prop where
 k:Bk w kb 3 #[uI k]
 g:w.cell? ⟨gb,22,none⟩=some (.slice (some ⟨b,off,none⟩) l.length c)
 m:Bk w mbx 55 #[.map (some mb)]
 f:Bk w fb 57 #[.func (.func 18) #[] #[uQ kb 0,uQ gb 0,uQ mbx 0,uQ fb 0]]
 mp:MapIS w mb (toks.map wM)
 r:∀ (i v:Nat),l[i]?=some v→w.cell? ⟨b,off+i,none⟩=some (uI v)
 gl:gb<w.heap.size
 bl:b<w.heap.size
 n1:gb≠kb
 n2:mbx≠kb
 n3:fb≠kb
 n4:mb≠kb
 n5:b≠kb
section
variable {w w':World} {kb gb mbx fb mb b off c k k':Nat} {l:List Nat} {toks:List Tk}
theorem WkS.bel (h:WkS w kb gb mbx fb mb b off c l toks k) (hb:Below w.heap.size w w'):WkS w' kb gb mbx fb mb b off c l toks k :=
 ⟨zD h.k hb,(hb.cell (p:=⟨gb,22,none⟩) h.gl).trans h.g,zD h.m hb,zD h.f hb,h.mp.bel hb,fun i v hv=>(hb.cell (p:=⟨b,off+i,none⟩) h.bl).trans (h.r i v hv),lX h.gl hb.size,lX h.bl hb.size,h.n1,h.n2,h.n3,h.n4,h.n5⟩
theorem WkS.fr (h:WkS w kb gb mbx fb mb b off c l toks k) (hf:FrC kb w w') (hk:Bk w' kb 3 #[uI k']):WkS w' kb gb mbx fb mb b off c l toks k' :=
 ⟨hk,(hf.cell (p:=⟨gb,22,none⟩) h.gl h.n1).trans h.g,h.m.fr hf h.n2,h.f.fr hf h.n3,h.mp.fr hf h.n4,fun i v hv=>(hf.cell (p:=⟨b,off+i,none⟩) h.bl h.n5).trans (h.r i v hv),lX h.gl hf.size,lX h.bl hf.size,h.n1,h.n2,h.n3,h.n4,h.n5⟩
end
theorem ShX.sub {x:Ex} (h:ShX x):∀ y∈x.subs,ShX y:=by
 cases h <;> intro y hy <;> simp [Ex.subs]at hy
 ·exact hy▸(by assumption)
 ·exact hy▸(by assumption)
 ·exact hy▸(by assumption)
 ·rcases hy with rfl | rfl <;> assumption
 ·rcases hy with rfl | rfl | rfl <;> assumption
 ·exact hy▸(by assumption)
theorem ShX.kinds {x:Ex} (h:ShX x):(x.kind=1∧x.value≤9∧∃ k:Nat,x.width=(k:Int)∧k≤9)∨x.kind=2∨x.kind=3∨x.kind=4∨(5≤x.kind∧x.kind≤8):=by
 cases h with
 | num v w hv hw=>exact .inl ⟨rfl,hv,w,rfl,hw⟩
 | var n hn hl=>exact .inr (.inl rfl)
 | elem n y hn hl hy=>exact .inr (.inr (.inl rfl))
 | disk y hy=>exact .inr (.inr (.inr (.inl rfl)))
 | un o y h1 h2 hy=>exact .inr (.inr (.inr (.inr ⟨show 5≤5 by decide,show 5≤8 by decide⟩)))
 | bin o x y h1 h2 hx hy=>exact .inr (.inr (.inr (.inr ⟨show 5≤6 by decide,show 6≤8 by decide⟩)))
 | mux x y z hx hy hz=>exact .inr (.inr (.inr (.inr ⟨show 5≤7 by decide,show 7≤8 by decide⟩)))
 | cast w y hw hy=>exact .inr (.inr (.inr (.inr ⟨show 5≤8 by decide,show 8≤8 by decide⟩)))
theorem HdW.word {toks:List Tk} {x:Ex} {v:Nat} (hi:∀ (i j:Nat) (s t:Tk),i<j→toks[i]?=some s→toks[j]?=some t→s.at'<t.at') (h:HdW ⟨[],toks⟩ x v) :
 (x.kind=1→(xF (toks.map wM) v).getD []=qZ x.value++58 :: qZ x.width.toNat)∧(x.kind=2∨x.kind=3→(xF (toks.map wM) v).getD []=x.name)∧(x.kind=4→(xF (toks.map wM) v).getD []=bs "disk") :=
 ⟨fun e=>by rw [zW1 hi (h.num e)];rfl,fun e=>by rw [zW1 hi (h.var e)];rfl,fun e=>by rw [zW1 hi (h.disk e)];rfl⟩
theorem kD4 {toks:List Tk} {x:Ex} {ls:List (List Nat)} (hl:ls.length=x.subs.length) (h:∀ (i:Nat) (y:Ex) (l:List Nat),x.subs[i]?=some y→ls[i]?=some l→WdX ⟨[],toks⟩ y l):x.subs.length≤ls.flatten.length:=by
 have key:∀ (ls:List (List Nat)),(∀ l∈ls,l≠[])→ls.length≤ls.flatten.length:=by
  intro ls;induction ls with
  | nil=>intro _;simp
  | cons a ls ih =>
    intro hn;have h1:=ih fun l hl=>hn l (by simp [hl]);have h2:0<a.length:=List.length_pos_iff.2 (hn a Ym);simp only [Yc,List.flatten_cons,Ya];omega
 rw [←hl];refine key ls fun l hm=>?_;obtain⟨i,hi,rfl⟩:=List.getElem_of_mem hm;exact(h i x.subs[i] _ (cK Yo) (cK hi)).len
theorem qY9:∀ (ls:List (List Nat)) (j:Nat) (q:List Nat),ls[j]?=some q→(ls.take (j+1)).flatten.length=(ls.take j).flatten.length+q.length
 | [],j,q,h=>by simp at h
 | a :: ls,0,q,h=>by simp at h;subst h;simp
 | a :: ls,j+1,q,h=>by have:=qY9 ls j q (by simpa using h);simp only [cR,List.flatten_cons,Ya];omega
theorem qO2:∀ (ls:List (List Nat)) (j:Nat) (q:List Nat),ls[j]?=some q→∃ r,ls.flatten=(ls.take j).flatten++(q++r)
 | [],j,q,h=>by simp at h
 | a :: ls,0,q,h=>by simp at h;subst h;exact⟨ls.flatten,Ym⟩
 | a :: ls,j+1,q,h=>by obtain⟨r,hr⟩:=qO2 ls j q (by simpa using h);exact⟨r,by simp [hr]⟩
theorem jR3 {l rest:List Nat} {k v j:Nat} {ls:List (List Nat)} {q:List Nat} (h:l.drop k=v :: ls.flatten++rest) (hq:ls[j]?=some q):∃ rest,l.drop (k+1+(ls.take j).flatten.length)=q++rest:=by obtain⟨r,hr⟩:=qO2 ls j q hq;refine⟨r++rest,?_⟩;rw [Nat.add_assoc,←List.drop_drop,h,hr,Nat.add_comm 1];simp [lS]
theorem kS9 (kb gb mbx fb mb b off c:Nat) (l:List Nat) (toks:List Tk) (hi:Hid (∀ (i j:Nat) (s t:Tk),i<j→toks[i]?=some s→toks[j]?=some t→s.at'<t.at')) (hl6:l.length≤1000000) :
 ∀ (N:Nat) (x:Ex) (S:SV) (q:List Nat) (k:Nat) (w:World),szX x≤N→ShX x→Hid (TX (fun _=>True) w x S)→Hid (WdX ⟨[],toks⟩ x q)→Hid (WkS w kb gb mbx fb mb b off c l toks k)→Hid (∃ rest,l.drop k=q++rest) →
 Calls Tryz.prog 18 #[.agg (qD5 x S),.pointer (some ⟨kb,0,none⟩),.pointer (some ⟨gb,0,none⟩),.pointer (some ⟨mbx,0,none⟩),.pointer (some ⟨fb,0,none⟩)] w fun e w'=>e=.returned (.bool true)∧Bk w' kb 3 #[.int .i64 ((k+q.length:Nat):Int)]∧FrC kb w w'
 | 0,x,S,q,k,w,hN,_,_,_,_,_=>by have:=qZ3 x;omega
 | N+1,x,S,q,k,w,hN,hsh,HT,HQ,HS,HR=>by
   have IH:=Ph (kS9 kb gb mbx fb mb b off c l toks hi hl6 N);obtain⟨SA,Sn,Sc⟩:=S;have HL:Hid (Sn=x.subs.length):=Ph HT.out.len;have hsz:szX x=1+kC x.subs:=by cases x;rfl
   have HSH:=Ph hsh;obtain⟨v,ls,hq,hhd,hlen,hall⟩:∃ (v:Nat) (ls:List (List Nat)),q=v :: ls.flatten∧HdW ⟨[],toks⟩ x v∧ls.length=x.subs.length∧∀ (i:Nat) (y:Ex) (l:List Nat),x.subs[i]?=some y→ls[i]?=some l→WdX ⟨[],toks⟩ y l:=by
    cases HQ.out with
    | mk _ v ls h hl all=>exact⟨v,ls,rfl,h,hl,all⟩
   have HWD:=Ph (HdW.word hi.out hhd);have HALL:=Ph hall;have HLN:=Ph hlen;obtain⟨rest,hrest⟩:=HR.out;have hkv:l[k]?=some v:=by have:=congrArg (fun l=>l[0]?) hrest;rw [hq]at this;simpa using this
   have hkl:k<l.length:=by
    rcases Nat.lt_or_ge k l.length with h | h
    ·exact h
    ·rw [cW h]at hkv;cases hkv
   have HQQ:=Ph hq;have HRS:=Ph hrest;have HKV:=Ph hkv;have hal:Below w.heap.size w (w.alloc (.cells #[.int .u8 x.kind,.int .u8 x.op,.int .u32 x.value,.int .i64 x.width,.string (str x.name),.slice SA Sn Sc] 31)):=zG (lB _ _) _;have HE1:=Ph (Bk.new w 31 #[.int .u8 x.kind,.int .u8 x.op,.int .u32 x.value,.int .i64 x.width,.string (str x.name),.slice SA Sn Sc]);have HS1:=Ph (HS.out.bel hal);have HT1:=Ph (HT.out.bel hal);have HB1:=Ph hal;have hkbl:kb<w.heap.size:=HS.out.k.lt;obtain⟨ln,hln⟩:∃ n,l.length=n:=⟨_,rfl⟩;have HLL:=Ph hln;rw [hln]at hkl hl6;clear hsh hhd hall hlen hrest hkv hq hal HQ HR hln;unfold qD5;go_enter Tryz.func18,Tryz.ntmps18
   go_upto_region 1 with fail
   generalize (w.alloc _)=W1 at HE1 HS1 HT1 HB1 ⊢;obtain⟨eb,heb⟩:∃ b,w.heap.size=b:=⟨_,rfl⟩;rw [heb]at HE1 HB1 hkbl ⊢;have k0:W1.cell? ⟨kb,0,none⟩=some (.int .i64 k):=HS1.out.k.cell 0;have g22:W1.cell? ⟨gb,22,none⟩=some (.slice (some ⟨b,off,none⟩) ln c):=by rw [←HLL.out];exact HS1.out.g
   have e1:decide ((k:Int)<0)=false:=Ym;have e2:decide ((ln:Int)≤(k:Int))=false:=Yp;go_upto_region 3 with fail
   have m0:W1.cell? ⟨mbx,0,none⟩=some (.map (some mb)):=HS1.out.m.cell 0;have v0:W1.cell? ⟨b,off+k,none⟩=some (.int .i64 v):=HS1.out.r k v HKV.out;have hk0:(0:Int)≤(k:Int):=Yo;have hk1:(k:Int)<(ln:Int):=Yo;obtain⟨u,hu⟩:∃ u,(xF (toks.map wM) v).getD []=u:=⟨_,rfl⟩;have HU:=Ph hu;have hlk:∀ n,(Instr.lookup 55 (.map (some mb)) (.int .i64 v) false).run Tryz.prog (W1.drewN n)=.ok (.string (str u)) (W1.drewN n):=fun n=>by rw [←HU.out];exact zL6 (W1.drewN n) mb _ (HS1.out.mp.bel (zP8 W1 n (lF _))) v
   clear hu;go_quiet (fail)
   have HBq:=Ph (zP8 W1 nq (lF W1.heap.size));have HS2:=Ph (HS1.out.bel HBq.out);have HT2:=Ph (HT1.out.bel HBq.out);have HE2:=Ph (zD HE1.out HBq.out);have HB2:Hid (Below eb w (W1.drewN nq)):=Ph (HB1.out.trans (HBq.out.mono (by have:=HB1.out.size;omega)));have hz2:eb<(W1.drewN nq).heap.size:=HE2.out.lt;clear k0 g22 m0 v0 hlk e1 e2 HS1 HT1 HE1 HB1 HBq;go_upto_region 4 with fail
   generalize W1.drewN nq=W2 at *;have k0:W2.cell? ⟨kb,0,none⟩=some (.int .i64 k):=HS2.out.k.cell 0;have f0:W2.frozen? ⟨kb,0,none⟩=false:=HS2.out.k.frozen 0;have hwk:IntKind.i64.wrap ((k:Int)+1)=((k+1:Nat):Int):=by rw [lL];omega
   go_upto_region 5 with fail
   have HK3:Hid (Bk (W2.setCell ⟨kb,0,none⟩ (.int .i64 ((k:Int)+1))) kb 3 #[.int .i64 ((k+1:Nat):Int)]):=Ph (HS2.out.k.put 0 _);have HF3:Hid (FrC kb W2 (W2.setCell ⟨kb,0,none⟩ (.int .i64 ((k:Int)+1)))):=Ph (Fr.setCell (F:=fun q=>q=kb) (p:=⟨kb,0,none⟩) (Fr.refl _ W2) (.inl rfl) _);generalize (World.setCell _ _ _)=W3 at *;have HS3:Hid (WkS W3 kb gb mbx fb mb b off c l toks (k+1)):=Ph (HS2.out.fr HF3.out HK3.out);have HT3:Hid (TX (fun _=>True) W3 x ⟨SA,Sn,Sc⟩):=Ph (HT2.out.stay (FrC.stays HF3.out HS2.out.k));have HE3:=Ph (HE2.out.fr HF3.out (show eb≠kb by omega));have HFw:Hid (FrC kb w W3):=Ph (Fr.trans (Fr.of_below (heb▸HB2.out)) HF3.out);have hz3:eb<W3.heap.size:=HE3.out.lt;clear k0 f0 hwk HS2 HT2 HE2 HB2 HF3 HK3 hz2;have x0:W3.cell? ⟨eb,0,none⟩=some (.int .u8 x.kind):=HE3.out.cell 0;go_upto_block 0 with fail
   clear x0;go_cut [] (fun wx=>Hid (Below W3.heap.size W3 wx))
   case first =>
    rename_i J1 K1 hR1 hM1;revert hR1 hM1;repeat (rename ∀ (a':Act) (w':World),_→_=>hZ;clear hZ)
    intro hR1 hM1;have hwu:=HWD.out;rw [HU.out]at hwu;have hkd:=HSH.out.kinds;rcases hkd with hkd | hkd | hkd | hkd | hkd
    ·obtain⟨hk1',hv9,wd,hwd,hwd9⟩:=hkd;have hu1:=hwu.1 hk1';have ek:((x.kind:Int) == 1)=true:=Yp;have x0:W3.cell? ⟨eb,0,none⟩=some (.int .u8 x.kind):=HE3.out.cell 0;have x2:W3.cell? ⟨eb,2,none⟩=some (.int .u32 x.value):=HE3.out.cell 2;have x3:W3.cell? ⟨eb,3,none⟩=some (.int .i64 wd):=by rw [←hwd];exact HE3.out.cell 3
     have HD1:Hid (∀ w,Calls Tryz.prog 19 #[.int .i64 x.value] w fun e w'=>e=.returned (.string (str (qZ x.value)))∧w'=w):=Ph fun w=>(xS x.value hv9 w).mono fun e w' h=>⟨h.1,h.2.symm⟩;have HD2:Hid (∀ w,Calls Tryz.prog 19 #[.int .i64 wd] w fun e w'=>e=.returned (.string (str (qZ wd)))∧w'=w):=Ph fun w=>(xS wd hwd9 w).mono fun e w' h=>⟨h.1,h.2.symm⟩;have wv:IntKind.i64.wrap (x.value:Int)=(x.value:Int):=by rw [lL];omega
     have l1:=jO x.value Yo;have l2:=jO wd Yo;have R1:∀ w,(Op.stringOp .add (str (qZ x.value)) (⟨#[58]⟩:ByteArray)).run Tryz.prog w=.ok (.string (str (qZ x.value++[58]))) w:=zQ _ [58] (by show(qZ x.value).length+1≤4000000;omega);have R2:∀ w,(Op.stringOp .add (str (qZ x.value++[58])) (str (qZ wd))).run Tryz.prog w=.ok (.string (str (qZ x.value++[58]++qZ wd))) w:=zQ _ (qZ wd) (by rw [Ya];show(qZ x.value).length+1+(qZ wd).length≤4000000;omega);have hu2:u=qZ x.value++[58]++qZ wd:=by rw [hu1,hwd];simp
     clear hu1 hwd hwu hk1' l1 l2;rw [←hu2]at R2;have en:((str u).data.toList != (str u).data.toList)=false:=Ym;clear hu2;go_upto_region 7 with fail
     go_quiet ((go_at_call 19;first | with_reducible exact cZ (HD1.out _) | with_reducible exact cZ (HD2.out _)))
     have hbq:=zP8 W3 nq (lF W3.heap.size);go_wp2_with fail
     go_meet
     exact Ph hbq
    ·have hu1:=hwu.2.1 Yo;have x0:W3.cell? ⟨eb,0,none⟩=some (.int .u8 x.kind):=HE3.out.cell 0;have x4:W3.cell? ⟨eb,4,none⟩=some (.string (str u)):=by rw [hu1];exact HE3.out.cell 4
     have ek1:((x.kind:Int) == 1)=false:=Yp;clear hu1 hwu;have ek2:((x.kind:Int) == 2)=true:=Yp;clear hkd;go_wp2_with fail
     go_meet
     exact Ph (lB _ _)
    ·have hu1:=hwu.2.1 Yo;have x0:W3.cell? ⟨eb,0,none⟩=some (.int .u8 x.kind):=HE3.out.cell 0;have x4:W3.cell? ⟨eb,4,none⟩=some (.string (str u)):=by rw [hu1];exact HE3.out.cell 4
     have ek1:((x.kind:Int) == 1)=false:=Yp;clear hu1 hwu;have ek2:((x.kind:Int) == 2)=false:=Yp;have ek3:((x.kind:Int) == 3)=true:=Yp;clear hkd;go_wp2_with fail
     go_meet
     exact Ph (lB _ _)
    ·have hu1:=hwu.2.2 hkd;have x0:W3.cell? ⟨eb,0,none⟩=some (.int .u8 x.kind):=HE3.out.cell 0;have ek1:((x.kind:Int) == 1)=false:=Yp;have ek2:((x.kind:Int) == 2)=false:=Yp;have ek3:((x.kind:Int) == 3)=false:=Yp;have ek4:((x.kind:Int) == 4)=true:=Yp;have hu2:u=[100,105,115,107]:=by rw [hu1];decide
     subst hu2;have hs:str [100,105,115,107]=(⟨#[100,105,115,107]⟩:ByteArray):=rfl;rw [hs];clear hkd hu1 hwu hs;go_wp2_with fail
     go_meet
     exact Ph (lB _ _)
    ·have x0:W3.cell? ⟨eb,0,none⟩=some (.int .u8 x.kind):=HE3.out.cell 0;have ek1:((x.kind:Int) == 1)=false:=Yp;have ek2:((x.kind:Int) == 2)=false:=Yp;have ek3:((x.kind:Int) == 3)=false:=Yp;have ek4:((x.kind:Int) == 4)=false:=Yp;clear hkd hwu;go_wp2_with fail
     go_meet
     exact Ph (lB _ _)
   case rest =>
    have HB4:=hcut;clear hcut;have HS4:=Ph (HS3.out.bel HB4.out);have HT4:=Ph (HT3.out.bel HB4.out);have HE4:=Ph (zD HE3.out HB4.out);have HFw4:Hid (FrC kb w wc):=Ph (HFw.out.trans (Fr.of_below HB4.out));generalize wc=W4 at *;have hz4:eb<W4.heap.size:=HE4.out.lt;have x5:W4.cell? ⟨eb,5,none⟩=some (.slice SA Sn Sc):=HE4.out.cell 5;clear HB4 HS3 HT3 HE3 HFw hz3;go_wp2_with fail
    have hSn:Sn≤1000000:=by have h1:=HL.out;have h2:=zO8 x.subs;have h3:=HQQ.out;have h4:=HRS.out;have h5:=kD4 HLN.out HALL.out;have h6:=congrArg List.length h4;rw [h3]at h6;simp only [Ya,Yc,cU]at h6;have h7:=HLL.out;omega
    clear x5;go_loopw [57] (fun v57 wr=>∃ j:Nat,j≤Sn∧v57=.int .i64 j∧Hid (Bk wr kb 3 #[.int .i64 ((k+1+(ls.take j).flatten.length:Nat):Int)])∧Hid (FrC kb w wr)∧Hid (FrC kb W4 wr)) (fun v57 _=>Sn-(intOf v57).toNat)
    case atStart=>exact⟨0,lV _,rfl,Ph (by have h:=HS4.out.k;simpa using h),HFw4,Ph (Fr.refl _ _)⟩
    case round =>
     obtain⟨j,hj,rfl,HK,HF,HG⟩:=hrel;have HSr:=Ph (HS4.out.fr HG.out HK.out);by_cases hlt:j<Sn
     ·have e1:decide ((j:Int)<(Sn:Int))=true:=by simp;omega
      have hji:(j:Int)<(Sn:Int):=Yo;have HTr:Hid (TX (fun _=>True) wr x ⟨SA,Sn,Sc⟩):=Ph (HT4.out.stay (FrC.stays HG.out HS4.out.k));obtain⟨bb,of',y,V,hA,hx,hty,hb,hc⟩:=TX.at HTr.out (i:=j) hlt;obtain⟨vA,vn,vc⟩:=V;(try dsimp only at hA);subst hA;have c0:wr.cell? ⟨bb,of'+j*6,none⟩=some (.int .u8 y.kind):=hc 0 _ Yo rfl;have c1:wr.cell? ⟨bb,of'+j*6+1,none⟩=some (.int .u8 y.op):=hc 1 _ Yo rfl;have c2:wr.cell? ⟨bb,of'+j*6+2,none⟩=some (.int .u32 y.value):=hc 2 _ Yo rfl;have c3:wr.cell? ⟨bb,of'+j*6+3,none⟩=some (.int .i64 y.width):=hc 3 _ Yo rfl;have c4:wr.cell? ⟨bb,of'+j*6+4,none⟩=some (.string (str y.name)):=hc 4 _ Yo rfl;have c5:wr.cell? ⟨bb,of'+j*6+5,none⟩=some (.slice vA vn vc):=hc 5 _ Yo rfl;have HX:=Ph hx;have HTY:=Ph hty;clear hx hc hty;go_upto_region 19 with fail
      have hy1:=Ph (Bk.new wr 31 #[.int .u8 y.kind,.int .u8 y.op,.int .u32 y.value,.int .i64 y.width,.string (str y.name),.slice vA vn vc]);have hBa:Below wr.heap.size wr (wr.alloc (.cells #[.int .u8 y.kind,.int .u8 y.op,.int .u32 y.value,.int .i64 y.width,.string (str y.name),.slice vA vn vc] 31)):=zG (lB _ _) _;have hza:(wr.alloc (.cells #[.int .u8 y.kind,.int .u8 y.op,.int .u32 y.value,.int .i64 y.width,.string (str y.name),.slice vA vn vc] 31)).heap.size=wr.heap.size+1:=lO _ _;generalize (wr.alloc _)=W5 at hy1 hBa hza ⊢;obtain⟨xb,hxb⟩:∃ b,wr.heap.size=b:=⟨_,rfl⟩;rw [hxb]at hy1 ⊢;have HS5:=Ph (HSr.out.bel hBa);have f0:W5.cell? ⟨fb,0,none⟩=some (.func (.func 18) #[] #[.pointer (some ⟨kb,0,none⟩),.pointer (some ⟨gb,0,none⟩),.pointer (some ⟨mbx,0,none⟩),.pointer (some ⟨fb,0,none⟩)]):=HS5.out.f.cell 0;have z0:W5.cell? ⟨xb,0,none⟩=some (.int .u8 y.kind):=hy1.out.cell 0;have z1:W5.cell? ⟨xb,1,none⟩=some (.int .u8 y.op):=hy1.out.cell 1;have z2:W5.cell? ⟨xb,2,none⟩=some (.int .u32 y.value):=hy1.out.cell 2;have z3:W5.cell? ⟨xb,3,none⟩=some (.int .i64 y.width):=hy1.out.cell 3;have z4:W5.cell? ⟨xb,4,none⟩=some (.string (str y.name)):=hy1.out.cell 4;have z5:W5.cell? ⟨xb,5,none⟩=some (.slice vA vn vc):=hy1.out.cell 5;obtain⟨qy,hqy⟩:∃ qy,ls[j]?=some qy:=⟨_,cK (by have:=HLN.out;have:=HL.out;omega)⟩;have HWY:=Ph (HALL.out j y qy HX.out hqy);have hsy:=vE x.subs j y HX.out;have hfl:=qY9 ls j qy hqy;have hdr:∃ rest,l.drop (k+1+(ls.take j).flatten.length)=qy++rest:=jR3 (HQQ.out▸HRS.out) hqy;have HIH:=Ph (IH.out y ⟨vA,vn,vc⟩ qy (k+1+(ls.take j).flatten.length) W5 Yo (HSH.out.sub y (cD HX.out)) (Ph (HTY.out.bel hBa)) HWY HS5 (Ph hdr));dsimp only [qD5]at HIH;have HBA:=Ph hBa;have HFL:=Ph hfl;clear c0 c1 c2 c3 c4 c5 hBa hqy hfl hdr hsy;go_wp2_with fail
      refine HIH.out.mono ?_;rintro e W6 ⟨rfl,hk6,hf6⟩;have HK6:Hid (Bk W6 kb 3 #[.int .i64 ((k+1+(ls.take (j+1)).flatten.length:Nat):Int)]):=Ph (by rw [HFL.out,←Nat.add_assoc];exact hk6);have HG6:Hid (FrC kb W4 W6):=Ph (Fr.trans (HG.out.trans (Fr.of_below HBA.out)) hf6);have HF6:Hid (FrC kb w W6):=Ph (Fr.trans (HF.out.trans (Fr.of_below HBA.out)) hf6);clear hk6 hf6 z0 z1 z2 z3 z4 z5 f0 HIH;have hwj:IntKind.i64.wrap ((j:Int)+1)=((j+1:Nat):Int):=by rw [lL];omega
      go_wp2_with fail
      go_roundw
      case rel=>exact⟨j+1,Yo,by go_num,HK6,HF6,HG6⟩
      case measure=>simp [intOf];omega
     ·have hjn:j=Sn:=by omega
      have e1:decide ((j:Int)<(Sn:Int))=false:=Yp;have HKe:Hid (Bk wr kb 3 #[.int .i64 ((k+q.length:Nat):Int)]):=Ph (by have h1:=HK.out;rw [cJ (by have:=HLN.out;have:=HL.out;omega)]at h1;rw [HQQ.out,Yc,Nat.add_comm ls.flatten.length 1,←Nat.add_assoc];exact h1);clear hjn;go_wp2_with fail
      go_ret;exact⟨rfl,HKe.out,HF.out⟩
end
section
open Go.RowKit
section
variable {P:Program} {ops:Array Oper} {md:Region.Mode} {S:World→Prop} {Q:Exit→Act→World→Prop}
def qO6 (md:Region.Mode) (ops:Array Oper) (B:Array Bool→Bool):Nat→Nat→Array Bool→Bool
 | 0,_,listed=>B listed
 | f+1,k,listed=>(Region.ready md ops listed).contains k && Region.free md ops listed k && qO6 md ops B f (k+1) (listed.setIfInBounds k true)
theorem qJ8 (hsel:Region.noSelect ops=true) (hQ:∀ d v c (a:Act) w,Q (.panic c) (a.put d v) w→Q (.panic c) a w) {B:Array Bool→Bool} {g:Nat} {w:World} (hS:S w) {R:Act→Prop}
 (hfin:∀ listed a,B listed=true→R a→wpAnyH P md ops Q S g listed a w) :
 ∀ (l:List Oper) (k:Nat) (listed:Array Bool) (a:Act),(∀ j,j<l.length→l[j]?=ops[k+j]?)→qO6 md ops B l.length k listed=true→wpY P ops S R l a→wpAnyH P md ops Q S (l.length+g) listed a w
 | [],k,listed,a,_,hB,h=>by rw [Yn,Nat.zero_add];exact hfin listed a hB h
 | o :: l,k,listed,a,hl,hB,h=>by
   have h0:ops[k]?=some o:=by simpa using(hl 0 Ym).symm
   simp only [Yc,qO6,lZ]at hB;obtain⟨v,hy,hK⟩:=h;rw [Yc,show l.length+1+g=(l.length+g)+1 from by omega]
   exact wpAnyH_take h0 hsel hB.1.2 hB.1.1 (fun c a w=>hQ _ _ c a w) hy hS
    (qJ8 hsel hQ hS hfin l (k+1) _ _ (fun j hj=>by have:=hl (j+1) Yp;simpa [Nat.add_assoc,Nat.add_comm 1 j]using this) hB.2 hK)
def kT1 (md:Region.Mode) (ops:Array Oper) (n1 n2:Nat):Bool :=
 qO6 md ops (fun L=>decide (Region.ready md ops L=[n1]) && qO6 md ops (fun L2=>decide (Region.ready md ops L2=[n2]) && zK4 md ops (ops.size-n2-1) (n2+1) (L2.setIfInBounds n2 true)) (n2-n1-1) (n1+1) (L.setIfInBounds n1 true)) n1 0 (Array.replicate ops.size false)
theorem zW3 {id:Nat} {a:Act} {w:World} {l:List Oper} (n1 n2:Nat) (S:World→Prop) (hm:P.follows .mixedOrders=true) (hsel:Region.noSelect l.toArray=true) (hB:kT1 .any l.toArray n1 n2=true) (h12:n1<n2) (hn:n2<l.length) (hS:S w.drew)
 (h:wpY P l.toArray S (fun a1=>wpOp P l.toArray (kI9 Q) n1 (fun a2 w2=>S w2∧wpY P l.toArray S (fun a3=>wpOp P l.toArray (kI9 Q) n2 (fun a4 w4=>S w4∧wpY P l.toArray S (fun a5=>Q .normal a5 w4) (l.drop (n2+1)) a4) a3 w2) ((l.drop (n1+1)).take (n2-n1-1)) a2) a1 w.drew) (l.take n1) a) :
 (Code.region id l.toArray true).wp P Q a w:=by
 refine Code.wp_mono (Q:=kI9 Q) (fun e a w h=>by cases e <;> first | exact h | exact h.elim) ?_;have hQ:∀ d v c (a:Act) w,kI9 Q (.panic c) (a.put d v) w→kI9 Q (.panic c) a w:=fun _ _ _ _ _ h=>h.elim;have htl:(l.take n1).length=n1:=Yp;have hml:((l.drop (n1+1)).take (n2-n1-1)).length=n2-n1-1:=Yp;have hdl:(l.drop (n2+1)).length=l.toArray.size-n2-1:=Yp;refine wp_region_held (S:=S) hm ?_;unfold kT1 at hB
 have key:=qJ8 (P:=P) (ops:=l.toArray) (md:=.any) (S:=S) (Q:=kI9 Q) (B:=(fun L=>decide (Region.ready .any l.toArray L=[n1]) && qO6 .any l.toArray (fun L2=>decide (Region.ready .any l.toArray L2=[n2]) && zK4 .any l.toArray (l.toArray.size-n2-1) (n2+1) (L2.setIfInBounds n2 true)) (n2-n1-1) (n1+1) (L.setIfInBounds n1 true))) (g:=1+((n2-n1-1)+(1+(l.toArray.size-n2-1)))) hsel hQ hS
  (R:=fun a1=>wpOp P l.toArray (kI9 Q) n1 (fun a2 w2=>S w2∧wpY P l.toArray S (fun a3=>wpOp P l.toArray (kI9 Q) n2 (fun a4 w4=>S w4∧wpY P l.toArray S (fun a5=>Q .normal a5 w4) (l.drop (n2+1)) a4) a3 w2) ((l.drop (n1+1)).take (n2-n1-1)) a2) a1 w.drew)
  (fun listed a hL ha=>by
    simp only [lZ,cC]at hL;rw [Nat.add_comm 1];refine wpAnyH_all hL.1 Ym (fun i hi=>?_);obtain rfl:i=n1:=by simpa using hi
    refine wpOp_mono (fun a2 w2 h2=>⟨h2.1,?_⟩) ha
    have key2:=qJ8 (P:=P) (ops:=l.toArray) (md:=.any) (S:=S) (Q:=kI9 Q) (B:=(fun L2=>decide (Region.ready .any l.toArray L2=[n2]) && zK4 .any l.toArray (l.toArray.size-n2-1) (n2+1) (L2.setIfInBounds n2 true))) (g:=1+(l.toArray.size-n2-1)) hsel hQ h2.1
     (R:=fun a3=>wpOp P l.toArray (kI9 Q) n2 (fun a4 w4=>S w4∧wpY P l.toArray S (fun a5=>Q .normal a5 w4) (l.drop (n2+1)) a4) a3 w2)
     (fun listed a hL ha=>by
       simp only [lZ,cC]at hL;rw [Nat.add_comm 1];refine wpAnyH_all hL.1 Ym (fun i2 hi2=>?_);obtain rfl:i2=n2:=by simpa using hi2
       refine wpOp_mono (fun a4 w4 h4=>⟨h4.1,?_⟩) ha;rw [←hdl];exact qG7 (Q:=kI9 Q) hsel hQ h4.1 (fun a3 h3=>h3) (l.drop (i2+1)) (i2+1) _ a4 (fun j _=>by simp [List.getElem?_drop]) (by rw [hdl];exact hL.2) h4.2)
     ((l.drop (i+1)).take (n2-i-1)) (i+1) (listed.setIfInBounds i true) a2 (fun j hj=>by
       have hj':j<n2-i-1:=by rw [hml]at hj;exact hj
       simp [List.getElem?_take,List.getElem?_drop,hj']) (by rw [hml];exact hL.2) h2.2
    rw [hml]at key2;exact key2)
  (l.take n1) 0 (Array.replicate l.toArray.size false) a (fun j hj=>by
    have hj':j<n1:=by rw [htl]at hj;exact hj
    simp [hj']) (by rw [htl];exact hB) h
 rw [htl,show n1+(1+((n2-n1-1)+(1+(l.toArray.size-n2-1))))=l.toArray.size from by simp;omega]at key;exact key
end
end
section
open Go.RowKit Go.PlainAid
theorem MadeG.sz2 {x:Gx} (h:MadeG x):szG x≤20000:=by have:=h.sz;omega
theorem jR4:∀ (l:List Pc) (o:Nat) (t:Tk),t∈yI o l→t.fin=t.at'+t.text.length
 | [],o,t,h=>by simp [yI]at h
 | p :: l,o,t,h=>by
   simp only [yI,lU]at h;rcases h with rfl | h
   ·rfl
   ·exact jR4 l _ t h
theorem kE2 {p:Gx} {wide:Bool} (hg:zW8 p) (hf:kE1 p):∀ t∈yI 0 (pcG wide p),t.text=jL6 (zH2 wide p) t.at' t.fin∧t.at'≤t.fin∧t.fin≤(zH2 wide p).length:=by
 intro t ht;have h1:=(kI4 (wide:=wide) hg hf).2.1;have h2:t∈zY (zH2 wide p) (kG (zH2 wide p)):=by rw [h1];exact ht
 have h3:=jR4 _ 0 t ht;obtain⟨i,hi⟩:=List.getElem?_of_mem ht;have h4:=jJ9 _ 0 i t hi;rw [(qG6 hg).cat]at h4;unfold zY at h2;obtain⟨y,_,rfl⟩:=List.mem_map.1 h2;exact⟨rfl,Yo,Yo⟩
theorem jK1:∀ (l:List Tk) (j:Nat) (t:Tk) (i:Nat) (u:Value),l[j]?=some t→(zQ1 t)[i]?=some u→(l.flatMap zQ1)[j*3+i]?=some u
 | [],j,t,i,u,h,_=>by simp at h
 | s :: l,0,t,i,u,h,hu=>by
   obtain rfl:s=t:=by simpa using h
   have hi:i<3:=by
    rcases Nat.lt_or_ge i 3 with h | h
    ·exact h
    ·rw [cW (by rw [jA6];exact h)]at hu;cases hu
   rw [lQ,cI (by rw [jA6];omega)];simpa using hu
 | s :: l,j+1,t,i,u,h,hu=>by rw [lQ,cH (by rw [jA6];omega),jA6,show(j+1)*3+i-3=j*3+i from by omega];exact jK1 l j t i u (by simpa using h) hu
theorem kT2:¬TTy 57:=by unfold TTy;decide
theorem jR5 {P:Nat→Prop} {w w':World} {mb:Nat} {L:List (Nat×List UInt8)} (h:Fr (fun q=>q=mb) w w') (hm:MapIS w mb L):Stays P w w':=fun b cs t fr hb _ _=>h.block b (zO hb) (fun e=>by subst e;obtain⟨es,c,h1,_⟩:=hm;rw [hb]at h1;cases h1)
theorem kC8 {B:Nat} {w:World} {Q:SV} {l:List Nat} (h:AtO B w Q l) (hne:l≠[]):∃ b off,Q.A=some ⟨b,off,none⟩∧b<w.heap.size∧∀ (i v:Nat),l[i]?=some v→w.cell? ⟨b,off+i,none⟩=some (uI v):=by have hr:=Rd.of_own h;obtain⟨b,off,hA,hb,hc⟩:=hr.cells (by unfold yV;simpa using hne);exact⟨b,off,hA,hb,fun i v hv=>hc i _ (by unfold yV;rw [cS,hv];rfl)⟩
theorem jK2 (A0:Option Addr) (n c0:Nat) (Lb:List UInt8) (wide:Bool) (w:World) (hv:Hid (Vars w)) (hr:Hid (Rd w A0 (Lb.map fun b=>.int .u8 b.toNat))) (hl:Hid (Lb.length=n)) (hn:n≤9223372036854775807) (hc:n≤c0) :
 Calls Tryz.prog 4 #[.slice A0 n c0,.bool wide] w fun e w'=>e=.returned (.bool true)∧Below w.heap.size w w':=by
 have HAW:=Ph (kK3 w hv);go_enter Tryz.func4,Tryz.ntmps4
 go_wp2_with fail
 refine HAW.out.mono ?_;rintro e w1 ⟨rfl,hb1⟩;have HV1:Hid (Vars w1):=Ph (hv.out.below hb1);have HMC:=Ph (kO8 A0 n c0 Lb w1 (Ph (hr.out.below hb1)) (Ph fun hne b off e=>by obtain⟨b',off',e',hlt,_⟩:=(hr.out.below hb1).cells (by simpa using hne);rw [e]at e';injection e' with e';injection e' with e1;omega) hl hn hc);have HB1:=Ph hb1;clear hb1 HAW hv hr hl hn hc;go_wp2_with fail
 refine HMC.out.mono ?_;rintro e w2 ⟨x,v,rfl,hmg,hgx,hb2⟩;unfold zN5;have HMG:=Ph hmg;have HB2:Hid (Below w.heap.size w w2):=Ph (HB1.out.trans (hb2.mono HB1.out.size));have HV2:Hid (Vars w2):=Ph (HV1.out.below hb2);have HGX:=Ph hgx;clear hmg hgx hb2 HMC HB1 HV1;have H1G:Hid ((#[.int .i64 x.blocks,.int .i64 x.width,.slice v.is.A v.is.n v.is.c,.slice v.gs.A v.gs.n v.gs.c,.slice v.vs.A v.vs.n v.vs.c,.slice v.ar.A v.ar.n v.ar.c,.int .u8 x.require.kind,.int .u8 x.require.op,.int .u32 x.require.value,.int .i64 x.require.width,.string (str x.require.name),.slice v.rq.A v.rq.n v.rq.c,.slice v.ins.A v.ins.n v.ins.c,.slice v.ps.A v.ps.n v.ps.c,.slice v.wk.A v.wk.n v.wk.c,.slice v.rc.A v.rc.n v.rc.c,.int .u8 x.invariant.kind,.int .u8 x.invariant.op,.int .u32 x.invariant.value,.int .i64 x.invariant.width,.string (str x.invariant.name),.slice v.iv.A v.iv.n v.iv.c]:Array Value).all (·.oneCell')=true):=Ph (all_oneCell_toArray (xD x v));go_upto_region 4 with(refine yN rfl 36 (.tmp 5) (.tmp 23) rfl w2 #[.int .i64 0,.int .i64 0,.slice none 0 0,.slice none 0 0,.slice none 0 0,.slice none 0 0,.int .u8 0,.int .u8 0,.int .u32 0,.int .i64 0,.string ⟨#[]⟩,.slice none 0 0,.slice none 0 0,.slice none 0 0,.slice none 0 0,.slice none 0 0,.int .u8 0,.int .u8 0,.int .u32 0,.int .i64 0,.string ⟨#[]⟩,.slice none 0 0] #[.int .i64 x.blocks,.int .i64 x.width,.slice v.is.A v.is.n v.is.c,.slice v.gs.A v.gs.n v.gs.c,.slice v.vs.A v.vs.n v.vs.c,.slice v.ar.A v.ar.n v.ar.c,.int .u8 x.require.kind,.int .u8 x.require.op,.int .u32 x.require.value,.int .i64 x.require.width,.string (str x.require.name),.slice v.rq.A v.rq.n v.rq.c,.slice v.ins.A v.ins.n v.ins.c,.slice v.ps.A v.ps.n v.ps.c,.slice v.wk.A v.wk.n v.wk.c,.slice v.rc.A v.rc.n v.rc.c,.int .u8 x.invariant.kind,.int .u8 x.invariant.op,.int .u32 x.invariant.value,.int .i64 x.invariant.width,.string (str x.invariant.name),.slice v.iv.A v.iv.n v.iv.c] rfl rfl jR rfl H1G.out ?_)
 have HK3:=Ph (Bk.new w2 36 #[.int .i64 x.blocks,.int .i64 x.width,.slice v.is.A v.is.n v.is.c,.slice v.gs.A v.gs.n v.gs.c,.slice v.vs.A v.vs.n v.vs.c,.slice v.ar.A v.ar.n v.ar.c,.int .u8 x.require.kind,.int .u8 x.require.op,.int .u32 x.require.value,.int .i64 x.require.width,.string (str x.require.name),.slice v.rq.A v.rq.n v.rq.c,.slice v.ins.A v.ins.n v.ins.c,.slice v.ps.A v.ps.n v.ps.c,.slice v.wk.A v.wk.n v.wk.c,.slice v.rc.A v.rc.n v.rc.c,.int .u8 x.invariant.kind,.int .u8 x.invariant.op,.int .u32 x.invariant.value,.int .i64 x.invariant.width,.string (str x.invariant.name),.slice v.iv.A v.iv.n v.iv.c]);have HB3:Hid (Below w.heap.size w (w2.alloc (.cells #[.int .i64 x.blocks,.int .i64 x.width,.slice v.is.A v.is.n v.is.c,.slice v.gs.A v.gs.n v.gs.c,.slice v.vs.A v.vs.n v.vs.c,.slice v.ar.A v.ar.n v.ar.c,.int .u8 x.require.kind,.int .u8 x.require.op,.int .u32 x.require.value,.int .i64 x.require.width,.string (str x.require.name),.slice v.rq.A v.rq.n v.rq.c,.slice v.ins.A v.ins.n v.ins.c,.slice v.ps.A v.ps.n v.ps.c,.slice v.wk.A v.wk.n v.wk.c,.slice v.rc.A v.rc.n v.rc.c,.int .u8 x.invariant.kind,.int .u8 x.invariant.op,.int .u32 x.invariant.value,.int .i64 x.invariant.width,.string (str x.invariant.name),.slice v.iv.A v.iv.n v.iv.c] 36))):=Ph (HB2.out.trans (zB.mono HB2.out.size));have HV3:Hid (Vars (w2.alloc (.cells #[.int .i64 x.blocks,.int .i64 x.width,.slice v.is.A v.is.n v.is.c,.slice v.gs.A v.gs.n v.gs.c,.slice v.vs.A v.vs.n v.vs.c,.slice v.ar.A v.ar.n v.ar.c,.int .u8 x.require.kind,.int .u8 x.require.op,.int .u32 x.require.value,.int .i64 x.require.width,.string (str x.require.name),.slice v.rq.A v.rq.n v.rq.c,.slice v.ins.A v.ins.n v.ins.c,.slice v.ps.A v.ps.n v.ps.c,.slice v.wk.A v.wk.n v.wk.c,.slice v.rc.A v.rc.n v.rc.c,.int .u8 x.invariant.kind,.int .u8 x.invariant.op,.int .u32 x.invariant.value,.int .i64 x.invariant.width,.string (str x.invariant.name),.slice v.iv.A v.iv.n v.iv.c] 36))):=Ph (HV2.out.below zB);have HG3:Hid (GxP (fun b=>w1.heap.size≤b) (w2.alloc (.cells #[.int .i64 x.blocks,.int .i64 x.width,.slice v.is.A v.is.n v.is.c,.slice v.gs.A v.gs.n v.gs.c,.slice v.vs.A v.vs.n v.vs.c,.slice v.ar.A v.ar.n v.ar.c,.int .u8 x.require.kind,.int .u8 x.require.op,.int .u32 x.require.value,.int .i64 x.require.width,.string (str x.require.name),.slice v.rq.A v.rq.n v.rq.c,.slice v.ins.A v.ins.n v.ins.c,.slice v.ps.A v.ps.n v.ps.c,.slice v.wk.A v.wk.n v.wk.c,.slice v.rc.A v.rc.n v.rc.c,.int .u8 x.invariant.kind,.int .u8 x.invariant.op,.int .u32 x.invariant.value,.int .i64 x.invariant.width,.string (str x.invariant.name),.slice v.iv.A v.iv.n v.iv.c] 36)) x v):=Ph (itG.stay _ _ _ _ _ (Stays.below zB) HGX.out);generalize (w2.alloc _)=W3 at HK3 HB3 HV3 HG3 ⊢;obtain⟨pb,hpb⟩:∃ b,w2.heap.size=b:=⟨_,rfl⟩;rw [hpb]at HK3 ⊢;clear hpb HB2 HV2 HGX H1G;have HRG:Hid (W3.rangeAt pb 0 [.int .i64 x.blocks,.int .i64 x.width,.slice v.is.A v.is.n v.is.c,.slice v.gs.A v.gs.n v.gs.c,.slice v.vs.A v.vs.n v.vs.c,.slice v.ar.A v.ar.n v.ar.c,.int .u8 x.require.kind,.int .u8 x.require.op,.int .u32 x.require.value,.int .i64 x.require.width,.string (str x.require.name),.slice v.rq.A v.rq.n v.rq.c,.slice v.ins.A v.ins.n v.ins.c,.slice v.ps.A v.ps.n v.ps.c,.slice v.wk.A v.wk.n v.wk.c,.slice v.rc.A v.rc.n v.rc.c,.int .u8 x.invariant.kind,.int .u8 x.invariant.op,.int .u32 x.invariant.value,.int .i64 x.invariant.width,.string (str x.invariant.name),.slice v.iv.A v.iv.n v.iv.c]):=Ph (yM HK3.out);have HTX:=Ph (kJ7 x HMG v (fun b=>w1.heap.size≤b) wide W3 HG3);go_wp2_with (refine wpList_load_mid rfl 36 (.tmp 5) rfl pb 0 rfl [.int .i64 x.blocks,.int .i64 x.width,.slice v.is.A v.is.n v.is.c,.slice v.gs.A v.gs.n v.gs.c,.slice v.vs.A v.vs.n v.vs.c,.slice v.ar.A v.ar.n v.ar.c,.int .u8 x.require.kind,.int .u8 x.require.op,.int .u32 x.require.value,.int .i64 x.require.width,.string (str x.require.name),.slice v.rq.A v.rq.n v.rq.c,.slice v.ins.A v.ins.n v.ins.c,.slice v.ps.A v.ps.n v.ps.c,.slice v.wk.A v.wk.n v.wk.c,.slice v.rc.A v.rc.n v.rc.c,.int .u8 x.invariant.kind,.int .u8 x.invariant.op,.int .u32 x.invariant.value,.int .i64 x.invariant.width,.string (str x.invariant.name),.slice v.iv.A v.iv.n v.iv.c] _ HRG.out Tryz.underlying36 rfl jR ?_)
 refine HTX.out.mono ?_;rintro e w4 ⟨rfl,hb4⟩;have HB4:Hid (Below w.heap.size w w4):=Ph (HB3.out.trans (hb4.mono HB3.out.size));have HV4:Hid (Vars w4):=Ph (HV3.out.below hb4);have HTL:=Ph (jK8 HMG.out wide);have HTG:=Ph (kI4 (wide:=wide) HMG.out.good HMG.out.fit);have HCT:=Ph (kE2 (wide:=wide) HMG.out.good HMG.out.fit);have HPG:=Ph (jR1 (wide:=wide) HMG.out.good HMG.out.fit);have HPA:=Ph (jS3 (wide:=wide) HMG.out.good HMG.out.fit);have HPL:Hid ((pcG wide x).length≤60000):=Ph (by have hp:=qG6 (wide:=wide) HMG.out.good;have h1:=zQ7 (pcG wide x) [] (hp.lex [] Safe.nil);rw [hp.cat]at h1;have:=HTL.out;omega);have HK4:=Ph (zD HK3.out hb4);have HG4:Hid (GxP (fun _=>True) w4 x v):=Ph (itG.mono _ _ _ _ _ (fun _ _ _=>trivial) (itG.stay _ _ _ _ _ (Stays.below hb4) HG3.out));have HSZ:Hid (szG x≤20000):=Ph HMG.out.sz2;have HSH:Hid (ShX x.invariant):=Ph HMG.out.iv.sh;clear hb4 HTX HRG HK3 HB3 HV3 HG3;obtain⟨T,hT⟩:∃ T,zH2 wide x=T:=⟨_,rfl⟩;rw [hT]at HTL HTG HPG HPA HCT ⊢;have HTT:Hid (zY T (kG T)=yI 0 (pcG wide x)∧zI3 (kG T)=none):=Ph ⟨HTG.out.2.1,HTG.out.1⟩;obtain⟨pls,hpls⟩:∃ l,plG ⟨T,yI 0 (pcG wide x)⟩ wide x=l:=⟨_,rfl⟩;rw [hpls]at HPG HPA;obtain⟨tks,htks⟩:∃ l,yI 0 (pcG wide x)=l:=⟨_,rfl⟩;have HTK6:Hid (tks.length≤60000):=Ph (by rw [←htks,xV];exact HPL.out);rw [htks]at HTT HPA HCT;clear hT HTG HMG hpls htks HPL;obtain⟨f,hpg⟩:=HPG.out;have HD:=Ph (jU8 f T x pls T.length 0 hpg (by have:=HTL.out;omega) w4 HV4);clear hpg HPG;go_wp2_with fail
 refine HD.out.mono ?_;rintro e w8 ⟨v2,Q2,rfl,hg8,hat,hq8,hfr8,hv8⟩;rw [hq8];have HB8:Hid (Below w.heap.size w w8):=Ph (HB4.out.trans (hfr8.below.mono HB4.out.size));have HV8:=Ph hv8;have HK8:=Ph (zD HK4.out hfr8.below);have HG8:Hid (GxP (fun _=>True) w8 x v):=Ph (itG.stay _ _ _ _ _ (Stays.below hfr8.below) HG4.out);obtain⟨b,off,hQA,hbl,hrow⟩:=kC8 hat (by obtain⟨r,hr⟩:=HPA.out.zero;rw [hr];simp);have HROW:=Ph hrow;have HQA:=Ph hQA;clear hg8 hfr8 hv8 HD hat hq8 hrow hQA HK4 HG4 HB4 HV4;have H2G:Hid (((c23 x v2 (.slice Q2.A pls.length Q2.c)):Array Value).all (·.oneCell')=true):=Ph (all_oneCell_toArray (zY5 x v2 ⟨Q2.A,pls.length,Q2.c⟩));go_upto_region 6 with(refine yN rfl 47 (.tmp 7) (.tmp 30) rfl w8 #[.int .i64 0,.int .i64 0,.slice none 0 0,.slice none 0 0,.slice none 0 0,.slice none 0 0,.int .u8 0,.int .u8 0,.int .u32 0,.int .i64 0,.string ⟨#[]⟩,.slice none 0 0,.slice none 0 0,.slice none 0 0,.slice none 0 0,.slice none 0 0,.int .u8 0,.int .u8 0,.int .u32 0,.int .i64 0,.string ⟨#[]⟩,.slice none 0 0,.slice none 0 0] (c23 x v2 (.slice Q2.A pls.length Q2.c)) rfl rfl qB9 rfl H2G.out ?_)
 have hal:Below w8.heap.size w8 (w8.alloc (.cells (c23 x v2 (.slice Q2.A pls.length Q2.c)) 47)):=zB;have HS9:=Ph (Bk.new w8 47 (c23 x v2 (.slice Q2.A pls.length Q2.c)));have HB9:Hid (Below w.heap.size w (w8.alloc (.cells (c23 x v2 (.slice Q2.A pls.length Q2.c)) 47))):=Ph (HB8.out.trans (hal.mono HB8.out.size));have HV9:Hid (Vars (w8.alloc (.cells (c23 x v2 (.slice Q2.A pls.length Q2.c)) 47))):=Ph (HV8.out.below hal);have HK9:=Ph (zD HK8.out hal);have HG9:Hid (GxP (fun _=>True) (w8.alloc (.cells (c23 x v2 (.slice Q2.A pls.length Q2.c)) 47)) x v):=Ph (itG.stay _ _ _ _ _ (Stays.below hal) HG8.out);have HR9:Hid (∀ (i v:Nat),pls[i]?=some v→(w8.alloc (.cells (c23 x v2 (.slice Q2.A pls.length Q2.c)) 47)).cell? ⟨b,off+i,none⟩=some (.int .i64 v)):=Ph fun i v h=>(hal.cell (p:=⟨b,off+i,none⟩) hbl).trans (HROW.out i v h);have hbl9:b<(w8.alloc (.cells (c23 x v2 (.slice Q2.A pls.length Q2.c)) 47)).heap.size:=lX hbl hal.size;generalize (w8.alloc _)=W9 at HS9 HB9 HV9 HK9 HG9 HR9 hbl9 ⊢;obtain⟨gb,hgb⟩:∃ g,w8.heap.size=g:=⟨_,rfl⟩;rw [hgb]at HS9 ⊢;clear HB8 HV8 HK8 HG8 H2G hal HROW hbl hgb;have HSC:=Ph (jN4 (str T) W9 (by rw [jV];have:=HTL.out;omega));go_wp2_with fail
 refine HSC.out.mono ?_;rintro e w5 ⟨hb5,hsc⟩;have hsc':(∃ a,zI3 (kG T)=some a∧e=.returned (.tuple #[.slice none 0 0,.int .i64 a,.int .i64 280]))∨(zI3 (kG T)=none∧∃ A c,e=.returned (.tuple #[.slice A (zY T (kG T)).length c,.int .i64 T.length,.int .i64 0])∧RdT w5 A 44 ((zY T (kG T)).flatMap zQ1)):=hsc;clear hsc HSC;rw [HTT.out.1,HTT.out.2]at hsc';rcases hsc' with⟨a,hbad,_⟩ | ⟨_,A,c,rfl,hrd⟩
 ·cases hbad
 have HB5:Hid (Below w.heap.size w w5):=Ph (HB9.out.trans (hb5.mono HB9.out.size));have HRD:=Ph hrd;have HK5:=Ph (zD HK9.out hb5);have HS5:=Ph (zD HS9.out hb5);have HG5:Hid (GxP (fun _=>True) w5 x v):=Ph (itG.stay _ _ _ _ _ (Stays.below hb5) HG9.out);have HR5:Hid (∀ (i v:Nat),pls[i]?=some v→w5.cell? ⟨b,off+i,none⟩=some (.int .i64 v)):=Ph fun i v h=>(hb5.cell (p:=⟨b,off+i,none⟩) hbl9).trans (HR9.out i v h);have hbl5:b<w5.heap.size:=lX hbl9 hb5.size;clear hb5 hrd HB9 HV9 HK9 HS9 HG9 HR9 hbl9 HTT;obtain⟨ln,hln⟩:∃ n,pls.length=n:=⟨_,rfl⟩;have HLN:=Ph hln;have HLZ:Hid (ln=szG x):=Ph (by rw [←hln,HPA.out.len]);have h1l:1≤ln:=by obtain⟨r,hr⟩:=HPA.out.zero;rw [←hln,hr];simp
 have hl2:ln≤20000:=by have:=HLZ.out;have:=HSZ.out;omega
 have HISC:Hid (∀ W,Below w5.heap.size w5 W→Calls Tryz.prog 15 #[.slice (some ⟨b,off,none⟩) ln Q2.c] W fun e w'=>e=.returned (.bool true)∧Below W.heap.size W w'):=Ph fun W h=>by have h3:=jK5 b off Q2.c pls W (Ph fun i v hv=>(h.cell (p:=⟨b,off+i,none⟩) hbl5).trans (HR5.out i v hv)) (Ph HPA.out.ord) (lX hbl5 h.size) (by rw [hln];exact h1l) Yo;rw [hln]at h3;exact h3
 have HSIZ:Hid (∀ W,Below w5.heap.size w5 W→Calls Tryz.prog 14 #[.agg #[.int .i64 x.blocks,.int .i64 x.width,.slice v.is.A v.is.n v.is.c,.slice v.gs.A v.gs.n v.gs.c,.slice v.vs.A v.vs.n v.vs.c,.slice v.ar.A v.ar.n v.ar.c,.int .u8 x.require.kind,.int .u8 x.require.op,.int .u32 x.require.value,.int .i64 x.require.width,.string (str x.require.name),.slice v.rq.A v.rq.n v.rq.c,.slice v.ins.A v.ins.n v.ins.c,.slice v.ps.A v.ps.n v.ps.c,.slice v.wk.A v.wk.n v.wk.c,.slice v.rc.A v.rc.n v.rc.c,.int .u8 x.invariant.kind,.int .u8 x.invariant.op,.int .u32 x.invariant.value,.int .i64 x.invariant.width,.string (str x.invariant.name),.slice v.iv.A v.iv.n v.iv.c]] W fun e w'=>e=.returned (.int .i64 ln)∧Below W.heap.size W w'):=Ph fun W h=>by have h3:=kT3 x v W (Ph (itG.stay _ _ _ _ _ (Stays.below h) HG5.out)) HSZ.out;rw [←HLZ.out]at h3;exact h3
 have hQ5:Hid (Bk w5 gb 47 (c23 x v2 (.slice (some ⟨b,off,none⟩) ln Q2.c))):=Ph (by rw [←HQA.out,←hln];exact HS5.out);rw [hln];clear hln HS5;go_upto_region 7 with fail
 have w0:IntKind.i64.wrap 0=0:=Yd;have e0:((ln:Int) == 0)=false:=Yp;have e1:((ln:Int) != (ln:Int))=false:=Ym;have hln0:(0:Int)<(ln:Int):=Yo;refine zW3 15 21 (fun W=>Below w5.heap.size w5 W) Yk Yk Yk Yd Yd (lB _ _).drew ?_;simp only [cR,List.take_zero,List.drop_succ_cons,List.drop_zero];refine⟨.int .i64 0,Or.inl ⟨Yr,fun W hW=>?_⟩,?_⟩
 ·go_simp
 go_frame;refine⟨.int .i64 0,Or.inl ⟨Yr,fun W hW=>?_⟩,?_⟩
 ·go_simp
 go_frame;refine⟨.int .i64 0,Or.inl ⟨Yr,fun W hW=>?_⟩,?_⟩
 ·go_simp
 go_frame;refine⟨.bool false,Or.inl ⟨Yr,fun W hW=>?_⟩,?_⟩
 ·go_simp
 go_frame;refine⟨.bool false,Or.inl ⟨Yr,fun W hW=>?_⟩,?_⟩
 ·go_simp
 go_frame;refine⟨.pointer (some ⟨gb,22,none⟩),Or.inl ⟨Yr,fun W hW=>?_⟩,?_⟩
 ·go_simp
 go_frame;refine⟨.slice (some ⟨b,off,none⟩) ln Q2.c,Or.inl ⟨Yr,fun W hW=>?_⟩,?_⟩
 ·have g22:W.cell? ⟨gb,22,none⟩=some (.slice (some ⟨b,off,none⟩) ln Q2.c):=(zD hQ5.out hW).cell 22;go_simp
 go_frame;refine⟨.int .i64 ln,Or.inl ⟨Yr,fun W hW=>?_⟩,?_⟩
 ·go_simp
 go_frame;refine⟨.bool false,Or.inl ⟨Yr,fun W hW=>?_⟩,?_⟩
 ·go_simp
 go_frame;refine⟨.bool false,Or.inl ⟨Yr,fun W hW=>?_⟩,?_⟩
 ·go_simp
 go_frame;refine⟨.bool false,Or.inl ⟨Yr,fun W hW=>?_⟩,?_⟩
 ·go_simp
 go_frame;refine⟨.pointer (some ⟨gb,22,none⟩),Or.inl ⟨Yr,fun W hW=>?_⟩,?_⟩
 ·go_simp
 go_frame;refine⟨.slice (some ⟨b,off,none⟩) ln Q2.c,Or.inl ⟨Yr,fun W hW=>?_⟩,?_⟩
 ·have g22:W.cell? ⟨gb,22,none⟩=some (.slice (some ⟨b,off,none⟩) ln Q2.c):=(zD hQ5.out hW).cell 22;go_simp
 go_frame;refine⟨.int .i64 ln,Or.inl ⟨Yr,fun W hW=>?_⟩,?_⟩
 ·go_simp
 go_frame;refine⟨_,yieldsIf_load_mid Yr 36 (.tmp 5) rfl pb 0 rfl [.int .i64 x.blocks,.int .i64 x.width,.slice v.is.A v.is.n v.is.c,.slice v.gs.A v.gs.n v.gs.c,.slice v.vs.A v.vs.n v.vs.c,.slice v.ar.A v.ar.n v.ar.c,.int .u8 x.require.kind,.int .u8 x.require.op,.int .u32 x.require.value,.int .i64 x.require.width,.string (str x.require.name),.slice v.rq.A v.rq.n v.rq.c,.slice v.ins.A v.ins.n v.ins.c,.slice v.ps.A v.ps.n v.ps.c,.slice v.wk.A v.wk.n v.wk.c,.slice v.rc.A v.rc.n v.rc.c,.int .u8 x.invariant.kind,.int .u8 x.invariant.op,.int .u32 x.invariant.value,.int .i64 x.invariant.width,.string (str x.invariant.name),.slice v.iv.A v.iv.n v.iv.c] _ (fun W hW=>yM (zD HK5.out hW)) Tryz.underlying36 rfl jR,?_⟩;go_frame;refine zO4 ?_;refine wpOp_step rfl (fun K hK=>?_);rw [lM Yr];go_simp;go_at_call 14
 refine(HSIZ.out _ (lB _ _).drew).mono ?_;rintro e w6 ⟨rfl,hb6⟩;have hB6:Below w5.heap.size w5 w6:=zU (lB _ _).drew hb6;refine hK _ _ ⟨hB6,?_⟩;clear hK K hb6;try go_frame
 refine⟨.bool false,Or.inl ⟨Yr,fun W hW=>?_⟩,?_⟩
 ·go_simp
 go_frame;refine⟨.bool false,Or.inl ⟨Yr,fun W hW=>?_⟩,?_⟩
 ·go_simp
 go_frame;refine⟨.bool false,Or.inl ⟨Yr,fun W hW=>?_⟩,?_⟩
 ·go_simp
 go_frame;refine⟨.pointer (some ⟨gb,22,none⟩),Or.inl ⟨Yr,fun W hW=>?_⟩,?_⟩
 ·go_simp
 go_frame;refine⟨.slice (some ⟨b,off,none⟩) ln Q2.c,Or.inl ⟨Yr,fun W hW=>?_⟩,?_⟩
 ·have g22:W.cell? ⟨gb,22,none⟩=some (.slice (some ⟨b,off,none⟩) ln Q2.c):=(zD hQ5.out hW).cell 22;go_simp
 go_frame;refine zO4 ?_;refine wpOp_step rfl (fun K hK=>?_);rw [lM Yr];go_simp;go_at_call 15
 refine(HISC.out _ hB6).mono ?_;rintro e w7 ⟨rfl,hb7⟩;have hB7:Below w5.heap.size w5 w7:=zU hB6 hb7;refine hK _ _ ⟨hB7,?_⟩;clear hK K hb7 hB6;try go_frame
 refine⟨.bool false,Or.inl ⟨Yr,fun W hW=>?_⟩,?_⟩
 ·go_simp
 go_frame;refine⟨.bool false,Or.inl ⟨Yr,fun W hW=>?_⟩,?_⟩
 ·go_simp
 go_frame;refine⟨.bool false,Or.inl ⟨Yr,fun W hW=>?_⟩,?_⟩
 ·go_simp
 go_frame;refine⟨.pointer (some ⟨gb,22,none⟩),Or.inl ⟨Yr,fun W hW=>?_⟩,?_⟩
 ·go_simp
 go_frame;refine⟨.slice (some ⟨b,off,none⟩) ln Q2.c,Or.inl ⟨Yr,fun W hW=>?_⟩,?_⟩
 ·have g22:W.cell? ⟨gb,22,none⟩=some (.slice (some ⟨b,off,none⟩) ln Q2.c):=(zD hQ5.out hW).cell 22;go_simp
 go_frame;refine⟨.pointer (some ⟨b,off,none⟩),Or.inl ⟨Yr,fun W hW=>?_⟩,?_⟩
 ·go_simp;exact fun h=>absurd h Yo
 go_frame;refine⟨.int .i64 0,Or.inl ⟨Yr,fun W hW=>?_⟩,?_⟩
 ·have r0:W.cell? ⟨b,off,none⟩=some (.int .i64 0):=by obtain⟨r,hr⟩:=HPA.out.zero;have h0:=HR5.out 0 0 (by rw [hr];rfl);exact(hW.cell (p:=⟨b,off,none⟩) hbl5).trans h0
  go_simp
 go_frame;refine⟨.bool false,Or.inl ⟨Yr,fun W hW=>?_⟩,?_⟩
 ·go_simp
 go_frame;refine⟨.bool false,Or.inl ⟨Yr,fun W hW=>?_⟩,?_⟩
 ·go_simp
 go_frame;refine zO4 ?_;have HK7:=Ph (zD HK5.out hB7);have HQ7:=Ph (zD hQ5.out hB7);have HG7:Hid (GxP (fun _=>True) w7 x v):=Ph (itG.stay _ _ _ _ _ (Stays.below hB7) HG5.out);have HR7:Hid (∀ (i v:Nat),pls[i]?=some v→w7.cell? ⟨b,off+i,none⟩=some (.int .i64 v)):=Ph fun i v h=>(hB7.cell (p:=⟨b,off+i,none⟩) hbl5).trans (HR5.out i v h);have hbl7:b<w7.heap.size:=lX hbl5 hB7.size;have HRD7:=Ph (HRD.out.below hB7);have HB7:Hid (Below w.heap.size w w7):=Ph (HB5.out.trans (hB7.mono HB5.out.size));clear hB7 HK5 hQ5 HG5 HR5 hbl5 HRD HB5 HISC HSIZ e0 e1;go_upto_region 9 with fail
 have mk0:∀ W:World,(Instr.makeMap 55 none).run Tryz.prog W=.ok (.map (some W.heap.size)) (W.alloc (.map #[] 0)):=fun W=>Yk;go_upto_region 10 with fail
 have hal:Below w7.heap.size w7 ((w7.alloc (.map #[] 0)).alloc (.cells #[.map (some w7.heap.size)] 55)):=zG (zG (lB _ _) _) _;have HM8:Hid (MapIS ((w7.alloc (.map #[] 0)).alloc (.cells #[.map (some w7.heap.size)] 55)) w7.heap.size []):=Ph ((MapIS.new w7).bel (zG (lB _ _) _));have HX8:Hid (Bk ((w7.alloc (.map #[] 0)).alloc (.cells #[.map (some w7.heap.size)] 55)) (w7.heap.size+1) 55 #[.map (some w7.heap.size)]):=Ph (by have:=Bk.new (w7.alloc (.map #[] 0)) 55 #[.map (some w7.heap.size)];simpa using this);have HK8:=Ph (zD HK7.out hal);have HB8:Hid (Below w.heap.size w ((w7.alloc (.map #[] 0)).alloc (.cells #[.map (some w7.heap.size)] 55))):=Ph (zU HB7.out hal);have hwm:w.heap.size≤w7.heap.size:=HB7.out.size;have HQ8:=Ph (zD HQ7.out hal);have HG8:Hid (GxP (fun _=>True) ((w7.alloc (.map #[] 0)).alloc (.cells #[.map (some w7.heap.size)] 55)) x v):=Ph (itG.stay _ _ _ _ _ (Stays.below hal) HG7.out);have HR8:Hid (∀ (i v:Nat),pls[i]?=some v→((w7.alloc (.map #[] 0)).alloc (.cells #[.map (some w7.heap.size)] 55)).cell? ⟨b,off+i,none⟩=some (.int .i64 v)):=Ph fun i v h=>(hal.cell (p:=⟨b,off+i,none⟩) hbl7).trans (HR7.out i v h);have hz8:w7.heap.size+2=((w7.alloc (.map #[] 0)).alloc (.cells #[.map (some w7.heap.size)] 55)).heap.size:=Ym;have hgl7:gb<w7.heap.size:=HQ7.out.lt;have hpl7:pb<w7.heap.size:=HK7.out.lt;have htne:tks≠[]:=by obtain⟨r,hr⟩:=HPA.out.zero;obtain⟨u,i,s,h1,_⟩:=HPA.out.tok 0 (by rw [hr];simp);intro e;have h1:tks[i]?=some s:=h1;rw [e]at h1;simp at h1
 obtain⟨tb,toff,hTA,htl7,htc⟩:=(HRD7.out.rd).cells (by
  cases tks with
  | nil=>exact absurd rfl htne
  | cons t l=>simp [zQ1])
 have HTC:Hid (∀ (j:Nat) (t:Tk) (i:Nat) (u:Value),tks[j]?=some t→(zQ1 t)[i]?=some u→((w7.alloc (.map #[] 0)).alloc (.cells #[.map (some w7.heap.size)] 55)).cell? ⟨tb,toff+(j*3+i),none⟩=some u):=Ph fun j t i u h1 h2=>(hal.cell (p:=⟨tb,toff+(j*3+i),none⟩) htl7).trans (htc _ _ (jK1 tks j t i u h1 h2));subst hTA;generalize ((World.alloc _ _))=W8 at HM8 HX8 HK8 HQ8 HG8 HR8 HTC hz8 HB8 ⊢;obtain⟨mb,hmb⟩:∃ g,w7.heap.size=g:=⟨_,rfl⟩;rw [hmb]at HM8 HX8 hz8 hbl7 htl7 hgl7 hpl7 hwm ⊢;obtain⟨mx,hmx⟩:∃ g,mb+1=g:=⟨_,rfl⟩;rw [hmx]at HX8 ⊢;obtain⟨tn,htn⟩:∃ g,tks.length=g:=⟨_,rfl⟩;have HTN:=Ph htn;have htn6:tn≤60000:=by have:=HTK6.out;omega
 rw [htn];clear hal hmb HK7 HQ7 HG7 HR7 HRD7 HB7 htne htc mk0 htn;go_wp2_with fail
 go_loopw [73] (fun v73 wr=>∃ j:Nat,j≤tn∧v73=.int .i64 j∧Hid (Fr (fun q=>q=mb) W8 wr)∧Hid (MapIS wr mb ((tks.take j).map wM))) (fun v73 _=>tn-(intOf v73).toNat)
 case atStart=>exact⟨0,lV _,rfl,Ph (Fr.refl _ _),HM8⟩
 case round =>
  obtain⟨j,hj,rfl,HF,HM⟩:=hrel;by_cases hlt:j<tn
  ·have e1:decide ((j:Int)<(tn:Int))=true:=by simp;omega
   have hji:(j:Int)<(tn:Int):=Yo;have hj0:(0:Int)≤(j:Int):=Yo;have hlt':j<tks.length:=by rw [HTN.out];exact hlt
   obtain⟨t,ht⟩:∃ t,tks[j]?=some t:=⟨_,cK hlt'⟩;have HT1:=Ph ht;have htb:tb<W8.heap.size:=Yo;have htm:¬tb=mb:=Yo;have c0:wr.cell? ⟨tb,toff+j*3,none⟩=some (.int .u8 t.kind):=(HF.out.cell (p:=⟨tb,toff+j*3,none⟩) htb htm).trans (HTC.out j t 0 _ ht rfl);have c1:wr.cell? ⟨tb,toff+j*3+1,none⟩=some (.int .i64 t.at'):=(HF.out.cell (p:=⟨tb,toff+j*3+1,none⟩) htb htm).trans (HTC.out j t 1 _ ht rfl);have c2:wr.cell? ⟨tb,toff+j*3+2,none⟩=some (.int .i64 t.fin):=(HF.out.cell (p:=⟨tb,toff+j*3+2,none⟩) htb htm).trans (HTC.out j t 2 _ ht rfl);have htm:=cD ht;obtain⟨hcx,hcl,hcf⟩:=HCT.out t htm;have HCX:=Ph hcx;have hmz:mb<wr.heap.size:=by have:=HF.out.size;omega
   have hmz2:mx<wr.heap.size:=by have:=HF.out.size;omega
   clear ht hlt' htb hcx htm;go_upto_region 13 with fail
   have hY:=Ph (Bk.new wr 44 #[.int .u8 t.kind,.int .i64 t.at',.int .i64 t.fin]);have hBa:Below wr.heap.size wr (wr.alloc (.cells #[.int .u8 t.kind,.int .i64 t.at',.int .i64 t.fin] 44)):=zG (lB _ _) _;have HM4:=Ph (HM.out.bel hBa);have HF4:Hid (Fr (fun q=>q=mb) W8 (wr.alloc (.cells #[.int .u8 t.kind,.int .i64 t.at',.int .i64 t.fin] 44))):=Ph (Fr.trans HF.out (Fr.of_below hBa));have HX4:Hid (Bk (wr.alloc (.cells #[.int .u8 t.kind,.int .i64 t.at',.int .i64 t.fin] 44)) mx 55 #[.map (some mb)]):=Ph (HX8.out.fr HF4.out Yo);generalize (wr.alloc _)=W4 at hY hBa HM4 HF4 HX4 ⊢;obtain⟨yb,hyb⟩:∃ g,wr.heap.size=g:=⟨_,rfl⟩;rw [hyb]at hY hmz hmz2 ⊢;have hym:¬yb=mb:=Yo;have hxm:¬mx=mb:=Yo;have HTX:Hid (∀ W,Calls Tryz.prog 16 #[.string (str T),.agg #[.int .u8 t.kind,.int .i64 t.at',.int .i64 t.fin]] W fun e w'=>e=.returned (.string (str t.text))∧Below W.heap.size W w'):=Ph fun W=>by have h3:=kE9 T t.kind t.at' t.fin W hcl hcf (by have:=HTL.out;omega);rw [←HCX.out]at h3;exact h3
   clear HF HM hBa c0 c1 c2 hyb e1 hji hj0 HCX hcl hcf;refine zW3 5 6 (fun W=>Fr (fun q=>q=mb) W4 W) Yk Yk Yk Yd Yd (Fr.refl _ _).drew ?_;simp only [cR,List.take_zero,List.drop_succ_cons,List.drop_zero];refine⟨.map (some mb),Or.inl ⟨Yr,fun W hW=>?_⟩,?_⟩
   ·have m0:W.cell? ⟨mx,0,none⟩=some (.map (some mb)):=(HX4.out.fr hW hxm).cell 0;go_simp
   go_frame;refine⟨.pointer (some ⟨yb,1,none⟩),Or.inl ⟨Yr,fun W hW=>?_⟩,?_⟩
   ·go_simp
   go_frame;refine⟨.int .i64 t.at',Or.inl ⟨Yr,fun W hW=>?_⟩,?_⟩
   ·have HYW:=hY.out.fr hW hym;have y1:W.cell? ⟨yb,1,none⟩=some (.int .i64 t.at'):=HYW.cell 1;clear HYW;go_simp
   go_frame;refine⟨.string (str T),Or.inl ⟨Yr,fun W hW=>?_⟩,?_⟩
   ·go_simp
   go_frame;refine⟨.agg #[.int .u8 t.kind,.int .i64 t.at',.int .i64 t.fin],Or.inl ⟨Yr,fun W hW=>?_⟩,?_⟩
   ·have HYW:=hY.out.fr hW hym;have y0:W.cell? ⟨yb,0,none⟩=some (.int .u8 t.kind):=HYW.cell 0;have y1:W.cell? ⟨yb,1,none⟩=some (.int .i64 t.at'):=HYW.cell 1;have y2:W.cell? ⟨yb,2,none⟩=some (.int .i64 t.fin):=HYW.cell 2;clear HYW;go_simp
   go_frame;refine zO4 ?_;refine wpOp_step rfl (fun K hK=>?_);go_simp;go_at_call 16
   refine(HTX.out _).mono ?_;rintro e w6 ⟨rfl,hb6⟩;have hB6:Below W4.heap.size W4 w6:=zU (lB _ _).drew hb6;refine hK _ _ ⟨Fr.of_below hB6,?_⟩;clear hK K hb6;try go_frame
   refine zO4 ?_;refine wpOp_step rfl (fun K hK=>?_);obtain⟨o,hu1,hu2,hu3⟩:=qT2 w6 mb _ (HM4.out.bel hB6) t.at' t.text (jR2 HPA.out.inc HT1.out);have HU2:=Ph hu2;have HU3:=Ph hu3;clear hu2 hu3;go_simp;refine hK _ _ ⟨Fr.trans (Fr.of_below hB6) HU3.out,?_⟩;clear hK K hu1;refine zO4 ?_;have HF7:Hid (Fr (fun q=>q=mb) W8 (ChangeMaps.setBlock w6 mb o)):=Ph (Fr.trans HF4.out (Fr.trans (Fr.of_below hB6) HU3.out));have HM7:Hid (MapIS (ChangeMaps.setBlock w6 mb o) mb ((tks.take (j+1)).map wM)):=Ph (by
    have h1:=HU2.out;have h2:(tks.take (j+1)).map wM=(tks.take j).map wM++[(t.at',t.text)]:=by rw [List.take_add_one,HT1.out,cB];rfl
    rw [h2];exact h1)
   generalize (ChangeMaps.setBlock w6 mb o)=W10 at HF7 HM7 ⊢;clear HU2 HU3 hB6 HM4 HF4 HX4 hY HTX hym hxm HT1;have hw1:IntKind.i64.wrap ((j:Int)+1)=((j+1:Nat):Int):=by rw [lL];omega
   go_wp2_with fail
   go_roundw
   case rel=>exact⟨j+1,Yo,by go_num,HF7,HM7⟩
   case measure=>simp [intOf];omega
  ·have hjn:j=tn:=by omega
   have e1:decide ((j:Int)<(tn:Int))=false:=Yp;have HM9:Hid (MapIS wr mb (tks.map wM)):=Ph (by have h1:=HM.out;rw [cJ (by have:=HTN.out;omega)]at h1;exact h1);have HX9:=Ph (HX8.out.fr HF.out (show ¬mx=mb by omega));have HQ9:=Ph (HQ8.out.fr HF.out (show ¬gb=mb by omega));have HK9:=Ph (HK8.out.fr HF.out (show ¬pb=mb by omega));have HG9:Hid (GxP (fun _=>True) wr x v):=Ph (itG.stay _ _ _ _ _ (jR5 HF.out HM8.out) HG8.out);have HR9:Hid (∀ (i v:Nat),pls[i]?=some v→wr.cell? ⟨b,off+i,none⟩=some (.int .i64 v)):=Ph fun i v h=>(HF.out.cell (p:=⟨b,off+i,none⟩) (show b<W8.heap.size by omega) (show ¬b=mb by omega)).trans (HR8.out i v h);have HB9:Hid (Below w.heap.size w wr):=Ph (HB8.out.trans (HF.out.below w.heap.size HB8.out.size (fun k hk e=>by have e:k=mb:=e;omega)));have hsz9:mb+2≤wr.heap.size:=by have:=HF.out.size;omega
   clear hjn HB8 HM HF HX8 HQ8 HK8 HG8 HR8 HM8 HTC HCT HTN hz8;have g22:wr.cell? ⟨gb,22,none⟩=some (.slice (some ⟨b,off,none⟩) ln Q2.c):=HQ9.out.cell 22;go_wp2_with fail
   clear g22;have HLK:Hid (∀ (q:Nat) (u:List UInt8),xF (tks.map wM) q=some u→(Instr.lookup 55 (.map (some mb)) (.int .i64 q) false).run Tryz.prog wr=.ok (.string (str u)) wr):=Ph fun q u hu=>by have hlk:=zL6 wr mb _ HM9.out q;rw [hu]at hlk;exact hlk
   have m0:wr.cell? ⟨mx,0,none⟩=some (.map (some mb)):=HX9.out.cell 0;go_loopw [87] (fun v87 w2=>∃ j:Nat,j≤ln∧v87=.int .i64 j∧Hid (w2=wr)) (fun v87 _=>ln-(intOf v87).toNat)
   case atStart=>exact⟨0,lV _,rfl,Ph rfl⟩
   case round =>
    obtain⟨j,hj,rfl,HE⟩:=hrel;have hE:=HE.out;subst hE;by_cases hlt:j<ln
    ·have e1:decide ((j:Int)<(ln:Int))=true:=by simp;omega
     have hji:(j:Int)<(ln:Int):=Yo;have hj0:(0:Int)≤(j:Int):=Yo;obtain⟨q,hq⟩:∃ q,pls[j]?=some q:=⟨_,cK (by rw [HLN.out];exact hlt)⟩;have v0:=HR9.out j q hq;obtain⟨u,hu,hune⟩:∃ u,xF (tks.map wM) q=some u∧u≠[]:=by obtain⟨u,hu⟩:=HPA.out.tok q (cD hq);refine⟨u,zW1 HPA.out.inc hu,?_⟩;obtain⟨i,t,h1,_,rfl⟩:=hu;exact HPA.out.ne t (cD h1)
     have hlk:=HLK.out q u hu;have en:(str u).toList.isEmpty=false:=by
      rw [ByteArray.toList_eq,qE];cases u with
      | nil=>exact absurd rfl hune
      | cons a l=>rfl
     have hw1:IntKind.i64.wrap ((j:Int)+1)=((j+1:Nat):Int):=by rw [lL];omega
     clear hq hu;go_wp2_with fail
     exact⟨⟨j+1,Yo,by first | rfl | go_num | simp,Ph trivial⟩,by simp [intOf];omega⟩
    ·have e1:decide ((j:Int)<(ln:Int))=false:=by simp;omega
     go_upto_region 22 with fail
     have hbf:Below wr.heap.size wr (wr.alloc (.cells #[.nilFunc] 57)):=zG (lB _ _) _;have HBA:Hid (Below w.heap.size w (wr.alloc (.cells #[.nilFunc] 57))):=Ph (zG HB9.out _);have HFA:Hid (Bk (wr.alloc (.cells #[.nilFunc] 57)) wr.heap.size 57 #[.nilFunc]):=Ph (Bk.new _ _ _);have HXA:=Ph (zD HX9.out hbf);have HQA2:=Ph (zD HQ9.out hbf);have HKA:=Ph (zD HK9.out hbf);have HMA:=Ph (HM9.out.bel hbf);have HGA:Hid (GxP (fun _=>True) (wr.alloc (.cells #[.nilFunc] 57)) x v):=Ph (itG.stay _ _ _ _ _ (Stays.below hbf) HG9.out);have HRA:Hid (∀ (i v:Nat),pls[i]?=some v→(wr.alloc (.cells #[.nilFunc] 57)).cell? ⟨b,off+i,none⟩=some (.int .i64 v)):=Ph fun i v h=>(hbf.cell (p:=⟨b,off+i,none⟩) (show b<wr.heap.size by omega)).trans (HR9.out i v h);have hzf:wr.heap.size+1=(wr.alloc (.cells #[.nilFunc] 57)).heap.size:=Ym;generalize (wr.alloc _)=V1 at HBA HFA HXA HQA2 HKA HMA HGA HRA hzf ⊢;obtain⟨fb,hfb⟩:∃ g,wr.heap.size=g:=⟨_,rfl⟩;rw [hfb]at HFA hzf ⊢;have hfm:mb+2≤fb:=Yo;clear hfb hbf HB9 HX9 HQ9 HK9 HM9 HG9 HR9 HLK m0 hsz9;obtain⟨pa,pz,hpl,hpz,hwd⟩:=HPA.out.inv;obtain⟨sx,hsx⟩:∃ n,szX x.invariant=n:=⟨_,rfl⟩;obtain⟨kk,hkk⟩:∃ n,pa.length=n:=⟨_,rfl⟩;have hlk2:kk+sx=ln:=by rw [←HLN.out,hpl,Ya,hpz,hsx,hkk]
     have HWD:=Ph hwd;have HPL:=Ph hpl;have HKK:=Ph hkk;have HSX:=Ph hsx;have hws:IntKind.i64.wrap ((ln:Int)-(sx:Int))=(kk:Int):=by rw [lL];omega
     have HSS:Hid (∀ W,Below V1.heap.size V1 W→W.cell? ⟨gb,22,none⟩=some (.slice (some ⟨b,off,none⟩) ln Q2.c)∧W.cell? ⟨pb,16,none⟩=some (.int .u8 x.invariant.kind)∧W.cell? ⟨pb,17,none⟩=some (.int .u8 x.invariant.op)∧W.cell? ⟨pb,18,none⟩=some (.int .u32 x.invariant.value)∧W.cell? ⟨pb,19,none⟩=some (.int .i64 x.invariant.width)∧W.cell? ⟨pb,20,none⟩=some (.string (str x.invariant.name))∧W.cell? ⟨pb,21,none⟩=some (.slice v.iv.A v.iv.n v.iv.c)):=Ph fun W h=>by have hp:=zD HKA.out h;exact⟨(zD HQA2.out h).cell 22,hp.cell 16,hp.cell 17,hp.cell 18,hp.cell 19,hp.cell 20,hp.cell 21⟩
     have HSC:Hid (∀ W,Below V1.heap.size V1 W→Calls Tryz.prog 17 #[.agg #[.int .u8 x.invariant.kind,.int .u8 x.invariant.op,.int .u32 x.invariant.value,.int .i64 x.invariant.width,.string (str x.invariant.name),.slice v.iv.A v.iv.n v.iv.c]] W fun e w'=>e=.returned (.int .i64 sx)∧Below W.heap.size W w'):=Ph fun W h=>by have h3:=kK9 x.invariant v.iv W (Ph (HGA.out.iv.stay (Stays.below h))) Yo;rw [HSX.out]at h3;exact h3
     clear hpl hpz hwd hkk hsx;go_cut [19] (fun s19 wx=>∃ kb:Nat,s19=.pointer (some ⟨kb,0,none⟩)∧V1.heap.size≤kb∧Hid (Bk wx kb 3 #[.int .i64 kk])∧Hid (Below V1.heap.size V1 wx))
     case first =>
      have HBC:Hid (Below V1.heap.size V1 V1.drew):=Ph (lB _ _).drew;have HB0:Hid (Below V1.heap.size V1 V1):=Ph (lB _ _)
      go_region_held3 (fun W=>W.cell? ⟨gb,22,none⟩=some (.slice (some ⟨b,off,none⟩) ln Q2.c)∧W.cell? ⟨pb,16,none⟩=some (.int .u8 x.invariant.kind)∧W.cell? ⟨pb,17,none⟩=some (.int .u8 x.invariant.op)∧W.cell? ⟨pb,18,none⟩=some (.int .u32 x.invariant.value)∧W.cell? ⟨pb,19,none⟩=some (.int .i64 x.invariant.width)∧W.cell? ⟨pb,20,none⟩=some (.string (str x.invariant.name))∧W.cell? ⟨pb,21,none⟩=some (.slice v.iv.A v.iv.n v.iv.c))
       ((first | with_reducible exact HSS.out _ HBC.out | with_reducible exact HSS.out _ (zG HB0.out _).drew | with_reducible exact HSS.out _ (zG HBC.out _) | with_reducible exact HSS.out _ (Below.setCell (zG HBC.out _) HBC.out.size _) | with_reducible exact HSS.out _ (Below.setCell HBC.out (lF _) _)))
       (first
         | (go_at_call 17
            (first | with_reducible refine(HSC.out _ HBC.out).mono ?_ | with_reducible refine(HSC.out _ (zG HB0.out _).drew).mono ?_)
            rintro e v1 ⟨rfl,hb⟩
            (first | with_reducible have HB1:=Ph (zU HBC.out hb) | with_reducible have HB1:=Ph (zU (zG HB0.out _).drew hb))
            (first | with_reducible have HN1:=Ph (zD (Bk.new V1 3 #[.int .i64 0]).drew hb) | skip)
            (first | (have n0:v1.cell? ⟨V1.heap.size,0,none⟩=some (.int .i64 0):=HN1.out.cell 0) | skip)
            (first | (have n1:v1.frozen? ⟨V1.heap.size,0,none⟩=false:=HN1.out.frozen 0) | skip)
            clear HBC hb HSC;have HBC:=HB1;clear HB1))
      all_goals
       go_wp2
       go_meet
       first
        | exact⟨_,rfl,HBC.out.size,Ph (Bk.new _ _ _),Ph (zG HBC.out _)⟩
        | exact⟨_,rfl,lF _,Ph (HN1.out.put 0 _),Ph (Below.setCell HBC.out (lF _) _)⟩
     obtain⟨kb,rfl,hkb,HKB,HBX⟩:=hcut;have HBB:Hid (Below w.heap.size w wc):=Ph (zU HBA.out HBX.out);have hwV:w.heap.size≤V1.heap.size:=HBA.out.size;have HFB:=Ph (zD HFA.out HBX.out);have HXB:=Ph (zD HXA.out HBX.out);have HQB:=Ph (zD HQA2.out HBX.out);have HPB:=Ph (zD HKA.out HBX.out);have HMB:=Ph (HMA.out.bel HBX.out);have HTB:Hid (TX (fun _=>True) wc x.invariant v.iv):=Ph (HGA.out.iv.stay (Stays.below HBX.out));have HRB:Hid (∀ (i v:Nat),pls[i]?=some v→wc.cell? ⟨b,off+i,none⟩=some (.int .i64 v)):=Ph fun i v h=>(HBX.out.cell (p:=⟨b,off+i,none⟩) (show b<V1.heap.size by omega)).trans (HRA.out i v h);have hzx:V1.heap.size≤wc.heap.size:=HBX.out.size;clear HBA HFA HXA HQA2 HKA HMA HGA HRA HSS HSC HBX hws;have z0:wc.cell? ⟨fb,0,none⟩=some .nilFunc:=HFB.out.cell 0;have zf:wc.frozen? ⟨fb,0,none⟩=false:=HFB.out.frozen 0;go_upto_region 24 with fail
     have hfr:Fr (fun q=>q=fb) wc (wc.setCell ⟨fb,0,none⟩ (.func (.func 18) #[] #[.pointer (some ⟨kb,0,none⟩),.pointer (some ⟨gb,0,none⟩),.pointer (some ⟨mx,0,none⟩),.pointer (some ⟨fb,0,none⟩)])):=Fr.setCell (F:=fun q=>q=fb) (p:=⟨fb,0,none⟩) (Fr.refl _ wc) (.inl rfl) _;have HBC:Hid (Below w.heap.size w (wc.setCell ⟨fb,0,none⟩ (.func (.func 18) #[] #[.pointer (some ⟨kb,0,none⟩),.pointer (some ⟨gb,0,none⟩),.pointer (some ⟨mx,0,none⟩),.pointer (some ⟨fb,0,none⟩)]))):=Ph (HBB.out.trans (hfr.below w.heap.size HBB.out.size (fun k hk e=>by have e:k=fb:=e;omega)));have HFC:Hid (Bk (wc.setCell ⟨fb,0,none⟩ (.func (.func 18) #[] #[.pointer (some ⟨kb,0,none⟩),.pointer (some ⟨gb,0,none⟩),.pointer (some ⟨mx,0,none⟩),.pointer (some ⟨fb,0,none⟩)])) fb 57 #[.func (.func 18) #[] #[.pointer (some ⟨kb,0,none⟩),.pointer (some ⟨gb,0,none⟩),.pointer (some ⟨mx,0,none⟩),.pointer (some ⟨fb,0,none⟩)]]):=Ph (HFB.out.put 0 _);have HKC:=Ph (HKB.out.fr hfr (show ¬kb=fb by omega));have HXC:=Ph (HXB.out.fr hfr (show ¬mx=fb by omega));have HQC:=Ph (HQB.out.fr hfr (show ¬gb=fb by omega));have HPC:=Ph (HPB.out.fr hfr (show ¬pb=fb by omega));have HMC:=Ph (HMB.out.fr hfr (show ¬mb=fb by omega));have HTC:Hid (TX (fun _=>True) (wc.setCell ⟨fb,0,none⟩ (.func (.func 18) #[] #[.pointer (some ⟨kb,0,none⟩),.pointer (some ⟨gb,0,none⟩),.pointer (some ⟨mx,0,none⟩),.pointer (some ⟨fb,0,none⟩)])) x.invariant v.iv):=Ph (HTB.out.stay (Stays.box hfr HFB.out kT2));have HRC:Hid (∀ (i v:Nat),pls[i]?=some v→(wc.setCell ⟨fb,0,none⟩ (.func (.func 18) #[] #[.pointer (some ⟨kb,0,none⟩),.pointer (some ⟨gb,0,none⟩),.pointer (some ⟨mx,0,none⟩),.pointer (some ⟨fb,0,none⟩)])).cell? ⟨b,off+i,none⟩=some (.int .i64 v)):=Ph fun i v h=>(hfr.cell (p:=⟨b,off+i,none⟩) (show b<wc.heap.size by omega) (show ¬b=fb by omega)).trans (HRB.out i v h);have hzc:wc.heap.size≤(wc.setCell ⟨fb,0,none⟩ (.func (.func 18) #[] #[.pointer (some ⟨kb,0,none⟩),.pointer (some ⟨gb,0,none⟩),.pointer (some ⟨mx,0,none⟩),.pointer (some ⟨fb,0,none⟩)])).heap.size:=hfr.size;generalize (World.setCell _ _ _)=V3 at HBC HFC HKC HXC HQC HPC HMC HTC HRC hzc ⊢;clear hfr HBB HFB HKB HXB HQB HPB HMB HTB HRB z0 zf;have HWS:Hid (WkS V3 kb gb mx fb mb b off Q2.c pls tks kk):=Ph ⟨HKC.out,by rw [HLN.out];exact HQC.out.cell 22,HXC.out,HFC.out,HMC.out,HRC.out,Yo,Yo,Yo,Yo,Yo,Yo,Yo⟩;have HWC:=Ph (kS9 kb gb mx fb mb b off Q2.c pls tks (Ph HPA.out.inc) (by have:=HLN.out;omega) (szX x.invariant) x.invariant v.iv pz kk V3 (lF _) HSH.out HTC HWD HWS (Ph ⟨[],by rw [HPL.out,←HKK.out,List.drop_left,cT]⟩));dsimp only [qD5]at HWC;have z1:V3.cell? ⟨fb,0,none⟩=some (.func (.func 18) #[] #[.pointer (some ⟨kb,0,none⟩),.pointer (some ⟨gb,0,none⟩),.pointer (some ⟨mx,0,none⟩),.pointer (some ⟨fb,0,none⟩)]):=HFC.out.cell 0;have p16:V3.cell? ⟨pb,16,none⟩=some (.int .u8 x.invariant.kind):=HPC.out.cell 16;have p17:V3.cell? ⟨pb,17,none⟩=some (.int .u8 x.invariant.op):=HPC.out.cell 17;have p18:V3.cell? ⟨pb,18,none⟩=some (.int .u32 x.invariant.value):=HPC.out.cell 18;have p19:V3.cell? ⟨pb,19,none⟩=some (.int .i64 x.invariant.width):=HPC.out.cell 19;have p20:V3.cell? ⟨pb,20,none⟩=some (.string (str x.invariant.name)):=HPC.out.cell 20;have p21:V3.cell? ⟨pb,21,none⟩=some (.slice v.iv.A v.iv.n v.iv.c):=HPC.out.cell 21;clear HFC HKC HXC HQC HPC HMC HTC HRC HWS HPA HWD HPL HKK HSX;go_wp2_with fail
     refine HWC.out.mono ?_;rintro e w6 ⟨rfl,_,hf6⟩;have HBD:Hid (Below w.heap.size w w6):=Ph (HBC.out.trans (hf6.below w.heap.size HBC.out.size (fun k hk e=>by have e:k=kb:=e;omega)));clear hf6;go_wp2_with fail
     go_ret;exact⟨rfl,HBD.out⟩
end
section
open Go.ChangeShapes Go.WideShapes Go.ChangeAt Go.RowKit
def qU8:List (String×DataW Unit):=[("unicode.White_Space",Rows.laid_unicode_White_Space),("strings.asciiSpace",Rows.laid_strings_asciiSpace)]
theorem jL2 {P:Program} {w:World} {x:String×DataW Unit} {r:List (String×DataW Unit)} (h:laidMet P (x :: r) w):laidMet P r w:=by obtain⟨n,d⟩:=x;obtain⟨ps,⟨g,t,cs,f,p,q,_,_,_,_,hq,e⟩,hn,hr⟩:=h;subst e;exact⟨q,hq,(List.nodup_append.1 hn).2.1,fun b off hb=>hr b off (List.mem_append_right _ hb)⟩
theorem kS6:ownKnob Tryz.prog.godebug=none:=Yk
theorem kK7:(Tryz.prog.globals[3]?).map (·.type)=some 208:=Yk
theorem jS2:Tryz.prog.cellsOf 208=256:=Yk
theorem kD5:Tryz.prog.cellsOf 5=1:=Yk
theorem kD6:(Rows.laid_strings_asciiSpace:DataW Unit)=Lib.tabData .u8 Lib.asciiSpaceTab:=Yk
theorem kD7 {n:Int} (h:(Lit.int .u8 n).wf=true):0≤n∧n≤255:=by simp only [Lit.wf,lZ,cC]at h;exact⟨h.1,h.2⟩
theorem jL3 {W:World} (h:laidMet Tryz.prog qU8 W) (hs:W.ShapedOpen Tryz.prog):Vars W:=by
 unfold qU8 at h;have h8:=jL2 h;rw [kD6]at h8
 exact⟨cell_of_shapedOpen_int (g:=0) (t:=3) (zero:=#[uI 0]) hs (by decide +kernel) Yk rfl Yk Yk Tryz.underlying3,
  Lib.tabIs_of_head (zs:=Lib.asciiSpaceTab) jA5 kK7 Tryz.underlying208 Tryz.underlying5 kD5 jS2 h8⟩
noncomputable def kR2:Nat:=(World.holding Tryz.prog default ⟨#[],#[],[]⟩).heap.size
def jW1 (cs:Array Value):Obj→Obj
 | .cells _ t frozen=>.cells cs t frozen
 | o=>o
noncomputable def zH7 (os:Os):World :=
 let w0:=World.holding Tryz.prog os ⟨#[.cells #[.int .u16 9,.int .u16 13,.int .u16 1,.int .u16 32,.int .u16 133,.int .u16 101,.int .u16 160,.int .u16 5760,.int .u16 5600,.int .u16 8192,.int .u16 8202,.int .u16 1,.int .u16 8232,.int .u16 8233,.int .u16 1,.int .u16 8239,.int .u16 8287,.int .u16 48,.int .u16 12288,.int .u16 12288,.int .u16 1] 241,.cells #[.slice (some ⟨kR2,0,none⟩) 7 7,uN,uI 2] 239],#[],[]⟩
 { w0 with heap:=((w0.heap.modify 3 (jW1 #[uB 0,uB 0,uB 0,uB 0,uB 0,uB 0,uB 0,uB 0,uB 0,uB 1,uB 1,uB 1,uB 1,uB 1,uB 0,uB 0,uB 0,uB 0,uB 0,uB 0,uB 0,uB 0,uB 0,uB 0,uB 0,uB 0,uB 0,uB 0,uB 0,uB 0,uB 0,uB 0,uB 1,uB 0,uB 0,uB 0,uB 0,uB 0,uB 0,uB 0,uB 0,uB 0,uB 0,uB 0,uB 0,uB 0,uB 0,uB 0,uB 0,uB 0,uB 0,uB 0,uB 0,uB 0,uB 0,uB 0,uB 0,uB 0,uB 0,uB 0,uB 0,uB 0,uB 0,uB 0,uB 0,uB 0,uB 0,uB 0,uB 0,uB 0,uB 0,uB 0,uB 0,uB 0,uB 0,uB 0,uB 0,uB 0,uB 0,uB 0,uB 0,uB 0,uB 0,uB 0,uB 0,uB 0,uB 0,uB 0,uB 0,uB 0,uB 0,uB 0,uB 0,uB 0,uB 0,uB 0,uB 0,uB 0,uB 0,uB 0,uB 0,uB 0,uB 0,uB 0,uB 0,uB 0,uB 0,uB 0,uB 0,uB 0,uB 0,uB 0,uB 0,uB 0,uB 0,uB 0,uB 0,uB 0,uB 0,uB 0,uB 0,uB 0,uB 0,uB 0,uB 0,uB 0,uB 0,uB 0,uB 0,uB 0,uB 0,uB 0,uB 0,uB 0,uB 0,uB 0,uB 0,uB 0,uB 0,uB 0,uB 0,uB 0,uB 0,uB 0,uB 0,uB 0,uB 0,uB 0,uB 0,uB 0,uB 0,uB 0,uB 0,uB 0,uB 0,uB 0,uB 0,uB 0,uB 0,uB 0,uB 0,uB 0,uB 0,uB 0,uB 0,uB 0,uB 0,uB 0,uB 0,uB 0,uB 0,uB 0,uB 0,uB 0,uB 0,uB 0,uB 0,uB 0,uB 0,uB 0,uB 0,uB 0,uB 0,uB 0,uB 0,uB 0,uB 0,uB 0,uB 0,uB 0,uB 0,uB 0,uB 0,uB 0,uB 0,uB 0,uB 0,uB 0,uB 0,uB 0,uB 0,uB 0,uB 0,uB 0,uB 0,uB 0,uB 0,uB 0,uB 0,uB 0,uB 0,uB 0,uB 0,uB 0,uB 0,uB 0,uB 0,uB 0,uB 0,uB 0,uB 0,uB 0,uB 0,uB 0,uB 0,uB 0,uB 0,uB 0,uB 0,uB 0,uB 0,uB 0,uB 0,uB 0,uB 0,uB 0,uB 0,uB 0,uB 0,uB 0,uB 0,uB 0,uB 0,uB 0,uB 0,uB 0,uB 0,uB 0,uB 0,uB 0,uB 0,uB 0,uB 0,uB 0,uB 0,uB 0])).modify 4 (jW1 #[.pointer (some ⟨kR2+1,0,none⟩)])) }
end
section
open Go.ChangeShapes Go.WideShapes Go.RowKit Go.Deep
def kL7 (l:List Nat):List Value:=l.map fun(m:Nat)=>uB m
theorem kP6 {w:World} {a:Addr} {xs:List Value} (h:∀ (i:Nat) (u:Value),xs[i]?=some u→w.cell? (a.add i)=some u):Rd w (some a) xs:=by
 intro hx;obtain⟨x,l,rfl⟩:=List.exists_cons_of_ne_nil hx;obtain⟨b,off,spot⟩:=a;have h0:=h 0 x rfl;have hs:spot=none:=by simpa [Addr.add]using World.cell?_spot h0
 subst hs;have ha:∀ i:Nat,(⟨b,off,none⟩:Addr).add i=⟨b,off+i,none⟩:=fun i=>by simp [Addr.add]
 cases hh:w.heap[b]? with
 | none=>rw [ha]at h0;simp [World.cell?,hh]at h0
 | some o =>
   cases o with
   | cells cs t fr =>
     refine⟨b,off,cs,t,fr,rfl,hh,fun j u hu=>?_⟩;have h1:=h j u hu;rw [ha]at h1;simpa [World.cell?,hh]using h1
   | _=>rw [ha]at h0;simp [World.cell?,hh]at h0
section
variable {H:Type} {enc:TypeId×Value→H} {w:World} {held:Bool}
theorem kK8 {n:Nat} {v:Value} {x:DataW H×List MemPlace} (h:DataW.trod enc Tryz.prog w 0 (fun _=>true) held n 22 [v]=some x):∃ (s:SV) (l:List Nat),v=.slice s.A s.n s.c∧Rd w s.A (kL7 l)∧l.length=s.n∧(∀ u∈l,u≤255)∧s.n≤maxLen∧s.n≤s.c:=by
 rcases open_ints Tryz.underlying22 Tryz.underlying5 Yk h with⟨hcs,_⟩ | ⟨a,len,cap,zs,hcs,_,hl,hm,hz,_,hcell,hwz⟩
 ·simp at hcs;exact⟨⟨none,0,0⟩,[],hcs,Rd.nil,rfl,fun u hu=>(by cases hu),lV _,lF _⟩
 ·simp at hcs;simp only [if_true]at hz;refine⟨⟨some a,len,cap⟩,(zs.take len).map Int.toNat,hcs,kP6 (fun i u hu=>?_),Yp,fun u hu=>?_,by dsimp only;omega,hl⟩
  ·unfold kL7 at hu;rw [List.map_map,cS,List.getElem?_take]at hu;split at hu
   ·rename_i hi;have hiz:i<zs.length:=Yo;rw [hcell i hiz,List.getD_eq_getElem?_getD,cK hiz];rw [cK hiz]at hu;have hb:=kD7 (hwz _ (List.getElem_mem hiz));have e:((zs[i].toNat:Nat):Int)=zs[i]:=Yo;simp [e]at hu;simpa using hu
   ·simp at hu
  ·obtain⟨z,hz',rfl⟩:=List.mem_map.1 hu;have:=kD7 (hwz z (List.mem_of_mem_take hz'));omega
end
theorem jL4 (l:List Nat) (h:∀ u∈l,u≤255):kL7 l=(l.map fun m=>UInt8.ofNat m).map fun b=>uB b.toNat:=by unfold kL7;rw [List.map_map];refine List.map_congr_left fun m hm=>?_;have:=h m hm;show uB m=uB ((UInt8.ofNat m).toNat:Int);rw [UInt8.toNat_ofNat_of_lt' (by show m<256;omega)]
end
section
open Go.ChangeShapes Go.WideShapes Go.ChangeAt Go.RowKit
open Go.ChangeMaps (open_string shut_string)
theorem qO5:laidOutB Tryz.prog=true:=Yk
theorem jR7 (os:Os):laidMet Tryz.prog qU8 ((zH7 os).forCall (fun _ _=>0) ⟨#[],#[uN,.bool false],[]⟩).memory :=
 laidMet_of_run3 10 Yk Yk Yk
theorem jK4 (os:Os) {H:Type} (enc:TypeId×Value→H):∃ places,DataW.whole enc Tryz.prog ((zH7 os).forCall (fun _ _=>0) ⟨#[],#[.slice none 0 0,.bool false],[]⟩).memory Tryz.f4.params.toList Rows.parsePlacesSpec.vars false #[Value.slice none 0 0,Value.bool false].toList 8=some ([.nil,.lit (.bool false)],[],places) :=
 ⟨[],Yk⟩
theorem qT7 (os:Os) (started:os.Started) (H:Type) (enc:TypeId×Value→H) (F:Stop.Interp) :
 ReturnsInHanded {} Tryz.checked os 4 .any ((OpenSpec.ofChange Rows.parsePlacesSpec).preRow enc Tryz.prog Tryz.f4 Rows.parsePlacesRow.domain false Rows.parsePlacesRow.laid) (((OpenSpec.ofChange Rows.parsePlacesSpec).at F).post enc Tryz.prog Tryz.f4 false true false false):=by
 obtain⟨places,hx⟩:=jK4 os enc
 refine returnsInHanded_of_row (C:=Tryz.checked) (s:=OpenSpec.ofChange Rows.parsePlacesSpec) kS6 started Yk Tryz.func4
  (witness_row_atRef (enc:=enc) (C:=Tryz.checked) false (zH7 os) #[uN,.bool false] rfl Yk Yk Yk
    (OpenSpec.preRow_of_cond 8 hx Yk (fun k hk=>by cases hk) Yk (jR7 os))) ?_
 intro W base args ds gs before hval hW _ _ _ hL hSh _;have hW':=hW;obtain⟨p,q,hA0,hV,rfl,hfz,hnd⟩:=hW;have hA:DataW.TrodAll enc Tryz.prog W 0 (fun _=>true) true Tryz.f4.params.toList args.toList ds p:=hA0;rw [Tryz.params4]at hA hval;obtain⟨v0,v1,d0,d1,p0,p1,rfl,rfl,rfl,h0,h1⟩:=trodAll_two hA;obtain⟨rfl,rfl⟩:=trodVars_none hV;clear hA0;simp only [cT,lS]at hW';have hlt:∀ x∈p0++p1,x.block<W.heap.size:=fun x hx=>by simpa using hW'.lt x hx
 have h0k:=h0;have h1k:=h1;obtain⟨a0,len0,cap0,rfl⟩:=okWide_slice Tryz.underlying22 (hval 0 _ v0 rfl rfl);obtain⟨b1,rfl,_,_⟩:=open_bool Tryz.underlying4 (hval 1 4 v1 rfl rfl) h1;obtain⟨n0,hf0⟩:=h0;have hf0':DataW.trod enc Tryz.prog W 0 (fun _=>true) true n0 22 [.slice a0 len0 cap0]=some (d0,p0):=by simpa [Value.cells]using hf0
 obtain⟨su,U,hsu,hu1,hu2,hu3,hu4,hu5⟩:=kK8 hf0';rw [hsu]at hf0' h0k hW' ⊢;rw [jL4 U hu3]at hu1;have hL7:laidMet Tryz.prog qU8 W:=hL;refine(jK2 su.A su.n su.c (U.map fun m=>UInt8.ofNat m) b1 W (Ph (jL3 hL7 hSh)) (Ph hu1) (Ph (by rw [lW];exact hu2)) (by unfold maxLen at hu4;omega) hu5).mono fun e W' ⟨he,hb⟩=>?_;subst he;have hb1:∀ x∈p1,x.block<W.heap.size:=fun x hx=>hlt x (List.mem_append_right _ hx);exact⟨_,rfl,⟨_,_,_,[],_,[],hW',trodAll_mk1 (shut_bool Tryz.underlying4 _),trodAll_mk2 (Below.trod qO5 Yk (cM Yk) h0k hb (fun x hx=>hlt x (List.mem_append_left _ hx))) (Below.trod qO5 Yk (cM Yk) h1k hb hb1),rfl,hb.frame _,fun h=>by cases h⟩⟩
theorem zY9:Rows.ParsePlacesSaid :=
 OpenClaim.holds_of_cond 4 Tryz.f4 rfl rfl rfl rfl rfl rfl rfl ⟨rfl,rfl,rfl,rfl,rfl⟩ rfl rfl rfl rfl rfl Yk Tryz.func4 Yk
  (cM Yk) (by unfold Func.isWrapper;first | (rw [lM (by decide +kernel)];kernel_rfl) | (rw [lN (by decide +kernel)];exact⟨rfl,rfl⟩))
  (fun os started H enc _ F=>by rw [OpenClaim.pre_eq_preRow];exact qT7 os started H enc F)
theorem jJ4 (f:FuncId) (fn:Func) (hf:Tryz.pinned.checked.prog.funcNamed "salvor/salvorlaw30.ParsePlaces" = some f) (hfn:Tryz.pinned.checked.prog.funcs[f]?=some fn) :
 false=Tryz.pinned.checked.prog.looks []∧∀ (j:Nat) t,fn.params[j]?=some t→Tryz.pinned.checked.prog.wantsStandIn t=false:=by
 obtain rfl:f=4:=Option.some.inj ((show Tryz.prog.funcNamed "salvor/salvorlaw30.ParsePlaces" = some 4 by kernel_rfl).symm.trans hf) |>.symm;obtain rfl:fn=Tryz.f4:=(Option.some.inj (Tryz.func4.symm.trans hfn)).symm;refine⟨Yk,fun j t ht=>?_⟩;rw [Tryz.params4]at ht;have hm:=Array.mem_of_getElem? ht;have hor:t=22∨t=4:=by simpa using hm
 rcases hor with rfl | rfl
 ·exact(show Tryz.prog.wantsStandIn 22=false by kernel_rfl)
 ·exact(show Tryz.prog.wantsStandIn 4=false by kernel_rfl)
theorem parsePlaces_holds:Rows.ParsePlacesCardSaid :=
 Claim7.holds_tied_plain_at .later [] _ _ _ _ zY9 (fun _ h=>by cases h) Yk (fun _ h=>by cases h) parsePlaces_row_tie rfl ⟨rfl,rfl⟩ Yk rfl jJ4 Yk
end
end Go.Proofs.YtfdaebgllibphaaGreatDoor
