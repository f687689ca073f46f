/- ParseCuts returns true, and its arguments read as before, for every list of bytes and every place; the listed package variables start as the program's text lays them (the card ties them to it). -/
import Derived.Test.YtfdaebgllibphaaGreatDoorCards
import Derived.Test.YtfdaebgllibphaaGreatDoorTie
import Derived.ProofKit
import Derived.OpenShut
import Derived.Deep.DeepHandedRow
import Derived.Stop.LaidErr
import Derived.Shelf.Vars
import Derived.Deep.DeepWitnessRowRef
import Derived.ChangeSlices
import Derived.Deep.Slices
import Derived.ChangeMaps5
import Derived.ChangeSame
import Derived.JoinedOf
import Derived.JoinedAt
import Derived.JoinedStill
import Derived.RowKit
import Derived.Below
import Derived.Carry
import Derived.Deep.DeepLaidRun
import Derived.Test.YtfdaebgllibphaaGreatDoorYay
set_option linter.unusedVariables false
set_option linter.unusedSimpArgs false
set_option maxRecDepth 100000
set_option maxHeartbeats 16000000
namespace Go.Proofs.YtfdaebgllibphaaGreatDoor
section
open Go.ChangeShapes Go.WideShapes Go.ChangeAt Go.RowKit
def qU8:List (String×DataW Unit):=[("unicode.White_Space",Rows.laid_unicode_White_Space),("strings.asciiSpace",Rows.laid_strings_asciiSpace)]
theorem jL2 {P:Program} {w:World} {x:String×DataW Unit} {r:List (String×DataW Unit)} (h:laidMet P (x :: r) w):laidMet P r w:=by obtain⟨n,d⟩:=x;obtain⟨ps,⟨g,t,cs,f,p,q,_,_,_,_,hq,e⟩,hn,hr⟩:=h;subst e;exact⟨q,hq,(List.nodup_append.1 hn).2.1,fun b off hb=>hr b off (List.mem_append_right _ hb)⟩
theorem kS6:ownKnob Tryz.prog.godebug=none:=Yk
theorem kK7:(Tryz.prog.globals[3]?).map (·.type)=some 208:=Yk
theorem jS2:Tryz.prog.cellsOf 208=256:=Yk
theorem kD5:Tryz.prog.cellsOf 5=1:=Yk
theorem kD6:(Rows.laid_strings_asciiSpace:DataW Unit)=Lib.tabData .u8 Lib.asciiSpaceTab:=Yk
theorem kD7 {n:Int} (h:(Lit.int .u8 n).wf=true):0≤n∧n≤255:=by simp only [Lit.wf,lZ,cC]at h;exact⟨h.1,h.2⟩
theorem jL3 {W:World} (h:laidMet Tryz.prog qU8 W) (hs:W.ShapedOpen Tryz.prog):Vars W:=by
 unfold qU8 at h;have h8:=jL2 h;rw [kD6]at h8
 exact⟨cell_of_shapedOpen_int (g:=0) (t:=3) (zero:=#[uI 0]) hs (by decide +kernel) Yk rfl Yk Yk Tryz.underlying3,
  Lib.tabIs_of_head (zs:=Lib.asciiSpaceTab) jA5 kK7 Tryz.underlying208 Tryz.underlying5 kD5 jS2 h8⟩
noncomputable def kR2:Nat:=(World.holding Tryz.prog default ⟨#[],#[],[]⟩).heap.size
def jW1 (cs:Array Value):Obj→Obj
 | .cells _ t frozen=>.cells cs t frozen
 | o=>o
noncomputable def zH7 (os:Os):World :=
 let w0:=World.holding Tryz.prog os ⟨#[.cells #[.int .u16 9,.int .u16 13,.int .u16 1,.int .u16 32,.int .u16 133,.int .u16 101,.int .u16 160,.int .u16 5760,.int .u16 5600,.int .u16 8192,.int .u16 8202,.int .u16 1,.int .u16 8232,.int .u16 8233,.int .u16 1,.int .u16 8239,.int .u16 8287,.int .u16 48,.int .u16 12288,.int .u16 12288,.int .u16 1] 241,.cells #[.slice (some ⟨kR2,0,none⟩) 7 7,uN,uI 2] 239],#[],[]⟩
 { w0 with heap:=((w0.heap.modify 3 (jW1 #[uB 0,uB 0,uB 0,uB 0,uB 0,uB 0,uB 0,uB 0,uB 0,uB 1,uB 1,uB 1,uB 1,uB 1,uB 0,uB 0,uB 0,uB 0,uB 0,uB 0,uB 0,uB 0,uB 0,uB 0,uB 0,uB 0,uB 0,uB 0,uB 0,uB 0,uB 0,uB 0,uB 1,uB 0,uB 0,uB 0,uB 0,uB 0,uB 0,uB 0,uB 0,uB 0,uB 0,uB 0,uB 0,uB 0,uB 0,uB 0,uB 0,uB 0,uB 0,uB 0,uB 0,uB 0,uB 0,uB 0,uB 0,uB 0,uB 0,uB 0,uB 0,uB 0,uB 0,uB 0,uB 0,uB 0,uB 0,uB 0,uB 0,uB 0,uB 0,uB 0,uB 0,uB 0,uB 0,uB 0,uB 0,uB 0,uB 0,uB 0,uB 0,uB 0,uB 0,uB 0,uB 0,uB 0,uB 0,uB 0,uB 0,uB 0,uB 0,uB 0,uB 0,uB 0,uB 0,uB 0,uB 0,uB 0,uB 0,uB 0,uB 0,uB 0,uB 0,uB 0,uB 0,uB 0,uB 0,uB 0,uB 0,uB 0,uB 0,uB 0,uB 0,uB 0,uB 0,uB 0,uB 0,uB 0,uB 0,uB 0,uB 0,uB 0,uB 0,uB 0,uB 0,uB 0,uB 0,uB 0,uB 0,uB 0,uB 0,uB 0,uB 0,uB 0,uB 0,uB 0,uB 0,uB 0,uB 0,uB 0,uB 0,uB 0,uB 0,uB 0,uB 0,uB 0,uB 0,uB 0,uB 0,uB 0,uB 0,uB 0,uB 0,uB 0,uB 0,uB 0,uB 0,uB 0,uB 0,uB 0,uB 0,uB 0,uB 0,uB 0,uB 0,uB 0,uB 0,uB 0,uB 0,uB 0,uB 0,uB 0,uB 0,uB 0,uB 0,uB 0,uB 0,uB 0,uB 0,uB 0,uB 0,uB 0,uB 0,uB 0,uB 0,uB 0,uB 0,uB 0,uB 0,uB 0,uB 0,uB 0,uB 0,uB 0,uB 0,uB 0,uB 0,uB 0,uB 0,uB 0,uB 0,uB 0,uB 0,uB 0,uB 0,uB 0,uB 0,uB 0,uB 0,uB 0,uB 0,uB 0,uB 0,uB 0,uB 0,uB 0,uB 0,uB 0,uB 0,uB 0,uB 0,uB 0,uB 0,uB 0,uB 0,uB 0,uB 0,uB 0,uB 0,uB 0,uB 0,uB 0,uB 0,uB 0,uB 0,uB 0,uB 0,uB 0,uB 0,uB 0,uB 0,uB 0,uB 0,uB 0,uB 0,uB 0,uB 0,uB 0,uB 0,uB 0,uB 0,uB 0,uB 0,uB 0,uB 0,uB 0])).modify 4 (jW1 #[.pointer (some ⟨kR2+1,0,none⟩)])) }
end
section
open Go.ChangeShapes Go.WideShapes Go.RowKit Go.Deep
def kL7 (l:List Nat):List Value:=l.map fun(m:Nat)=>uB m
theorem kP6 {w:World} {a:Addr} {xs:List Value} (h:∀ (i:Nat) (u:Value),xs[i]?=some u→w.cell? (a.add i)=some u):Rd w (some a) xs:=by
 intro hx;obtain⟨x,l,rfl⟩:=List.exists_cons_of_ne_nil hx;obtain⟨b,off,spot⟩:=a;have h0:=h 0 x rfl;have hs:spot=none:=by simpa [Addr.add]using World.cell?_spot h0
 subst hs;have ha:∀ i:Nat,(⟨b,off,none⟩:Addr).add i=⟨b,off+i,none⟩:=fun i=>by simp [Addr.add]
 cases hh:w.heap[b]? with
 | none=>rw [ha]at h0;simp [World.cell?,hh]at h0
 | some o =>
   cases o with
   | cells cs t fr =>
     refine⟨b,off,cs,t,fr,rfl,hh,fun j u hu=>?_⟩;have h1:=h j u hu;rw [ha]at h1;simpa [World.cell?,hh]using h1
   | _=>rw [ha]at h0;simp [World.cell?,hh]at h0
section
variable {H:Type} {enc:TypeId×Value→H} {w:World} {held:Bool}
theorem kK8 {n:Nat} {v:Value} {x:DataW H×List MemPlace} (h:DataW.trod enc Tryz.prog w 0 (fun _=>true) held n 22 [v]=some x):∃ (s:SV) (l:List Nat),v=.slice s.A s.n s.c∧Rd w s.A (kL7 l)∧l.length=s.n∧(∀ u∈l,u≤255)∧s.n≤maxLen∧s.n≤s.c:=by
 rcases open_ints Tryz.underlying22 Tryz.underlying5 Yk h with⟨hcs,_⟩ | ⟨a,len,cap,zs,hcs,_,hl,hm,hz,_,hcell,hwz⟩
 ·simp at hcs;exact⟨⟨none,0,0⟩,[],hcs,Rd.nil,rfl,fun u hu=>(by cases hu),lV _,lF _⟩
 ·simp at hcs;simp only [if_true]at hz;refine⟨⟨some a,len,cap⟩,(zs.take len).map Int.toNat,hcs,kP6 (fun i u hu=>?_),Yp,fun u hu=>?_,by dsimp only;omega,hl⟩
  ·unfold kL7 at hu;rw [List.map_map,cS,List.getElem?_take]at hu;split at hu
   ·rename_i hi;have hiz:i<zs.length:=Yo;rw [hcell i hiz,List.getD_eq_getElem?_getD,cK hiz];rw [cK hiz]at hu;have hb:=kD7 (hwz _ (List.getElem_mem hiz));have e:((zs[i].toNat:Nat):Int)=zs[i]:=Yo;simp [e]at hu;simpa using hu
   ·simp at hu
  ·obtain⟨z,hz',rfl⟩:=List.mem_map.1 hu;have:=kD7 (hwz z (List.mem_of_mem_take hz'));omega
end
theorem jL4 (l:List Nat) (h:∀ u∈l,u≤255):kL7 l=(l.map fun m=>UInt8.ofNat m).map fun b=>uB b.toNat:=by unfold kL7;rw [List.map_map];refine List.map_congr_left fun m hm=>?_;have:=h m hm;show uB m=uB ((UInt8.ofNat m).toNat:Int);rw [UInt8.toNat_ofNat_of_lt' (by show m<256;omega)]
theorem kK9 {n:Int} (h:(Lit.int .u16 n).wf=true):0≤n∧n≤65535:=by simp only [Lit.wf,lZ,cC]at h;exact⟨h.1,h.2⟩
end
section
open Go.ChangeShapes Go.WideShapes Go.ChangeAt Go.RowKit
open Go.ChangeMaps (open_string shut_string)
theorem qO5:laidOutB Tryz.prog=true:=Yk
theorem jL1 (os:Os):laidMet Tryz.prog qU8 ((zH7 os).forCall (fun _ _=>0) ⟨#[],#[uN,.int .u16 0],[]⟩).memory :=
 laidMet_of_run3 10 Yk Yk Yk
theorem jK2 (os:Os) {H:Type} (enc:TypeId×Value→H):∃ places,DataW.whole enc Tryz.prog ((zH7 os).forCall (fun _ _=>0) ⟨#[],#[.slice none 0 0,.int .u16 0],[]⟩).memory Tryz.f3.params.toList Rows.parseCutsSpec.vars false #[Value.slice none 0 0,Value.int .u16 0].toList 8=some ([.nil,.lit (.int .u16 0)],[],places) :=
 ⟨[],Yk⟩
theorem qO6 (os:Os) (started:os.Started) (H:Type) (enc:TypeId×Value→H) (F:Stop.Interp) :
 ReturnsInHanded {} Tryz.checked os 3 .any ((OpenSpec.ofChange Rows.parseCutsSpec).preRow enc Tryz.prog Tryz.f3 Rows.parseCutsRow.domain false Rows.parseCutsRow.laid) (((OpenSpec.ofChange Rows.parseCutsSpec).at F).post enc Tryz.prog Tryz.f3 false true false false):=by
 obtain⟨places,hx⟩:=jK2 os enc
 refine returnsInHanded_of_row (C:=Tryz.checked) (s:=OpenSpec.ofChange Rows.parseCutsSpec) kS6 started Yk Tryz.func3
  (witness_row_atRef (enc:=enc) (C:=Tryz.checked) false (zH7 os) #[uN,.int .u16 0] rfl Yk Yk Yk
    (OpenSpec.preRow_of_cond 8 hx Yk (fun k hk=>by cases hk) Yk (jL1 os))) ?_
 intro W base args ds gs before hval hW _ _ _ hL hSh _;have hW':=hW;obtain⟨p,q,hA0,hV,rfl,hfz,hnd⟩:=hW;have hA:DataW.TrodAll enc Tryz.prog W 0 (fun _=>true) true Tryz.f3.params.toList args.toList ds p:=hA0;rw [Tryz.params3]at hA hval;obtain⟨v0,v1,d0,d1,p0,p1,rfl,rfl,rfl,h0,h1⟩:=trodAll_two hA;obtain⟨rfl,rfl⟩:=trodVars_none hV;clear hA0;simp only [cT,lS]at hW';have hlt:∀ x∈p0++p1,x.block<W.heap.size:=fun x hx=>by simpa using hW'.lt x hx
 have h0k:=h0;have h1k:=h1;obtain⟨a0,len0,cap0,rfl⟩:=okWide_slice Tryz.underlying22 (hval 0 _ v0 rfl rfl);obtain⟨m1,rfl,_,_,hwf1⟩:=open_int Tryz.underlying23 (hval 1 23 v1 rfl rfl) h1;have hm1:=kK9 hwf1;obtain⟨k1,rfl⟩:∃ n:Nat,m1=(n:Int):=⟨m1.toNat,Yo⟩;obtain⟨n0,hf0⟩:=h0;have hf0':DataW.trod enc Tryz.prog W 0 (fun _=>true) true n0 22 [.slice a0 len0 cap0]=some (d0,p0):=by simpa [Value.cells]using hf0
 obtain⟨su,U,hsu,hu1,hu2,hu3,hu4,hu5⟩:=kK8 hf0';rw [hsu]at hf0' h0k hW' ⊢;rw [jL4 U hu3]at hu1;have hL7:laidMet Tryz.prog qU8 W:=hL;refine(jK1 su.A su.n su.c (U.map fun m=>UInt8.ofNat m) k1 Yo W (Ph (jL3 hL7 hSh)) (Ph hu1) (Ph (by rw [lW];exact hu2)) (by unfold maxLen at hu4;omega) hu5).mono fun e W' ⟨he,hb⟩=>?_;subst he;have hb1:∀ x∈p1,x.block<W.heap.size:=fun x hx=>hlt x (List.mem_append_right _ hx);exact⟨_,rfl,⟨_,_,_,[],_,[],hW',trodAll_mk1 (shut_bool Tryz.underlying4 _),trodAll_mk2 (Below.trod qO5 Yk (cM Yk) h0k hb (fun x hx=>hlt x (List.mem_append_left _ hx))) (Below.trod qO5 Yk (cM Yk) h1k hb hb1),rfl,hb.frame _,fun h=>by cases h⟩⟩
theorem zW3:Rows.ParseCutsSaid :=
 OpenClaim.holds_of_cond 3 Tryz.f3 rfl rfl rfl rfl rfl rfl rfl ⟨rfl,rfl,rfl,rfl,rfl⟩ rfl rfl rfl rfl rfl Yk Tryz.func3 Yk
  (cM Yk) (by unfold Func.isWrapper;first | (rw [lM (by decide +kernel)];kernel_rfl) | (rw [lN (by decide +kernel)];exact⟨rfl,rfl⟩))
  (fun os started H enc _ F=>by rw [OpenClaim.pre_eq_preRow];exact qO6 os started H enc F)
theorem qU5 (f:FuncId) (fn:Func) (hf:Tryz.pinned.checked.prog.funcNamed "salvor/salvorlaw30.ParseCuts" = some f) (hfn:Tryz.pinned.checked.prog.funcs[f]?=some fn) :
 false=Tryz.pinned.checked.prog.looks []∧∀ (j:Nat) t,fn.params[j]?=some t→Tryz.pinned.checked.prog.wantsStandIn t=false:=by
 obtain rfl:f=3:=Option.some.inj ((show Tryz.prog.funcNamed "salvor/salvorlaw30.ParseCuts" = some 3 by kernel_rfl).symm.trans hf) |>.symm;obtain rfl:fn=Tryz.f3:=(Option.some.inj (Tryz.func3.symm.trans hfn)).symm;refine⟨Yk,fun j t ht=>?_⟩;rw [Tryz.params3]at ht;have hm:=Array.mem_of_getElem? ht;have hor:t=22∨t=23:=by simpa using hm
 rcases hor with rfl | rfl
 ·exact(show Tryz.prog.wantsStandIn 22=false by kernel_rfl)
 ·exact(show Tryz.prog.wantsStandIn 23=false by kernel_rfl)
theorem parseCuts_holds:Rows.ParseCutsCardSaid :=
 Claim7.holds_tied_plain_at .later [] _ _ _ _ zW3 (fun _ h=>by cases h) Yk (fun _ h=>by cases h) parseCuts_row_tie rfl ⟨rfl,rfl⟩ Yk rfl qU5 Yk
end
end Go.Proofs.YtfdaebgllibphaaGreatDoor
