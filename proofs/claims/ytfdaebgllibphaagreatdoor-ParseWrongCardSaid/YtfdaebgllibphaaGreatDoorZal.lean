import Derived.Test.YtfdaebgllibphaaGreatDoorZak
set_option linter.unusedVariables false
set_option linter.unusedSimpArgs false
set_option maxRecDepth 100000
set_option maxHeartbeats 16000000
namespace Go.Proofs.YtfdaebgllibphaaGreatDoor
section
open Go.RowKit Go.PlainAid
theorem qL8 (t:List UInt8):(kM t=none∧t≠[119,114,105,116,101]∧t≠[102,108,117,115,104]∧t≠[98,97,114,114,105,101,114]∧t≠[105,102]∧t≠[119,104,105,108,101]∧t≠[99,97,108,108])∨(kM t=some 3∧t=[119,114,105,116,101])∨(kM t=some 4∧t=[102,108,117,115,104])∨(kM t=some 5∧t=[98,97,114,114,105,101,114])∨(kM t=some 6∧t=[105,102])∨(kM t=some 7∧t=[119,104,105,108,101])∨(kM t=some 8∧t=[99,97,108,108]):=by
 have e:bs "write" = [119,114,105,116,101]∧bs "flush" = [102,108,117,115,104]∧bs "barrier" = [98,97,114,114,105,101,114]∧bs "if" = [105,102]∧bs "while" = [119,104,105,108,101]∧bs "call" = [99,97,108,108]:=Yd;obtain⟨e0,e1,e2,e3,e4,e5⟩:=e;unfold kM;rw [e0,e1,e2,e3,e4,e5];by_cases h0:t=[119,114,105,116,101]
 ·exact .inr (.inl (⟨by rw [lM h0],h0⟩))
 by_cases h1:t=[102,108,117,115,104]
 ·exact .inr (.inr (.inl (⟨by rw [lN h0];rw [lM h1],h1⟩)))
 by_cases h2:t=[98,97,114,114,105,101,114]
 ·exact .inr (.inr (.inr (.inl (⟨by rw [lN h0];rw [lN h1];rw [lM h2],h2⟩))))
 by_cases h3:t=[105,102]
 ·exact .inr (.inr (.inr (.inr (.inl (⟨by rw [lN h0];rw [lN h1];rw [lN h2];rw [lM h3],h3⟩)))))
 by_cases h4:t=[119,104,105,108,101]
 ·exact .inr (.inr (.inr (.inr (.inr (.inl (⟨by rw [lN h0];rw [lN h1];rw [lN h2];rw [lN h3];rw [lM h4],h4⟩))))))
 by_cases h5:t=[99,97,108,108]
 ·exact .inr (.inr (.inr (.inr (.inr (.inr (⟨by rw [lN h0];rw [lN h1];rw [lN h2];rw [lN h3];rw [lN h4];rw [lM h5],h5⟩))))))
 exact .inl ⟨by rw [lN h0,lN h1,lN h2,lN h3,lN h4,lN h5],h0,h1,h2,h3,h4,h5⟩
theorem zH4 (t u:List UInt8):(u == (str t).toList)=decide (t=u):=by
 rw [qB,qE];by_cases h:t=u
 ·simp [h]
 ·simp [h];exact fun e=>h e.symm
theorem jD6 (w:World):Calls Tryz.prog 133 #[] w fun e w'=>e=.returned (.agg #[.string ⟨#[119,114,105,116,101]⟩,uF 148,.string ⟨#[102,108,117,115,104]⟩,uF 149,.string ⟨#[98,97,114,114,105,101,114]⟩,uF 150,.string ⟨#[105,102]⟩,uF 151,.string ⟨#[119,104,105,108,101]⟩,uF 152,.string ⟨#[99,97,108,108]⟩,uF 153])∧Below w.heap.size w w':=by
 go_enter Tryz.func133,Tryz.ntmps133
 go_wp2_with fail
 have c0:(w.alloc (.cells #[.string ⟨#[119,114,105,116,101]⟩,uF 148,.string ⟨#[102,108,117,115,104]⟩,uF 149,.string ⟨#[98,97,114,114,105,101,114]⟩,uF 150,.string ⟨#[105,102]⟩,uF 151,.string ⟨#[119,104,105,108,101]⟩,uF 152,.string ⟨#[99,97,108,108]⟩,uF 153] 200)).cell? ⟨w.heap.size,0,none⟩=some (.string ⟨#[119,114,105,116,101]⟩):=(Bk.new w _ _).cell 0;have c1:(w.alloc (.cells #[.string ⟨#[119,114,105,116,101]⟩,uF 148,.string ⟨#[102,108,117,115,104]⟩,uF 149,.string ⟨#[98,97,114,114,105,101,114]⟩,uF 150,.string ⟨#[105,102]⟩,uF 151,.string ⟨#[119,104,105,108,101]⟩,uF 152,.string ⟨#[99,97,108,108]⟩,uF 153] 200)).cell? ⟨w.heap.size,1,none⟩=some (uF 148):=(Bk.new w _ _).cell 1;have c2:(w.alloc (.cells #[.string ⟨#[119,114,105,116,101]⟩,uF 148,.string ⟨#[102,108,117,115,104]⟩,uF 149,.string ⟨#[98,97,114,114,105,101,114]⟩,uF 150,.string ⟨#[105,102]⟩,uF 151,.string ⟨#[119,104,105,108,101]⟩,uF 152,.string ⟨#[99,97,108,108]⟩,uF 153] 200)).cell? ⟨w.heap.size,2,none⟩=some (.string ⟨#[102,108,117,115,104]⟩):=(Bk.new w _ _).cell 2;have c3:(w.alloc (.cells #[.string ⟨#[119,114,105,116,101]⟩,uF 148,.string ⟨#[102,108,117,115,104]⟩,uF 149,.string ⟨#[98,97,114,114,105,101,114]⟩,uF 150,.string ⟨#[105,102]⟩,uF 151,.string ⟨#[119,104,105,108,101]⟩,uF 152,.string ⟨#[99,97,108,108]⟩,uF 153] 200)).cell? ⟨w.heap.size,3,none⟩=some (uF 149):=(Bk.new w _ _).cell 3;have c4:(w.alloc (.cells #[.string ⟨#[119,114,105,116,101]⟩,uF 148,.string ⟨#[102,108,117,115,104]⟩,uF 149,.string ⟨#[98,97,114,114,105,101,114]⟩,uF 150,.string ⟨#[105,102]⟩,uF 151,.string ⟨#[119,104,105,108,101]⟩,uF 152,.string ⟨#[99,97,108,108]⟩,uF 153] 200)).cell? ⟨w.heap.size,4,none⟩=some (.string ⟨#[98,97,114,114,105,101,114]⟩):=(Bk.new w _ _).cell 4;have c5:(w.alloc (.cells #[.string ⟨#[119,114,105,116,101]⟩,uF 148,.string ⟨#[102,108,117,115,104]⟩,uF 149,.string ⟨#[98,97,114,114,105,101,114]⟩,uF 150,.string ⟨#[105,102]⟩,uF 151,.string ⟨#[119,104,105,108,101]⟩,uF 152,.string ⟨#[99,97,108,108]⟩,uF 153] 200)).cell? ⟨w.heap.size,5,none⟩=some (uF 150):=(Bk.new w _ _).cell 5;have c6:(w.alloc (.cells #[.string ⟨#[119,114,105,116,101]⟩,uF 148,.string ⟨#[102,108,117,115,104]⟩,uF 149,.string ⟨#[98,97,114,114,105,101,114]⟩,uF 150,.string ⟨#[105,102]⟩,uF 151,.string ⟨#[119,104,105,108,101]⟩,uF 152,.string ⟨#[99,97,108,108]⟩,uF 153] 200)).cell? ⟨w.heap.size,6,none⟩=some (.string ⟨#[105,102]⟩):=(Bk.new w _ _).cell 6;have c7:(w.alloc (.cells #[.string ⟨#[119,114,105,116,101]⟩,uF 148,.string ⟨#[102,108,117,115,104]⟩,uF 149,.string ⟨#[98,97,114,114,105,101,114]⟩,uF 150,.string ⟨#[105,102]⟩,uF 151,.string ⟨#[119,104,105,108,101]⟩,uF 152,.string ⟨#[99,97,108,108]⟩,uF 153] 200)).cell? ⟨w.heap.size,7,none⟩=some (uF 151):=(Bk.new w _ _).cell 7;have c8:(w.alloc (.cells #[.string ⟨#[119,114,105,116,101]⟩,uF 148,.string ⟨#[102,108,117,115,104]⟩,uF 149,.string ⟨#[98,97,114,114,105,101,114]⟩,uF 150,.string ⟨#[105,102]⟩,uF 151,.string ⟨#[119,104,105,108,101]⟩,uF 152,.string ⟨#[99,97,108,108]⟩,uF 153] 200)).cell? ⟨w.heap.size,8,none⟩=some (.string ⟨#[119,104,105,108,101]⟩):=(Bk.new w _ _).cell 8;have c9:(w.alloc (.cells #[.string ⟨#[119,114,105,116,101]⟩,uF 148,.string ⟨#[102,108,117,115,104]⟩,uF 149,.string ⟨#[98,97,114,114,105,101,114]⟩,uF 150,.string ⟨#[105,102]⟩,uF 151,.string ⟨#[119,104,105,108,101]⟩,uF 152,.string ⟨#[99,97,108,108]⟩,uF 153] 200)).cell? ⟨w.heap.size,9,none⟩=some (uF 152):=(Bk.new w _ _).cell 9;have c10:(w.alloc (.cells #[.string ⟨#[119,114,105,116,101]⟩,uF 148,.string ⟨#[102,108,117,115,104]⟩,uF 149,.string ⟨#[98,97,114,114,105,101,114]⟩,uF 150,.string ⟨#[105,102]⟩,uF 151,.string ⟨#[119,104,105,108,101]⟩,uF 152,.string ⟨#[99,97,108,108]⟩,uF 153] 200)).cell? ⟨w.heap.size,10,none⟩=some (.string ⟨#[99,97,108,108]⟩):=(Bk.new w _ _).cell 10;have c11:(w.alloc (.cells #[.string ⟨#[119,114,105,116,101]⟩,uF 148,.string ⟨#[102,108,117,115,104]⟩,uF 149,.string ⟨#[98,97,114,114,105,101,114]⟩,uF 150,.string ⟨#[105,102]⟩,uF 151,.string ⟨#[119,104,105,108,101]⟩,uF 152,.string ⟨#[99,97,108,108]⟩,uF 153] 200)).cell? ⟨w.heap.size,11,none⟩=some (uF 153):=(Bk.new w _ _).cell 11;refine lK (v:=.agg #[.string ⟨#[119,114,105,116,101]⟩,uF 148,.string ⟨#[102,108,117,115,104]⟩,uF 149,.string ⟨#[98,97,114,114,105,101,114]⟩,uF 150,.string ⟨#[105,102]⟩,uF 151,.string ⟨#[119,104,105,108,101]⟩,uF 152,.string ⟨#[99,97,108,108]⟩,uF 153]) (by simp [results,Tryz.results133,go_sem,c0,c1,c2,c3,c4,c5,c6,c7,c8,c9,c10,c11]) rfl ?_;exact⟨rfl,zB⟩
end
section
open Go.RowKit Go.Shelf
theorem zS7 {W:World} {l:Nat} {o':Obj} {k:Nat} {o:Obj} (hk:k≠l) (h:W.heap[k]?=some o):(W.putObj l o').heap[k]?=some o:=(World.putObj_heap_other hk).trans h
theorem jD7 {α:Type} {F:Fence} {n:Nat} {P:Program} {g:Operand} {ps:Array Tmp} {assign body:Code} {Q:Exit→Act→World→Prop} {a:Act} {w:World}
 (hro:F.round=none) (h1:1≤n) {gf:Nat} {lb:Array Value} (hg:a.eval g=.func (.func gf) #[] lb) (hFg:F.fn gf) (eg:∀ args w,(callFunc gf args).run P w=.ok (.enter gf args) w)
 {encs:α→Array Value} (hps:∀ x,(encs x).size=ps.size) (I:List α→World→Prop) (G:List α→α→World→World→Prop) (R:α→World→Prop) (S:List α→Prop) (Rf:World→Prop)
 (hI:∀ pre W l o o',w.heap.size≤l→I pre W→W.heap[l]?=some o→o.isCells=false→I pre (W.putObj l o'))
 (hR:∀ x W l o o',w.heap.size≤l→R x W→W.heap[l]?=some o→o.isCells=false→R x (W.putObj l o'))
 (hRf:∀ W l o o',w.heap.size≤l→Rf W→W.heap[l]?=some o→o.isCells=false→Rf (W.putObj l o'))
 (h0:∀ o,I [] ((w.alloc (.deferred (some []))).alloc (.loop o)))
 (hseq:∀ (l:Nat) (J:List α→World→Prop) (o:Loop),(∀ pre W,J pre W→I pre W)→(∀ pre W W',J pre W→KeepsOthers W W'→I pre W'→J pre W') →
   (∀ pre x W0 W,J pre W0→J pre W→G pre x W0 W→YieldAt F (n-1-1) P l (encs x) W fun e W'=>e=.returned (.bool true)∧J (pre++[x]) W'∧R x W') →
   J [] ((w.alloc (.deferred (some []))).alloc (.loop o)) →
   CallsIn F (n-1) P gf (#[.func (.yield l) #[] #[]]++lb) ((w.alloc (.deferred (some []))).alloc (.loop o)) fun e W'=>(∃ v,e=.returned v)∧∃ xs,S xs∧J xs W'∧Rf W')
 (hround:∀ (l:Nat) (pre:List α) (x:α) (W0 W:World),I pre W0→G pre x W0 W→assign.wpIn (F.inRound l) (n-1-1) P (Exit.then (fun a' W'=>KeepsOthers W W' ∧
   ∀ o o',w.heap.size≤l→W'.heap[l]?=some o→o.isCells=false→body.wpIn (F.inRound l) (n-1-1) P (fun e _ W3=>e=.normal∧KeepsOthers (W'.putObj l o') W3∧I (pre++[x]) W3∧R x W3) a' (W'.putObj l o')) (fun _ _ _=>False))
   { tmps:=(ps.zip (encs x)).foldl (fun t (p,v)=>t.setIfInBounds p v) a.tmps,defers:=[] } W)
 (hdone:∀ (D:Nat) (xs:List α) (W:World),w.heap.size≤D→S xs→I xs W→Rf W→W.heap[D]?=some (.deferred (some []))→Q .normal { a with defers:={ target:=.collected D,args:=#[] } :: a.defers } W) :
 (Code.rangeFunc g ps assign body).wpIn F n P Q a w:=by
 refine wpIn_rangeFunc fun fn hfn=>?_;rw [hro];let rc:Loop:={ state:=.ready,pending:=none,fn,tmps:=a.tmps,params:=ps,assign,body,defers:=w.heap.size }
 have hl0:((w.alloc (.deferred (some []))).alloc (.loop rc)).heap[w.heap.size+1]?=some (.loop rc):=by have:=World.alloc_heap_new (w.alloc (.deferred (some []))) (.loop rc);rwa [lO]at this
 have hd0:((w.alloc (.deferred (some []))).alloc (.loop rc)).heap[w.heap.size]?=some (.deferred (some [])):=(Below.heap_alloc _ _ _ Ym).trans (World.alloc_heap_new w _)
 refine⟨w.heap.size+1,[{ target:=.collected w.heap.size,args:=#[] }],((w.alloc (.deferred (some []))).alloc (.loop rc)),{ target:=.fn (.func gf) lb,args:=#[.func (.yield (w.heap.size+1)) #[] #[]] },((w.alloc (.deferred (some []))).alloc (.loop rc)),gf,#[.func (.yield (w.heap.size+1)) #[] #[]]++lb,((w.alloc (.deferred (some []))).alloc (.loop rc)),
  run_enterLoop_outer fn a.tmps ps assign body,?_,?_,?_,fun _=>h1,?_⟩
 ·simp only [resolve,hg];simp [go_sem]
 ·intro f' hf';simp [Target.leads]at hf';subst hf';exact hFg
 ·simp [invoke,go_sem,eg]
 ·refine(hseq (w.heap.size+1) (fun pre W=>I pre W∧W.heap[w.heap.size+1]?=some (.loop rc)∧W.heap[w.heap.size]?=some (.deferred (some []))) rc (fun pre W h=>h.1)
   (fun pre W W' h hk hi=>⟨hi,hk.same _ _ h.2.1 rfl,hk.same _ _ h.2.2 rfl⟩) ?_ ⟨h0 rc,hl0,hd0⟩).mono ?_
  ·rintro pre x W0 W ⟨hi0,_,_⟩ ⟨hi,hl,hd⟩ hgx;refine⟨fn,_,assign,body,run_yield (P:=P) (args:=encs x) hl (hps x),roundIn_of_wpIn hfn (wpIn_mono (hround _ pre x W0 W hi0 hgx) ?_)⟩;rintro e a' W' he;cases e with
   | normal =>
     obtain⟨hk,hb⟩:=he;have hl':=hk.same _ _ hl rfl;have hd':=hk.same _ _ hd rfl;have hlt:w.heap.size+1<W'.heap.size:=zO hl';refine⟨_,run_beginRound hl' rfl,wpIn_mono (hb _ _ Yo hl' rfl) ?_⟩;rintro e a3 W3 ⟨rfl,hk3,hi3,hr3⟩;have hl2:(W'.putObj (w.heap.size+1) (.loop { rc with state:=.busy })).heap[w.heap.size+1]?=some (.loop { rc with state:=.busy }):=World.putObj_heap_same hlt;have hl3:=hk3.same _ _ hl2 rfl;have hd3:=hk3.same _ _ (zS7 (l:=w.heap.size+1) (o':=.loop { rc with state:=.busy }) Yo hd') rfl;have hlt3:w.heap.size+1<W3.heap.size:=zO hl3;refine⟨_,_,run_endRound (P:=P) none hl3,rfl,⟨hI _ _ _ _ _ Yo hi3 hl3 rfl,World.putObj_heap_same hlt3,zS7 Yo hd3⟩,hR _ _ _ _ _ Yo hr3 hl3 rfl⟩
   | ret=>exact he.elim
   | exit id=>exact he.elim
   | goto t=>exact he.elim
   | panic ch=>exact he.elim
   | outgrown=>exact he.elim
  ·rintro e W2 ⟨⟨v,rfl⟩,xs,hS,⟨hi,hl,hd⟩,hrf⟩;exact⟨none,_,run_endLoop (P:=P) hl (by simp [rc]),hdone _ xs _ (lF _) hS (hI _ _ _ _ _ Yo hi hl rfl) (hRf _ _ _ _ Yo hrf hl rfl) (zS7 Yo hd)⟩
end
section
open Go.RowKit Go.PlainAid
def vI (n:Nat):Code→Option Code
 | .region m o d=>if m=n then some (.region m o d) else none
 | .seq a b=>match vI n a with
   | some c=>some c
   | none=>vI n b
 | .cond _ a b=>match vI n a with
   | some c=>some c
   | none=>vI n b
 | .block _ b=>vI n b
 | .loop b=>vI n b
 | .scope b=>vI n b
 | _=>none
section
variable {B:Nat} {p:Nat} {E:Env} {T:TV}
theorem kG7 (q:QSt) (W:World) (pb bt tk ta tf:Nat) (HP:Hid (Pq B W p E T q)) (HL:Hid (q.l.length≤800000000)) (HT:Hid (Bk W bt 44 #[uB tk,uI ta,uI tf])) (HPB:Hid (Bk W pb 103 #[uQ p 0]))
 (c:Code) (hc:(Tryz.f130.body.bind (vI 12))=some c) (s0 s2 s4 s5 s6 s7 s8 s9 s10 s11 s12 s13 s14 s15 s16 s17 s18 s19 s20 s21 s22 s23 s24 s25 s26 s27 s28 s29 s30 s31 s32 s33 s34 s35 s36 s37 s38 s39 s40 s41 s42 s43 s44 s45 s46 s47 s48 s49 s50 s51 s52 s53 s54 s55 s56 s57 s58 s59 s60 s61 s62 s63:Value) (K1:Act→World→Prop) (Q1:Exit→Act→World→Prop)
 (hK:∀ (x47 x48 x49 x50 x51 x52 x53 x54 x55 x56 x57:Value) (W':World),Hid (PQ B W p E T ⟨q.s,q.l++[ta]⟩ W')→K1 ⟨#[s0,uQ pb 0,s2,uQ bt 0,s4,s5,s6,s7,s8,s9,s10,s11,s12,s13,s14,s15,s16,s17,s18,s19,s20,s21,s22,s23,s24,s25,s26,s27,s28,s29,s30,s31,s32,s33,s34,s35,s36,s37,s38,s39,s40,s41,s42,s43,s44,s45,s46,x47,x48,x49,x50,x51,x52,x53,x54,x55,x56,x57,s58,s59,s60,s61,s62,s63],[]⟩ W'):Code.wp Tryz.prog c (Exit.then K1 Q1) ⟨#[s0,uQ pb 0,s2,uQ bt 0,s4,s5,s6,s7,s8,s9,s10,s11,s12,s13,s14,s15,s16,s17,s18,s19,s20,s21,s22,s23,s24,s25,s26,s27,s28,s29,s30,s31,s32,s33,s34,s35,s36,s37,s38,s39,s40,s41,s42,s43,s44,s45,s46,s47,s48,s49,s50,s51,s52,s53,s54,s55,s56,s57,s58,s59,s60,s61,s62,s63],[]⟩ W:=by
 have hc2:some _=some c:=hc;injection hc2 with hc2;subst hc2;clear hc;refine Code.wp_mono (Q:=Exit.then K1 (fun _ _ _=>False)) (fun e a w h=>by cases e <;> first | exact h | exact h.elim) ?_;obtain⟨Q,A2,k2,w6,hps,hrun,hps2,hpq,hfr,hbk,hbk6⟩:=(HP.out.below (lB _ _).drew).atrun ta HL.out;have hpa:=hps.below (zB (o:=(.cells #[uI ta] 3)));have hb0:Bk W p 152 (zZ6 E T Q q.s):=hps.bk;have e4:(W.alloc (.cells #[uI ta] 3)).cell? ⟨p,4,none⟩=some (uL Q):=(zD hb0 (zB (o:=(.cells #[uI ta] 3)))).cell 4;have g4:=hps.cells.2.2.2.2.1;have a4:=hpa.cells.2.2.2.2.1;have t1:=(zD HT.out (lB _ _).drew).cell 1;have u1:=(zD (zD HT.out (lB _ _).drew) (zB (o:=(.cells #[uI ta] 3)))).cell 1;have v1:=(zD HT.out (zB (o:=(.cells #[uI ta] 3)))).cell 1;have pb0:W.drew.cell? ⟨pb,0,none⟩=some (uQ p 0):=HPB.out.cell 0;have pb1:(W.alloc (.cells #[uI ta] 3)).cell? ⟨pb,0,none⟩=some (uQ p 0):=(zD HPB.out zB).cell 0;have pb2:w6.cell? ⟨pb,0,none⟩=some (uQ p 0):=(hbk6 _ _ _ (show Bk W.drew pb 103 #[uQ p 0] from HPB.out) Yd).cell 0;have pb3:W.cell? ⟨pb,0,none⟩=some (uQ p 0):=HPB.out.cell 0;have t1:W.drew.cell? ⟨bt,1,none⟩=some (uI ta):=t1;have u1:(W.drew.alloc (.cells #[uI ta] 3)).cell? ⟨bt,1,none⟩=some (uI ta):=u1;have v1:(W.alloc (.cells #[uI ta] 3)).cell? ⟨bt,1,none⟩=some (uI ta):=v1;have HRUN:=Ph hrun;have HPS2:=Ph hps2;have HPQ:=Ph hpq;have HFR:=Ph hfr;have HK1:=Ph hK;clear hps hpa hb0 hrun hps2 hpq hfr hbk hbk6 hK
 go_region_law (first
  | (refine qG rfl (.tmp 51) (.tmp 54) rfl _ _ _ rfl rfl (HRUN.out _) ?_
     clear g4 a4 t1 u1 e4 v1;obtain⟨g0,g1,g2,g3,g4,g5,g6⟩:=HPS2.out.cells;have gz:=HPS2.out.frozens 4))
 all_goals
  go_wp2
  with_reducible exact HK1.out _ _ _ _ _ _ _ _ _ _ _ _ (Ph ⟨HPQ.out,(FrQ.of_below (lB _ _).drew).trans HFR.out⟩)
end
end
end Go.Proofs.YtfdaebgllibphaaGreatDoor
