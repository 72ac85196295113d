/- Texts of this proof, one after the other: RngP, EndA, MapS, Glob, OrdP, RefP, RejP, TreeP, TreeQ, TreeR, Ent, TreeM, FtA, FtB, EndB, SealB, RoundR, OwnE, EndC, BuildP, WrA, WrB, ItemF, NodA, Lib. -/
import Derived.Test.YtpffpjbkbaleiaaGreatDoorCBuildsC
set_option maxRecDepth 100000
set_option maxHeartbeats 8000000
namespace Go.Proofs.YtpffpjbkbaleiaaGreatDoor
open Go Go.RowKit
def AP {σ:Type} (mt:TypeId) (n:Nat) (I:σ->World->Prop):Prop:=
 ∀s A B row,I s A->A.grownBy B row->(∀r,row=some r->n<=r/\ ∃cs,A.heap[r]? =some (.cells cs mt (0,0)))->I s B
def Jv {α:Type} (P:Program) (g:Nat) (lb:Array Value) (encs:α->Array Value) (D:List α->α->World->Prop) (Kp:World->World->Prop) (S Sp:List α->Prop) (N:Nat) (mt:TypeId) (w:World):Prop:=
 ∀(l:Nat) (J Jx:List α->World->Prop) (W:World),Below w.heap.size w W->AP mt W.heap.size J->
  (∀pre x A,J pre A->D pre x A->pre.length<N->YieldAt Fence.wide 2 P l (encs x) A fun e B=>(e= .returned (.bool true)/\J (pre++[x]) B/\Kp A B)\/(e= .returned (.bool false)/\Jx (pre++[x]) B))->
  J [] W->
  CallsIn Fence.wide 3 P g (#[.func (.yield l) #[] #[]]++lb) W fun e B=>(∃v,e= .returned v)/\((∃xs,S xs/\J xs B)\/(∃pre,Sp pre/\Jx pre B))
section
variable {P : Program} {α : Type}
theorem DX {g:Operand} {ps:Array Tmp} {assign body:Code} {Q:Exit->Act->World->Prop} {a:Act} {w:World} {gf:Nat} {lb:Array Value} (hg:a.eval g= .func (.func gf) #[] lb) (eg: ∀args w,(callFunc gf args).run P w= .ok (.enter gf args) w)
  {encs:α->Array Value} {D:List α->α->World->Prop} {Kp:World->World->Prop} {S Sp:List α->Prop} {N:Nat} {mt:TypeId} (hseq:Jv P gf lb encs D Kp S Sp N mt w)
  (hKt: ∀ {A B C:World},Kp A B->Kp B C->Kp A C) (hKb: ∀(W:World) (l:Nat) (o o':Obj),w.heap.size<=l->W.heap[l]? =some o->o.isCells=false->o.isWalk=false->Kp W (W.putObj l o')) (hps: ∀x,(encs x).size=ps.size)
  (I:List α->World->Prop) (Ix:Code->List α->World->Prop) (Ax:List α->α->Act->World->Prop) (hI:OwnFrom w.heap.size I) (hI2:AP mt w.heap.size I) (hIx: ∀c,OwnFrom w.heap.size (Ix c))
  (hAx:OwnFrom w.heap.size (fun(s:List α×α×Act) W=>Ax s.1 s.2.1 s.2.2 W)) (h0:I [] w)
  (hassign: ∀(l:Nat) (pre:List α) (x:α) (W:World),w.heap.size<W.heap.size->I pre W->D pre x W->pre.length<N->assign.wpIn (Fence.wide.inRound l) 2 P (Exit.then (fun a₁ B=>KeepsOthers W B/\Kp W B/\Ax pre x a₁ B) (fun _ _ _=>False)) {tmps:=(ps.zip (encs x)).foldl (fun t (p,v)=>t.setIfInBounds p v) a.tmps,defers:=[]} W)
  (hbody: ∀(l:Nat) (pre:List α) (x:α) (a₁:Act) (W:World),Ax pre x a₁ W->body.wpIn (Fence.wide.inRound l) 2 P (FH Kp I Ix (pre++[x]) W) a₁ W)
  (hdone: ∀(Dl:Nat) (xs:List α) (W:World),w.heap.size<=Dl->S xs->I xs W->W.heap[Dl]? =some (.deferred (some []))->Q .normal {a with defers:= {target:= .collected Dl,args:= #[]} ::a.defers} W)
  (hstop: ∀(Dl:Nat) (c:Code) (pre:List α) (W:World),w.heap.size<=Dl->Sp pre->Ix c pre W->W.heap[Dl]? =some (.deferred (some []))->c.wp P Q {a with defers:= {target:= .collected Dl,args:= #[]} ::a.defers} W):
  (Code.rangeFunc g ps assign body).wp P Q a w:=by
 refine(wpIn_wide (n:=4)).1 (wpIn_rangeFunc (fun fn hfn=> ?_))
 show ∃l mark w₁ d w₁' f args w₂,_
 let rec_:LoopState->Option Code->Loop:=fun st pe=> {state:=st,pending:=pe,fn:=fn,tmps:=a.tmps,params:=ps,assign:=assign,body:=body,defers:=w.heap.size}
 obtain⟨rec,hrec⟩: ∃r,r=rec_:=⟨_,rfl⟩;have hrp: ∀st pe,(rec st pe).params=ps:=fun st pe=>by rw[hrec]
 have hrs: ∀st pe,(rec st pe).state=st:=fun st pe=>by rw[hrec]
 have hrj: ∀st pe,(rec st pe).pending=pe:=fun st pe=>by rw[hrec]
 obtain⟨L,hL⟩: ∃L,L=w.heap.size+1:=⟨_,rfl⟩;obtain⟨V,hV⟩: ∃V,(w.alloc (.deferred (some []))).alloc (.loop (rec .ready none))=V:=⟨_,rfl⟩;have hVL:V.heap[L]? =some (.loop (rec .ready none)):=by
  rw[<-hV,hL]; have:=World.alloc_heap_new (w.alloc (.deferred (some []))) (.loop (rec .ready none)); rwa [World.size_alloc]at this
 have hVD:V.heap[w.heap.size]? =some (.deferred (some [])):=by
  rw[<-hV]; exact(Below.heap_alloc _ _ _ (by simp)).trans (World.alloc_heap_new w _)
 have hVI:I [] V:=by rw[<-hV]; exact hI.alloc _ (hI.alloc _ h0)
 have hVB:Below w.heap.size w V:=by rw[<-hV]; exact((Below.refl _ w).alloc (Nat.le_refl _) _).alloc (by simp) _
 let J:List α->World->Prop:=fun pre W=>I pre W/\W.heap[L]? =some (.loop (rec .ready none))/\W.heap[w.heap.size]? =some (.deferred (some []))
 let Jx:List α->World->Prop:=fun pre W=> ∃c,Ix c pre W/\W.heap[L]? =some (.loop (rec .done (some c)))/\W.heap[w.heap.size]? =some (.deferred (some []))
 have hVs:w.heap.size+2<=V.heap.size:=by rw[<-hV]; simp
 have hJ:AP mt V.heap.size J:=by
  rintro s A B row ⟨h1,h2,h3⟩ hg hr;have hne: ∀(k:Nat) (o:Obj),A.heap[k]? =some o->o.isCells=false->row≠some k:=fun k o hk hw e=>by
   obtain⟨_,cs,ho⟩:=hr k e;rw[hk]at ho; cases ho; cases hw
  refine⟨hI2 s A B row h1 hg (fun r e=> ?_), ?_, ?_⟩
  ·obtain⟨h4,cs,ho⟩:=hr r e;exact⟨by omega,cs,ho⟩
  ·exact(hg.block _ (Array.getElem?_eq_some_iff.1 h2).1 (fun e=>hne _ _ h2 rfl e.symm)).trans h2
  ·exact(hg.block _ (Array.getElem?_eq_some_iff.1 h3).1 (fun e=>hne _ _ h3 rfl e.symm)).trans h3
 have hend: ∀(jump:Option Code) (W B:World),W.heap[L]? =some (.loop (rec .busy none))->W.heap[w.heap.size]? =some (.deferred (some []))->KeepsOthers W B->
   (Instr.endRound L jump).run P B= .ok (.bool jump.isNone) (B.putObj L (.loop (rec (if jump.isNone then .ready else .done) jump)))/\B.heap[L]? =some (.loop (rec .busy none))/\
   (B.putObj L (.loop (rec (if jump.isNone then .ready else .done) jump))).heap[L]? =some (.loop (rec (if jump.isNone then .ready else .done) jump))/\
   (B.putObj L (.loop (rec (if jump.isNone then .ready else .done) jump))).heap[w.heap.size]? =some (.deferred (some [])):=by
  intro jump W B h1 h2 hk;have hb:=hk.same _ _ h1 rfl;have hd:=hk.same _ _ h2 rfl;have:=run_endRound (P:=P) jump hb;refine⟨?_,hb,qk hb _,(World.putObj_heap_other (by omega)).trans hd⟩;rw[this,hrec]
 have hround: ∀pre x A,J pre A->D pre x A->pre.length<N->YieldAt Fence.wide 2 P L (encs x) A fun e B=>(e= .returned (.bool true)/\J (pre++[x]) B/\Kp A B)\/(e= .returned (.bool false)/\Jx (pre++[x]) B):=by
  rintro pre x A ⟨hi,hl,hk⟩ hd hN;have hlt:L<A.heap.size:=(Array.getElem?_eq_some_iff.1 hl).1;have hy:=run_yield (P:=P) (args:=encs x) hl (by rw[hrp]; exact hps x);refine⟨_,_,_,_,hy, ?_⟩;rw[hrec];refine roundIn_of_wpIn hfn (wpIn_mono (hassign L pre x A (by omega) hi hd hN) ?_);rintro e a₁ B hB
  cases e with
  | normal=>
   obtain⟨hko,hkp,hax⟩:=hB;have hl1:=hko.same _ _ hl rfl;have hk1:=hko.same _ _ hk rfl;have hbr:=run_beginRound (P:=P) hl1 (hrs _ _);refine⟨_,hbr, ?_⟩;have hbz:({rec .ready none with state:= .busy} :Loop)=rec .busy none:=by rw[hrec]
   rw[hbz];have hl2:=qk hl1 (.loop (rec .busy none));have hk2:(B.putObj L (.loop (rec .busy none))).heap[w.heap.size]? =some (.deferred (some [])):=(World.putObj_heap_other (by omega)).trans hk1;have hax2:Ax pre x a₁ (B.putObj L (.loop (rec .busy none))):=hAx.putObj (s:=(pre,x,a₁)) _ hax (by omega) hl1 rfl;have hkp2:Kp A (B.putObj L (.loop (rec .busy none))):=hKt hkp (hKb _ _ _ _ (by omega) hl1 rfl rfl)
   refine wpIn_mono (hbody L pre x a₁ _ hax2) ?_;rintro e a3 C hC
   cases e with
   | normal=>
    obtain⟨c1,c2,c3⟩:=hC;obtain⟨r1,r2,r3,r4⟩:=hend none _ C hl2 hk2 c1;exact⟨_,_,r1, .inl ⟨rfl,⟨hI.putObj _ c3 (by omega) r2 rfl,r3,r4⟩,hKt (hKt hkp2 c2) (hKb _ _ _ _ (by omega) r2 rfl rfl)⟩⟩
   | ret=>
    obtain⟨c1,c3⟩:=hC;obtain⟨r1,r2,r3,r4⟩:=hend (some .ret) _ C hl2 hk2 c1;exact⟨_,_,r1, .inr ⟨rfl,_,(hIx _).putObj _ c3 (by omega) r2 rfl,r3,r4⟩⟩
   | exit id=>
    obtain⟨c1,c3⟩:=hC;obtain⟨r1,r2,r3,r4⟩:=hend (some (.exit id)) _ C hl2 hk2 c1;exact⟨_,_,r1, .inr ⟨rfl,_,(hIx _).putObj _ c3 (by omega) r2 rfl,r3,r4⟩⟩
   | goto t=>
    obtain⟨c1,c3⟩:=hC;obtain⟨r1,r2,r3,r4⟩:=hend (some (.goto t)) _ C hl2 hk2 c1;exact⟨_,_,r1, .inr ⟨rfl,_,(hIx _).putObj _ c3 (by omega) r2 rfl,r3,r4⟩⟩
   | panic ch=>exact hC.elim
   | outgrown=>exact hC.elim
  | ret=>exact hB.elim
  | exit id=>exact hB.elim
  | goto t=>exact hB.elim
  | panic ch=>exact hB.elim
  | outgrown=>exact hB.elim
 refine⟨L,[{target:= .collected w.heap.size,args:= #[]}],V,{target:= .fn (.func gf) lb,args:= #[.func (.yield L) #[] #[]]},V,gf, #[.func (.yield L) #[] #[]]++lb,V, ?_, ?_,fun _ _=>trivial, ?_,fun _=>by omega, ?_⟩
 ·rw[<-hV,hL,hrec]; exact run_enterLoop_outer _ _ _ _ _
 ·simp only[resolve,hg];simp[go_sem]
 ·simp[invoke,go_sem,eg]
 ·refine(hseq L J Jx V hVB hJ hround ⟨hVI,hVL,hVD⟩).mono ?_;rintro e B ⟨⟨v,rfl⟩,hB⟩
  rcases hB with⟨xs,hS,hi,hl,hk⟩ | ⟨pre,hS,c,hi,hl,hk⟩
  ·have:=run_endLoop (P:=P) hl (by rw[hrs]; simp);rw[hrj]at this;exact⟨none,_,this,hdone _ xs _ (Nat.le_refl _) hS (hI.putObj _ hi (by omega) hl rfl) ((World.putObj_heap_other (by omega)).trans hk)⟩
  ·have:=run_endLoop (P:=P) hl (by rw[hrs]; simp);rw[hrj]at this;exact⟨some c,_,this,(wpIn_wide (n:=4)).2 (hstop _ c pre _ (Nat.le_refl _) hS ((hIx c).putObj _ hi (by omega) hl rfl) ((World.putObj_heap_other (by omega)).trans hk))⟩
end
attribute [local go_sem] Oper.semAt_some
def dP (t:TypeId) (A B:World):Prop:= ∀(k:Nat) (cs:Array Value),A.heap[k]? =some (.cells cs t (0,0))->B.heap[k]? =A.heap[k]?
section
variable {t : TypeId} {A B C : World} {n : Nat}
theorem dP.refl (A:World):dP t A A:=fun _ _ _=>rfl
theorem dP.trans (h:dP t A B) (k:dP t B C):dP t A C:=fun i cs hi=>(k i cs ((h i cs hi).trans hi)).trans (h i cs hi)
theorem dP.below (h:Below A.heap.size A B):dP t A B:=fun i _ hi=>h.block i (Array.getElem?_eq_some_iff.1 hi).1
theorem dP.grown {row:Option Nat} (h:A.grownBy B row) (hr: ∀r,row=some r-> ∀cs,A.heap[r]? ≠some (.cells cs t (0,0))):dP t A B:=fun i cs hi=>h.block i (Array.getElem?_eq_some_iff.1 hi).1 (fun e=>hr i e.symm cs hi)
end
theorem jx {A:World} {base sz m k:Nat} {t:TypeId} {v:Value} {xs:List Value} (h:A.ownsRow base t sz v m xs) (hk:v.ownBlock=some k):base<=k/\ ∃cur,A.heap[k]? =some (.cells cur t (0,0)):=by
 rcases h.2 with⟨rfl,_⟩ | ⟨g,cap,cur,rfl,hb,hgb,_⟩
 ·cases hk
 ·simp only[Value.ownBlock,Option.some.injEq]at hk;subst hk;exact⟨hb,cur,hgb⟩
theorem Dp {seed W:Nat} :mi seed W [] (fu seed (List.replicate 64 0) W 0 0 0):=by
 have h0:iT W []=[]:=by unfold iT; simp
 have ht:=nU seed;have g: ∀i,256<=i->(fu seed (List.replicate 64 0) W 0 0 0)[i]? =((List.replicate 64 (0:UInt8)).map ak++[Value.int .i64 (W:Int), .int .i64 0, .int .i64 0, .int .u64 0])[i-256]? :=fun i hi=>by
  unfold fu; rw[List.getElem?_append_right (by omega),ht]; rfl
 refine⟨fun i hi=> ?_,fun j hj=>⟨0, ?_⟩, ?_,⟨0,by decide, ?_,fun j b hb=>by rw[h0]at hb; cases hb⟩, ?_, ?_⟩
 ·unfold fu;rw[List.getElem?_append_left (by omega)];unfold oK;rw[List.getElem?_map,List.getElem?_range hi]; rfl
 ·rw[g _ (by omega),Nat.add_sub_cancel_left,List.getElem?_append_left (by simpa using hj),List.getElem?_map,List.getElem?_replicate,if_pos hj]; rfl
 ·rw[g _ (by decide)]; rfl
 ·rw[g _ (by decide)]; rfl
 ·rw[g _ (by decide)]; simp
 ·rw[g _ (by decide),h0]; rfl
theorem CM {c:cF} (hc:dV c=true) (data:List UInt8):oQ c data 0 (ms c (fu c.seed (List.replicate 64 0) c.win.toNat 0 0 0) 0 (-c.mn)):=by
 have hv:=fX.1 hc;have hl:(fu c.seed (List.replicate 64 0) c.win.toNat 0 0 0).length=324:=oG _ (by simp) _ _ _ _;have h:=Dp (seed:=c.seed) (W:=c.win.toNat);have lo: ∀i,i<324->(ms c (fu c.seed (List.replicate 64 0) c.win.toNat 0 0 0) 0 (-c.mn))[i]? =(fu c.seed (List.replicate 64 0) c.win.toNat 0 0 0)[i]? :=fun i hi=>by
  unfold ms; rw[List.getElem?_append_left (by omega)]
 have hi': ∀i,(ms c (fu c.seed (List.replicate 64 0) c.win.toNat 0 0 0) 0 (-c.mn))[324+i]? =(cG c++[Value.int .i64 0,Value.int .i64 (-c.mn)])[i]? :=fun i=>by
  unfold ms; rw[List.getElem?_append_right (by omega),hl,Nat.add_sub_cancel_left]
 refine⟨⟨fun i hi=> ?_,fun j hj=> ?_, ?_, ?_, ?_, ?_⟩,oz c hl _ _,fun i hi=> ?_, ?_, ?_⟩
 ·rw[lo _ (by omega)]; exact h.tab i hi
 ·rw[lo _ (by omega)]; exact h.rng j hj
 ·rw[lo _ (by omega)]; exact h.win
 ·obtain⟨s,h1,h2,h3⟩:=h.st;exact⟨s,h1,by rw[lo _ (by omega)]; exact h2,fun j b hb=>by rw[lo _ (by omega)]; exact h3 j b hb⟩
 ·rw[lo _ (by omega)]; exact h.len
 ·rw[lo _ (by omega)]; exact h.sum
 ·rw[hi',List.getElem?_append_left (by simpa [cG]using hi)]
 ·rw[show 329=324+5 from rfl,hi']; rfl
 ·rw[show 330=324+6 from rfl,hi',kH];have: -c.mn= -((c.mn.toNat:Nat):Int):=by omega
  rw[this]; rfl
theorem qD (mk:Nat->Bool) (mn mx len:Nat): ∀p,(fj mk mn mx len p).length<=p/\gg (fj mk mn mx len p)<=p
 | 0=>⟨by simp[fj],by simp[fj,gg]⟩
 | p+1=>by
  have:=qD mk mn mx len p;rw[fj]
  split
  ·rw[List.length_append,gw]; simp; omega
  ·omega
def fi (c:cF) (dv:Value) (b1 b2:Nat) (w:World):Prop:=w.heap[b1]? =some (.cells (cG c).toArray 45 (0,0))/\w.heap[b2]? =some (.cells #[dv] 29 (0,0))
def En (b1 b2:Nat) (A B:World):Prop:=B.heap[b1]? =A.heap[b1]? /\B.heap[b2]? =A.heap[b2]?
theorem fi.same {c:cF} {dv:Value} {b1 b2:Nat} {A B:World} (h:fi c dv b1 b2 A) (hk:En b1 b2 A B):fi c dv b1 b2 B:=⟨hk.1.trans h.1,hk.2.trans h.2⟩
theorem fi.below {c:cF} {dv:Value} {b1 b2:Nat} {A B:World} (h:fi c dv b1 b2 A) (hb:Below A.heap.size A B):fi c dv b1 b2 B:=h.same ⟨hb.block _ (lt_of_block h.1),hb.block _ (lt_of_block h.2)⟩
theorem fi.grown {c:cF} {dv:Value} {b1 b2 r:Nat} {A B:World} (h:fi c dv b1 b2 A) (hg:A.grownBy B (some r)) (h1:b1<r) (h2:b2<r):fi c dv b1 b2 B:=
 h.same ⟨hg.block _ (lt_of_block h.1) (fun e=>by cases e; omega),hg.block _ (lt_of_block h.2) (fun e=>by cases e; omega)⟩
theorem fi.mx {c:cF} {dv:Value} {b1 b2:Nat} {A:World} (h:fi c dv b1 b2 A):A.cell? ⟨b1,1,none⟩=some (.int .i64 c.mx):=(cell_of_row A _ 1 _ _ _ h.1).trans rfl
theorem fi.dat {c:cF} {dv:Value} {b1 b2:Nat} {A:World} (h:fi c dv b1 b2 A):A.cell? ⟨b2,0,none⟩=some dv:=(cell_of_row A _ 0 _ _ _ h.2).trans rfl
def Gt (c:cF) (data:List UInt8) (b1 b2 n₀:Nat) (w:World):Prop:=
 Jv Tryz.prog 186 #[.pointer (some ⟨b1,0,none⟩), .pointer (some ⟨b2,0,none⟩)] (fun q:Nat=> #[.int .i64 (q:Int)]) (fun pre q _=>gg pre<q/\q<=data.length)
  (fun A B=>Below n₀ A B/\dP 239 A B/\En b1 b2 A B) (fun xs=>xs=kX (kI c data) c.mn.toNat c.mx.toNat data.length) (fun _=>True) data.length 239 w
theorem gm {B b:Nat} {w0 w w':World} (hb:Below B w0 w) (h:w.grownBy w' (some b)) (h1:B<=b) (h2:B<=w.heap.size):Below B w0 w':=
 hb.trans ⟨h.os,h.tape,h.output,h.size,fun k hk=>h.block k (by omega) (fun e=>by cases e; omega)⟩
theorem pY (c:cF) (data:List UInt8) (p:Nat) (b:UInt8) (pr:Bool) (mb:Nat) (ty:TypeId) (cs:List Value) (w:World) (hc:dV c=true) (hb:data[p]? =some b) (hp:data.length<=1048576) (hbox:w.heap[mb]? =some (.cells cs.toArray ty (0,0))) (hm:oQ c data p cs) (hT:vQ w) (hmb:mb≠6) (hpr:pr=eR (kI c data) c.mn.toNat (p+1)):
  Calls Tryz.prog 188 #[.pointer (some ⟨mb,0,none⟩), .int .u8 (b.toNat:Int)] w fun e w'=>e= .returned (.bool pr)/\(∃cs',w'.heap[mb]? =some (.cells cs'.toArray ty (0,0))/\oQ c data (p+1) cs')/\w.grownBy w' (some mb):=by
 rw[hpr]; exact FN c data p b mb ty cs w hc hb hp hbox hm hT hmb
theorem ER (S:Nat->Prop) (c:cF) (data:List UInt8) (dv:Value) (b1 b2:Nat) (w wc:World) (hc:dV c=true) (hs:c.seed<18446744073709551616) (hx:fi c dv b1 b2 wc) (hd:ar S w dv data) (hl:data.length<=1048576) (hT:vQ w) (hbc:Below w.heap.size w wc):
  Gt c data b1 b2 w.heap.size wc:=by
 intro l J Jx W hbW' hJ hY h0;have hbW:=ab hbc hbW';have HBW:=aa hbW;have HV:=aa hc;have HD:=aa hd;have HT:=aa hT;have HJ:=aa hJ;have HY:=aa hY;have H0:=aa h0;have HCP:=aa (hx.below hbW');have HCL:=aa (show b1<W.heap.size/\b2<W.heap.size from⟨lt_of_block HCP.o.1,lt_of_block HCP.o.2⟩);obtain⟨_,da,dcap,rfl,hdc,hdm,hdr⟩:=id hd;obtain⟨n,hn⟩: ∃n,n=data.length:=⟨_,rfl⟩
 rw[<-hn]at HCP hdc hl;have HN:=aa hn;have hv:=fX.1 hc;obtain⟨mx,hmx⟩: ∃mx,mx=c.mx.toNat:=⟨_,rfl⟩;obtain⟨mn,hmn⟩: ∃mn,mn=c.mn.toNat:=⟨_,rfl⟩;have hmxi:c.mx=(mx:Int):=by omega
 have hmx1:mx<=32768:=by omega
 have HMX:=aa (And.intro hmx (And.intro hmxi hmn));have HCW:=aa (show c.win=(c.win.toNat:Int)/\1<=c.win.toNat/\c.win.toNat<=64/\0<=c.mn/\c.mn<=32768 by omega);have hr:=gz HCP.o.1;have HR:=aa hr;have HI5:=aa (show(Tryz.prog.info? 45).map (·.size)=some (cG c).length by kernel_rfl);clear hJ hY h0 hbW hbW' hbc hc hd hT hx hn hv hmx hmn hmxi hr;have y2:=HCP.o.dat
 refine callsIn_wide.2 ?_
 show Calls Tryz.prog 186 #[.func (.yield l) #[] #[], .pointer (some ⟨b1,0,none⟩), .pointer (some ⟨b2,0,none⟩)] W _
 go_enter Tryz.func186,Tryz.ntmps186
 go_wp2_with (first | (refine wpList_load_mid rfl 45 _ rfl b1 0 rfl (cG c) _ HR.o Tryz.underlying45 rfl HI5.o ?_) | fail);refine(sG c c.win.toNat W hs HCW.o.1 HCW.o.2.1 HCW.o.2.2.1 HCW.o.2.2.2).mono ?_;rintro e w5 ⟨rfl,hb5⟩;obtain⟨mc,hmc⟩: ∃mc,mc=ms c (fu c.seed (List.replicate 64 0) c.win.toNat 0 0 0) 0 (-c.mn):=⟨_,rfl⟩;rw[<-hmc];have hml:mc.length=331:=by rw[hmc]; exact oz c (oG _ (by simp) _ _ _ _) _ _
 have HMC:=aa hmc;have HML:=aa (show oQ c data 0 mc by rw[hmc]; exact CM HV.o data);have HI331:=aa (show(Tryz.prog.info? 239).map (·.size)=some mc.toArray.size by rw[List.size_toArray,hml]; kernel_rfl);have HOLD:=aa (show Tryz.zeroCells239.size=mc.toArray.size by rw[show mc.toArray.size=331 from by rw[List.size_toArray]; exact hml]; kernel_rfl);have HONE:=aa (show mc.toArray.all (·.oneCell')=true from all_oneCell_toArray (by rw[hmc]; exact tT c _ _ _))
 have HB5:=aa hb5;clear hb5 hmc hml y2;have y2:=(HCP.o.below HB5.o).dat
 have HB6:=aa (show Below w5.heap.size w5 ((w5.alloc (.cells Tryz.zeroCells239 239)).setRow w5.heap.size mc.toArray)from below_setRow (bH) (Nat.le_refl _) _);have HX6:=aa (show((w5.alloc (.cells Tryz.zeroCells239 239)).setRow w5.heap.size mc.toArray).heap[w5.heap.size]? =some (.cells mc.toArray 239 (0,0))from setRow_heap _ _ _ _ _ _ (heap_alloc_new w5 _));have y3:=(HB6.o.cell (aP y2)).trans y2
 go_wp2_with (first | (refine wpList_store_row rfl 239 _ _ rfl w5.heap.size _ rfl rfl _ _ (heap_alloc_new w5 _) HI331.o HOLD.o HONE.o ?_) | fail)
 generalize (w5.alloc (.cells Tryz.zeroCells239 239)).setRow w5.heap.size mc.toArray=w6 at *
 obtain⟨mb,hmb⟩: ∃mb,mb=w5.heap.size:=⟨_,rfl⟩;have HMB:=aa (show W.heap.size<=mb/\mb≠6 by
  have h1:=HB5.o.size;have h2:=HBW.o.size;have h3:=HT.o.lt
  omega)
 have HB6w:=aa (ab HB5.o HB6.o);rw[<-hmb]at HB6 HX6 ⊢;clear hmb y2 y3
 go_loopw [13,5] (fun i s wr=> ∃(k:Nat) (pre:List Nat) (cs:List Value),k<=n/\i= .int .i64 (k:Int)/\pre=fj (kI c data) mn mx n k/\s= .int .i64 ((gg pre:Nat):Int)/\J pre wr/\Below w.heap.size w wr/\wr.heap[mb]? =some (.cells cs.toArray 239 (0,0))/\oQ c data k cs/\fi c (.slice da n dcap) b1 b2 wr) (fun i _ _=>n-(intOf i).toNat)
 case atStart=>exact⟨0,[],mc,Nat.zero_le _,rfl,rfl,rfl,HJ.o _ _ _ none H0.o (yN HB6w.o) (fun r e=>by cases e),ab HBW.o HB6w.o,HX6.o,HML.o,HCP.o.below HB6w.o⟩
 case round=>
  obtain⟨k,pre,cs,hk,rfl,hpre,rfl,hJk,hbr,hbx,hml,hcr⟩:=hrel;have HCR:=aa hcr;have HPRE:=aa hpre;have HJK:=aa hJk;have HBR:=aa hbr;have HBX:=aa hbx;have HML2:=aa hml;have hpl:=qD (kI c data) mn mx n k;rw[<-hpre]at hpl;obtain⟨sn,hsn⟩: ∃sn,sn=gg pre:=⟨_,rfl⟩;rw[<-hsn]at hpl ⊢;have HSN:=aa hsn;clear hpre hJk hbr hbx hml hsn hcr
  by_cases hlt:k<n
  ·obtain⟨b,hb⟩: ∃b,data[k]? =some b:=⟨data[k]'(by rw[<-HN.o]; exact hlt),by simp⟩
   rcases hdr with hdr | ⟨db,dof,rfl,hS,hcc⟩
   ·rw[<-HN.o]at hdr; omega
   have hcell:=(HBR.o.cell (aP (hcc k (ak b) (by rw[List.getElem?_map,hb]; rfl)))).trans (hcc k (ak b) (by rw[List.getElem?_map,hb]; rfl));have y2:=HCR.o.dat
   have hki:(k:Int)<(n:Int):=by omega
   have hinc:IntKind.i64.wrap ((k:Int)+1)=((k+1:Nat):Int):=by rw[IntKind.wrap_i64]; omega
   have HB:=aa hb;clear hcc hb hS;unfold maxLen at hdm
   change wr.cell? ⟨db,dof+k,none⟩=some (.int .u8 (b.toNat:Int))at hcell
   obtain⟨pr,hpr⟩: ∃pr,pr=eR (kI c data) c.mn.toNat (k+1):=⟨_,rfl⟩;have HPR:=aa hpr;clear hpr;have hsub:IntKind.i64.wrap ((k:Int)+1-(sn:Int))=(k:Int)+1-(sn:Int):=by rw[IntKind.wrap_i64]; omega
   by_cases hp:pr=true
   ·subst hp;have HST:=aa (show gK (kI c data) mn mx n sn (k+1)=true by unfold gK; rw[HMX.o.2.2,<-HPR.o]; rfl)
    go_upto_region 7 with(fail)
    refine(pY c data k b _ mb 239 cs _ HV.o HB.o (by rw[<-HN.o]; exact hl) HBX.o HML2.o (HT.o.block (HBR.o.block _ HT.o.lt) HBR.o.size) HMB.o.2 HPR.o).mono ?_;rintro e w7 ⟨rfl,⟨cs7,hx7,hm7⟩,hg7⟩;have HX7:=aa hx7;have HM7:=aa hm7;have HG7:=aa hg7;have HB7:=aa (gm HBR.o hg7 (Nat.le_trans HBW.o.size HMB.o.1) HBR.o.size);clear hx7 hm7 hg7;have HCE:=aa (HCR.o.grown HG7.o (Nat.lt_of_lt_of_le HCL.o.1 HMB.o.1) (Nat.lt_of_lt_of_le HCL.o.2 HMB.o.1)); have z2:=HCE.o.dat
    have z1:=HCE.o.mx; rw[HMX.o.2.1]at z1
    go_upto_region 7 with(fail)
    have HJ7:=aa (HJ.o _ _ _ _ HJK.o HG7.o (fun r e=>by cases e; exact⟨HMB.o.1,cs.toArray,HBX.o⟩));have HDQ:=aa (show gg pre<k+1/\k+1<=data.length from⟨by rw[<-HSN.o]; omega,by rw[<-HN.o]; omega⟩);have HPL:=aa (show pre.length<data.length by rw[<-HN.o]; omega);obtain⟨fn,tmps,assign,body,hy,hR⟩:=HY.o pre (k+1) w7 HJ7.o HDQ.o HPL.o;rw[show(((k+1:Nat):Int))=(k:Int)+1 from rfl]at hy
    refine(wpIn_wide (n:=3)).1 ?_
    gi_wp2_with (fail)
    refine hR.mono ?_;rintro e6 w8 (⟨rfl,hj8,hk8⟩ | ⟨rfl,hj8⟩)
    ·have HJ8:=aa hj8;have HK8:=aa hk8;clear hj8 hk8 hy hR
     gi_wp2
     go_wp2_with fail
     go_roundw
     case rel=>
      refine⟨k+1,pre++[k+1],cs7,by omega,by go_num, ?_,by rw[gw]; rfl,HJ8.o,HB7.o.trans HK8.o.1,(HK8.o.2.1 mb _ HX7.o).trans HX7.o,HM7.o,HCE.o.same HK8.o.2.2⟩;rw[fj,<-HPRE.o,<-HSN.o,HST.o,if_pos rfl]
     case measure=>simp[intOf]; omega
    ·have HJ8:=aa hj8;clear hj8 hy hR
     gi_wp2
     go_wp2_with fail;refine bodyPost_ret (results_none rfl _ _ _) rfl ?_;exact⟨⟨_,rfl⟩, .inr ⟨pre++[k+1],trivial,HJ8.o⟩⟩
   ·have hp0:pr=false:=by simpa using hp
    subst hp0;clear hp
    by_cases hm:sn+mx<=k+1
    ·have hmi:(mx:Int)<=(k:Int)+1-(sn:Int):=by omega
     have hmj: ¬(k:Int)+1-(sn:Int)<(mx:Int):=by omega
     have HST:=aa (show gK (kI c data) mn mx n sn (k+1)=true by unfold gK; rw[decide_eq_true hm]; simp)
     go_upto_region 7 with(fail)
     refine(pY c data k b _ mb 239 cs _ HV.o HB.o (by rw[<-HN.o]; exact hl) HBX.o HML2.o (HT.o.block (HBR.o.block _ HT.o.lt) HBR.o.size) HMB.o.2 HPR.o).mono ?_;rintro e w7 ⟨rfl,⟨cs7,hx7,hm7⟩,hg7⟩;have HX7:=aa hx7;have HM7:=aa hm7;have HG7:=aa hg7;have HB7:=aa (gm HBR.o hg7 (Nat.le_trans HBW.o.size HMB.o.1) HBR.o.size);clear hx7 hm7 hg7;have HCE:=aa (HCR.o.grown HG7.o (Nat.lt_of_lt_of_le HCL.o.1 HMB.o.1) (Nat.lt_of_lt_of_le HCL.o.2 HMB.o.1)); have z2:=HCE.o.dat
     have z1:=HCE.o.mx; rw[HMX.o.2.1]at z1
     go_upto_region 7 with(fail)
     have HJ7:=aa (HJ.o _ _ _ _ HJK.o HG7.o (fun r e=>by cases e; exact⟨HMB.o.1,cs.toArray,HBX.o⟩));have HDQ:=aa (show gg pre<k+1/\k+1<=data.length from⟨by rw[<-HSN.o]; omega,by rw[<-HN.o]; omega⟩);have HPL:=aa (show pre.length<data.length by rw[<-HN.o]; omega);obtain⟨fn,tmps,assign,body,hy,hR⟩:=HY.o pre (k+1) w7 HJ7.o HDQ.o HPL.o;rw[show(((k+1:Nat):Int))=(k:Int)+1 from rfl]at hy
     refine(wpIn_wide (n:=3)).1 ?_
     gi_wp2_with (fail)
     refine hR.mono ?_;rintro e6 w8 (⟨rfl,hj8,hk8⟩ | ⟨rfl,hj8⟩)
     ·have HJ8:=aa hj8;have HK8:=aa hk8;clear hj8 hk8 hy hR
      gi_wp2
      go_wp2_with fail
      go_roundw
      case rel=>
       refine⟨k+1,pre++[k+1],cs7,by omega,by go_num, ?_,by rw[gw]; rfl,HJ8.o,HB7.o.trans HK8.o.1,(HK8.o.2.1 mb _ HX7.o).trans HX7.o,HM7.o,HCE.o.same HK8.o.2.2⟩;rw[fj,<-HPRE.o,<-HSN.o,HST.o,if_pos rfl]
      case measure=>simp[intOf]; omega
     ·have HJ8:=aa hj8;clear hj8 hy hR
      gi_wp2
      go_wp2_with fail;refine bodyPost_ret (results_none rfl _ _ _) rfl ?_;exact⟨⟨_,rfl⟩, .inr ⟨pre++[k+1],trivial,HJ8.o⟩⟩
    ·have hmi:(k:Int)+1-(sn:Int)<(mx:Int):=by omega
     by_cases he:n<=k+1
     ·have hei:(n:Int)<=(k:Int)+1:=by omega
      have hej: ¬(k:Int)+1<(n:Int):=by omega
      have HST:=aa (show gK (kI c data) mn mx n sn (k+1)=true by unfold gK; rw[decide_eq_true he]; simp)
      go_upto_region 7 with(fail)
      refine(pY c data k b _ mb 239 cs _ HV.o HB.o (by rw[<-HN.o]; exact hl) HBX.o HML2.o (HT.o.block (HBR.o.block _ HT.o.lt) HBR.o.size) HMB.o.2 HPR.o).mono ?_;rintro e w7 ⟨rfl,⟨cs7,hx7,hm7⟩,hg7⟩;have HX7:=aa hx7;have HM7:=aa hm7;have HG7:=aa hg7;have HB7:=aa (gm HBR.o hg7 (Nat.le_trans HBW.o.size HMB.o.1) HBR.o.size);clear hx7 hm7 hg7;have HCE:=aa (HCR.o.grown HG7.o (Nat.lt_of_lt_of_le HCL.o.1 HMB.o.1) (Nat.lt_of_lt_of_le HCL.o.2 HMB.o.1)); have z2:=HCE.o.dat
      have z1:=HCE.o.mx; rw[HMX.o.2.1]at z1
      go_upto_region 7 with(fail)
      have HJ7:=aa (HJ.o _ _ _ _ HJK.o HG7.o (fun r e=>by cases e; exact⟨HMB.o.1,cs.toArray,HBX.o⟩));have HDQ:=aa (show gg pre<k+1/\k+1<=data.length from⟨by rw[<-HSN.o]; omega,by rw[<-HN.o]; omega⟩);have HPL:=aa (show pre.length<data.length by rw[<-HN.o]; omega);obtain⟨fn,tmps,assign,body,hy,hR⟩:=HY.o pre (k+1) w7 HJ7.o HDQ.o HPL.o;rw[show(((k+1:Nat):Int))=(k:Int)+1 from rfl]at hy
      refine(wpIn_wide (n:=3)).1 ?_
      gi_wp2_with (fail)
      refine hR.mono ?_;rintro e6 w8 (⟨rfl,hj8,hk8⟩ | ⟨rfl,hj8⟩)
      ·have HJ8:=aa hj8;have HK8:=aa hk8;clear hj8 hk8 hy hR
       gi_wp2
       go_wp2_with fail
       go_roundw
       case rel=>
        refine⟨k+1,pre++[k+1],cs7,by omega,by go_num, ?_,by rw[gw]; rfl,HJ8.o,HB7.o.trans HK8.o.1,(HK8.o.2.1 mb _ HX7.o).trans HX7.o,HM7.o,HCE.o.same HK8.o.2.2⟩;rw[fj,<-HPRE.o,<-HSN.o,HST.o,if_pos rfl]
       case measure=>simp[intOf]; omega
      ·have HJ8:=aa hj8;clear hj8 hy hR
       gi_wp2
       go_wp2_with fail;refine bodyPost_ret (results_none rfl _ _ _) rfl ?_;exact⟨⟨_,rfl⟩, .inr ⟨pre++[k+1],trivial,HJ8.o⟩⟩
     ·have hei:(k:Int)+1<(n:Int):=by omega
      have HST:=aa (show gK (kI c data) mn mx n sn (k+1)=false by unfold gK; rw[decide_eq_false he,decide_eq_false hm,HMX.o.2.2,<-HPR.o]; rfl);go_wp2_with (go_at_call 188; refine(pY c data k b _ mb 239 cs _ HV.o HB.o (by rw[<-HN.o]; exact hl) HBX.o HML2.o (HT.o.block (HBR.o.block _ HT.o.lt) HBR.o.size) HMB.o.2 HPR.o).mono ?_; rintro e w7 ⟨rfl,⟨cs7,hx7,hm7⟩,hg7⟩; have HX7:=aa hx7; have HM7:=aa hm7; have HG7:=aa hg7; have HB7:=aa (gm HBR.o hg7 (Nat.le_trans HBW.o.size HMB.o.1) HBR.o.size); clear hx7 hm7 hg7; have HCE:=aa (HCR.o.grown HG7.o (Nat.lt_of_lt_of_le HCL.o.1 HMB.o.1) (Nat.lt_of_lt_of_le HCL.o.2 HMB.o.1)); have z2:=HCE.o.dat; have z1:=HCE.o.mx; rw[HMX.o.2.1]at z1)
      go_roundw
      case rel=>
       refine⟨k+1,pre,cs7,by omega,by go_num, ?_,by rw[HSN.o], ?_,HB7.o,HX7.o,HM7.o,HCE.o⟩
       ·rw[fj,<-HPRE.o,<-HSN.o,HST.o,if_neg (by decide)]
       ·exact HJ.o _ _ _ _ HJK.o HG7.o (fun r e=>by cases e; exact⟨HMB.o.1,cs.toArray,HBX.o⟩)
      case measure=>simp[intOf]; omega
  ·have hk2:k=n:=by omega
   go_wp2_with fail
   go_end0
   refine⟨⟨_,rfl⟩, .inl ⟨pre, ?_,HJK.o⟩⟩;rw[HPRE.o,hk2,HN.o,HMX.o.1,HMX.o.2.2]; rfl
open Go Go.RowKit Go.Maps Go.MapKept
open Go.ChangeMaps (modify_eq_set map_eraseIdx)
def dw (P:Program) (k:TypeId) (w:World) (b:Nat) (m:List (Value×Value)):Prop:=
 ∃es clock,w.heap[b]? =some (.map es clock)/\es.toList.map (fun e=>(e.key,e.val))=m/\Stamped es clock/\ ∀p∈m,∃l,keyOf P k p.1=some l
section
variable {P : Program} {k t e : TypeId} {w w' : World} {b : Nat} {m : List (Value × Value)} {key val z : Value}
theorem sD {es:Array MapEntry} {clock:Nat} (h:Stamped es clock):((es.toList.map (fun e=>(e.key,e.val))).map Prod.fst).Nodup:=by
 rw[List.map_map];have:=((stamped_iff es clock).1 h).2.2;unfold List.Nodup;rw[List.pairwise_map];exact this
theorem dw.is (h:dw P k w b m):em P k w b m:=by
 obtain⟨es,clock,hb,he,hs,hk⟩:=h;exact⟨es,clock,hb,he,by rw[<-he]; exact sD hs,hk⟩
theorem dw.lt (h:dw P k w b m):b<w.heap.size:=h.is.lt
theorem dw.same (h:dw P k w b m) (hs:w'.heap[b]? =w.heap[b]?):dw P k w' b m:=by
 obtain⟨es,clock,hb,h2⟩:=h;exact⟨es,clock,hs.trans hb,h2⟩
theorem dw.made (w:World):dw P k (w.alloc (.map #[] 0)) w.heap.size []:=⟨#[],0,(MapKept.heap_alloc w _).1,rfl,stamped_empty 0,by simp⟩
theorem dw.nodup (h:dw P k w b m):(m.map Prod.fst).Nodup:=by obtain⟨_,_,_,_,hn,_⟩:=h.is; exact hn
theorem kZ {w:World} {b:Nat} {x:Obj} (hb:w.heap[b]? =some x) (o:Obj):w.grownBy (ChangeMaps.setBlock w b o) (some b):=
 ⟨rfl,rfl,rfl,by simp[ChangeMaps.setBlock],fun i _ hi=>tE hb _ (fun e=>hi (by rw[e]))⟩
theorem dw.put (h:dw P k w b m) (K:Keyed P k) (ht:P.underlying t=some (.map k e)) (hkey: ∃l,keyOf P k key=some l) (hm: ∀p∈m,p.1≠key) (val:Value):
  ∃w',(Instr.mapUpdate t (.map (some b)) key val).run P w= .ok () w'/\dw P k w' b (m++[(key,val)])/\w.grownBy w' (some b):=by
 obtain⟨es,clock,hb,he,hst,hk⟩:=h;obtain⟨kl,hkl⟩:=hkey
 rcases K.find w hkl es.toList (em.keys he hk)with⟨h1,h2⟩ | ⟨j,e0,h1,h2,h3⟩
 ·refine⟨ChangeMaps.setBlock w b (.map (es.push ⟨key,val,clock⟩) (clock+1)), ?_,⟨_,_,qO hb _, ?_,stamped_push hst h2, ?_⟩,kZ hb _⟩
  ·simp[Instr.mapUpdate,run_underlying ht,MapKept.run_getObj_map hb,K.check w false hkl,h1,MapKept.run_setObj_map _ hb,Result.andThen,ChangeMaps.setBlock]
  ·simp[<-he]
  ·intro p hp
   rcases List.mem_append.1 hp with hp | hp
   ·exact hk p hp
   ·simp only[List.mem_singleton]at hp;subst hp;exact⟨kl,hkl⟩
 ·exact absurd h3 (hm (e0.key,e0.val) (by rw[<-he]; exact List.mem_map.2 ⟨e0,List.mem_of_getElem? h2,rfl⟩))
theorem dw.over {m1 m2:List (Value×Value)} {old:Value} (h:dw P k w b (m1++(key,old)::m2)) (K:Keyed P k) (ht:P.underlying t=some (.map k e)) (val:Value):
  ∃w',(Instr.mapUpdate t (.map (some b)) key val).run P w= .ok () w'/\dw P k w' b (m1++(key,val)::m2)/\w.grownBy w' (some b):=by
 have hnd:=h.nodup;obtain⟨es,clock,hb,he,hst,hk⟩:=h;obtain⟨kl,hkl⟩:=hk (key,old) (by simp)
 rcases K.find w hkl es.toList (em.keys he hk)with⟨h1,h2⟩ | ⟨j,e0,h1,h2,h3⟩
 ·exfalso
  have:(key,old)∈es.toList.map (fun e=>(e.key,e.val)):=by rw[he]; simp
  obtain⟨x,hx,hxe⟩:=List.mem_map.1 this;exact h2 x hx (congrArg Prod.fst hxe)
 ·have hj:es[j]? =some e0:=by simpa using h2
  have hlist:(es.modify j (fun e'=> {e' with key:=key,val:=val})).toList=es.toList.set j {e0 with key:=key,val:=val} :=by rw[Array.toList_modify,modify_eq_set _ _ _ _ h2]
  have hjm:j=m1.length:=by
   have h4:(m1++(key,old)::m2)[j]? =some (e0.key,e0.val):=by rw[<-he,List.getElem?_map,h2]; rfl
   have h5:((m1++(key,old)::m2).map Prod.fst)[j]? =some key:=by rw[List.getElem?_map,h4]; simp[h3]
   have h6:((m1++(key,old)::m2).map Prod.fst)[m1.length]? =some key:=by simp
   have hjl:=(List.getElem?_eq_some_iff.1 h5).1;exact(List.getElem?_inj hjl hnd).1 (h5.trans h6.symm)
  refine⟨ChangeMaps.setBlock w b (.map (es.modify j (fun e'=> {e' with key:=key,val:=val})) clock), ?_,⟨_,_,qO hb _, ?_, ?_, ?_⟩,kZ hb _⟩
  ·simp[Instr.mapUpdate,run_underlying ht,MapKept.run_getObj_map hb,K.check w false hkl,h1,hj,h3,K.stays w hkl,MapKept.run_setObj_map _ hb,Result.andThen,ChangeMaps.setBlock]
  ·rw[hlist,List.map_set,he,hjm];simp
  ·exact stamped_modify hst j _ (fun _ _=>rfl) (fun e' _ he'=>by rw[hj]at he'; cases he'; exact h3.symm)
  ·intro p hp
   rcases List.mem_append.1 hp with hp | hp
   ·exact hk p (by simp[hp])
   ·rcases List.mem_cons.1 hp with rfl | hp
    ·exact⟨kl,hkl⟩
    ·exact hk p (by simp[hp])
theorem dw.len (h:dw P k w b m) (ht:P.underlying t=some (.map k e)) (ty:TypeId):(Builtin.len_ #[t] ty #[.map (some b)]).run P w= .ok (.int .i64 (m.length:Int)) w:=by
 obtain⟨es,clock,hb,he,_⟩:=h;have:es.size=m.length:=by rw[<-he]; simp
 simp[Builtin.len_,run_underlying ht,MapKept.run_getObj_map hb,goInt,Result.andThen,this]
def kN (P:Program) (k:TypeId) (w:World) (b r:Nat) (m vis:List (Value×Value)):Prop:=
 ∃es clock since seen c0,w.heap[b]? =some (.map es clock)/\es.toList.map (fun e=>(e.key,e.val))=m/\Stamped es clock/\(∀p∈m,∃l,keyOf P k p.1=some l)/\
  w.heap[r]? =some (.mapIter (some b) since seen c0)/\(∀x∈es.toList,x.born<since)/\since<=c0/\since<=clock/\vis.Perm ((es.toList.filter fun x=>seen.contains x.born).map (fun e=>(e.key,e.val)))
theorem kN.map {r:Nat} {vis:List (Value×Value)} (h:kN P k w b r m vis):dw P k w b m:=by
 obtain⟨es,clock,_,_,_,hb,he,hs,hk,_⟩:=h;exact⟨es,clock,hb,he,hs,hk⟩
theorem kN.same {r:Nat} {vis:List (Value×Value)} (h:kN P k w b r m vis) (h1:w'.heap[b]? =w.heap[b]?) (h2:w'.heap[r]? =w.heap[r]?):kN P k w' b r m vis:=by
 obtain⟨es,clock,since,seen,c0,hb,he,hs,hk,hr,h3⟩:=h;exact⟨es,clock,since,seen,c0,h1.trans hb,he,hs,hk,h2.trans hr,h3⟩
theorem kN.ne {r:Nat} {vis:List (Value×Value)} (h:kN P k w b r m vis):r≠b:=by
 obtain⟨es,clock,since,seen,c0,hb,_,_,_,hr,_⟩:=h;intro e1;subst e1;rw[hb]at hr
 cases hr
theorem ns {α:Type} (p:α->Bool): ∀(l:List α),(l.filter p).length+(l.filter fun x=> !p x).length=l.length
 | []=>rfl
 | a::l=>by
  have:=ns p l
  cases h:p a<;> simp[h]<;> omega
theorem kN.left {r:Nat} {vis:List (Value×Value)} (h:kN P k w b r m vis):w.rangeLeft b r+vis.length=m.length:=by
 obtain⟨es,clock,since,seen,c0,hb,he,hs,hk,hr,_,_,_,hv⟩:=h;have h1:w.rangeLeft b r=(leftOf es seen).size:=by simp only[World.rangeLeft,hb,hr]
 have h2:(leftOf es seen).size=(es.toList.filter fun x=> !seen.contains x.born).length:=by
  unfold leftOf;rw[<-Array.toList_filter,Array.length_toList]
 have h3:=ns (fun x:MapEntry=>seen.contains x.born) es.toList;rw[h1,h2,hv.length_eq,List.length_map,<-he,List.length_map];omega
theorem dw.range (h:dw P k w b m) (ht:P.underlying t=some (.map k e)):
  ∃w',(Instr.range t (.map (some b))).run P w= .ok (.pointer (some ⟨w.heap.size,0,none⟩)) w'/\kN P k w' b w.heap.size m []/\Below w.heap.size w w'/\w'.heap.size=w.heap.size+1:=by
 have hlt:=h.lt;obtain⟨es,clock,hb,he,hs,hk⟩:=h;refine⟨_,run_range_map w t k e b es clock ht hb,⟨es,clock,clock, #[],clock,((MapKept.heap_alloc w _).2 b hlt).trans hb,he,hs,hk,(MapKept.heap_alloc w _).1,((stamped_iff es clock).1 hs).1,Nat.le_refl _,Nat.le_refl _, ?_⟩,bH,by simp⟩;simp
theorem GI {es:Array MapEntry} {clock:Nat} (hs:Stamped es clock) {x y:MapEntry} (hx:x∈es.toList) (hy:y∈es.toList) (h:x.born=y.born):x=y:=born_inj ((stamped_iff es clock).1 hs).2.1 hx hy h
theorem Dd {es:List MapEntry} {seen:Array Nat} {e0:MapEntry} (hn:es.Nodup) (hinj: ∀x∈es,x.born=e0.born->x=e0) (he:e0∈es) (h0:seen.contains e0.born=false):
  ((es.filter fun x=>seen.contains x.born)++[e0]).Perm (es.filter fun x=>(seen.push e0.born).contains x.born):=by
 refine(List.perm_ext_iff_of_nodup ?_ (hn.filter _)).2 (fun x=> ?_)
 ·rw[List.nodup_append];refine⟨hn.filter _,by simp,fun a ha c hc=> ?_⟩;simp only[List.mem_singleton]at hc;subst hc;rintro rfl;rw[List.mem_filter]at ha;rw[ha.2]at h0
  cases h0
 ·simp only[List.mem_append,List.mem_filter,List.mem_singleton,contains_push,Bool.or_eq_true,beq_iff_eq]
  constructor
  ·rintro(⟨h1,h2⟩ | rfl)
   ·exact⟨h1, .inl h2⟩
   ·exact⟨he, .inr rfl⟩
  ·rintro⟨h1,h2 | h2⟩
   ·exact .inl ⟨h1,h2⟩
   ·exact .inr (hinj x h1 h2)
theorem kN.next {r:Nat} {vis:List (Value×Value)} (h:kN P k w b r m vis) (ty:TypeId):
  (vis.Perm m/\(Instr.next (.pointer (some ⟨r,0,none⟩)) false ty).run P w= .ok (.tuple #[.bool false]) w)\/
  ∃key v w',(key,v)∈m/\(∀p∈vis,p.1≠key)/\(Instr.next (.pointer (some ⟨r,0,none⟩)) false ty).run P w= .ok (.tuple #[.bool true,key,v]) w'/\
   kN P k w' b r m (vis++[(key,v)])/\w.grownBy w' (some r)/\w'.heap.size=w.heap.size/\(Instr.entry (.pointer (some ⟨r,0,none⟩))).run P w'= .ok (.tuple #[key,v]) w':=by
 have hne:=h.ne;obtain⟨es,clock,since,seen,c0,hb,he,hs,hk,hr,hold,hsc,hsk,hv⟩:=h;have hsi:=(stamped_iff es clock).1 hs
 rcases run_next_at (P:=P) w ty r b since c0 seen es clock hr hb hold hsc with⟨h0,hrun⟩ | ⟨e0,he0,w1,hal,hrun⟩
 ·refine Or.inl ⟨?_,hrun⟩;have:(es.toList.filter fun x=>seen.contains x.born)=es.toList:=by
   rw[List.filter_eq_self];intro x hx;exact all_seen es seen h0 x hx
  rw[this,he]at hv;exact hv
 ·obtain⟨hem,hes⟩:=mem_left he0;have hr1:w1.heap[r]? =some (.mapIter (some b) since seen c0):=by rcases hal with rfl | rfl<;> exact hr
  have hb1:w1.heap[b]? =some (.map es clock):=by rcases hal with rfl | rfl<;> exact hb
  have hset:=heap_set (o':= .mapIter (some b) since (seen.push e0.born) clock) hr1;have hb':(ChangeMaps.setBlock w1 r (.mapIter (some b) since (seen.push e0.born) clock)).heap[b]? =some (.map es clock):=(hset.2 b (fun e1=>hne e1.symm)).trans hb1;have hnd:es.toList.Nodup:=by
   have:=hsi.2.1;unfold List.Nodup at this;rw[List.pairwise_map]at this;exact this.imp (fun h e=>h (by rw[e]))
  have hinj: ∀x∈es.toList,x.born=e0.born->x=e0:=fun x hx hxb=>GI hs hx hem hxb
  have hpp:=Dd hnd hinj hem hes;refine Or.inr ⟨e0.key,e0.val,_,by rw[<-he]; exact List.mem_map.2 ⟨e0,hem,rfl⟩,fun p hp hpk=> ?_,hrun,⟨es,clock,since,seen.push e0.born,clock,hb',he,hs,hk,hset.1,hold,hsk,hsk, ?_⟩, ?_, ?_,
   run_entry_at _ r b since seen es clock e0 hset.1 hb' hem hsi.2.1⟩
  ·obtain⟨x,hx,rfl⟩:=List.mem_map.1 (hv.subset hp);obtain⟨hx1,hx2⟩:=List.mem_filter.1 hx;have:x=e0:=entry_eq_of_key hsi.2.2 hx1 hem hpk;subst this;rw[hx2]at hes
   cases hes
  ·refine(hv.append_right _).trans ?_;have:=hpp.map (fun e:MapEntry=>(e.key,e.val));rw[List.map_append]at this;exact this
  ·rcases hal with rfl | rfl<;> exact⟨rfl,rfl,rfl,by simp[ChangeMaps.setBlock],fun i _ hi=>hset.2 i (fun e1=>hi (by rw[e1]))⟩
  ·rcases hal with rfl | rfl<;> simp[ChangeMaps.setBlock]
end
section
variable {P : Program} {w : World} {ops : Array Oper} {rest : List Oper} {o : Oper} {a : Act} {Q : Exit → Act → World → Prop} {k e : TypeId}
theorem mw (hg:o.guard=none) (mo:Operand) (t:TypeId) (hop:o.op=Op.range t mo) (ht:P.underlying t=some (.map k e)) (b:Nat) (m:List (Value×Value)) (hm:a.eval mo= .map (some b)) (h:dw P k w b m)
  (hK: ∀w',kN P k w' b w.heap.size m []->Below w.heap.size w w'->w'.heap.size=w.heap.size+1->wpList P ops Q rest (a.put o.dst (.pointer (some ⟨w.heap.size,0,none⟩))) w'):wpList P ops Q (o::rest) a w:=by
 refine wpList_plain hg fun K' hK'=> ?_
 obtain⟨w',hrun,r1,r2,r3⟩:=h.range ht;unfold Oper.wp;simp[execOp,hop,hm,hrun,Result.andThen];exact hK' _ _ (hK w' r1 r2 r3)
theorem nY (hg:o.guard=none) (it:Operand) (hop:o.op=Op.next it false) (b r:Nat) (m vis:List (Value×Value)) (hit:a.eval it= .pointer (some ⟨r,0,none⟩)) (h:kN P k w b r m vis)
  (hDone:vis.Perm m->wpList P ops Q rest (a.put o.dst (.tuple #[.bool false])) w)
  (hMore: ∀(key v:Value) (w':World),(key,v)∈m->(∀p∈vis,p.1≠key)->kN P k w' b r m (vis++[(key,v)])->w.grownBy w' (some r)->w'.heap.size=w.heap.size->
   (Instr.entry (.pointer (some ⟨r,0,none⟩))).run P w'= .ok (.tuple #[key,v]) w'->wpList P ops Q rest (a.put o.dst (.tuple #[.bool true,key,v])) w'):wpList P ops Q (o::rest) a w:=by
 refine wpList_plain hg fun K' hK'=> ?_
 unfold Oper.wp
 rcases h.next o.type with⟨h0,hrun⟩ | ⟨key,v,w',h1,h2,hrun,h3,h4,h5,h6⟩
 ·simp[execOp,hop,hit,hrun,Result.andThen];exact hK' _ _ (hDone h0)
 ·simp[execOp,hop,hit,hrun,Result.andThen];exact hK' _ _ (hMore key v w' h1 h2 h3 h4 h5 h6)
theorem eU (K:Keyed P k) (hg:o.guard=none) (mo x v:Operand) (t:TypeId) (hop:o.op=Op.mapUpdate t mo x v) (ht:P.underlying t=some (.map k e)) (b:Nat) (m:List (Value×Value)) (h:dw P k w b m) (hmo:a.eval mo= .map (some b)) (key val:Value) (hx:a.eval x=key) (hv:a.eval v=val) (hkey: ∃l,keyOf P k key=some l) (hnew: ∀p∈m,p.1≠key)
  (hK: ∀w',dw P k w' b (m++[(key,val)])->w.grownBy w' (some b)->wpList P ops Q rest (a.put o.dst undef) w'):wpList P ops Q (o::rest) a w:=by
 refine wpList_plain hg fun K' hK'=> ?_
 obtain⟨w',hrun,r1,r2⟩:=h.put K ht hkey hnew val;unfold Oper.wp;simp[execOp,hop,hmo,hx,hv,hrun,Result.andThen];exact hK' _ _ (hK w' r1 r2)
theorem kD (K:Keyed P k) (hg:o.guard=none) (mo x v:Operand) (t:TypeId) (hop:o.op=Op.mapUpdate t mo x v) (ht:P.underlying t=some (.map k e)) (b:Nat) (m1 m2:List (Value×Value)) (key val old:Value) (h:dw P k w b (m1++(key,old)::m2)) (hmo:a.eval mo= .map (some b)) (hx:a.eval x=key) (hv:a.eval v=val)
  (hK: ∀w',dw P k w' b (m1++(key,val)::m2)->w.grownBy w' (some b)->wpList P ops Q rest (a.put o.dst undef) w'):wpList P ops Q (o::rest) a w:=by
 refine wpList_plain hg fun K' hK'=> ?_
 obtain⟨w',hrun,r1,r2⟩:=h.over K ht val;unfold Oper.wp;simp[execOp,hop,hmo,hx,hv,hrun,Result.andThen];exact hK' _ _ (hK w' r1 r2)
end
end Go.Proofs.YtpffpjbkbaleiaaGreatDoor
namespace Go.Proofs.YtpffpjbkbaleiaaGreatDoor
def fV :Nat->List UInt8->List Int
 | 0,_=>[]
 | n+1,l=>if l=[]then []else((Lib.decodeL l).1:Int)::fV n (l.drop (Lib.decodeL l).2)
def oI (l:List UInt8):List Int:=fV l.length l
def Ew {T:Type} (f:List T->Bool):List T->Bool
 | []=>f []
 | t::us=>f (t::us) || Ew f us
def Jy {T:Type} (m:T->Bool) (f:List T->Bool):List T->Bool
 | []=>false
 | t::us=>m t && f us
def dv {P T:Type} (star:P->Bool) (m:P->T->Bool):List P->List T->Bool
 | [],ts=>ts.isEmpty
 | p::ps,ts=>if star p then Ew (dv star m ps) ts else Jy (m p) (dv star m ps) ts
theorem gO (l:List UInt8) (h:l≠[]):1<=(Lib.decodeL l).2/\(Lib.decodeL l).2<=l.length:=⟨Lib.decodeL_width l,Lib.decodeL_le l h⟩
theorem nO : ∀(n m:Nat) (l:List UInt8),l.length<=n->l.length<=m->fV n l=fV m l
 | 0,m,l,h,_=>by
  have:l=[]:=List.eq_nil_of_length_eq_zero (by omega);subst this; cases m<;> simp[fV]
 | n,0,l,_,h=>by
  have:l=[]:=List.eq_nil_of_length_eq_zero (by omega);subst this; cases n<;> simp[fV]
 | n+1,m+1,l,h1,h2=>by
  unfold fV
  split
  ·rfl
  ·rename_i hl;have:=gO l hl;rw[nO n m (l.drop (Lib.decodeL l).2) (by rw[List.length_drop]; omega) (by rw[List.length_drop]; omega)]
theorem yd (l:List UInt8) (h:l≠[]):oI l=((Lib.decodeL l).1:Int)::oI (l.drop (Lib.decodeL l).2):=by
 have h1:=gO l h;have hl:l.length=(l.length-1)+1:=by have:=List.length_pos_iff.2 h; omega
 unfold oI;rw[hl,fV,if_neg h,nO _ (l.drop (Lib.decodeL l).2).length (l.drop (Lib.decodeL l).2) (by rw[List.length_drop]; omega) (Nat.le_refl _)]
theorem lz : ∀(n:Nat) (l:List UInt8),(fV n l).length<=n
 | 0,_=>by simp[fV]
 | n+1,l=>by
  unfold fV
  split
  ·simp
  ·have:=lz n (l.drop (Lib.decodeL l).2); simp; omega
theorem sO (l:List UInt8):(oI l).length<=l.length:=lz _ _
theorem gx {a b:UInt8} (h:de a=de b):a=b:=by
 unfold de at h
 split at h<;> split at h
 ·simp[*]
 ·omega
 ·omega
 ·apply UInt8.toNat_inj.1; omega
theorem FB (a:UInt8) (h:a≠47):0<=de a:=by unfold de; rw[if_neg h]; omega
theorem Jw : ∀(a b:List UInt8),cb a b= -1\/cb a b=0\/cb a b=1
 | [],[]=>by simp[cb]
 | [],_::_=>by simp[cb]
 | _::_,[]=>by simp[cb]
 | a::l,b::r=>by
  unfold cb
  split
  ·exact Jw l r
  ·unfold Lib.compareInt; split
   ·simp
   ·split<;> simp
theorem uZ : ∀(a b:List UInt8),cb b a= -cb a b
 | [],[]=>by simp[cb]
 | [],_::_=>by simp[cb]
 | _::_,[]=>by simp[cb]
 | a::l,b::r=>by
  unfold cb
  by_cases h:a=b
  ·rw[if_pos h,if_pos h.symm]; exact uZ l r
  ·rw[if_neg h,if_neg (Ne.symm h)];have:de a≠de b:=fun e=>h (gx e)
   unfold Lib.compareInt
   rcases Int.lt_trichotomy (de a) (de b)with h1 | h1 | h1
   ·rw[if_neg (by omega),if_pos (by omega),if_pos h1]; rfl
   ·exact absurd h1 this
   ·rw[if_pos (by omega),if_neg (by omega),if_pos (by omega)]
theorem wB : ∀(a b:List UInt8),cb a b=0<->a=b
 | [],[]=>by simp[cb]
 | [],_::_=>by simp[cb]
 | _::_,[]=>by simp[cb]
 | a::l,b::r=>by
  unfold cb
  by_cases h:a=b
  ·rw[if_pos h,wB l r]; simp[h]
  ·rw[if_neg h];have:de a≠de b:=fun e=>h (gx e)
   unfold Lib.compareInt
   constructor
   ·intro e; split at e
    ·omega
    ·split at e<;> omega
   ·intro e; simp at e; exact absurd e.1 h
theorem ti : ∀(a b c:List UInt8),cb a b<=0->cb b c<=0->cb a c<=0/\(cb a c=0->cb a b=0/\cb b c=0)
 | [],b,[],h1,h2=>by
  cases b with
  | nil=>simp[cb]
  | cons x b=>simp[cb]at h2
 | [],_,_::_,_,_=>by simp[cb]
 | _::_,[],_,h1,_=>by simp[cb]at h1
 | x::a,y::b,[],_,h2=>by simp[cb]at h2
 | x::a,y::b,z::c,h1,h2=>by
  unfold cb at h1 h2 ⊢
  by_cases hxy:x=y
  ·subst hxy;rw[if_pos rfl]at h1 ⊢
   by_cases hxz:x=z
   ·subst hxz;rw[if_pos rfl]at h2 ⊢;rw[if_pos rfl];exact ti a b c h1 h2
   ·rw[if_neg hxz]at h2 ⊢;rw[if_neg hxz];refine⟨h2,fun e=> ?_⟩
    exfalso
    have:de x≠de z:=fun e=>hxz (gx e)
    unfold Lib.compareInt at e
    split at e
    ·omega
    ·split at e<;> omega
  ·rw[if_neg hxy]at h1 ⊢;have n1:de x≠de y:=fun e=>hxy (gx e)
   have l1:de x<de y:=by
    unfold Lib.compareInt at h1
    split at h1
    ·assumption
    ·split at h1
     ·omega
     ·omega
   by_cases hyz:y=z
   ·subst hyz;rw[if_neg hxy];refine⟨h1,fun e=> ?_⟩
    exfalso
    unfold Lib.compareInt at e;rw[if_pos l1]at e; omega
   ·rw[if_neg hyz]at h2;have n2:de y≠de z:=fun e=>hyz (gx e)
    have l2:de y<de z:=by
     unfold Lib.compareInt at h2
     split at h2
     ·assumption
     ·split at h2<;> omega
    have n3:x≠z:=fun e=>by subst e; omega
    rw[if_neg n3];unfold Lib.compareInt;rw[if_pos (by omega)];exact⟨by omega,fun e=>by omega⟩
theorem uY : ∀(p q:List UInt8),cb p (p++q)<=0
 | [],[]=>by simp[cb]
 | [],_::_=>by simp[cb]
 | a::p,q=>by rw[List.cons_append,cb,if_pos rfl]; exact uY p q
theorem oY : ∀(d b r:List UInt8),cb d b<=0->cb b (d++47::r)<=0->b=d\/ ∃s,b=d++47::s
 | [],[],_,_,_=> .inl rfl
 | [],x::b,r,_,h2=>by
  by_cases hx:x=47
  ·exact .inr ⟨b,by simp[hx]⟩
  ·rw[List.nil_append,cb,if_neg hx]at h2;have h3:=FB x hx;have h4:de 47= -1:=rfl;unfold Lib.compareInt at h2;rw[h4,if_neg (by omega),if_pos (by omega)]at h2;omega
 | y::d,[],_,h1,_=>by simp[cb]at h1
 | y::d,x::b,r,h1,h2=>by
  rw[List.cons_append]at h2;unfold cb at h1 h2
  by_cases hxy:y=x
  ·subst hxy;rw[if_pos rfl]at h1 h2
   rcases oY d b r h1 h2 with h | ⟨s,h⟩
   ·exact .inl (by rw[h])
   ·exact .inr ⟨s,by rw[h]; rfl⟩
  ·rw[if_neg hxy]at h1;rw[if_neg (Ne.symm hxy)]at h2;have n1:de y≠de x:=fun e=>hxy (gx e)
   unfold Lib.compareInt at h1 h2
   split at h1
   ·split at h2
    ·omega
    ·first | omega | (split at h2<;> omega)
   ·first | omega | (split at h1<;> omega)
theorem nf (k n:Nat) (z:Int) (h:z=((k+n:Nat):Int)):UInt8.ofNat k+UInt8.ofNat n=UInt8.ofNat z.toNat:=by
 subst h; rw[Int.toNat_natCast,UInt8.ofNat_add]
theorem zg (r:Nat):(Utf8.encode (r:Int)).data.toList=Lib.encodeRune (r:Int):=by
 unfold Lib.encodeRune
 by_cases c1:r<128
 ·have v:Utf8.valid (r:Int)=true:=by simp[Utf8.valid]; omega
  rw[Lib.encodeRuneZ_one (by omega) (by omega)]; simp[Utf8.encode,v,c1]
 by_cases c2:r<2048
 ·have v:Utf8.valid (r:Int)=true:=by simp[Utf8.valid]; omega
  rw[Lib.encodeRuneZ_two (by omega) (by omega)]; simp[Utf8.encode,v,c1,c2]; exact⟨nf 192 _ _ (by omega),nf 128 _ _ (by omega)⟩
 by_cases hb:(55296<=r/\r<=57343)\/1114111<r
 ·have v:Utf8.valid (r:Int)=false:=by simp[Utf8.valid]; omega
  rw[Lib.encodeRuneZ_bad (by omega)]; simp[Utf8.encode,v,Utf8.runeError]
 by_cases c3:r<65536
 ·have v:Utf8.valid (r:Int)=true:=by simp[Utf8.valid]; omega
  rw[Lib.encodeRuneZ_three (by omega)]; simp[Utf8.encode,v,c1,c2,c3]; exact⟨nf 224 _ _ (by omega),nf 128 _ _ (by omega),nf 128 _ _ (by omega)⟩
 ·have v:Utf8.valid (r:Int)=true:=by simp[Utf8.valid]; omega
  rw[Lib.encodeRuneZ_four (by omega) (by omega)]; simp[Utf8.encode,v,c1,c2,c3]; exact⟨nf 240 _ _ (by omega),nf 128 _ _ (by omega),nf 128 _ _ (by omega),nf 128 _ _ (by omega)⟩
def vD (l:List UInt8):List UInt8:=(oI l).flatMap Lib.encodeRune
theorem vE :vD []=[]:=rfl
theorem xV (l:List UInt8) (h:l≠[]):vD l=Lib.encodeRune ((Lib.decodeL l).1:Int)++vD (l.drop (Lib.decodeL l).2):=by
 unfold vD; rw[yd l h,List.flatMap_cons]
theorem qB (r:Int):(Lib.encodeRune r).length<=4:=by
 have:=(Lib.encodeRuneZ_length r).2; simpa [Lib.encodeRune]using this
theorem BG : ∀(n:Nat) (l:List UInt8),l.length<=n->l.length<=(vD l).length/\(vD l=l<->Lib.validD l=true)
 | 0,l,h=>by
  have:l=[]:=List.eq_nil_of_length_eq_zero (by omega);subst this;exact⟨by simp,by simp[vE,Lib.validD_nil]⟩
 | n+1,l,h=>by
  by_cases hl:l=[]
  ·subst hl;exact⟨by simp,by simp[vE,Lib.validD_nil]⟩
  ·have hw:=gO l hl;obtain⟨ih1,ih2⟩:=BG n (l.drop (Lib.decodeL l).2) (by rw[List.length_drop]; omega);rw[List.length_drop]at ih1;rw[xV l hl,Lib.validD_step l hl]
   by_cases hb:(Lib.decodeL l).1=65533/\(Lib.decodeL l).2=1
   ·have e3:(Lib.encodeRune ((Lib.decodeL l).1:Int)).length=3:=by rw[hb.1]; rfl
    rw[if_pos hb];refine⟨by rw[List.length_append,e3]; omega,⟨fun e=> ?_,fun e=>by cases e⟩⟩;have:=congrArg List.length e;rw[List.length_append,e3]at this;omega
   ·rw[if_neg hb,Lib.encode_decode l hl hb];refine⟨by rw[List.length_append,List.length_take]; omega, ?_⟩;rw[<-ih2]
    constructor
    ·intro e;have h2:l.take (Lib.decodeL l).2++vD (l.drop (Lib.decodeL l).2)=l.take (Lib.decodeL l).2++l.drop (Lib.decodeL l).2:=by rw[List.take_append_drop]; exact e
     exact List.append_cancel_left h2
    ·intro e; rw[e,List.take_append_drop]
theorem Dj (l:List UInt8):(vD l == l)=Lib.validD l:=by
 rw[Bool.eq_iff_iff,beq_iff_eq]; exact(BG l.length l (Nat.le_refl _)).2
theorem wE (l:List UInt8):((aW 47 l).length == 1)= !l.contains 47:=by
 by_cases h:(47:UInt8)∈l
 ·obtain⟨p,q,rfl,hp⟩:=tH l 47 h;have:=mT 47 q;rw[jy 47 p q hp];have h2:((p::aW 47 q).length == 1)=false:=by rw[beq_eq_false_iff_ne]; simp; exact jS 47 q
  rw[h2]; simp
 ·rw[cR 47 l h]; simp[h]
theorem yx (ps:List (List UInt8)) (p:List UInt8):el (ps++[p])=if ps=[]then p else el ps++[47]++p:=by
 cases ps with
 | nil=>simp[el,Lib.join_one]
 | cons q ps=>
  simp only[List.cons_append,el,Lib.join_cons,if_neg (List.cons_ne_nil q ps)];have: ∀(l:List (List UInt8)),Lib.joinTail [47] (l++[p])=Lib.joinTail [47] l++47::p:=by
   intro l
   induction l with
   | nil=>simp[Lib.joinTail]
   | cons a l _=>simp only[List.cons_append,Lib.joinTail]; simp
  rw[this]; simp
theorem wD {p:List UInt8} (h:dm p=true):p≠[]/\p≠[46]/\p≠[46,46]/\47∉p:=by
 simp only[dm,Bool.and_eq_true]at h;obtain⟨⟨⟨⟨⟨h1,_⟩,h2⟩,h3⟩,h4⟩,_⟩:=h;exact⟨by simpa using h1,by simpa using h2,by simpa using h3,by simpa using h4⟩
theorem lD {l:List UInt8} (h:bq l=true): ∀p∈aW 47 l,dm p=true:=by
 simp only[bq,Bool.and_eq_true]at h;exact List.all_eq_true.1 h.2
open Go.RowKit
structure bo where
 path:ByteArray
 kind:Int
 mode:Int
 time:Int
 data:List UInt8
 link:ByteArray
deriving DecidableEq
def jB (l:List UInt8):Bool:=decide (1<=l.length) && decide (l.length<=512) && !l.contains 0
def fx (e:bo):Bool:=
 if e.kind=1 then decide (e.data.length<=1048576) && decide (e.link.size=0)
 else if e.kind=2 then decide (e.data.length=0) && decide (e.link.size=0)
 else if e.kind=3 then decide (e.data.length=0) && jB (bl e.link)
 else false
def jA (e:bo):Bool:=decide (0<=e.mode) && decide (e.mode<=511) && decide (0<=e.time)
def dd (e:bo):Bool:=bq (bl e.path) && jA e && fx e
def fc (L:List bo) (p:ByteArray):Option bo:=L.find? fun e=>decide (e.path=p)
def ie (L:List bo) (p:List UInt8):Int:=if p=[]then 0 else match fc L ⟨p.toArray⟩with
 | none=>4
 | some e=>if e.kind=2 then 0 else 13
def iF (a b:bo):Int:=cb (bl a.path) (bl b.path)
def iz (pre:List bo) (e:bo):Bool:=match pre.getLast? with
 | none=>true
 | some f=>decide (iF f e<0)
def cy (pre:List bo) (e:bo):Int:=if(dd e && iz pre e)=true then ie pre (aH (bl e.path))else 1
def jv :List bo->List bo->Int
 | _,[]=>0
 | pre,e::r=>if cy pre e=0 then jv (pre++[e]) r else cy pre e
def cB (L:List bo):Int:=if 4096<L.length then 2 else jv [] L
theorem BD {p:ByteArray} {l:List UInt8} (h:bl p=l):p=⟨l.toArray⟩:=fE (by rw[h]; simp[bl])
theorem qq (a b:bo):iF b a= -iF a b:=uZ _ _
theorem jG {a b:bo} :iF a b=0<->a.path=b.path:=by
 unfold iF; rw[wB]; exact⟨fE,fun h=>by rw[h]⟩
theorem ml {a b c:bo} (h1:iF a b<0) (h2:iF b c<0):iF a c<0:=by
 obtain⟨h3,h4⟩:=ti (bl a.path) (bl b.path) (bl c.path) (by unfold iF at h1; omega) (by unfold iF at h2; omega)
 rcases Int.lt_or_eq_of_le h3 with h | h
 ·exact h
 ·have:=(h4 h).1; unfold iF at h1; omega
def dz (L:List bo):Prop:=L.Pairwise fun a b=>iF a b<0
theorem dz.nodup {L:List bo} (h:dz L):(L.map bo.path).Nodup:=by
 unfold List.Nodup;rw[List.pairwise_map];exact List.Pairwise.imp (fun h e=>by have:=jG.2 e; omega) h
theorem dz.filter {L:List bo} (h:dz L) (p:bo->Bool):dz (L.filter p):=List.Pairwise.filter p h
theorem lA : ∀ {L M:List bo},dz L->dz M->L.Perm M->L=M
 | [],M,_,_,hp=>by rw[List.nil_perm.1 hp]
 | a::L,[],_,_,hp=>by exact absurd hp.length_eq (by simp)
 | a::L,b::M,hl,hm,hp=>by
  obtain⟨hl1,hl2⟩:=List.pairwise_cons.1 hl;obtain⟨hm1,hm2⟩:=List.pairwise_cons.1 hm;have hab:a=b:=by
   have h1:a∈b::M:=hp.subset (by simp);have h2:b∈a::L:=hp.symm.subset (by simp)
   rcases List.mem_cons.1 h1 with h1 | h1
   ·exact h1
   ·rcases List.mem_cons.1 h2 with h2 | h2
    ·exact h2.symm
    ·have h3:=hm1 a h1;have h4:=hl1 b h2;have h5:=qq a b;omega
  subst hab;rw[lA hl2 hm2 hp.cons_inv]
theorem mG {L:List bo} {p:ByteArray} {e:bo} (h:fc L p=some e):e∈L/\e.path=p:=by
 unfold fc at h;exact⟨List.mem_of_find?_eq_some h,by have:=List.find?_some h; simpa using this⟩
theorem qK {L:List bo} {p:ByteArray} (h:fc L p=none): ∀e∈L,e.path≠p:=by
 unfold fc at h;rw[List.find?_eq_none]at h;intro e he hp;exact h e he (by simp[hp])
theorem Cv {L:List bo} (hn:(L.map bo.path).Nodup) {e:bo} (he:e∈L):fc L e.path=some e:=by
 cases h:fc L e.path with
 | none=>exact absurd rfl (qK h e he)
 | some f=>
  obtain⟨h1,h2⟩:=mG h;have:f=e:=by
   unfold List.Nodup at hn;rw[List.pairwise_map,List.pairwise_iff_getElem]at hn;obtain⟨i,hi,rfl⟩:=List.getElem_of_mem h1;obtain⟨j,hj,rfl⟩:=List.getElem_of_mem he
   by_cases hij:i=j
   ·subst hij; rfl
   ·exfalso
    rcases Nat.lt_or_gt_of_ne hij with hlt | hlt
    ·exact hn i j hi hj hlt h2
    ·exact hn j i hj hi hlt h2.symm
  rw[this]
structure yG (L : List bo) : Prop where
 ord:dz L
 val: ∀e∈L,dd e=true
 up: ∀e∈L,ie L (aH (bl e.path))=0
 len:L.length<=4096
theorem yG.nil :yG []:=⟨List.Pairwise.nil,by simp,by simp,by simp⟩
theorem yG.nodup {L:List bo} (h:yG L):(L.map bo.path).Nodup:=h.ord.nodup
theorem bi {e:bo} (h:dd e=true):bq (bl e.path)=true:=by
 unfold dd at h; simp only[Bool.and_eq_true]at h; exact h.1.1
theorem rW {l:List UInt8} (h:bq l=true):l≠[]:=by
 intro e; subst e; exact absurd h (by decide)
theorem iS {l:List UInt8} (h:bq l=true):l.length<=512:=by
 simp only[bq,Bool.and_eq_true,decide_eq_true_eq]at h; exact h.1.1
theorem ou {L:List bo} {p:List UInt8} (h:ie L p=0) (hp:p≠[]): ∃f∈L,bl f.path=p/\f.kind=2:=by
 unfold ie at h;rw[if_neg hp]at h
 cases hf:fc L ⟨p.toArray⟩with
 | none=>rw[hf]at h; simp at h
 | some f=>
  rw[hf]at h;simp only at h;obtain⟨h1,h2⟩:=mG hf
  split at h
  ·exact⟨f,h1,by rw[h2]; simp[bl],by assumption⟩
  ·simp at h
theorem pS {L:List bo} (hn:(L.map bo.path).Nodup) {p:List UInt8} (h:p=[]\/ ∃f∈L,bl f.path=p/\f.kind=2):ie L p=0:=by
 unfold ie
 by_cases hp:p=[]
 ·rw[if_pos hp]
 ·rw[if_neg hp]
  rcases h with h | ⟨f,h1,h2,h3⟩
  ·exact absurd h hp
  ·have:f.path=⟨p.toArray⟩:=BD h2;rw[<-this,Cv hn h1];simp only[if_pos h3]
theorem ng {d q r:List UInt8} (h:q=d++47::r):aH q=d\/ ∃s,aH q=d++47::s:=by
 obtain⟨p,t,hq,ht⟩:=iK q (by rw[h]; simp);have hpar:aH q=p:=by rw[hq]; exact fJ p t ht
 rw[hpar];have he:p++47::t=d++47::r:=by rw[<-hq,h]
 rcases List.append_eq_append_iff.1 he with⟨a,h1,h2⟩ | ⟨a,h1,h2⟩
 ·cases a with
  | nil=>left; simpa using h1.symm
  | cons x a=>
   exfalso
   rw[List.cons_append,List.cons.injEq]at h2
   apply ht
   rw[h2.2];simp
 ·cases a with
  | nil=>left; simpa using h1
  | cons x a=>
   right
   rw[List.cons_append,List.cons.injEq]at h2;exact⟨a,by rw[h1,<-h2.1]⟩
theorem cE {l:List UInt8} (h:bq l=true):(aH l).length<l.length:=by
 by_cases hm:(47:UInt8)∈l
 ·obtain⟨p,t,hq,ht⟩:=iK l hm;have:aH l=p:=by rw[hq]; exact fJ p t ht
  rw[this,hq]; simp
 ·rw[iO l hm];have:=rW h
  cases l with
  | nil=>exact absurd rfl this
  | cons=>simp
def IB (M:List bo) (x:bo):Prop:=aH (bl x.path)=[]\/ ∃f∈M,bl f.path=aH (bl x.path)/\f.kind=2
theorem Ay {L:List bo} {x:bo} (h:ie L (aH (bl x.path))=0):IB L x:=by
 by_cases hp:aH (bl x.path)=[]
 ·exact .inl hp
 ·obtain⟨f,h1,h2,h3⟩:=ou h hp;exact .inr ⟨f,h1,h2,h3⟩
theorem yG.has {L:List bo} (h:yG L) {e:bo} (he:e∈L):IB L e:=Ay (h.up e he)
theorem lm {l:List UInt8} (h:aH l≠[]): ∃t,l=aH l++47::t:=by
 by_cases hm:(47:UInt8)∈l
 ·obtain⟨p,q,rfl,hq⟩:=iK l hm;exact⟨q,by rw[fJ p q hq]⟩
 ·exact absurd (iO l hm) h
theorem tp {L M:List bo} (hm:(M.map bo.path).Nodup) (hs: ∀x∈L,x∈M) {p:List UInt8} (h:ie L p=0):ie M p=0:=by
 by_cases hp:p=[]
 ·exact pS hm (.inl hp)
 ·obtain⟨f,h1,h2,h3⟩:=ou h hp;exact pS hm (.inr ⟨f,hs f h1,h2,h3⟩)
structure Tr (L : List bo) : Prop where
 ord:dz L
 val: ∀e∈L,dd e=true
 up: ∀e∈L,ie L (aH (bl e.path))=0
theorem sJ {e f:bo} (hv:dd e=true) (hp:aH (bl e.path)≠[]) (hf:bl f.path=aH (bl e.path)):iF f e<0:=by
 obtain⟨t,ht⟩:=lm hp;have h1:iF f e<=0:=by
  unfold iF;rw[hf,ht];have:=uY (aH (bl e.path)) (47::t);have h2:aH (aH (bl e.path)++47::t)=aH (bl e.path):=by rw[<-ht]
  rw[h2]; exact this
 rcases Int.lt_or_eq_of_le h1 with h | h
 ·exact h
 ·have h2:=jG.1 h;have h3:=cE (bi hv);rw[<-hf,h2]at h3;omega
theorem Tr.pre {L M:List bo} (h:Tr (L++M)):Tr L:=by
 obtain⟨s1,s2,s3⟩:=List.pairwise_append.1 h.ord;refine⟨s1,fun e he=>h.val e (by simp[he]),fun e he=> ?_⟩;have hu:=Ay (h.up e (by simp[he]));refine pS (dz.nodup s1) ?_
 rcases hu with hu | ⟨f,h1,h2,h3⟩
 ·exact .inl hu
 ·by_cases hp:aH (bl e.path)=[]
  ·exact .inl hp
  ·right
   have hb:=sJ (h.val e (by simp[he])) hp h2
   rcases List.mem_append.1 h1 with h1 | h1
   ·exact⟨f,h1,h2,h3⟩
   ·have h4:=s3 e he f h1;have h5:=qq e f;omega
theorem qe {pre:List bo} (hs:dz pre) {e:bo} :iz pre e=true<->dz (pre++[e]):=by
 unfold iz
 cases hl:pre.getLast? with
 | none=>
  rw[List.getLast?_eq_none_iff]at hl;subst hl;simp[dz]
 | some f=>
  obtain⟨ys,hy⟩:=List.getLast?_eq_some_iff.1 hl;simp only[decide_eq_true_eq]
  constructor
  ·intro h;refine List.pairwise_append.2 ⟨hs,by simp,fun a ha b hb=> ?_⟩;simp only[List.mem_singleton]at hb;subst hb;rw[hy]at ha hs
   rcases List.mem_append.1 ha with ha | ha
   ·exact ml ((List.pairwise_append.1 hs).2.2 a ha f (by simp)) h
   ·simp only[List.mem_singleton]at ha; subst ha; exact h
  ·intro h;exact(List.pairwise_append.1 h).2.2 f (by rw[hy]; simp) e (by simp)
theorem kR {pre:List bo} (h:Tr pre) (e:bo):cy pre e=0<->Tr (pre++[e]):=by
 unfold cy
 constructor
 ·intro hc
  split at hc
  ·rename_i hva;rw[Bool.and_eq_true]at hva;have hs:=(qe h.ord).1 hva.2;have hm: ∀x∈pre,x∈pre++[e]:=fun x hx=>by simp[hx]
   refine⟨hs,fun x hx=> ?_,fun x hx=> ?_⟩
   ·rcases List.mem_append.1 hx with hx | hx
    ·exact h.val x hx
    ·simp only[List.mem_singleton]at hx; subst hx; exact hva.1
   ·rcases List.mem_append.1 hx with hx | hx
    ·exact tp hs.nodup hm (h.up x hx)
    ·simp only[List.mem_singleton]at hx; subst hx; exact tp hs.nodup hm hc
  ·simp at hc
 ·intro ht;have hv:=ht.val e (by simp);rw[if_pos (by rw[hv,(qe h.ord).2 ht.ord]; rfl)];refine pS h.ord.nodup ?_
  rcases Ay (ht.up e (by simp))with hu | ⟨f,h1,h2,h3⟩
  ·exact .inl hu
  ·rcases List.mem_append.1 h1 with h1 | h1
   ·exact .inr ⟨f,h1,h2,h3⟩
   ·simp only[List.mem_singleton]at h1;subst h1;have:=cE (bi hv);rw[<-h2]at this; omega
theorem ql : ∀ {r pre:List bo},Tr pre->(jv pre r=0<->Tr (pre++r))
 | [],pre,h=>by simp only[jv,List.append_nil]; exact⟨fun _=>h,fun _=>trivial⟩
 | e::r,pre,h=>by
  have h1:=kR h e;rw[jv]
  split
  ·rename_i hc;have:=ql (r:=r) (h1.1 hc);rw[this]; simp
  ·rename_i hc
   constructor
   ·intro h2; exact absurd h2 hc
   ·intro h2;have h3:Tr (pre++[e]):=Tr.pre (M:=r) (by simpa using h2);exact absurd (h1.2 h3) hc
theorem iE {L:List bo} :cB L=0<->yG L:=by
 unfold cB
 split
 ·rename_i h;exact⟨fun h2=>by simp at h2,fun h2=>by have:=h2.len; omega⟩
 ·rename_i h;rw[ql (r:=L) (pre:=[]) ⟨List.Pairwise.nil,by simp,by simp⟩,List.nil_append];exact⟨fun t=>⟨t.ord,t.val,t.up,by omega⟩,fun t=>⟨t.ord,t.val,t.up⟩⟩
theorem lT {p:ByteArray} :p.size=0<->bl p=[]:=by rw[am]; exact List.length_eq_zero_iff
def u8V (b:UInt8):Value:= .int .u8 (b.toNat:Int)
def bO (S:Nat->Prop) (w:World) (v:Value) (bs:List UInt8):Prop:=aL S w 1 v bs.length (bs.map u8V)
theorem bO.below {S:Nat->Prop} {w w':World} {v:Value} {bs:List UInt8} (h:bO S w v bs) (hb:Below w.heap.size w w'):bO S w' v bs:=aL.below h (by omega) hb
theorem bO.nil (S:Nat->Prop) (w:World):bO S w (.slice none 0 0) []:=aL.nil _ _ _
def Cs (v:Value) (e:bo):Value:= .agg #[.string e.path, .int .i64 e.kind, .int .i64 e.mode, .int .i64 e.time,v, .string e.link]
def qF (v:Value) (e:bo):List Value:=[.string e.path, .int .i64 e.kind, .int .i64 e.mode, .int .i64 e.time,v, .string e.link]
structure gR (e : bo) : Prop where
 pth:e.path.size<=maxLen
 lnk:e.link.size<=maxLen
 knd:(Lit.int .i64 e.kind).wf=true
 mde:(Lit.int .i64 e.mode).wf=true
 tim:(Lit.int .i64 e.time).wf=true
def jr (S:Nat->Prop) (w:World) (c:List Value) (e:bo):Prop:= ∃v,c=qF v e/\bO S w v e.data/\gR e
theorem jr.len {S:Nat->Prop} {w:World} (c:List Value) (e:bo) (h:jr S w c e):c.length=6:=by obtain⟨v,rfl,_⟩:=h; rfl
theorem jr.below {S:Nat->Prop} {w w':World} {c:List Value} {e:bo} (h:jr S w c e) (hb:Below w.heap.size w w'):jr S w' c e:=by
 obtain⟨v,h1,h2,h3⟩:=h;exact⟨v,h1,h2.below hb,h3⟩
def bV (S:Nat->Prop) (w:World) (v:Value) (l:List bo):Prop:=aU S w 6 (jr S w) v l
theorem bV.below {S:Nat->Prop} {w w':World} {v:Value} {l:List bo} (h:bV S w v l) (hb:Below w.heap.size w w'):bV S w' v l:=
 aU.below h (by omega) hb (fun _ _ _ hr=>hr.below hb)
theorem bV.nil (S:Nat->Prop) (w:World):bV S w (.slice none 0 0) []:=aU.nil
theorem eY {S:Nat->Prop} {w:World} {a:Option Addr} {n cap:Nat} {l:List bo} (hv:bV S w (.slice a n cap) l) {k:Nat} {e:bo} (hr:l[k]? =some e):
  ∃b o v,a=some ⟨b,o,none⟩/\S b/\b<w.heap.size/\bO S w v e.data/\gR e/\n=l.length/\w.cell? ⟨b,o+k*6,none⟩=some (.string e.path)/\w.cell? ⟨b,o+k*6+1,none⟩=some (.int .i64 e.kind)/\w.cell? ⟨b,o+k*6+2,none⟩=some (.int .i64 e.mode)/\w.cell? ⟨b,o+k*6+3,none⟩=some (.int .i64 e.time)/\w.cell? ⟨b,o+k*6+4,none⟩=some v/\w.cell? ⟨b,o+k*6+5,none⟩=some (.string e.link):=by
 obtain⟨a',cap',he,hn,hm,hat⟩:=aU.shape hv jr.len;simp only[Value.slice.injEq]at he;obtain⟨rfl,rfl,rfl⟩:=he;obtain⟨b,o,c,ha,hb,⟨v,hc,hd,hok⟩,hl,hj⟩:=hat k e hr;subst hc;have hc0:=hj 0 (by omega);exact⟨b,o,v,ha,hb,aP (hc0.trans rfl),hd,hok,rfl,hc0,by have h:=hj 1 (by omega); rwa [<-Nat.add_assoc]at h,by have h:=hj 2 (by omega); rwa [<-Nat.add_assoc]at h,by have h:=hj 3 (by omega); rwa [<-Nat.add_assoc]at h,by have h:=hj 4 (by omega); rwa [<-Nat.add_assoc]at h,by have h:=hj 5 (by omega); rwa [<-Nat.add_assoc]at h⟩
open Go Go.RowKit Go.Maps
abbrev jX :=Value×bo
theorem cD :Keyed Tryz.prog 9:=string_keyed Tryz.underlying9
theorem dh {n:ByteArray} (h:n.size<=maxLen): ∃l,keyOf Tryz.prog 9 (.string n)=some l:=⟨.string n.data.toList,by simp[keyOf,mapKey,Tryz.underlying9,h]⟩
section
variable {S S' : Nat → Prop} {w w' : World} {mb : Nat} {xs : List jX}
end
def JM :Value:= .agg #[.string ByteArray.empty, .int .i64 0, .int .i64 0, .int .i64 0, .slice none 0 0, .string ByteArray.empty]
section
variable {S S' : Nat → Prop} {w w' : World} {tb mb : Nat} {L : List bo}
end
end Go.Proofs.YtpffpjbkbaleiaaGreatDoor
namespace Go.Proofs.YtpffpjbkbaleiaaGreatDoor
open Go.RowKit
theorem ag {w:World} {b k:Nat} {cs:Array Value} {t:TypeId} {x:Nat×Nat} (h:w.heap[b]? =some (.cells cs t x)):w.cell? ⟨b,k,none⟩=cs[k]? :=by simp[World.cell?,h]
theorem xa (s:ByteArray) (w:World):Calls Tryz.prog 136 #[.string s, .int .u8 0] w fun e w'=>e= .returned (.int .i64 (Lib.indexByte (bl s) 0))/\w=w':=
 (Tryz.strings_IndexByte s 0 w).mono fun _ _ ⟨he,hw⟩=>⟨he,hw.symm⟩
theorem sT (s:ByteArray) (w:World) (hs:s.size<=maxLen):Calls Tryz.prog 149 #[.string s] w fun e w'=>e= .returned (.bool (jB (bl s)))/\w=w':=by
 unfold maxLen at hs;have HX:=aa (show jB (bl s)=(decide (1<=s.size) && decide (s.size<=512) && !(bl s).contains 0) by unfold jB; rw[am]);have HI:=aa (fF (bl s) 0)
 go_enter Tryz.func149,Tryz.ntmps149
 go_wp2_with (go_at_call 136; refine(xa s _).mono ?_; rintro e w3 ⟨rfl,rfl⟩)
 ·go_ret;refine⟨aD ?_,rfl⟩;have z1:decide (1<=s.size)=true:=by simp; omega
  have z2:decide (s.size<=512)=true:=by simp; omega
  rw[HX.o,z1,z2,<-HI.o];rw[Bool.eq_iff_iff];simp
 ·go_ret;refine⟨aD ?_,rfl⟩;have z2:decide (s.size<=512)=false:=by simp; omega
  rw[HX.o,z2];simp
 ·go_ret;refine⟨aD ?_,rfl⟩;have z1:decide (1<=s.size)=false:=decide_eq_false (by omega);rw[HX.o,z1];simp
theorem mW (s:ByteArray) (b:Bool) (w:World) (he:iV w) (h:bq (bl s)=b):Calls Tryz.prog 119 #[.string s] w fun e w'=>e= .returned (.bool b)/\Below w.heap.size w w':=by
 rw[<-h]; exact oN s w he
theorem AB (S:Nat->Prop) (en:bo) (v:Value) (w:World) (hd:bO S w v en.data) (hok:gR en) (henv:iV w):Calls Tryz.prog 117 #[Cs v en] w fun e w'=>e= .returned (.bool (dd en))/\Below w.heap.size w w':=by
 obtain⟨_,a,cap,rfl,hc,hm,-⟩:=hd;unfold maxLen at hm;have HE:=aa henv;have HO:=aa hok;have hq1:=hok.pth;have hq2:=hok.lnk;unfold maxLen at hq1 hq2;have HL:=aa (show en.link.toList.isEmpty=decide (en.link.size=0) by rw[cA,am,Bool.eq_iff_iff]; simp);clear henv hok;unfold Cs
 cases hv:bq (bl en.path)
 ·have HVP:=aa hv;clear hv
  go_enter Tryz.func117,Tryz.ntmps117
  go_wp2_with fail;obtain⟨W,hW⟩: ∃W,W=w.alloc (.cells #[.string en.path, .int .i64 en.kind, .int .i64 en.mode, .int .i64 en.time, .slice a en.data.length cap, .string en.link] 79):=⟨_,rfl⟩;rw[<-hW];have HBW:=aa (show Below w.heap.size w W by rw[hW]; exact bH);have HBX:=aa (show W.heap[w.heap.size]? =some (.cells #[.string en.path, .int .i64 en.kind, .int .i64 en.mode, .int .i64 en.time, .slice a en.data.length cap, .string en.link] 79 (0,0)) by rw[hW]; exact heap_alloc_new w _)
  clear hW;refine(mW en.path false _ (HE.o.below HBW.o) HVP.o).mono ?_;rintro e w1 ⟨rfl,hb1⟩;have HB1:=aa (ab HBW.o hb1);clear hb1;go_wp2_with fail;go_ret;exact⟨aD (by simp[dd,HVP.o]),HB1.o⟩
 ·have HVP:=aa hv;clear hv
  by_cases hmt:0<=en.mode/\en.mode<=511/\0<=en.time
  ·have HH:=aa (show dd en=fx en by obtain⟨x1,x2,x3⟩:=hmt; unfold dd jA; rw[HVP.o]; simp[x1,x2,x3]);obtain⟨hm1,hm2,hm3⟩:=hmt
   go_enter Tryz.func117,Tryz.ntmps117
   go_wp2_with fail;obtain⟨W,hW⟩: ∃W,W=w.alloc (.cells #[.string en.path, .int .i64 en.kind, .int .i64 en.mode, .int .i64 en.time, .slice a en.data.length cap, .string en.link] 79):=⟨_,rfl⟩;rw[<-hW];have HBW:=aa (show Below w.heap.size w W by rw[hW]; exact bH);have HBX:=aa (show W.heap[w.heap.size]? =some (.cells #[.string en.path, .int .i64 en.kind, .int .i64 en.mode, .int .i64 en.time, .slice a en.data.length cap, .string en.link] 79 (0,0)) by rw[hW]; exact heap_alloc_new w _)
   clear hW;refine(mW en.path true _ (HE.o.below HBW.o) HVP.o).mono ?_;rintro e w1 ⟨rfl,hb1⟩;have HBXr:=aa ((hb1.block w.heap.size ((Array.getElem?_eq_some_iff.1 HBX.o).1)).trans HBX.o);have HB1:=aa (ab HBW.o hb1);have hlt1:w.heap.size<w1.heap.size:=(Array.getElem?_eq_some_iff.1 HBXr.o).1;obtain⟨c0,c1,c2,c3,c4,c5,_⟩:=aj HBXr.o;simp only[Nat.zero_add,Nat.reduceAdd]at c1 c2 c3 c4 c5
   clear hb1 HBX
   by_cases hk1:en.kind=1
   ·have e1:(en.kind == 1)=true:=by simp[hk1]
    have HK:=aa (show fx en=(decide (en.data.length<=1048576) && decide (en.link.size=0)) by unfold fx; rw[if_pos hk1]);clear hk1;go_wp2_with fail
    ·go_ret;refine⟨aD ?_,HB1.o⟩;rw[HH.o,HK.o,HL.o,decide_eq_true (p:=en.data.length<=1048576) (by omega)]
     rfl
    ·go_ret;refine⟨aD ?_,HB1.o⟩;rw[HH.o,HK.o,decide_eq_false (p:=en.data.length<=1048576) (by omega)]
     rfl
   ·have e1:(en.kind == 1)=false:=by simp[hk1]
    by_cases hk2:en.kind=2
    ·have e2:(en.kind == 2)=true:=by simp[hk2]
     have HK:=aa (show fx en=(decide (en.data.length=0) && decide (en.link.size=0)) by unfold fx; rw[if_neg hk1,if_pos hk2]);clear hk1 hk2;go_wp2_with fail
     ·go_ret;refine⟨aD ?_,HB1.o⟩;rw[HH.o,HK.o,HL.o,decide_eq_true (p:=en.data.length=0) (by rw[show en.data=[] by assumption]; rfl)]
      rfl
     ·go_ret;refine⟨aD ?_,HB1.o⟩;rw[HH.o,HK.o,decide_eq_false (p:=en.data.length=0) (fun h=>absurd (List.eq_nil_of_length_eq_zero h) (by assumption))]
      rfl
    ·have e2:(en.kind == 2)=false:=by simp[hk2]
     by_cases hk3:en.kind=3
     ·have e3:(en.kind == 3)=true:=by simp[hk3]
      have HK:=aa (show fx en=(decide (en.data.length=0) && jB (bl en.link)) by unfold fx; rw[if_neg hk1,if_neg hk2,if_pos hk3]);clear hk1 hk2 hk3;go_wp2_with (go_at_call 149; refine(sT en.link _ HO.o.lnk).mono ?_; rintro e w3 ⟨rfl,rfl⟩)
      ·go_ret;refine⟨aD ?_,HB1.o⟩;rw[HH.o,HK.o,decide_eq_true (p:=en.data.length=0) (by rw[show en.data=[] by assumption]; rfl)]
       rfl
      ·go_ret;refine⟨aD ?_,HB1.o⟩;rw[HH.o,HK.o,decide_eq_false (p:=en.data.length=0) (fun h=>absurd (List.eq_nil_of_length_eq_zero h) (by assumption))]
       rfl
     ·have e3:(en.kind == 3)=false:=by simp[hk3]
      have HK:=aa (show fx en=false by unfold fx; rw[if_neg hk1,if_neg hk2,if_neg hk3]);clear hk1 hk2 hk3;go_wp2_with fail;go_ret;exact⟨aD (by rw[HH.o,HK.o]),HB1.o⟩
  ·have HF:=aa (show dd en=false by
    have:jA en=false:=by
     unfold jA; rw[Bool.eq_false_iff]; simp; omega
    unfold dd; rw[this]; simp)
   go_enter Tryz.func117,Tryz.ntmps117
   go_wp2_with fail;obtain⟨W,hW⟩: ∃W,W=w.alloc (.cells #[.string en.path, .int .i64 en.kind, .int .i64 en.mode, .int .i64 en.time, .slice a en.data.length cap, .string en.link] 79):=⟨_,rfl⟩;rw[<-hW];have HBW:=aa (show Below w.heap.size w W by rw[hW]; exact bH);have HBX:=aa (show W.heap[w.heap.size]? =some (.cells #[.string en.path, .int .i64 en.kind, .int .i64 en.mode, .int .i64 en.time, .slice a en.data.length cap, .string en.link] 79 (0,0)) by rw[hW]; exact heap_alloc_new w _)
   clear hW;refine(mW en.path true _ (HE.o.below HBW.o) HVP.o).mono ?_;rintro e w1 ⟨rfl,hb1⟩;have HBXr:=aa ((hb1.block w.heap.size ((Array.getElem?_eq_some_iff.1 HBX.o).1)).trans HBX.o);have HB1:=aa (ab HBW.o hb1);have hlt1:w.heap.size<w1.heap.size:=(Array.getElem?_eq_some_iff.1 HBXr.o).1;obtain⟨c0,c1,c2,c3,c4,c5,_⟩:=aj HBXr.o;simp only[Nat.zero_add,Nat.reduceAdd]at c1 c2 c3 c4 c5
   clear hb1 HBX;go_wp2_with fail
   all_goals first
    | (exfalso; omega)
    | (go_ret; exact⟨aD (by rw[HF.o]),HB1.o⟩)
theorem Cl (S:Nat->Prop) (v:Value) (bs:List UInt8) (w:World) (hd:bO S w v bs) (hl:bs.length<=140737488355328):Calls Tryz.prog 175 #[v] w fun e w'=> ∃v',e= .returned v'/\w'.ownsRow w.heap.size 5 1 v' bs.length (bs.map u8V)/\Below w.heap.size w w':=by
 obtain⟨_,a,cap,rfl,hn,hm,h0⟩:=hd
 cases a with
 | none=>
  have hz:bs.length=0:=by
   rcases h0 with h0 | ⟨b,o,ha,_⟩
   ·exact h0
   ·cases ha
  obtain rfl:=List.eq_nil_of_length_eq_zero hz;refine(Any.bytes_Clone_nil Tryz.laysClone _ _ w).mono ?_;rintro e w' ⟨rfl,rfl⟩;exact⟨_,rfl,World.ownsRow_nil _ _ _ _,Below.refl _ _⟩
 | some a=>
  refine(Any.bytes_Clone_at Tryz.laysClone a bs.length cap (bs.map fun b=>(b.toNat:Int)) w (by simp) hl ?_).mono ?_
  ·intro i hi
   rcases h0 with h0 | ⟨b,o,ha,_,hc⟩
   ·omega
   ·cases ha
    rw[pN];refine hc i _ ?_;simp[hi,u8V]
  ·rintro e w' ⟨v',rfl,h1,_,h2⟩;refine⟨v',rfl, ?_,h2⟩;rw[List.map_map]at h1;exact h1
theorem cK {w:World} {base base' size n:Nat} {e:TypeId} {v:Value} {xs:List Value} (h:w.ownsRow base e size v n xs) (hb:base'<=base):w.ownsRow base' e size v n xs:=
 ⟨h.1,h.2.imp id (fun⟨g,cap,cur,e1,h1,h2⟩=>⟨g,cap,cur,e1,Nat.le_trans hb h1,h2⟩)⟩
theorem kY {w:World} {b k:Nat} {cs:Array Value} {t:TypeId} (h:w.heap[b]? =some (.cells cs t (0,0))):w.frozen? ⟨b,k,none⟩=false:=by simp[World.frozen?,h]
theorem FK {w:World} {b k:Nat} {cs:Array Value} {t:TypeId} (h:w.heap[b]? =some (.cells cs t (0,0))) (x:Value):(w.setCell ⟨b,k,none⟩ x).heap[b]? =some (.cells (cs.setIfInBounds k x) t (0,0)):=by
 simp only[World.setCell,Array.getElem?_modify,if_true,h,Option.map_some]; rfl
theorem rL {w:World} {b c k:Nat} {o:Obj} (h:w.heap[b]? =some o) (hne:b≠c) (x:Value):(w.setCell ⟨c,k,none⟩ x).heap[b]? =some o:=by
 rw[Below.heap_setCell _ _ _ _ hne]; exact h
theorem gX {w:World} {b:Nat} {o:Obj} (h:w.heap[b]? =some o) (x:Obj):(w.alloc x).heap[b]? =some o:=by
 have hlt:=(Array.getElem?_eq_some_iff.1 h).1;rw[Below.heap_alloc _ _ _ hlt]; exact h
theorem bz (w:World) (x:Obj):(w.alloc x).heap[w.heap.size]? =some x:=by show(w.heap.push x)[w.heap.size]? =some x; simp
theorem jw (w:World) (x y:Obj):((w.alloc x).alloc y).heap[w.heap.size+1]? =some y:=by
 have:=bz (w.alloc x) y
 rwa [show(w.alloc x).heap.size=w.heap.size+1 by show(w.heap.push x).size=_; simp]at this
theorem gd {w:World} {b:Nat} {o:Obj} (h:w.heap[b]? =some o):b<w.heap.size:=(Array.getElem?_eq_some_iff.1 h).1
open Go Go.RowKit
theorem lU {S:Nat->Prop} {w:World} {a:Option Addr} {n cap:Nat} {bs:List UInt8} (h:ar S w (.slice a n cap) bs) {s e:Nat} (hs:s<e) (he:e<=bs.length):
  ∃a' cap',(∀w',(Instr.slice 29 (.slice a n cap) (some (.int .i64 (s:Int))) (some (.int .i64 (e:Int))) none).run Tryz.prog w'= .ok (.slice a' (dy bs s e).length cap') w')/\ar S w (.slice a' (dy bs s e).length cap') (dy bs s e):=by
 obtain⟨hl,a0,cap0,hv,hn,hm,h0⟩:=h;simp only[Value.slice.injEq]at hv;obtain⟨rfl,rfl,rfl⟩:=hv;have hz: ∀w',(sizeOf (Tryz.prog.elem 29)).run Tryz.prog w'= .ok 1 w':=fun _=>by kernel_rfl
 have hpl:(dy bs s e).length=e-s:=by unfold dy; rw[List.length_take,List.length_drop]; omega
 refine⟨if cap-s=0 then a else a.map (fun p=>p.add s),cap-s,fun w'=> ?_, ?_⟩
 ·rw[run_slice_lh _ _ _ _ _ Tryz.underlying29 .i64 .i64 (s:Int) (e:Int) (by omega) (by omega) (by omega),hz,hpl];simp only[Result.andThen,sliced,Int.toNat_natCast,Nat.mul_one];rw[if_neg (by omega: ¬cap-s=0)]
  try rw[if_neg (by omega)]
 ·refine⟨by simp,_,_,rfl,by omega,by omega, ?_⟩
  rcases h0 with h0 | ⟨b,o,rfl,hS,hc⟩
  ·omega
  ·refine .inr ⟨b,o+s, ?_,hS,fun j x hj=> ?_⟩
   ·rw[if_neg (by omega),Option.map_some,Addr.add_mid]
   ·rw[Nat.add_assoc];refine hc (s+j) x ?_;unfold dy at hj;rw[List.map_take,List.map_drop,List.getElem?_take]at hj
    split at hj
    ·rw[List.getElem?_drop]at hj; exact hj
    ·cases hj
def Ju (k n:Nat):Prop:=k=1-> ¬1048576<n
def mC (c:cF) (n:Nat):Int:=if dV c=true then(if 1048576<n then 2 else 0)else 1
theorem iZ (c:cF) (b:Bool) (w:World) (h:dV c=b):Calls Tryz.prog 70 #[dB c] w fun e w'=>e= .returned (.bool b)/\Below w.heap.size w w':=by rw[<-h]; exact vj c w
theorem qn (c:cF) (a:Option Addr) (n cap sb:Nat) (w:World) (hx:w.cell? ⟨sb,0,none⟩=some (.slice a n cap)) (hm:n<=maxLen):
  Calls Tryz.prog 173 #[dB c, .slice (some ⟨sb,0,none⟩) 1 1] w fun e w'=>e= .returned (.int .i64 (mC c n))/\Below w.heap.size w w':=by
 unfold maxLen at hm;have HX:=aa hx;clear hx;unfold dB
 by_cases hv:dV c=true
 ·have HV:=aa hv;have HE:=aa (show mC c n=if 1048576<n then 2 else 0 by unfold mC; rw[if_pos hv]);clear hv
  go_enter Tryz.func173,Tryz.ntmps173
  go_wp2_with (go_at_call 70; refine(iZ c true _ HV.o).mono ?_; rintro e w1 ⟨rfl,hb1⟩; have HB1:=aa (((Below.refl _ _).alloc (Nat.le_refl w.heap.size) _).trans (hb1.mono (by simp))); clear hb1)
  go_loopw [12] (fun i wr=> ∃k:Nat,k<=1/\i= .int .i64 (k:Int)/\Below w.heap.size w wr/\Ju k n) (fun i _=>1-(intOf i).toNat)
  case atStart=>exact⟨0,by omega,rfl,HB1.o,fun h=>by cases h⟩
  case round=>
   obtain⟨k,hk,rfl,hb,hdone⟩:=hrel;have HB:=aa hb;have HDN:=aa hdone;clear hb hdone
   by_cases h0:k=0
   ·subst h0;have hc:=(HB.o.cell (aP HX.o)).trans HX.o
    by_cases hn:1048576<n
    ·have hni:(1048576:Int)<(n:Int):=by omega
     go_wp2_with fail;go_ret;exact⟨bt (by rw[HE.o,if_pos hn]),HB.o⟩
    ·have hni:(n:Int)<=1048576:=by omega
     go_wp2_with fail
     go_roundw
     case rel=>exact⟨1,by omega,by go_num,HB.o,fun _=>hn⟩
     case measure=>simp[intOf]
   ·have h1:k=1:=by omega
    subst h1;go_wp2_with fail;go_ret;exact⟨bt (by rw[HE.o,if_neg (HDN.o rfl)]),HB.o⟩
 ·have HV:=aa (show dV c=false by simpa using hv);have HE:=aa (show mC c n=1 by unfold mC; rw[if_neg hv]);clear hv
  go_enter Tryz.func173,Tryz.ntmps173
  go_wp2_with (go_at_call 70; refine(iZ c false _ HV.o).mono ?_; rintro e w1 ⟨rfl,hb1⟩; have HB1:=aa (((Below.refl _ _).alloc (Nat.le_refl w.heap.size) _).trans (hb1.mono (by simp))); clear hb1);go_ret;exact⟨bt HE.o.symm,HB1.o⟩
theorem EQ (c:cF) (dv:Value) (w:World) (hd: ∃a n cap,dv= .slice a n cap):Calls Tryz.prog 174 #[dB c,dv] w fun e w'=>e= .returned (.func (.func 186) #[] #[.pointer (some ⟨w.heap.size,0,none⟩), .pointer (some ⟨w.heap.size+1,0,none⟩)])/\
  fi c dv w.heap.size (w.heap.size+1) w'/\Below w.heap.size w w'/\w'.heap.size=w.heap.size+2:=by
 obtain⟨a,n,cap,rfl⟩:=hd;unfold dB
 go_enter Tryz.func174,Tryz.ntmps174
 go_wp2_with fail;go_ret;exact⟨rfl,⟨gX (bz w _) _,jw w _ _⟩,(bH).alloc (by simp) _,by simp⟩
structure bn where
 nm:ByteArray
 st:ByteArray
 ck:ByteArray
 ix:ByteArray
 tk:ByteArray
def bn.list (k:bn):List ByteArray:=[k.nm,k.st,k.ck,k.ix,k.tk]
def bT (k:bn):List Value:=[.string k.nm, .string k.st, .string k.ck, .string k.ix, .string k.tk]
def dW (k:bn):Value:= .agg #[.string k.nm, .string k.st, .string k.ck, .string k.ix, .string k.tk]
def dX (k:bn):Bool:=k.list.all fun s=>decide (s.size=32)
theorem CE (k:bn) {j:Nat} (h:j<5): ∃s,k.list[j]? =some s/\(bT k)[j]? =some (.string s):=by
 have hc:j=0\/j=1\/j=2\/j=3\/j=4:=by omega
 rcases hc with rfl | rfl | rfl | rfl | rfl
 ·exact⟨_,rfl,rfl⟩
 ·exact⟨_,rfl,rfl⟩
 ·exact⟨_,rfl,rfl⟩
 ·exact⟨_,rfl,rfl⟩
 ·exact⟨_,rfl,rfl⟩
theorem sQ (k:bn) (w:World):Calls Tryz.prog 115 #[dW k] w fun e w'=>e= .returned (.bool (dX k))/\Below w.heap.size w w':=by
 unfold dW
 go_enter Tryz.func115,Tryz.ntmps115
 go_wp2_with fail;obtain⟨W1,hW1⟩: ∃W1,W1=(w.alloc (.cells #[.string k.nm, .string k.st, .string k.ck, .string k.ix, .string k.tk] 42)).alloc (.cells #[.string k.nm, .string k.st, .string k.ck, .string k.ix, .string k.tk] 9):=⟨_,rfl⟩;rw[<-hW1];have HB1:=aa (show Below w.heap.size w W1 by rw[hW1]; exact(bH).alloc (by simp) _);have HX1:=aa (show W1.heap[w.heap.size+1]? =some (.cells (bT k).toArray 9 (0,0)) by
  rw[hW1];have:=heap_alloc_new (w.alloc (.cells #[.string k.nm, .string k.st, .string k.ck, .string k.ix, .string k.tk] 42)) (.cells #[.string k.nm, .string k.st, .string k.ck, .string k.ix, .string k.tk] 9);rw[show(w.alloc (.cells #[.string k.nm, .string k.st, .string k.ck, .string k.ix, .string k.tk] 42)).heap.size=w.heap.size+1 by simp]at this;exact this)
 clear hW1
 go_loopw [17] (fun i wr=> ∃j:Nat,j<=5/\i= .int .i64 (j:Int)/\wr=W1/\(k.list.take j).all (fun s=>decide (s.size=32))=true) (fun i _=>5-(intOf i).toNat)
 case atStart=>exact⟨0,by omega,rfl,rfl,rfl⟩
 case round=>
  obtain⟨j,hj,rfl,rfl,hall⟩:=hrel;have HA:=aa hall;clear hall
  by_cases h5:j<5
  ·obtain⟨s,hs1,hs2⟩:=CE k h5;have c0:wr.cell? ⟨w.heap.size+1,j,none⟩=some (.string s):=by rw[cell_of_row wr _ _ _ _ _ HX1.o,List.getElem?_toArray]; exact hs2
   have hji:(j:Int)<5:=by omega
   have HS:=aa hs1;clear hs1 hs2
   by_cases h32:s.size=32
   ·have h32i:(s.size:Int)=32:=by omega
    go_wp2_with fail
    go_roundw
    case rel=>exact⟨j+1,by omega,by simp,trivial,by rw[List.take_add_one,HS.o,List.all_append,HA.o]; simp[h32]⟩
    case measure=>simp[intOf]; omega
   ·have h32i: ¬(s.size:Int)=32:=by omega
    go_wp2_with fail;go_ret;have hf:dX k=false:=by
     unfold dX;rw[List.all_eq_false];exact⟨s,List.mem_of_getElem? HS.o,by simpa using h32⟩
    rw[hf];exact⟨rfl,HB1.o⟩
  ·obtain rfl:j=5:=by omega
   go_wp2_with fail;go_ret;have hf:dX k=true:=HA.o;rw[hf];exact⟨rfl,HB1.o⟩
theorem ku (k:bn) (b:Bool) (w:World) (h:dX k=b):Calls Tryz.prog 115 #[dW k] w fun e w'=>e= .returned (.bool b)/\Below w.heap.size w w':=by rw[<-h]; exact sQ k w
theorem oM {k:bn} (h:dX k=true):k.nm.size=32/\k.st.size=32/\k.ck.size=32/\k.ix.size=32/\k.tk.size=32:=by
 unfold dX bn.list at h;simp only[List.all_cons,List.all_nil,Bool.and_true,Bool.and_eq_true,decide_eq_true_eq]at h;exact h
def gh (k:bn) (g:Nat) (c:List UInt8):ByteArray:=⟨(sR (bl k.nm) (aw g++c)).toArray⟩
theorem fG (k:bn) (g:Nat) (c:List UInt8):(gh k g c).size=32:=by unfold gh; rw[am,ed,yt]
theorem nQ (S:Nat->Prop) (k:bn) (g:Nat) (c:List UInt8) (cv:Value) (w:World) (hk:dX k=true) (hg:g<=1099511627776) (hc:ar S w cv c) (hl:c.length<=32768) (hE:uM w):
  Calls Tryz.prog 156 #[dW k, .int .i64 (g:Int),cv] w fun e w'=>e= .returned (.tuple #[.string (gh k g c), .int .i64 0])/\Below w.heap.size w w':=by
 have HK:=aa hk;have HC:=aa hc;have HE:=aa hE;obtain⟨_,a,cap,rfl,hcap,hcm,-⟩:=id hc;obtain⟨cl,hcl⟩: ∃cl,cl=c.length:=⟨_,rfl⟩;rw[<-hcl]at hl HC ⊢;have HCL:=aa hcl;clear hk hc hE hcl hcap hcm;unfold dW
 go_enter Tryz.func156,Tryz.ntmps156
 go_wp2_with fail;obtain⟨W1,hW1⟩: ∃W1,W1=w.alloc (.cells #[.string k.nm, .string k.st, .string k.ck, .string k.ix, .string k.tk] 42):=⟨_,rfl⟩;rw[<-hW1];have HB1:=aa (show Below w.heap.size w W1 by rw[hW1]; exact bH);have HX1:=aa (show W1.heap[w.heap.size]? =some (.cells (bT k).toArray 42 (0,0)) by rw[hW1]; exact heap_alloc_new w _);clear hW1;refine(ku k true W1 HK.o).mono ?_
 rintro e w1 ⟨rfl,hb1⟩;have HB2:=aa (ab HB1.o hb1);have HX2:=aa (br hb1 HX1.o);clear hb1;go_wp2_with fail;refine bE (fun w'=>w'.cell? ⟨w.heap.size,0,none⟩=some (.string k.nm)) (by kernel_rfl) ?_;obtain⟨V,hV⟩: ∃V:World,V=w1.drew:=⟨_,rfl⟩;rw[<-hV];have HBV:=aa (show Below w.heap.size w V by rw[hV]; exact HB2.o.trans ((Below.refl _ _).drew));have HXV:=aa (show V.heap[w.heap.size]? =some (.cells (bT k).toArray 42 (0,0)) by rw[hV]; exact HX2.o)
 clear hV;have hSV:V.cell? ⟨w.heap.size,0,none⟩=some (.string k.nm):=(cell_of_row V _ _ _ _ _ HXV.o).trans rfl
 iterate 4 (refine aJ rfl (by kernel_rfl) (fun _ _ _ h=>h) rfl hSV (by intro w' hw1; go_simp; rfl) ?_; simp only[Act.put,aZ,bg,bh])
 refine ay 5 rfl (by kernel_rfl) (by kernel_rfl) (by kernel_rfl) (fun _ _ _ h=>h) rfl hSV (by intro w' hw1; go_simp; rfl) ?_;simp only[Act.put,aZ,bg,bh];refine an 4 rfl (by kernel_rfl) rfl (fun K hK=> ?_);go_wp2_with fail;refine(qf g V (by omega)).mono ?_;rintro e w3 ⟨v3,rfl,ho3,hb3⟩;obtain⟨a3,c3,rfl,-,-⟩:=ai ho3;have HB3:=aa (ab HBV.o hb3)
 have hS3:w3.cell? ⟨w.heap.size,0,none⟩=some (.string k.nm):=(hb3.cell (p:=⟨w.heap.size,0,none⟩) (lt_of_block HXV.o)).trans hSV;have hVs:=HBV.o.size;have HO3:=aa ho3;have HLN:=aa (dI (n:=g) (by omega));have hbase:=hb3.size;clear ho3 hb3 hSV;go_wp2_with fail;refine⟨hS3, ?_⟩;refine an 6 rfl (by kernel_rfl) rfl (fun K hK=> ?_);have HCB:=aa (show ar S w3 (.slice a cl cap) c from aL.below HC.o (by omega) HB3.o)
 have hnl:(aw g).length+cl<1099511627775:=by have:=HLN.o; omega
 have HRW:=aa (show aL S w3 1 (.slice a cl cap) cl (c.map ak) by have h9:=HCB.o; unfold ar at h9; rw[<-HCL.o]at h9; exact h9);go_wp2_with (at_builtin; go_loud (refine bD Tryz.appBytes rfl _ _ rfl V.heap.size (.slice a3 (aw g).length c3) (aw g).length ((aw g).map ak) rfl HO3.o (.slice a cl cap) cl (c.map ak) rfl HRW.o (ci c) hnl hbase ?_); intro v' wc hown' hgrow'; have HO4:=aa hown'; have HG4:=aa hgrow'; obtain⟨a4,c4,rfl,-,-⟩:=ai hown'; clear hown' hgrow')
 have HB4:=aa (show Below w.heap.size w wc from aF HB3.o HO3.o HG4.o hVs HB3.o.size);have hS4:wc.cell? ⟨w.heap.size,0,none⟩=some (.string k.nm):=by
  rw[<-hS3];exact World.cell?_of_block (HG4.o.block w.heap.size (by have:=lt_of_block HXV.o; omega) (fun e=>by have h1:=(HO3.o.lt _ e.symm).1; have:=lt_of_block HXV.o; omega))
 have HBY:=aa (show ar (fun _=>True) wc (.slice a4 ((aw g).length+cl) c4) (aw g++c) by
  have h9:=aO HO4.o;rw[<-List.map_append]at h9;unfold ar;rw[List.length_append,<-HCL.o];exact h9.weak (fun _ _=>trivial))
 have hml:(aw g++c).length<281474976710656:=by rw[List.length_append,<-HCL.o]; have:=HLN.o; omega
 clear hS3;refine⟨hS4, ?_⟩;refine an 7 rfl (by kernel_rfl) rfl (fun K hK=> ?_);have hnm:=(oM HK.o).1;go_wp2_with fail;refine(pi (fun _=>True) k.nm (aw g++c) _ wc (by rw[hnm]; decide) HBY.o hml (HE.o.below HB4.o)).mono ?_;rintro e w5 ⟨rfl,hb5⟩;have HB5:=aa (ab HB4.o hb5);have hS5:w5.cell? ⟨w.heap.size,0,none⟩=some (.string k.nm):=(hb5.cell (p:=⟨w.heap.size,0,none⟩) (block_lt_of_cell hS4)).trans hS4
 clear hb5 hS4;go_wp2_with fail;refine⟨hS5, ?_⟩
 iterate 2 (refine aJ rfl (by kernel_rfl) (fun _ _ _ h=>h) rfl hS5 (by intro w' hw1; go_simp; rfl) ?_; simp only[Act.put,aZ,bg,bh])
 refine aM (by kernel_rfl) ?_;go_wp2_with fail
 go_ret2
 exact⟨rfl,HB5.o⟩
theorem sP (k:bn) (w:World) (hE:uM w):Calls Tryz.prog 69 #[dW k, .slice none 0 0] w fun e w'=>(∃v,e= .returned (.tuple #[v, .int .i64 (if dX k=true then 0 else 1)]))/\Below w.heap.size w w':=by
 have HE:=aa hE;clear hE;unfold dW
 by_cases hk:dX k=true
 ·rw[if_pos hk];have HK:=aa hk;clear hk
  go_enter Tryz.func69,Tryz.ntmps69
  go_wp2_with fail;obtain⟨W1,hW1⟩: ∃W1,W1=w.alloc (.cells #[.string k.nm, .string k.st, .string k.ck, .string k.ix, .string k.tk] 42):=⟨_,rfl⟩;rw[<-hW1];have HB1:=aa (show Below w.heap.size w W1 by rw[hW1]; exact bH);have HX1:=aa (show W1.heap[w.heap.size]? =some (.cells (bT k).toArray 42 (0,0)) by rw[hW1]; exact heap_alloc_new w _);clear hW1;refine(ku k true W1 HK.o).mono ?_
  rintro e w1 ⟨rfl,hb1⟩;have HB2:=aa (ab HB1.o hb1);have HX2:=aa (br hb1 HX1.o);have c2:w1.cell? ⟨w.heap.size,2,none⟩=some (.string k.ck):=(cell_of_row w1 _ _ _ _ _ HX2.o).trans rfl;have hck:=(oM HK.o).2.2.1;clear hb1;go_wp2_with fail;refine(pi (fun _=>True) k.ck [] _ w1 (by rw[hck]; decide) (aL.nil _ _ _) (by decide) (HE.o.below HB2.o)).mono ?_;rintro e w2 ⟨rfl,hb2⟩
  have HB3:=aa (ab HB2.o hb2);obtain⟨t,ht⟩: ∃t:ByteArray,t=⟨(sR (bl k.ck) []).toArray⟩:=⟨_,rfl⟩;have htz:t.size=32:=by rw[ht,am,ed,yt]
  rw[<-ht];obtain⟨W3,cp,hcv,-,hbw,-⟩:=om (t.extract 0 16) w2 (by have:=Lib.extract_data t 0 16; rw[ByteArray.size_extract]; unfold maxLen; omega);have HB4:=aa (ab HB3.o hbw);clear hb2 ht hbw c2;go_wp2_with fail
  go_ret2
  exact⟨⟨_,rfl⟩,HB4.o⟩
 ·rw[if_neg hk];have HK:=aa (show dX k=false by simpa using hk);clear hk
  go_enter Tryz.func69,Tryz.ntmps69
  go_wp2_with fail;obtain⟨W1,hW1⟩: ∃W1,W1=w.alloc (.cells #[.string k.nm, .string k.st, .string k.ck, .string k.ix, .string k.tk] 42):=⟨_,rfl⟩;rw[<-hW1];have HB1:=aa (show Below w.heap.size w W1 by rw[hW1]; exact bH);have HX1:=aa (show W1.heap[w.heap.size]? =some (.cells (bT k).toArray 42 (0,0)) by rw[hW1]; exact heap_alloc_new w _);clear hW1;refine(ku k false W1 HK.o).mono ?_
  rintro e w1 ⟨rfl,hb1⟩;have HB2:=aa (ab HB1.o hb1);clear hb1;go_wp2_with fail
  go_ret2
  exact⟨⟨_,rfl⟩,HB2.o⟩
end Go.Proofs.YtpffpjbkbaleiaaGreatDoor
namespace Go.Proofs.YtpffpjbkbaleiaaGreatDoor
open Go
section
variable {P : Program} {l n : Nat}
theorem wj {f:FuncId} {args:Array Value} {w:World} {R:Ending->World->Prop} (h:Calls P f args w R):CallsIn (Fence.wide.inRound l) n P f args w R:=CallsIn.inRound l (callsIn_wide.2 h)
theorem Az {o:Oper} {a:Act} {next:Act->World->Prop} {Q:Exit->Act->World->Prop} {r:Result Next} (h:o.upon P a next Q r):o.uponIn (Fence.wide.inRound l) n P a next Q r:=by
 cases r with
 | ok x w=>
  cases x with
  | value v=>exact h
  | skip=>exact h
  | defer d=>exact h
  | enter f args=>exact⟨fun e=>(by cases e),wj h⟩
  | row row args=>
   exact⟨fun e=>(by cases e),fun c cs _=>by
    obtain⟨v,w',h1,h2⟩:=(show Rows P row args w _ from h) c cs;exact⟨v,w',h1,stepsIn_wide.2 h2⟩⟩
  | _=>exact h.elim
 | halt x w=>
  cases x<;> first | exact h | exact h.elim
def kk (o:Oper):Bool:=match o.op with | .defer _=>false | _=>true
theorem Fr {o:Oper} {a:Act} {w:World} {K:Act->World->Prop} {Q:Exit->Act->World->Prop} (hd:kk o=true) (h:o.wp P a w K Q):o.wpIn (Fence.wide.inRound l) n P a w K Q:=
 ⟨fun _ _=>trivial,by
  rw[Oper.semAt_eq _ _ _ (fun c e=>by simp[kk,e]at hd)];exact Az h⟩
theorem AF {L:List Oper} {Q:Exit->Act->World->Prop} (hd:L.all kk=true) (hno: ¬LetsOut Q) {i:Nat} {K:Act->World->Prop} {a:Act} {w:World} (h:wpOp P L.toArray Q i K a w):wpOpIn (Fence.wide.inRound l) n P L.toArray Q i K a w:=by
 unfold wpOp at h;unfold wpOpIn
 cases hx:L.toArray[i]? with
 | none=>rw[hx]at h; exact h
 | some x=>
  rw[hx]at h;simp only at h ⊢;have hdx:kk x=true:=List.all_eq_true.1 hd x (List.mem_of_getElem? (by simpa using hx))
  split at h
  ·rename_i hw;rw[if_pos hw]
   rcases h with h | h
   ·exact Fr hdx h
   ·exact absurd h.2 hno
  ·rename_i hw;rw[if_neg hw];exact⟨fun _ _=>trivial,h⟩
theorem pD {L:List Oper} {md:Region.Mode} {Q:Exit->Act->World->Prop} (hd:L.all kk=true) (hno: ¬LetsOut Q): ∀(fuel:Nat) (listed:Array Bool) (a:Act) (w:World),wpAny P md L.toArray Q fuel listed a w->wpAnyIn (Fence.wide.inRound l) n P md L.toArray Q fuel listed a w
 | 0,_,_,_,h=>h
 | fuel+1,_,_,_,h=>⟨h.1,fun i hi=>wpOpIn_mono (fun a' w' h'=>pD hd hno fuel _ a' w' h') (AF hd hno (h.2 i hi))⟩
theorem zp {id:Nat} {a:Act} {w:World} {L:List Oper} {Q:Exit->Act->World->Prop} (S:World->Prop) (hm:P.follows .mixedOrders=true) (hnd:L.all kk=true) (hno: ¬LetsOut Q) (hB:xp .any L=true)
  (h:lI P L.dropLast.toArray (sV P L.toArray (L.length-1) Q) S (L.length-1) (Array.replicate L.length false) a w.drew):(Code.region id L.toArray true).wpIn (Fence.wide.inRound l) n P Q a w:=by
 simp only[xp,Bool.and_eq_true,decide_eq_true_eq]at hB;obtain⟨⟨hc,hpos⟩,hall⟩:=hB;have hall': ∀(i:Nat) (x:Oper),L[i]? =some x->(∀e∈x.after,e.on<i)/\ ∀j b,x.guard=some (j,b)->j<i:=fun i x hx=>by
  have:=List.all_eq_true.1 hall i (List.mem_range.2 (List.getElem?_eq_some_iff.1 hx).1);rw[hx]at this;simp only[Bool.and_eq_true]at this;refine⟨fun e he=> ?_,fun j b hg=> ?_⟩
  ·have:=Array.all_eq_true'.1 this.1 e he
   simpa using this
  ·have:=this.2;rw[hg]at this
   simpa using this
 refine wpIn_region_any hm ?_;have:=AX hc hpos (fun i x hx=>(hall' i x hx).1) (fun i x j b hx=>(hall' i x hx).2 j b) (L.length-1) _ a w.drew wX (wpAny_of_held _ _ _ _ (by simpa using h.out));rw[show L.length-1+1=L.length by omega]at this;refine pD hnd hno _ _ _ _ ?_
 simpa using this
def Fl (Q:Exit->Act->World->Prop):Exit->Act->World->Prop
 | .outgrown,_,_=>False
 | e,a,w=>Q e a w
@[go_sem] theorem vu (Q:Exit->Act->World->Prop) (a:Act) (w:World):Fl Q .normal a w=Q .normal a w:=rfl
theorem CT (Q:Exit->Act->World->Prop): ¬LetsOut (Fl Q):=fun⟨_,_,h⟩=>h
theorem zo {id:Nat} {a:Act} {w:World} {L:List Oper} {Q:Exit->Act->World->Prop} (S:World->Prop) (hm:P.follows .mixedOrders=true) (hnd:L.all kk=true) (hB:xp .any L=true)
  (h:lI P L.dropLast.toArray (sV P L.toArray (L.length-1) (Fl Q)) S (L.length-1) (Array.replicate L.length false) a w.drew):(Code.region id L.toArray true).wpIn (Fence.wide.inRound l) n P Q a w:=
 wpIn_mono (zp S hm hnd (CT Q) hB h) (fun e _ _ h=>by cases e<;> first | exact h | exact h.elim)
end
open Go Go.RowKit Go.Maps
theorem Tryz.appEnts :eH Tryz.prog 46 79 6 80:=eH.mk' (z:=JM) Tryz.underlying46 (by kernel_rfl) rfl (by decide) (by decide)
def dJ (ys:List jX):List Value:=ys.flatMap fun y=>qF y.1 y.2
theorem qH (ys:List jX) (y:jX):dJ (ys++[y])=dJ ys++qF y.1 y.2:=by simp[dJ]
theorem tA : ∀ys:List jX,(dJ ys).length=ys.length*6
 | []=>rfl
 | y::ys=>by
  have:=tA ys;unfold dJ at this ⊢;rw[List.flatMap_cons,List.length_append,this,List.length_cons,show(qF y.1 y.2).length=6 from rfl]; omega
theorem fo {a:Option Addr} {n c:Nat} {e:bo} : ∀u∈qF (.slice a n c) e,u.oneCell'=true:=by
 intro u hu;simp only[qF,List.mem_cons,List.not_mem_nil,or_false]at hu
 rcases hu with rfl | rfl | rfl | rfl | rfl | rfl<;> rfl
theorem tz : ∀ {ys:List jX} {k:Nat} {y:jX},ys[k]? =some y-> ∀j,j<6->(dJ ys)[k*6+j]? =(qF y.1 y.2)[j]?
 | [],k,_,h,_,_=>by simp at h
 | x::ys,0,y,h,j,hj=>by
  simp at h; subst h;unfold dJ;rw[List.flatMap_cons,Nat.zero_mul,Nat.zero_add,List.getElem?_append_left (by exact hj)]
 | x::ys,k+1,y,h,j,hj=>by
  have:=tz (ys:=ys) (k:=k) (y:=y) (by simpa using h) j hj;unfold dJ at this ⊢;rw[List.flatMap_cons,List.getElem?_append_right (by show 6<=_; omega),<-this]
  congr 1
  show(k+1)*6+j-6=_
  omega
theorem Ic {w:World} {base n cap:Nat} {a:Option Addr} {ys:List jX} {m:Nat} (h:w.ownsRow base 79 6 (.slice a n cap) m (dJ ys)) {k:Nat} {y:jX} (hk:ys[k]? =some y):
  ∃b,a=some ⟨b,0,none⟩/\base<=b/\b<w.heap.size/\n=ys.length/\w.cell? ⟨b,k*6,none⟩=some (.string y.2.path)/\w.cell? ⟨b,k*6+1,none⟩=some (.int .i64 y.2.kind)/\w.cell? ⟨b,k*6+2,none⟩=some (.int .i64 y.2.mode)/\w.cell? ⟨b,k*6+3,none⟩=some (.int .i64 y.2.time)/\w.cell? ⟨b,k*6+4,none⟩=some y.1/\w.cell? ⟨b,k*6+5,none⟩=some (.string y.2.link):=by
 have hlen:=h.1;rw[tA]at hlen;have hm:m=ys.length:=by omega
 subst hm;have hr:=aO h;obtain⟨_,a',cap',he,_,_,h0⟩:=hr;simp only[Value.slice.injEq]at he;obtain⟨rfl,rfl,rfl⟩:=he;have hlt:=(List.getElem?_eq_some_iff.1 hk).1
 rcases h0 with h0 | ⟨b,o,rfl,hb,hc⟩
 ·omega
 ·rcases h.2 with⟨hn,_⟩ | ⟨g,cp,cur,hv,hbs,hh,_⟩
  ·cases hn
  ·simp only[Value.slice.injEq,Option.some.injEq,Addr.mk.injEq]at hv;obtain⟨⟨rfl,rfl,-⟩,-,rfl⟩:=hv;have g:=fun j (hj:j<6)=>hc (k*6+j) _ ((tz hk j hj).trans (List.getElem?_eq_getElem (l:=qF y.1 y.2) hj))
   have g0:=g 0 (by omega);have g1:=g 1 (by omega);have g2:=g 2 (by omega);have g3:=g 3 (by omega);have g4:=g 4 (by omega);have g5:=g 5 (by omega);simp only[Nat.zero_add,Nat.add_zero]at g0 g1 g2 g3 g4 g5;exact⟨b,rfl,hbs,(Array.getElem?_eq_some_iff.1 hh).1,rfl,g0,g1,g2,g3,g4,g5⟩
theorem bO.slice {S:Nat->Prop} {w:World} {v:Value} {bs:List UInt8} (h:bO S w v bs): ∃a c,v= .slice a bs.length c/\bs.length<=c/\c<=maxLen:=by
 obtain⟨_,a,c,rfl,h1,h2,_⟩:=h;exact⟨a,c,rfl,h1,h2⟩
theorem aQ {w w':World} {B n sz:Nat} {e:TypeId} {v:Value} {xs:List Value} (h:w.ownsRow B e sz v n xs) (hb:Below w.heap.size w w'):w'.ownsRow B e sz v n xs:=by
 refine h.kept (row:=none) ⟨hb.os,hb.tape,hb.output,hb.size,fun k hk _=>hb.block k hk⟩ ?_
 cases hv:v.ownBlock
 ·exact .inl rfl
 ·exact .inr (by simp)
attribute [local go_sem] Oper.semAt_some
theorem Tryz.appChunks :eH Tryz.prog 181 29 1 24:=eH.mk' (z:= .slice none 0 0) Tryz.underlying181 (by kernel_rfl) rfl (by decide) (by decide)
def Eh (B:Nat) (v:Value) (L:List (List UInt8)) (w:World):Prop:=
 ∃ys:List (Value×List UInt8),ys.map Prod.snd=L/\w.ownsRow B 29 1 v ys.length (ys.map Prod.fst)/\ ∀y∈ys,w.ownsRow B 5 1 y.1 y.2.length (y.2.map ak)
theorem iw {A B:World} {row:Option Nat} {base sz m:Nat} {t:TypeId} {v:Value} {xs:List Value} (h:A.ownsRow base t sz v m xs) (hg:A.grownBy B row) (hr: ∀r,row=some r-> ∀cs,A.heap[r]? ≠some (.cells cs t (0,0))):B.ownsRow base t sz v m xs:=by
 refine h.kept hg ?_
 rcases h.2 with⟨rfl,_⟩ | ⟨g,cap,cur,rfl,_,hgb,_⟩
 ·exact .inl rfl
 ·exact .inr fun e'=>hr g (by simpa [Value.ownBlock]using e'.symm) cur hgb
theorem zP {A:World} {b1 b2 s1 s2 m1 m2:Nat} {t1 t2:TypeId} {v1 v2:Value} {x1 x2:List Value} (h1:A.ownsRow b1 t1 s1 v1 m1 x1) (h2:A.ownsRow b2 t2 s2 v2 m2 x2) (ht:t1≠t2):v1.ownBlock=none\/v1.ownBlock≠v2.ownBlock:=by
 cases h:v1.ownBlock with
 | none=>exact .inl rfl
 | some k=>
  refine .inr fun e=> ?_
  obtain⟨_,c1,d1⟩:=jx h1 h;obtain⟨_,c2,d2⟩:=jx h2 e.symm;rw[d1]at d2
  cases d2
  exact ht rfl
def ChI (bx:Nat) (data:List UInt8) (w4:World) (pre:List Nat) (W:World):Prop:=
 (∃(ys:List (Value×List UInt8)) (v:Value),ys.map Prod.snd=dY data 0 pre/\ys.length=pre.length/\W.heap[bx]? =some (.cells #[v] 181 (0,0))/\W.ownsRow (bx+4) 29 1 v ys.length (ys.map Prod.fst)/\ ∀y∈ys,W.ownsRow (bx+4) 5 1 y.1 y.2.length (y.2.map ak))/\
 W.heap[bx+1]? =some (.cells #[.int .i64 ((gg pre:Nat):Int)] 3 (0,0))/\Below bx w4 W
theorem ChI.turn {bx:Nat} {data:List UInt8} {w4:World} {pre:List Nat} {A B:World} {row:Option Nat} (h:ChI bx data w4 pre A) (h4:w4.heap.size=bx+4) (hg:A.grownBy B row) (hr: ∀r,row=some r->bx+4<=r/\ ∀cs t,A.heap[r]? =some (.cells cs t (0,0))->t=239):ChI bx data w4 pre B:=by
 obtain⟨⟨ys,v,h1,h2,h3,h5,h6⟩,h7,h8⟩:=h;have hs:=h8.size;refine⟨⟨ys,v,h1,h2,(hg.block _ (lt_of_block h3) (fun e=>by have:=(hr _ e.symm).1; omega)).trans h3,iw h5 hg (fun r e cs hc=>by have:=(hr r e).2 cs _ hc; cases this),fun y hy=>iw (h6 y hy) hg (fun r e cs hc=>by have:=(hr r e).2 cs _ hc; cases this)⟩,
  (hg.block _ (lt_of_block h7) (fun e=>by have:=(hr _ e.symm).1; omega)).trans h7,h8.grown hg (by omega) (fun k e=>by have:=(hr k e).1; omega)⟩
theorem Ba {bx:Nat} {data:List UInt8} {w4:World} (h4:w4.heap.size=bx+4):OwnFrom w4.heap.size (ChI bx data w4):=fun _ _ _ _ h hg hr=>h.turn h4 hg (fun r e=>⟨by have:=(hr r e).1; omega,fun cs t hc=>by
 obtain⟨_,o,ho,hw⟩:=hr r e;rw[ho]at hc; cases hc; cases hw⟩)
theorem EF {bx:Nat} {data:List UInt8} {w4:World} (h4:w4.heap.size=bx+4):AP 239 w4.heap.size (ChI bx data w4):=fun _ _ _ _ h hg hr=>h.turn h4 hg (fun r e=>⟨by have:=(hr r e).1; omega,fun cs t hc=>by
 obtain⟨_,cs',ho⟩:=hr r e;rw[ho]at hc; cases hc; rfl⟩)
def ym (c:cF) (dv:Value) (w0 bx q:Nat):Act:=
 {tmps:= #[dB c,dv, .pointer (some ⟨w0,0,none⟩), .pointer (some ⟨w0+1,0,none⟩), .slice none 0 0, .int .i64 0, .int .i64 0, .pointer (some ⟨bx,0,none⟩), .pointer (some ⟨bx+1,0,none⟩), .int .i64 (q:Int),dB c,dv, .slice (some ⟨w0+1+1,0,none⟩) 1 1, .int .i64 0, .int .i64 0, .bool false,undef,dB c,dv,
   .func (.func 186) #[] #[.pointer (some ⟨bx+2,0,none⟩), .pointer (some ⟨bx+2+1,0,none⟩)], .int .i64 (q:Int),undef,undef,undef,undef,undef,undef,undef,undef,undef,undef],defers:=[]}
def ChA (c:cF) (dv:Value) (w0 bx:Nat) (data:List UInt8) (w4:World) (pre:List Nat) (q:Nat) (a:Act) (W:World):Prop:=
 ChI bx data w4 pre W/\(gg pre<q/\q<=data.length)/\pre.length<data.length/\a=ym c dv w0 bx q
theorem GK {c:cF} {dv:Value} {w0 bx:Nat} {data:List UInt8} {w4:World} (h4:w4.heap.size=bx+4):OwnFrom w4.heap.size (fun(s:List Nat×Nat×Act) W=>ChA c dv w0 bx data w4 s.1 s.2.1 s.2.2 W):=fun s A B row h hg hr=>⟨Ba h4 s.1 A B row h.1 hg hr,h.2⟩
theorem JQ {n b1 b2:Nat} {t:TypeId} {A B C:World} (h:Below n A B/\dP t A B/\En b1 b2 A B) (k:Below n B C/\dP t B C/\En b1 b2 B C):Below n A C/\dP t A C/\En b1 b2 A C:=⟨h.1.trans k.1,h.2.1.trans k.2.1,k.2.2.1.trans h.2.2.1,k.2.2.2.trans h.2.2.2⟩
theorem qp (S:Nat->Prop) (c:cF) (data:List UInt8) (dv:Value) (w:World) (hc:dV c=true) (hs:c.seed<18446744073709551616) (hd:ar S w dv data) (hl:data.length<=1048576) (hT:vQ w):
  Calls Tryz.prog 155 #[dB c,dv] w fun e w'=> ∃v,e= .returned (.tuple #[v, .int .i64 0])/\Eh w.heap.size v (dY data 0 (kX (kI c data) c.mn.toNat c.mx.toNat data.length)) w'/\Below w.heap.size w w':=by
 have HC:=aa hc;have HD:=aa hd;have HT:=aa hT;obtain⟨_,da,dcap,rfl,hdc,hdm,-⟩:=id hd;obtain⟨n,hn⟩: ∃n,n=data.length:=⟨_,rfl⟩;rw[<-hn]at hdc hl HD ⊢;have HN:=aa hn;have HCK:=aa (show mC c n=0 by unfold mC; rw[if_pos hc,if_neg (by omega)]);have HNM:=aa (show n<=maxLen by unfold maxLen; omega);clear hc hd hT hn;refine(callsIn_wide (n:=4)).1 (callsIn_of_wp_marks Tryz.func155 rfl trivial ?_ rfl)
 simp only[Tryz.ntmps155,List.size_toArray,List.length_cons,List.length_nil,Nat.reduceAdd,Nat.reduceSub,Array.replicate_succ,Array.replicate_zero,List.push_toArray,List.append_toArray,List.nil_append,List.cons_append];refine(wpIn_wide (n:=4)).2 ?_;unfold dB;go_wp2_with fail;obtain⟨w1,hw1⟩: ∃w1,w1=((w.alloc (.cells #[.int .i64 c.mn, .int .i64 c.mx, .int .i64 c.win, .int .i64 c.bits, .int .u64 (c.seed:Int)] 45)).alloc (.cells #[.slice da n dcap] 29)).alloc (.cells #[.slice da n dcap] 29):=⟨_,rfl⟩
 rw[<-hw1];have HB1:=aa (show Below w.heap.size w w1 by rw[hw1]; exact((bH).alloc (by simp) _).alloc (by simp; omega) _);have HX1:=aa (show w1.heap[w.heap.size]? =some (.cells (cG c).toArray 45 (0,0)) by rw[hw1]; exact gX (gX (bz w _) _) _);have HY1:=aa (show w1.heap[w.heap.size+1]? =some (.cells #[.slice da n dcap] 29 (0,0)) by rw[hw1]; exact gX (jw w _ _) _)
 have HZ1:=aa (show w1.heap[w.heap.size+1+1]? =some (.cells #[.slice da n dcap] 29 (0,0)) by rw[hw1]; exact(by have:=heap_alloc_new ((w.alloc (.cells #[.int .i64 c.mn, .int .i64 c.mx, .int .i64 c.win, .int .i64 c.bits, .int .u64 (c.seed:Int)] 45)).alloc (.cells #[.slice da n dcap] 29)) (.cells #[.slice da n dcap] 29); simpa using this));clear hw1;have hck:=qn c da n dcap (w.heap.size+1+1) w1 (ag HZ1.o) HNM.o
 rw[HCK.o]at hck;unfold dB at hck;refine hck.mono ?_;rintro e w2 ⟨rfl,hb2⟩;have HB2:=aa (ab HB1.o hb2);have HX2:=aa (br hb2 HX1.o);have HY2:=aa (br hb2 HY1.o);clear hck hb2;have HX3:=aa (gX (gX HX2.o (.cells #[.slice none 0 0] 181)) (.cells #[.int .i64 0] 3));have HY3:=aa (gX (gX HY2.o (.cells #[.slice none 0 0] 181)) (.cells #[.int .i64 0] 3));have HBX3:=aa (gX (bz w2 (.cells #[.slice none 0 0] 181)) (.cells #[.int .i64 0] 3))
 have HBS3:=aa (jw w2 (.cells #[.slice none 0 0] 181) (.cells #[.int .i64 0] 3));have HB3:=aa (((Below.refl w2.heap.size w2).alloc (Nat.le_refl _) (.cells #[.slice none 0 0] 181)).alloc (by simp) (.cells #[.int .i64 0] 3));have hs3:((w2.alloc (.cells #[.slice none 0 0] 181)).alloc (.cells #[.int .i64 0] 3)).heap.size=w2.heap.size+2:=by simp
 have c0:=ag (k:=0) HX3.o;have c1:=ag (k:=1) HX3.o;have c2:=ag (k:=2) HX3.o;have c3:=ag (k:=3) HX3.o;have c4:=ag (k:=4) HX3.o;have y0:=ag (k:=0) HY3.o;simp only[cG,cr]at c0 c1 c2 c3 c4 y0;go_wp2_with fail
 generalize (w2.alloc (.cells #[.slice none 0 0] 181)).alloc (.cells #[.int .i64 0] 3)=w3 at *
 have he:=EQ c (.slice da n dcap) w3 ⟨_,_,_,rfl⟩;unfold dB at he;refine he.mono ?_;rintro e w4 ⟨rfl,hcp,hb4,hs4⟩;clear he c0 c1 c2 c3 c4 y0;obtain⟨bx,hbx⟩: ∃bx,bx=w2.heap.size:=⟨_,rfl⟩;rw[hs3]at hcp ⊢;rw[<-hbx]at HBX3 HBS3 hcp ⊢;have HB4:=aa (hb4.mono (by rw[hs3,hbx]; omega:bx<=w3.heap.size));have HB24:=aa (show Below w2.heap.size w2 w4 from HB3.o.trans (by rw[<-hbx]; exact HB4.o))
 have HBX4:=aa (br hb4 HBX3.o);have HBS4:=aa (br hb4 HBS3.o);have HY4:=aa (br hb4 HY3.o);have hs44:w4.heap.size=bx+4:=by rw[hs4,hs3,hbx]
 have HCP:=aa hcp;have HWX:=aa (show w.heap.size+1<bx by rw[hbx]; exact lt_of_block HY2.o);have HBX:=aa hbx;have HD2:=aa (show ar S w2 (.slice da n dcap) data from HD.o.below (by decide) HB2.o);clear hcp hb4 hs4 hs3 hbx;go_wp2_with fail;refine DX (gf:=186) (lb:= #[.pointer (some ⟨bx+2,0,none⟩), .pointer (some ⟨bx+2+1,0,none⟩)]) rfl (enters_of Tryz.func186 (by kernel_rfl) rfl)
  (ER S c data (.slice da n dcap) (bx+2) (bx+2+1) w2 w4 HC.o hs HCP.o HD2.o (by rw[<-HN.o]; exact hl) (HT.o.block (HB2.o.block _ HT.o.lt) HB2.o.size) HB24.o) JQ (fun W l o o' hl' h1 h2 h3=> ?kb) (fun _=>rfl)
  (ChI bx data w4) (fun _ _ _=>False) (ChA c (.slice da n dcap) w.heap.size bx data w4) (Ba hs44) (EF hs44) (fun _ _ _ _ _ h _ _=>h) (GK hs44) ⟨⟨[], .slice none 0 0,rfl,rfl,HBX4.o,World.ownsRow_nil _ _ _ _,by simp⟩,HBS4.o,Below.refl _ _⟩ ?assign ?body ?done ?stop
 case kb=>
  have hlt:=(Array.getElem?_eq_some_iff.1 h1).1;have hb:=HBX.o;have hg:=grownBy_putObj' W l o';refine⟨gm (Below.refl _ _) hg (by omega) (by omega),dP.grown hg (fun r e cs hcs=>by cases e; rw[h1]at hcs; cases hcs; cases h2),hg.block _ (by omega) (fun e=>by cases e; omega),hg.block _ (by omega) (fun e=>by cases e; omega)⟩
 case assign=>
  rintro l pre q W hW hI hD hN
  gi_wp2
  exact⟨KeepsOthers.refl _,⟨Below.refl _ _,dP.refl _,rfl,rfl⟩,hI,hD,hN,rfl⟩
 case body=>
  rintro l pre q a₁ W ⟨hI,hD,hN,rfl⟩;obtain⟨⟨ys,v,h1,h2,h3,h5,h6⟩,h7,h8⟩:=hI;have H1:=aa h1;have H2:=aa h2;have H3:=aa h3;have H5:=aa h5;have H6:=aa h6;have H7:=aa h7;have H8:=aa h8;obtain⟨s,hsE⟩: ∃s,s=gg pre:=⟨_,rfl⟩;rw[<-hsE]at hD H7;have HSE:=aa hsE;have hsz:=h8.size;clear h1 h2 h3 h5 h6 h7 h8 hsE;obtain⟨av,cv,rfl,hvn,hvm⟩:=ai H5.o
  have HDW:=aa (HD2.o.below (by decide) (HB24.o.trans (H8.o.mono (by rw[<-HBX.o]; omega))));have HYW:=aa ((H8.o.block _ (by have:=HWX.o; omega)).trans HY4.o);obtain⟨sa,sc,hsl,hsb⟩:=lU HDW.o hD.1 hD.2;obtain⟨pl,hpl⟩: ∃pl,pl=dy data s q:=⟨_,rfl⟩;rw[<-hpl]at hsl hsb;have HSB:=aa hsb;have HPL:=aa hpl;clear hsb hpl;simp only[ym]
  gi_wp2
  refine zo (fun w'=>w'.cell? ⟨bx,0,none⟩=some (.slice av ys.length cv)/\w'.cell? ⟨w.heap.size+1,0,none⟩=some (.slice da n dcap)/\w'.cell? ⟨bx+1,0,none⟩=some (.int .i64 (s:Int))) (by kernel_rfl) (by kernel_rfl) (by kernel_rfl) ?_;simp only[List.dropLast_cons_cons,List.dropLast_singleton,List.length_cons,List.length_nil,Nat.reduceAdd,Nat.reduceSub];obtain⟨V,hV⟩: ∃V:World,V=W.drew:=⟨_,rfl⟩
  rw[<-hV];have HBV:=aa (show Below W.heap.size W V by rw[hV]; exact(Below.refl _ _).drew);have hsV:V.heap.size=W.heap.size:=by rw[hV]; rfl
  clear hV;have k0:=ag (k:=0) (br HBV.o H3.o);have k1:=ag (k:=0) (br HBV.o HYW.o);have k2:=ag (k:=0) (br HBV.o H7.o);simp only[List.getElem?_toArray,List.getElem?_cons_zero]at k0 k1 k2
  iterate 5 (refine aJ rfl (by kernel_rfl) (fun _ _ _ h=>h) rfl ⟨k0,k1,k2⟩ (by rintro w' ⟨hw1,hw2,hw3⟩; go_simp; first | rfl | (rw[hsl]; rfl)) ?_; simp only[Act.put,aZ,bg,bh])
  have HSV:=aa (show ar S V (.slice sa pl.length sc) pl from HSB.o.below (by decide) HBV.o);refine an 5 rfl (by kernel_rfl) rfl (fun K hK=> ?_);go_wp2_with fail;refine(Cl S _ pl V HSV.o (by rw[HPL.o]; unfold dy; rw[List.length_take,List.length_drop]; rw[<-HN.o]at hD; omega)).mono ?_;rintro e w5 ⟨v5,rfl,ho5,hb5⟩;obtain⟨a5,e5,rfl,hn5,hm5⟩:=ai ho5;have HO5:=aa ho5
  have HB5:=aa (show Below W.heap.size W w5 from HBV.o.trans (by rw[<-hsV]; exact hb5));clear ho5 hb5 k0 k1 k2;have k0:=ag (k:=0) (br HB5.o H3.o);have k1:=ag (k:=0) (br HB5.o HYW.o);have k2:=ag (k:=0) (br HB5.o H7.o);simp only[List.getElem?_toArray,List.getElem?_cons_zero]at k0 k1 k2;go_wp2_with fail;refine⟨⟨k0,k1,k2⟩, ?_⟩;have HB6:=aa (show Below w5.heap.size w5 (w5.alloc (.cells #[.slice a5 pl.length e5] 29))from bH)
  have l0:=(HB6.o.cell (aP k0)).trans k0;have l1:=(HB6.o.cell (aP k1)).trans k1;have l2:=(HB6.o.cell (aP k2)).trans k2;refine an 6 rfl (by kernel_rfl) rfl (fun K hK=> ?_);go_wp2_with fail;refine⟨⟨l0,l1,l2⟩, ?_⟩;clear l0 l1 l2;have HOW:=aa (show w5.ownsRow (bx+4) 29 1 (.slice av ys.length cv) ys.length (ys.map Prod.fst)from aQ H5.o HB5.o);have HLN:=aa (show ys.length<1099511627775 by rw[H2.o]; rw[<-HN.o]at hN; omega)
  have HBS:=aa (show bx+4<=w5.heap.size by have:=HB5.o.size; omega);refine an 7 rfl (by kernel_rfl) rfl (fun K hK=> ?_);go_wp2_with (at_builtin; go_must (refine aA Tryz.appChunks rfl _ _ rfl (bx+4) (.slice av ys.length cv) ys.length (ys.map Prod.fst) rfl w5 [.slice a5 pl.length e5] 29 rfl rfl (by simp[Value.oneCell']) HOW.o HLN.o HBS.o ?_); intro v7 w7 hown' hgrow' hne7 hpl7; obtain⟨a7,c7,rfl,-,-⟩:=ai hown')
  have hge: ∀k,(Value.slice av ys.length cv).ownBlock=some k->bx+4<=k:=fun k e=>(jx HOW.o e).1
  have hb7: ∀k,k<w5.heap.size->k<bx+4->w7.heap[k]? =w5.heap[k]? :=fun k h1 h2=>hgrow'.block k h1 (fun e=>by have:=hge k e.symm; omega)
  have hsz5:=HB5.o.size;have HX7:=aa (show w7.heap[bx]? =some (.cells #[.slice av ys.length cv] 181 (0,0)) by rw[hb7 _ (by omega) (by omega),HB5.o.block _ (lt_of_block H3.o),H3.o]);have HS7:=aa (show w7.heap[bx+1]? =some (.cells #[.int .i64 (s:Int)] 3 (0,0)) by rw[hb7 _ (by omega) (by omega),HB5.o.block _ (lt_of_block H7.o),H7.o]);have HY7:=aa (show w7.heap[w.heap.size+1]? =some (.cells #[.slice da n dcap] 29 (0,0)) by rw[hb7 _ (by have:=HWX.o; omega) (by have:=HWX.o; omega),HB5.o.block _ (lt_of_block HYW.o),HYW.o])
  have HOWN:=aa hown';have HGR:=aa hgrow';clear hown' hgrow' hne7 hpl7 hb7 k0 k1 k2;refine⟨⟨ag HX7.o,ag HY7.o,ag HS7.o⟩, ?_⟩;simp only[Act.put,aZ,bg,bh];have k0:=ag (k:=0) HX7.o;have f0:=kY (k:=0) HX7.o;have f1:=kY (k:=0) HS7.o;have k2:=ag (k:=0) HS7.o;simp only[List.getElem?_toArray,List.getElem?_cons_zero]at k0 k2;refine aM (by kernel_rfl) ?_
  refine bX rfl rfl (fun K hK=> ?_);go_wp2_with fail;rw[vu]
  gi_wp2
  have hX1:(w7.setCell ⟨bx,0,none⟩ (.slice a7 (ys.length+1) c7)).heap[bx]? =some (.cells #[.slice a7 (ys.length+1) c7] 181 (0,0)):=by simpa using FK (k:=0) HX7.o (.slice a7 (ys.length+1) c7)
  have hX2:(w7.setCell ⟨bx,0,none⟩ (.slice a7 (ys.length+1) c7)).heap[bx+1]? =some (.cells #[.int .i64 (s:Int)] 3 (0,0)):=rL HS7.o (by omega) _;obtain⟨B,hBe⟩: ∃B,B=(w7.setCell ⟨bx,0,none⟩ (.slice a7 (ys.length+1) c7)).setCell ⟨bx+1,0,none⟩ (.int .i64 (q:Int)):=⟨_,rfl⟩;rw[<-hBe];have hB1:B.heap[bx]? =some (.cells #[.slice a7 (ys.length+1) c7] 181 (0,0)):=by rw[hBe]; exact rL hX1 (by omega) _
  have hB2:B.heap[bx+1]? =some (.cells #[.int .i64 (q:Int)] 3 (0,0)):=by rw[hBe]; simpa using FK (k:=0) hX2 (.int .i64 (q:Int))
  have hg1:=aN (w7) bx 0 (.slice a7 (ys.length+1) c7);have hg2:=aN (w7.setCell ⟨bx,0,none⟩ (.slice a7 (ys.length+1) c7)) (bx+1) 0 (.int .i64 (q:Int));rw[<-hBe]at hg2;have hk7: ∀k,k<w7.heap.size->k≠bx->k≠bx+1->B.heap[k]? =w7.heap[k]? :=fun k h1 h2 h3=>(hg2.block k (Nat.lt_of_lt_of_le h1 hg1.size) (fun e=>h3 (Option.some.inj e))).trans (hg1.block k h1 (fun e=>h2 (Option.some.inj e)))
  have hsz7:=HGR.o.size;have hkW: ∀k,k<W.heap.size->k≠bx->k≠bx+1->(Value.slice av ys.length cv).ownBlock≠some k->B.heap[k]? =W.heap[k]? :=fun k h1 h2 h3 h4=>by
   rw[hk7 k (by omega) h2 h3,HGR.o.block k (by omega) (fun e=>h4 e.symm),HB5.o.block k h1]
  have hszB:W.heap.size<=B.heap.size:=by have:=hg1.size; have:=hg2.size; omega
  have hos:B.os=W.os:=by rw[hg2.os,hg1.os,HGR.o.os,HB5.o.os]
  have htp:B.tape=W.tape:=by rw[hg2.tape,hg1.tape,HGR.o.tape,HB5.o.tape]
  have hou:B.output=W.output:=by rw[hg2.output,hg1.output,HGR.o.output,HB5.o.output]
  have hown: ∀(sz m:Nat) (t:TypeId) (u:Value) (xs:List Value),w5.ownsRow (bx+4) t sz u m xs->t=5->B.ownsRow (bx+4) t sz u m xs:=fun sz m t u xs h ht=>by
   have h7:w7.ownsRow (bx+4) t sz u m xs:=h.kept HGR.o (zP h HOW.o (by rw[ht]; decide));have h8:=iw h7 hg1 (fun r e cs hc=>by cases e; rw[HX7.o]at hc; cases hc; cases ht);exact iw h8 hg2 (fun r e cs hc=>by cases e; rw[hX2]at hc; cases hc; cases ht)
  have hblk: ∀k,k<bx+4->(Value.slice av ys.length cv).ownBlock≠some k:=fun k h1 e=>by have:=hge k e; omega
  refine⟨⟨hszB,fun k o hko hoc=> ?_⟩,⟨⟨hos,htp,hou,hszB,fun k hk=> ?_⟩,fun k cs hk=> ?_, ?_, ?_⟩,⟨ys++[(.slice a5 pl.length e5,pl)], .slice a7 (ys.length+1) c7, ?_, ?_,hB1, ?_, ?_⟩, ?_, ?_⟩
  ·rw[hkW k (Array.getElem?_eq_some_iff.1 hko).1 (fun e=>by rw[e,H3.o]at hko; cases hko; cases hoc) (fun e=>by rw[e,H7.o]at hko; cases hko; cases hoc) (fun e=>by
    obtain⟨_,cur,hcur⟩:=jx H5.o e;rw[hcur]at hko; cases hko; cases hoc)]
   exact hko
  ·rw[<-HBX.o]at hk;exact hkW k (by omega) (by omega) (by omega) (hblk k (by omega))
  ·exact hkW k (Array.getElem?_eq_some_iff.1 hk).1 (fun e=>by rw[e,H3.o]at hk; cases hk) (fun e=>by rw[e,H7.o]at hk; cases hk) (fun e=>by
    obtain⟨_,cur,hcur⟩:=jx H5.o e;rw[hcur]at hk; cases hk)
  ·exact hkW _ (by omega) (by omega) (by omega) (hblk _ (by omega))
  ·exact hkW _ (by omega) (by omega) (by omega) (hblk _ (by omega))
  ·rw[List.map_append,H1.o,fU,HPL.o,HSE.o]; rfl
  ·rw[List.length_append,List.length_append,H2.o]; rfl
  ·rw[List.length_append,List.map_append];have h8:=iw HOWN.o hg1 (fun r e cs hc=>by cases e; rw[HX7.o]at hc; cases hc);exact iw h8 hg2 (fun r e cs hc=>by cases e; rw[hX2]at hc; cases hc)
  ·intro y hy
   rcases List.mem_append.1 hy with hy | hy
   ·exact hown _ _ _ _ _ (aQ (H6.o y hy) HB5.o) rfl
   ·rw[List.mem_singleton.1 hy];exact hown _ _ _ _ _ (cK HO5.o (by omega)) rfl
  ·rw[gw]; exact hB2
  ·refine H8.o.trans ⟨hos,htp,hou,hszB,fun k hk=>hkW k (by omega) (by omega) (by omega) (hblk k (by omega))⟩
 case done=>
  rintro Dl ys W hDl hS ⟨⟨zs,v,h1,h2,h3,h5,h6⟩,h7,h8⟩ hK;have hc:=ag (k:=0) h3;simp only[List.getElem?_toArray,List.getElem?_cons_zero]at hc;go_wp2_with fail;have hb2:=HB2.o;have hbx:=HBX.o;refine⟨by simp, .inl ⟨_,_,rfl,run_takeDeferred hK, ?_⟩⟩;have hsz2:=hb2.size;refine⟨_,results_tmp2 rfl _ _ _,v,rfl,⟨zs,by rw[h1,hS,HN.o],ownsRow_putObj (cK h5 (by omega)) _ hK rfl,fun y hy=>ownsRow_putObj (cK (h6 y hy) (by omega)) _ hK rfl⟩, ?_⟩
  have hWb:Below w.heap.size w W:=(hb2.trans (HB24.o.mono hsz2)).trans (h8.mono (by omega));exact gm hWb (grownBy_putObj' W Dl _) (by omega) hWb.size
 case stop=>
  rintro Dl c pre W _ _ h _;exact h.elim
end Go.Proofs.YtpffpjbkbaleiaaGreatDoor
namespace Go.Proofs.YtpffpjbkbaleiaaGreatDoor
open Go.RowKit
structure bu where
 ref:aV
 con:List UInt8
def gF (gs:List (ByteArray×Int)) (n:ByteArray):Int:=((gs.find? fun p=>decide (p.1=n)).map Prod.snd).getD 0
def aE (k:bn) (gs:List (ByteArray×Int)) (c:List UInt8):aV:=⟨gh k (gF gs (gh k 0 c)).toNat c,gF gs (gh k 0 c),(c.length:Int)⟩
def gJ (k:bn) (gs:List (ByteArray×Int)) (bs:List bu) (c:List UInt8):List bu:=if aE k gs c∈bs.map bu.ref then bs else bs++[⟨aE k gs c,c⟩]
def bP (k:bn) (gs:List (ByteArray×Int)) (cs:List (List UInt8)) (bs:List bu):List bu:=cs.foldl (gJ k gs) bs
def cN (c:cF) (data:List UInt8):List (List UInt8):=dY data 0 (kX (kI c data) c.mn.toNat c.mx.toNat data.length)
def gH (dir path:List UInt8):List UInt8:=if(path.drop dir.length).head? =some 47 then(path.drop dir.length).tail else path.drop dir.length
def cU (tree:List bo) (dir:ByteArray):List bo:=tree.filter fun e=>decide (aH (bl e.path)=bl dir)
def aT (k:bn) (gs:List (ByteArray×Int)) (c:cF) (dir:ByteArray) (e:bo) (node:aV):aI:=
 ⟨⟨(gH (bl dir) (bl e.path)).toArray⟩,e.kind,e.mode,e.time,if e.kind=1 then(e.data.length:Int)else 0,e.link,if e.kind=1 then(cN c e.data).map (aE k gs)else [],if e.kind=2 then node else bG⟩
def cV (k:bn) (gs:List (ByteArray×Int)) (c:cF) (rec:ByteArray->Except Int (List UInt8×List (List UInt8))) (dir:ByteArray):List bo->List aI->List (List UInt8)->Except Int (List aI×List (List UInt8))
 | [],its,cs=> .ok (its,cs)
 | e::r,its,cs=>
  if e.kind=1 then cV k gs c rec dir r (its++[aT k gs c dir e bG]) (cs++cN c e.data)
  else if e.kind=2 then(match rec e.path with
   | .error x=> .error x
   | .ok p=>cV k gs c rec dir r (its++[aT k gs c dir e (aE k gs p.1)]) (cs++p.2))
  else cV k gs c rec dir r (its++[aT k gs c dir e bG]) cs
def cO (k:bn) (gs:List (ByteArray×Int)) (c:cF) (tree:List bo):Nat->ByteArray->Except Int (List UInt8×List (List UInt8))
 | 0,_=> .error 0
 | f+1,dir=>match cV k gs c (cO k gs c tree f) dir (cU tree dir) [] []with
  | .error x=> .error x
  | .ok (its,cs)=>if eq its=true then(if(cQ its).length<=32768 then .ok (cQ its,cs++[cQ its])else .error 2)else .error 1
def cj (k:bn) (c:cF) (tree:List bo) (gs:List (ByteArray×Int)):Except Int (aV×List bu):=
 if dX k=true/\dV c=true then(if(gs.all fun p=>decide (0<=p.2) && decide (p.2<=1099511627776))=true then
  (if cB tree=0 then(match cO k gs c tree 514 ⟨#[]⟩with
   | .error x=> .error x
   | .ok p=> .ok (aE k gs p.1,bP k gs p.2 []))
  else .error (cB tree))else .error 1)else .error 1
theorem dR (k:bn) (gs:List (ByteArray×Int)) (a b:List (List UInt8)) (bs:List bu):bP k gs (a++b) bs=bP k gs b (bP k gs a bs):=List.foldl_append
open Go Go.RowKit
def mX (w:World) (wb:Nat) (data:List UInt8):Prop:= ∃v,w.heap[wb]? =some (.cells #[v, .int .i64 0] 160 (0,0))/\fZ w wb v data
def gN (wb:Nat) (w w':World):Prop:=Below wb w w'/\ ∀t,t≠5->t≠160->dP t w w'
theorem gN.refl (wb:Nat) (w:World):gN wb w w:=⟨Below.refl _ _,fun _ _ _=>dP.refl _⟩
theorem gN.trans {wb:Nat} {A B C:World} (h:gN wb A B) (k:gN wb B C):gN wb A C:=⟨h.1.trans k.1,fun t h1 h2=>(h.2 t h1 h2).trans (k.2 t h1 h2)⟩
theorem gN.row {wb:Nat} {w w':World} {v:Value} {data:List UInt8} (ho:fZ w wb v data) (hb:wb<=w.heap.size) (hg:w.grownBy w' v.ownBlock):gN wb w w':=
 ⟨(Below.refl _ _).grown hg hb (fun k e=>(jx ho e).1),fun t h1 _=>dP.grown hg (fun r e cs hcs=>by
  obtain⟨_,cur,hc⟩:=jx ho e;rw[hc]at hcs; cases hcs; exact h1 rfl)⟩
theorem gN.set {wb k:Nat} {w:World} {cs:Array Value} (hb:w.heap[wb]? =some (.cells cs 160 (0,0))) (v:Value):gN wb w (w.setCell ⟨wb,k,none⟩ v):=
 ⟨(Below.refl _ _).grown (aN w wb k v) (Nat.le_of_lt (lt_of_block hb)) (fun k e=>by cases e; exact Nat.le_refl _),fun t _ h2=>dP.grown (aN w wb k v) (fun r e cs' hcs=>by
  cases e; rw[hb]at hcs; cases hcs; exact h2 rfl)⟩
theorem mX.box {w w':World} {wb:Nat} {v:Value} {cs:Array Value} {data:List UInt8} (hb:w.heap[wb]? =some (.cells cs 160 (0,0))) (ho:fZ w wb v data) (hg:w.grownBy w' v.ownBlock):w'.heap[wb]? =some (.cells cs 160 (0,0)):=
 (hg.block _ (lt_of_block hb) (fun e=>by
  obtain⟨_,cur,hc⟩:=jx ho e.symm;rw[hc]at hb; cases hb)).trans hb
theorem mX.put {w1:World} {wb:Nat} {v v':Value} {data:List UInt8} (hb:w1.heap[wb]? =some (.cells #[v, .int .i64 0] 160 (0,0))) (ho:fZ w1 wb v' data):mX (w1.setCell ⟨wb,0,none⟩ v') wb data:=
 ⟨v',by simpa using FK (k:=0) hb v',World.ownsRow.kept ho (aN w1 wb 0 v') (by
  cases h:v'.ownBlock with
  | none=>exact .inl rfl
  | some k=>
   refine .inr (fun e=> ?_);obtain⟨_,cur,hc⟩:=jx ho h
   cases e
   rw[hc]at hb; cases hb)⟩
theorem sI (w:World):Calls Tryz.prog 48 #[] w fun e w'=>e= .returned (.pointer (some ⟨w.heap.size,0,none⟩))/\mX w' w.heap.size []/\Below w.heap.size w w':=by
 go_enter Tryz.func48,Tryz.ntmps48
 go_wp2_with fail;go_ret;exact⟨rfl,⟨.slice none 0 0,bz w _,World.ownsRow_nil _ _ _ _⟩,bH⟩
theorem fL (wb n:Nat) (data:List UInt8) (w:World) (hw:mX w wb data) (hl:data.length<1099511000000) (hn:n<18446744073709551616):
  Calls Tryz.prog 51 #[.pointer (some ⟨wb,0,none⟩), .int .u64 (n:Int)] w fun e w'=>e= .returned (.tuple #[])/\mX w' wb (data++aw n)/\gN wb w w':=by
 obtain⟨v,hb,ho⟩:=hw;obtain⟨a0,c0,rfl,h10,h20⟩:=ai ho;have HB:=aa hb;have HO:=aa ho;have hlt:=lt_of_block hb;have k0:=ag (k:=0) hb;have k1:=ag (k:=1) hb;simp only[cr]at k0 k1;clear hb ho
 go_enter Tryz.func51,Tryz.ntmps51
 go_wp2_with fail;refine(mF wb _ data n w HO.o (Nat.le_of_lt hlt) hl hn).mono ?_;rintro e w1 ⟨v',rfl,ho1,hg1,-⟩;obtain⟨a1,c1,hv1,-,-⟩:=ai ho1;obtain⟨m,hm⟩: ∃m,m=(data++aw n).length:=⟨_,rfl⟩;rw[<-hm]at hv1;subst hv1;clear hm;have hb1:=mX.box HB.o HO.o hg1;have HB1:=aa hb1;have HO1:=aa ho1;have HK1:=aa (gN.row HO.o (Nat.le_of_lt hlt) hg1);have f0:=kY (k:=0) hb1
 clear k0 k1;have k0:=ag (k:=0) hb1;simp only[List.getElem?_toArray,List.getElem?_cons_zero]at k0;clear hb1 ho1 hg1;go_wp2_with fail
 go_end0
 exact⟨rfl,mX.put HB1.o HO1.o,HK1.o.trans (gN.set HB1.o _)⟩
theorem uD (wb:Nat) (t:ByteArray) (data:List UInt8) (w:World) (hw:mX w wb data) (hl:data.length<1099000000000) (hn:t.size<500000000):
  Calls Tryz.prog 50 #[.pointer (some ⟨wb,0,none⟩), .string t] w fun e w'=>e= .returned (.tuple #[])/\mX w' wb (data++(aw t.size++bl t))/\gN wb w w':=by
 obtain⟨v,hb,ho⟩:=hw;obtain⟨a0,c0,rfl,h10,h20⟩:=ai ho;have HB:=aa hb;have HO:=aa ho;have hlt:=lt_of_block hb;have k0:=ag (k:=0) hb;have k1:=ag (k:=1) hb;simp only[cr]at k0 k1;clear hb ho;have hnu:IntKind.u64.wrap (t.size:Int)=((t.size:Nat):Int):=by rw[IntKind.wrap_u64]; omega
 have h10:=dI (n:=t.size) (by omega)
 go_enter Tryz.func50,Tryz.ntmps50
 go_wp2_with fail;refine(mF wb _ data t.size w HO.o (Nat.le_of_lt hlt) (by omega) (by omega)).mono ?_;rintro e w1 ⟨v',rfl,ho1,hg1,-⟩;obtain⟨a1,c1,hv1,-,-⟩:=ai ho1;obtain⟨m,hm⟩: ∃m,m=(data++aw t.size).length:=⟨_,rfl⟩;rw[<-hm]at hv1;subst hv1;have HM:=aa hm;clear hm;have HB1:=aa (mX.box HB.o HO.o hg1);have HO1:=aa ho1;have HK1:=aa (gN.row HO.o (Nat.le_of_lt hlt) hg1)
 have HL1:=aa (show(data++aw t.size).length+t.size<1099511627775 by rw[List.length_append]; omega);have hlt1:=lt_of_block HB1.o;clear k0 k1 ho1 hg1;go_wp2_with (at_builtin; go_must (refine fy rfl _ _ rfl wb (.slice a1 m c1) (data++aw t.size) rfl HO1.o t rfl HL1.o (Nat.le_of_lt hlt1) ?_); intro v2 w2 hown2 hgrow2; obtain⟨a2,c2,hv2,-,-⟩:=ai hown2; obtain⟨m2,hm2⟩: ∃m2,m2=(data++aw t.size).length+t.size:=⟨_,rfl⟩; try (rw[<-hm2]at hv2); subst hv2; clear hm2; have HOW2:=aa hown2; have HG2:=aa hgrow2; clear hown2 hgrow2; have HB2:=aa (mX.box HB1.o HO1.o HG2.o); have f0:=kY (k:=0) HB2.o; have k0:=ag (k:=0) HB2.o; simp only[List.getElem?_toArray,List.getElem?_cons_zero]at k0)
 go_end0
 have ho2:fZ w2 wb (.slice a2 m2 c2) (data++(aw t.size++bl t)):=by
  have:=HOW2.o;unfold fZ;rw[<-List.append_assoc,List.length_append,List.map_append,<-am];exact this
 exact⟨rfl,mX.put HB2.o ho2,(HK1.o.trans (gN.row HO1.o (Nat.le_of_lt hlt1) HG2.o)).trans (gN.set HB2.o _)⟩
theorem Gf (wb:Nat) (t:ByteArray) (data:List UInt8) (w:World) (hw:mX w wb data) (hl:data.length<1099000000000) (hn:t.size=32):
  Calls Tryz.prog 101 #[.pointer (some ⟨wb,0,none⟩), .string t] w fun e w'=>e= .returned (.tuple #[])/\mX w' wb (data++bl t)/\gN wb w w':=by
 obtain⟨v,hb,ho⟩:=hw;obtain⟨a0,c0,rfl,h10,h20⟩:=ai ho;have HB:=aa hb;have HO:=aa ho;have hlt:=lt_of_block hb;have k0:=ag (k:=0) hb;have k1:=ag (k:=1) hb;simp only[cr]at k0 k1;clear hb ho;have hni:(t.size:Int)=32:=by omega
 have HL0:=aa (show data.length+t.size<1099511627775 by omega);clear hn
 go_enter Tryz.func101,Tryz.ntmps101
 go_wp2_with (at_builtin; go_must (refine fy rfl _ _ rfl wb (.slice a0 data.length c0) data rfl HO.o t rfl HL0.o (Nat.le_of_lt hlt) ?_); intro v2 w2 hown2 hgrow2; obtain⟨a2,c2,hv2,-,-⟩:=ai hown2; obtain⟨m2,hm2⟩: ∃m2,m2=(data.length+t.size):=⟨_,rfl⟩; try (rw[<-hm2]at hv2); subst hv2; clear hm2; have HOW2:=aa hown2; have HG2:=aa hgrow2; clear hown2 hgrow2; have HB2:=aa (mX.box HB.o HO.o HG2.o); have f0:=kY (k:=0) HB2.o; clear k0 k1; have k0:=ag (k:=0) HB2.o; simp only[List.getElem?_toArray,List.getElem?_cons_zero]at k0)
 go_end0
 have ho2:fZ w2 wb (.slice a2 m2 c2) (data++bl t):=by
  have:=HOW2.o;unfold fZ;rw[List.length_append,List.map_append,<-am];exact this
 exact⟨rfl,mX.put HB2.o ho2,(gN.row HO.o (Nat.le_of_lt hlt) HG2.o).trans (gN.set HB2.o _)⟩
theorem rX (wb n:Nat) (data:List UInt8) (w:World) (hw:mX w wb data) (hl:data.length<1099511000000) (hn:n<9223372036854775808):
  Calls Tryz.prog 49 #[.pointer (some ⟨wb,0,none⟩), .int .i64 (n:Int)] w fun e w'=>e= .returned (.tuple #[])/\mX w' wb (data++aw n)/\gN wb w w':=by
 have HW:=aa hw;obtain⟨v,hb,ho⟩:=hw;obtain⟨a0,c0,rfl,h10,h20⟩:=ai ho;have HB:=aa hb;have HO:=aa ho;have hlt:=lt_of_block hb;have k0:=ag (k:=0) hb;have k1:=ag (k:=1) hb;simp only[cr]at k0 k1;clear hb ho;have hnu:IntKind.u64.wrap (n:Int)=((n:Nat):Int):=by rw[IntKind.wrap_u64]; omega
 go_enter Tryz.func49,Tryz.ntmps49
 go_wp2_with fail;refine(fL wb n data w HW.o hl (by omega)).mono ?_;rintro e w1 ⟨rfl,hw1,hk1⟩;go_wp2_with fail
 go_end0
 exact⟨rfl,hw1,hk1⟩
theorem gN.below {wb:Nat} {w w':World} (h:Below w.heap.size w w') (hb:wb<=w.heap.size):gN wb w w':=⟨h.mono hb,fun _ _ _=>dP.below h⟩
theorem mX.below {wb:Nat} {data:List UInt8} {w w':World} (h:mX w wb data) (hb:Below w.heap.size w w'):mX w' wb data:=by
 obtain⟨v,h1,h2⟩:=h;exact⟨v,br hb h1,aQ h2 hb⟩
def Gs (data:List UInt8) (w:World) (e:Ending) (w':World):Prop:=
 Below w.heap.size w w'/\if data.length<=1048576 then ∃v,e= .returned (.tuple #[v, .int .i64 0])/\fZ w' w.heap.size v data else e= .returned (.tuple #[.slice none 0 0, .int .i64 2])
theorem DV (wb:Nat) (data:List UInt8) (w:World) (hw:mX w wb data) (hl:data.length<1099000000000):Calls Tryz.prog 53 #[.pointer (some ⟨wb,0,none⟩)] w (Gs data w):=by
 obtain⟨v,hb,ho⟩:=hw;obtain⟨a0,c0,hv,h10,h20⟩:=ai ho;obtain⟨n,hn⟩: ∃n,n=data.length:=⟨_,rfl⟩;rw[<-hn]at hv h10 hl;subst hv;have HN:=aa hn;have HR:=aa (show aL (fun k=>wb<=k/\(Value.slice a0 n c0).ownBlock=some k) w 1 (.slice a0 n c0) n (data.map ak) by rw[hn]; rw[hn]at ho; exact aO ho);have hlt:=lt_of_block hb;have k0:=ag (k:=0) hb
 have k1:=ag (k:=1) hb;simp only[cr]at k0 k1;clear hb ho hn
 by_cases hbig:n<=1048576
 ·have HBG:=aa hbig;have hbi:(n:Int)<=1048576:=by omega
  have HOR:=aa (World.ownsRow_made (base:=w.heap.size) (e:=5) (size:=1) w #[] 0 (Nat.le_refl _) (by unfold maxLen; omega) rfl);have HB1:=aa ((Below.refl w.heap.size w).alloc (Nat.le_refl _) (.cells #[] 5));have HR1:=aa (HR.o.below (by decide) HB1.o);have HON:=aa (show ∀u∈data.map ak,u.oneCell'=true from ci data);have HLE:=aa (show 0+n<1099511627775 by omega)
  have k2:=(HB1.o.cell (aP k0)).trans k0
  go_enter Tryz.func53,Tryz.ntmps53
  go_wp2_with (at_builtin; go_must (refine bD Tryz.appBytes rfl _ _ rfl w.heap.size _ 0 [] rfl HOR.o _ n (data.map ak) rfl HR1.o HON.o HLE.o HB1.o.size ?_); intro v6 wz hown6 hgrow6; go_must (rw[Nat.zero_add,List.nil_append]at hown6); have HO6:=aa hown6; have HG6:=aa hgrow6; clear hown6 hgrow6)
  go_ret2
  refine⟨HB1.o.grown HG6.o HB1.o.size (fun k e=>by cases e; exact Nat.le_refl _), ?_⟩;rw[<-HN.o,if_pos HBG.o];exact⟨v6,rfl,by unfold fZ; rw[<-HN.o]; exact HO6.o⟩
 ·have HBG:=aa hbig;have hbi:(1048576:Int)<(n:Int):=by omega
  clear hbig
  go_enter Tryz.func53,Tryz.ntmps53
  go_wp2_with fail
  go_ret2
  refine⟨Below.refl _ _, ?_⟩;rw[<-HN.o,if_neg HBG.o]
  rfl
theorem nZ (wb:Nat) (r:aV) (data:List UInt8) (w:World) (hw:mX w wb data) (hl:data.length<1098000000000) (hr:gL r=true):
  Calls Tryz.prog 52 #[.pointer (some ⟨wb,0,none⟩),bU r] w fun e w'=>e= .returned (.tuple #[])/\mX w' wb (data++cT r)/\gN wb w w':=by
 have HW:=aa hw;obtain⟨h32,hg0,hg1,hz0,hz1⟩:=jT.1 hr;obtain⟨g,hg⟩: ∃g,g=r.gen.toNat:=⟨_,rfl⟩;obtain⟨z,hz⟩: ∃z,z=r.size.toNat:=⟨_,rfl⟩;have hgi:r.gen=(g:Int):=by omega
 have hzi:r.size=(z:Int):=by omega
 have HER:=aa (show cT r=bl r.name++(aw g++aw z) by unfold cT; rw[hg,hz]);have H32:=aa h32;have hwg:IntKind.u64.wrap (g:Int)=(g:Int):=by rw[IntKind.wrap_u64]; omega
 have hwz:IntKind.u64.wrap (z:Int)=(z:Int):=by rw[IntKind.wrap_u64]; omega
 have hg9:g<1099511627777:=by omega
 have hz9:z<32769:=by omega
 have hlt:wb<w.heap.size:=by obtain⟨_,h,_⟩:=hw; exact lt_of_block h
 unfold bU;rw[hgi,hzi];clear hw hr h32 hg0 hg1 hz0 hz1 hg hz hgi hzi
 go_enter Tryz.func52,Tryz.ntmps52
 go_wp2_with fail;obtain⟨w1,hw1⟩: ∃w1,w1=w.alloc (.cells #[.string r.name, .int .i64 (g:Int), .int .i64 (z:Int)] 26):=⟨_,rfl⟩;rw[<-hw1];have HB1:=aa (show Below w.heap.size w w1 by rw[hw1]; exact bH);have HX1:=aa (show w1.heap[w.heap.size]? =some (.cells #[.string r.name, .int .i64 (g:Int), .int .i64 (z:Int)] 26 (0,0)) by rw[hw1]; exact bz w _);have HK1:=aa (gN.below HB1.o (Nat.le_of_lt hlt))
 have HW1:=aa (HW.o.below HB1.o);clear hw1;refine(Gf wb r.name data w1 HW1.o (by omega) H32.o).mono ?_;rintro e w2 ⟨rfl,hw2,hk2⟩;have HW2:=aa hw2;have HK2:=aa hk2;have HX2:=aa ((hk2.2 _ (by decide) (by decide) _ _ HX1.o).trans HX1.o);have hl2:(data++bl r.name).length=data.length+32:=by rw[List.length_append,<-am,H32.o]
 have HL2:=aa hl2;have c1:=ag (k:=1) HX2.o;simp only[cr]at c1;clear hw2 hk2 hl2;go_wp2_with fail;refine(fL wb g _ w2 HW2.o (by rw[HL2.o]; omega) (by omega)).mono ?_;rintro e w3 ⟨rfl,hw3,hk3⟩;have HW3:=aa hw3;have HK3:=aa hk3;have HX3:=aa ((hk3.2 _ (by decide) (by decide) _ _ HX2.o).trans HX2.o);have c2:=ag (k:=2) HX3.o;simp only[cr]at c2;clear hw3 hk3 c1
 have h10:=dI (n:=g) (by omega);go_wp2_with fail;refine(fL wb z _ w3 HW3.o (by rw[List.length_append,HL2.o]; omega) (by omega)).mono ?_;rintro e w4 ⟨rfl,hw4,hk4⟩;go_wp2_with fail
 go_end0
 refine⟨rfl, ?_,((HK1.o.trans HK2.o).trans HK3.o).trans hk4⟩;rw[HER.o,<-List.append_assoc,<-List.append_assoc];exact hw4
end Go.Proofs.YtpffpjbkbaleiaaGreatDoor
namespace Go.Proofs.YtpffpjbkbaleiaaGreatDoor
open Go.RowKit
theorem iq (S:Nat->Prop) (l:List aI) (v:Value) (b:Bool) (w:World) (hv:bI S w v l) (henv:iV w) (h:eq l=b):Calls Tryz.prog 47 #[v] w fun e w'=>e= .returned (.bool b)/\Below w.heap.size w w':=by
 rw[<-h]; exact sU S l v w hv henv
theorem iM :bK bG:=⟨by decide,by decide,by decide⟩
theorem tL (S:Nat->Prop) (data:List UInt8) (v:Value) (w:World) (hv:ar S w v data) (henv:iV w):Calls Tryz.prog 18 #[v] w (vS data w):=by
 obtain⟨_,a,cap,rfl,hn,hm,-⟩:=id hv;unfold maxLen at hm;have HV:=aa hv;have HE:=aa henv;clear hv henv
 by_cases hbig:32768<data.length
 ·have HP:=aa (zA hbig)
  go_enter Tryz.func18,Tryz.ntmps18
  go_wp2_with fail
  go_ret2
  exact⟨Below.refl _ _,by rw[HP.o]; rfl⟩
 ·have HBIG:=aa hbig
  go_enter Tryz.func18,Tryz.ntmps18
  go_wp2_with fail;refine(sH S data _ w HV.o (by omega)).mono ?_;rintro e w1 ⟨rb,dv,rfl,hge,hrd,hb1⟩;have HRD1:=aa hrd;have HB1:=aa hb1;clear hrd hb1;go_wp2_with fail;refine(Be rb dv data ⟨0,0,0⟩ 4096 _ HRD1.o (by omega)).mono ?_;rintro e w2 ⟨n,s1,hcn,rfl,hrd2,hg2⟩;have hnl:n<=4096:=by have:=vd data 4096 ⟨0,0,0⟩; rw[hcn]at this; exact this
  have HCN:=aa hcn;have HI2:=aa (show qa w1 rb w2 dv (.slice none 0 0) data s1 []from⟨hrd2,⟨_,HRD1.o⟩,⟨[],World.ownsRow_nil _ _ _ _,rfl⟩,hg2⟩);clear hcn hrd2 hg2;go_wp2_with fail
  go_loopw [5,16] (fun v i wr=> ∃(k:Nat) (l:List aI) (s:RS),k<=n/\i= .int .i64 k/\l.length=k/\fl data s1 k=some (l,s)/\qa w1 rb wr dv v data s l) (fun _ i _=>n-(intOf i).toNat)
  case atStart=>exact⟨0,[],s1,Nat.zero_le _,rfl,rfl,rfl,HI2.o⟩
  case round=>
   obtain⟨k,l,s,hk,rfl,hlk,hit,hinv⟩:=hrel;have HIT:=aa hit;have HINV:=aa hinv;have HLK:=aa hlk;obtain⟨cells,hown,hrow⟩:=hinv.row;have HOWN:=aa hown;have HROW:=aa hrow;obtain⟨av,cv0,hvs,hvn,hvm⟩:=ai hown;have HRD:=aa hinv.rd;subst hvs;clear hit hinv hlk hown hrow
   by_cases hlt:k<n
   ·go_wp2_with fail;refine(FX rb dv data s 64 _ HRD.o (by omega)).mono ?_;rintro e w3 ⟨nm,s2,hp1,rfl,h1,h2⟩;have HP1:=aa hp1;have HM0:=aa (eM.start HRD.o h1 h2 #[.string ⟨nm.toArray⟩, .int .i64 0, .int .i64 0, .int .i64 0, .int .i64 0, .string ⟨#[]⟩, .slice none 0 0, .string ⟨#[]⟩, .int .i64 0, .int .i64 0]);clear hp1 h1 h2;go_wp2_with fail;refine(rT rb dv data s2 _ HM0.o.rd).mono ?_
    rintro e w4 ⟨kd,s3,hp,rfl,h1,h2⟩;have HP2:=aa hp;have HM1:=aa (HM0.o.call h1 h2);have ck:=HM1.o.cell 1;have fk:=HM1.o.free 1;simp only[cr]at ck;clear hp h1 h2;go_wp2_with fail;obtain⟨kv,hkv⟩: ∃ix:Int,ix=wrap64 (kd:Int):=⟨_,rfl⟩;rw[<-hkv];have Hkv:=aa hkv;clear hkv;obtain⟨w5,hw4⟩: ∃wx:World,wx=w4.setCell ⟨w3.heap.size,1,none⟩ (.int .i64 kv):=⟨_,rfl⟩
    rw[<-hw4];have m4:=HM1.o.set 1 (.int .i64 kv);rw[<-hw4]at m4;simp only[List.setIfInBounds_toArray,List.set_cons_succ,List.set_cons_zero]at m4;have HM2:=aa m4;clear m4 hw4 ck fk HM0 HM1;refine(rT rb dv data s3 _ HM2.o.rd).mono ?_;rintro e w6 ⟨md,s4,hp,rfl,h1,h2⟩;have HP3:=aa hp;have HM3:=aa (HM2.o.call h1 h2);have ck:=HM3.o.cell 2;have fk:=HM3.o.free 2;simp only[cr]at ck
    clear hp h1 h2;go_wp2_with fail;obtain⟨mv,hkv⟩: ∃ix:Int,ix=wrap64 (md:Int):=⟨_,rfl⟩;rw[<-hkv];have Hmv:=aa hkv;clear hkv;obtain⟨w7,hw4⟩: ∃wx:World,wx=w6.setCell ⟨w3.heap.size,2,none⟩ (.int .i64 mv):=⟨_,rfl⟩;rw[<-hw4];have m4:=HM3.o.set 2 (.int .i64 mv);rw[<-hw4]at m4;simp only[List.setIfInBounds_toArray,List.set_cons_succ,List.set_cons_zero]at m4;have HM4:=aa m4
    clear m4 hw4 ck fk HM2 HM3;refine(rT rb dv data s4 _ HM4.o.rd).mono ?_;rintro e w8 ⟨td,s5,hp,rfl,h1,h2⟩;have HP4:=aa hp;have HM5:=aa (HM4.o.call h1 h2);have ck:=HM5.o.cell 3;have fk:=HM5.o.free 3;simp only[cr]at ck;clear hp h1 h2
    go_upto_region 11 with(fail)
    obtain⟨tv,hkv⟩: ∃ix:Int,ix=wrap64 (td:Int):=⟨_,rfl⟩;rw[<-hkv];have Htv:=aa hkv;clear hkv;obtain⟨w9,hw4⟩: ∃wx:World,wx=w8.setCell ⟨w3.heap.size,3,none⟩ (.int .i64 tv):=⟨_,rfl⟩;rw[<-hw4];have m4:=HM5.o.set 3 (.int .i64 tv);rw[<-hw4]at m4;simp only[List.setIfInBounds_toArray,List.set_cons_succ,List.set_cons_zero]at m4;have HM6:=aa m4;clear m4 hw4 ck fk HM4 HM5
    have ck:=HM6.o.cell 1;simp only[cr]at ck;have HH:=aa (zx HP1.o HP2.o HP3.o HP4.o);have hnms:nm.length<=64:=by have:=BP data 64 s; rw[HP1.o]at this; exact this
    by_cases hk1:kv=1
    ·have e1:(kv == 1)=true:=by simp[hk1]
     have HK1:=aa (show jW kd=1 from Hkv.o.symm.trans hk1);clear hk1;go_wp2_with fail;refine(Be rb dv data s5 963 _ HM6.o.rd (by omega)).mono ?_;rintro e wa ⟨n2,s6,hp,rfl,h1,h2⟩;have HP5:=aa hp;have hn2:n2<=963:=by have:=vd data 963 s5; rw[hp]at this; exact this
     have HM7:=aa (HM6.o.call h1 h2);clear hp h1 h2 ck HM6;go_wp2_with fail;obtain⟨wo,hwo⟩: ∃wo:World,wo=wr:=⟨_,rfl⟩;subst hwo
     go_loopw [39] (fun i wq=> ∃(j:Nat) (ch:List aV) (s7:RS) (cv:Value),j<=n2/\i= .int .i64 j/\ch.length=j/\ee data s6 j=(ch,s7)/\eM rb w3.heap.size wo wq dv data s7 #[.string ⟨nm.toArray⟩, .int .i64 kv, .int .i64 mv, .int .i64 tv, .int .i64 0, .string ⟨#[]⟩,cv, .string ⟨#[]⟩, .int .i64 0, .int .i64 0]/\wq.ownsRow (w3.heap.size+1) 26 3 cv ch.length (ch.flatMap dC)) (fun i _=>n2-(intOf i).toNat)
     case atStart=>exact⟨0,[],s6, .slice none 0 0,Nat.zero_le _,rfl,rfl,rfl,HM7.o,World.ownsRow_nil _ _ _ _⟩
     case round=>
      obtain⟨j,ch,s7,cv,hj,rfl,hlj,hch,hmid,how⟩:=hrel;have HLJ:=aa hlj;have HCH:=aa hch;have HMQ:=aa hmid;have HOQ:=aa how;obtain⟨a6,c6,hv6,hvn6,hvm6⟩:=ai how;subst hv6;clear hlj hch hmid how
      by_cases hlt2:j<n2
      ·have ck:=HMQ.o.cell 6;have fk:=HMQ.o.free 6;simp only[cr]at ck;go_wp2_with fail;refine bN (fun w'=>w'.cell? ⟨w3.heap.size,6,none⟩=some (.slice a6 ch.length c6)) (by kernel_rfl) (by kernel_rfl) ?_;simp only[List.dropLast_cons_cons,List.dropLast_singleton,List.length_cons,List.length_nil,Nat.reduceAdd,Nat.reduceSub];have HMD:=aa (HMQ.o.below ((Below.refl _ _).drew))
       iterate 3 (refine aJ rfl (by kernel_rfl) (fun _ _ _ h=>h) rfl (by go_simp) (by intro w' hw'; go_simp; rfl) ?_; simp only[Act.put,aZ,bg,bh])
       refine an 3 rfl (by kernel_rfl) rfl (fun K hK=> ?_);go_wp2_with (go_at_call 62; refine(px rb dv data s7 _ HMD.o.rd).mono ?_; rintro e wb ⟨r,s8,hp,rfl,h1,h2,hrok⟩; unfold bU);have HP6:=aa hp;have HRO:=aa hrok;have HMB:=aa (HMD.o.call h1 h2);have HOB:=aa (HOQ.o.kept (aG (b:=wr.drew) ⟨rfl,rfl,rfl,Nat.le_refl _,fun _ _ _=>rfl⟩ h2) (.inr (by
        intro e;have:=(HOQ.o.lt _ e).1;have:=aX.lt HRD1.o;have:=HINV.o.grown.size;have:=HMQ.o.ge
        omega)))
       have ck2:=HMB.o.cell 6;have HMC:=aa (HMB.o.below ((Below.refl _ _).alloc (Nat.le_refl _) (.cells #[.string r.name, .int .i64 r.gen, .int .i64 r.size] 26)));have ck3:=HMC.o.cell 6;have fk2:=HMB.o.free 6;have hbz2:w3.heap.size+1<=wb.heap.size:=(Array.getElem?_eq_some_iff.1 HMB.o.box).1;simp only[cr]at ck2 ck3;clear hp h1 h2 hrok ck fk HMQ HMD;refine⟨ck2, ?_⟩;refine an 4 rfl (by kernel_rfl) rfl (fun K hK=> ?_)
       go_wp2_with fail
       (first | (refine⟨ck3, ?_⟩) | skip)
       refine an 5 rfl (by kernel_rfl) rfl (fun K hK=> ?_);go_wp2_with (at_builtin; go_must (refine aA Tryz.appRefs rfl _ _ rfl (w3.heap.size+1) (.slice a6 ch.length c6) ch.length (ch.flatMap dC) rfl wb [.string r.name, .int .i64 r.gen, .int .i64 r.size] _ rfl rfl (lr (r:=r)) HOB.o (by have:=HLJ.o; omega) hbz2 ?_); intro v' wc hown' hgrow' _ hpl; obtain⟨ae,ce,rfl,-,-⟩:=ai hown')
       have HMW:=aa (HMB.o.app hgrow' (fun k hk=>by have:=(HOB.o.lt k hk).1; omega));have HOW:=aa (show wc.ownsRow (w3.heap.size+1) 26 3 (.slice ae (ch.length+1) ce) (ch++[r]).length ((ch++[r]).flatMap dC) by rw[List.length_append,List.flatMap_append]; simpa [dC]using hown');have ck4:=HMW.o.cell 6;have fk4:=HMW.o.free 6;simp only[cr]at ck4;clear hown' hgrow' hpl ck2 ck3 fk2 HMC HMB HOB HOQ
       refine⟨ck4, ?_⟩;refine aJ rfl (by kernel_rfl) (fun _ _ _ h=>h) rfl (by go_simp) (by intro w' hw'; go_simp; rfl) ?_;simp only[Act.put,aZ,bg,bh];refine aM (by kernel_rfl) ?_;refine bX rfl rfl (fun K hK=> ?_);go_wp2_with fail
       go_roundw
       case rel=>
        have m4:=HMW.o.set 6 (.slice ae (ch.length+1) ce);simp only[List.setIfInBounds_toArray,List.set_cons_succ,List.set_cons_zero]at m4;refine⟨j+1,ch++[r],s8, .slice ae (ch.length+1) ce,by omega,by go_num,by simp[HLJ.o],wv HCH.o HP6.o,m4,HOW.o.kept (aN _ _ _ _) (.inr (by
         intro e;have:=(HOW.o.lt _ e).1
         omega))⟩
       case measure=>simp[intOf]; omega
      ·obtain rfl:j=n2:=by omega
       have hchok: ∀r∈ch,bK r:=by
        have:=tg data s6 j;rw[HCH.o]at this; exact this
       have HRF:=aa (kt HOQ.o hchok);have ck:=HMQ.o.cell 6;simp only[cr]at ck;clear hchok;go_wp2_with fail;refine(oL _ _ ch _ HRF.o).mono ?_;rintro e wb ⟨rfl,hbt⟩;have HMB:=aa (HMQ.o.below hbt);have HRB:=aa (show bw (fun k=>w3.heap.size<k) wb (.slice a6 ch.length c6) ch from bw.same (aU.below HRF.o (by omega) hbt (fun _ _ _ h=>h)) (fun k hk hS=>⟨by have:=hS.1; omega,rfl⟩))
       have ck4:=HMB.o.cell 4;have fk4:=HMB.o.free 4;simp only[cr]at ck4;obtain⟨tw,htw⟩: ∃tw:Int,tw=gQ ch:=⟨_,rfl⟩;rw[<-htw];have HTW:=aa htw;clear hbt ck htw HRF
       go_upto_region 23 with(fail)
       obtain⟨wd,hwd⟩: ∃wx:World,wx=wb.setCell ⟨w3.heap.size,4,none⟩ (.int .i64 tw):=⟨_,rfl⟩;rw[<-hwd];have m4:=HMB.o.set 4 (.int .i64 tw);rw[<-hwd]at m4;simp only[List.setIfInBounds_toArray,List.set_cons_succ,List.set_cons_zero]at m4;have HM8:=aa m4;have HIP:=aa (show je data s=some (⟨⟨nm.toArray⟩,jW kd,jW md,jW td,tw,⟨#[]⟩,ch,bG⟩,s7) by rw[HH.o,zu HK1.o HP5.o HCH.o,HTW.o])
       have HOK:=aa (show df ⟨⟨nm.toArray⟩,kv,mv,tv,tw,⟨#[]⟩,ch,bG⟩from⟨by show ByteArray.size ⟨_⟩<=_; unfold maxLen; simp[ByteArray.size]; omega,by show ByteArray.size ⟨_⟩<=_; unfold maxLen; simp[ByteArray.size],iM⟩);have HCV:=aa (show bw (wo.heap.size<= ·) wd (.slice a6 ch.length c6) ch from bw.same HRB.o (fun k hk hS=>⟨by have:=HMQ.o.ge; show wo.heap.size<=k; omega,by rw[hwd]; exact Below.heap_setCell _ _ _ _ (by show k≠w3.heap.size; omega)⟩))
       clear m4 hwd ck4 fk4 HMB HMQ HRB;have d0:=HM8.o.cell 0;have d1:=HM8.o.cell 1;have d2:=HM8.o.cell 2;have d3:=HM8.o.cell 3;have d4:=HM8.o.cell 4;have d5:=HM8.o.cell 5;have d6:=HM8.o.cell 6;have d7:=HM8.o.cell 7;have d8:=HM8.o.cell 8;have d9:=HM8.o.cell 9;simp only[cr]at d0 d1 d2 d3 d4 d5 d6 d7 d8 d9;have HOC:=aa (HOWN.o.kept HM8.o.grown (.inr (by
        intro e;have:=(HOWN.o.lt _ e).1;have:=aX.lt HRD1.o
        omega)))
       have hbz:w1.heap.size<=wd.heap.size:=Nat.le_trans HINV.o.grown.size HM8.o.grown.size;have HXI:=aa (show je data s=some (⟨⟨nm.toArray⟩,kv,mv,tv,tw,⟨#[]⟩,ch,bG⟩,s7) by rw[HIP.o,Hkv.o,Hmv.o,Htv.o]; rfl);have hlen:l.length<4096:=by have:=HLK.o; omega
       go_wp2_with (at_builtin; go_must (refine aA Tryz.appItems rfl _ _ rfl w1.heap.size (.slice av l.length cv0) l.length cells rfl wd [.string ⟨nm.toArray⟩, .int .i64 kv, .int .i64 mv, .int .i64 tv, .int .i64 (tw), .string ⟨#[]⟩, .slice a6 ch.length c6, .string ⟨#[]⟩, .int .i64 0, .int .i64 0] _ rfl rfl (eZ (it:=⟨⟨nm.toArray⟩,kv,mv,tv,tw,⟨#[]⟩,ch,bG⟩)) HOC.o (by omega) hbz ?_); intro v' we hown' hgrow' _ hpl; have HIE:=aa (HINV.o.added (it:=⟨⟨nm.toArray⟩,kv,mv,tv,tw,⟨#[]⟩,ch,bG⟩) HM8.o HCV.o HOK.o HROW.o HOWN.o hown' hgrow' hpl); obtain⟨ae,ce,rfl,-,-⟩:=ai hown'; clear hown' hgrow' hpl)
       go_roundw
       case rel=>exact⟨k+1,l++[⟨⟨nm.toArray⟩,kv,mv,tv,tw,⟨#[]⟩,ch,bG⟩],s7,by omega,by go_num,by simp[HLK.o],lh HIT.o HXI.o,HIE.o⟩
       case measure=>simp[intOf]; omega
    ·have e1:(kv == 1)=false:=by simp[hk1]
     by_cases hk2:kv=2
     ·have e2:(kv == 2)=true:=by simp[hk2]
      have HK2:=aa (show jW kd=2 from Hkv.o.symm.trans hk2);clear hk1 hk2;go_wp2_with fail;refine(px rb dv data s5 _ HM6.o.rd).mono ?_;rintro e wa ⟨r,s6,hp,rfl,h1,h2,hrok⟩;have HP5:=aa hp;have HRO:=aa hrok;have HM7:=aa (HM6.o.call h1 h2);have c7:=HM7.o.cell 7;have c8:=HM7.o.cell 8;have c9:=HM7.o.cell 9;have f7:=HM7.o.free 7;have f8:=HM7.o.free 8;have f9:=HM7.o.free 9
      simp only[cr]at c7 c8 c9;unfold bU;clear hp h1 h2 hrok ck
      go_upto_region 23 with(fail)
      obtain⟨wb,hwb⟩: ∃wx:World,wx=((wa.setCell ⟨w3.heap.size,7,none⟩ (.string r.name)).setCell ⟨w3.heap.size,8,none⟩ (.int .i64 r.gen)).setCell ⟨w3.heap.size,9,none⟩ (.int .i64 r.size):=⟨_,rfl⟩;rw[<-hwb];have m4:=((HM7.o.set 7 (.string r.name)).set 8 (.int .i64 r.gen)).set 9 (.int .i64 r.size);rw[<-hwb]at m4;simp only[List.setIfInBounds_toArray,List.set_cons_succ,List.set_cons_zero]at m4
      have HM8:=aa m4;have HIP:=aa (HH.o.trans (CB HK2.o HP5.o));have HOK:=aa (show df ⟨⟨nm.toArray⟩,kv,mv,tv,0,⟨#[]⟩,[],r⟩from⟨by show ByteArray.size ⟨_⟩<=_; unfold maxLen; simp[ByteArray.size]; omega,by show ByteArray.size ⟨_⟩<=_; unfold maxLen; simp[ByteArray.size],HRO.o⟩);have HCV:=aa (show bw (wr.heap.size<= ·) wb (.slice none 0 0) []from aU.nil);clear m4 hwb c7 c8 c9 f7 f8 f9 HM7 HM6
      have d0:=HM8.o.cell 0;have d1:=HM8.o.cell 1;have d2:=HM8.o.cell 2;have d3:=HM8.o.cell 3;have d4:=HM8.o.cell 4;have d5:=HM8.o.cell 5;have d6:=HM8.o.cell 6;have d7:=HM8.o.cell 7;have d8:=HM8.o.cell 8;have d9:=HM8.o.cell 9;simp only[cr]at d0 d1 d2 d3 d4 d5 d6 d7 d8 d9;have HOC:=aa (HOWN.o.kept HM8.o.grown (.inr (by
       intro e;have:=(HOWN.o.lt _ e).1;have:=aX.lt HRD1.o
       omega)))
      have hbz:w1.heap.size<=wb.heap.size:=Nat.le_trans HINV.o.grown.size HM8.o.grown.size;have HXI:=aa (show je data s=some (⟨⟨nm.toArray⟩,kv,mv,tv,0,⟨#[]⟩,[],r⟩,s6) by rw[HIP.o,Hkv.o,Hmv.o,Htv.o]; rfl);have hlen:l.length<4096:=by have:=HLK.o; omega
      go_wp2_with (at_builtin; go_must (refine aA Tryz.appItems rfl _ _ rfl w1.heap.size (.slice av l.length cv0) l.length cells rfl wb [.string ⟨nm.toArray⟩, .int .i64 kv, .int .i64 mv, .int .i64 tv, .int .i64 (0), .string ⟨#[]⟩, .slice none 0 0, .string r.name, .int .i64 r.gen, .int .i64 r.size] _ rfl rfl (eZ (it:=⟨⟨nm.toArray⟩,kv,mv,tv,0,⟨#[]⟩,[],r⟩)) HOC.o (by omega) hbz ?_); intro v' we hown' hgrow' _ hpl; have HIE:=aa (HINV.o.added (it:=⟨⟨nm.toArray⟩,kv,mv,tv,0,⟨#[]⟩,[],r⟩) HM8.o HCV.o HOK.o HROW.o HOWN.o hown' hgrow' hpl); obtain⟨ae,ce,rfl,-,-⟩:=ai hown'; clear hown' hgrow' hpl)
      go_roundw
      case rel=>exact⟨k+1,l++[⟨⟨nm.toArray⟩,kv,mv,tv,0,⟨#[]⟩,[],r⟩],s6,by omega,by go_num,by simp[HLK.o],lh HIT.o HXI.o,HIE.o⟩
      case measure=>simp[intOf]; omega
     ·have e2:(kv == 2)=false:=by simp[hk2]
      by_cases hk3:kv=3
      ·have e3:(kv == 3)=true:=by simp[hk3]
       have HK3:=aa (show jW kd=3 from Hkv.o.symm.trans hk3);clear hk1 hk2 hk3;go_wp2_with fail;refine(FX rb dv data s5 512 _ HM6.o.rd (by omega)).mono ?_;rintro e wa ⟨lk,s6,hp,rfl,h1,h2⟩;have HP5:=aa hp;have hlks:lk.length<=512:=by have:=BP data 512 s5; rw[hp]at this; exact this
       have HM7:=aa (HM6.o.call h1 h2);have c7:=HM7.o.cell 5;have f7:=HM7.o.free 5;simp only[cr]at c7;clear hp h1 h2 ck
       go_upto_region 23 with(fail)
       obtain⟨wb,hwb⟩: ∃wx:World,wx=wa.setCell ⟨w3.heap.size,5,none⟩ (.string ⟨lk.toArray⟩):=⟨_,rfl⟩;rw[<-hwb];have m4:=HM7.o.set 5 (.string ⟨lk.toArray⟩);rw[<-hwb]at m4;simp only[List.setIfInBounds_toArray,List.set_cons_succ,List.set_cons_zero]at m4;have HM8:=aa m4;have HIP:=aa (HH.o.trans (zv HK3.o HP5.o));have HOK:=aa (show df ⟨⟨nm.toArray⟩,kv,mv,tv,0,⟨lk.toArray⟩,[],bG⟩from⟨by show ByteArray.size ⟨_⟩<=_; unfold maxLen; simp[ByteArray.size]; omega,by show ByteArray.size ⟨_⟩<=_; unfold maxLen; simp[ByteArray.size]; omega,iM⟩)
       have HCV:=aa (show bw (wr.heap.size<= ·) wb (.slice none 0 0) []from aU.nil);clear m4 hwb c7 f7 HM7 HM6;have d0:=HM8.o.cell 0;have d1:=HM8.o.cell 1;have d2:=HM8.o.cell 2;have d3:=HM8.o.cell 3;have d4:=HM8.o.cell 4;have d5:=HM8.o.cell 5;have d6:=HM8.o.cell 6;have d7:=HM8.o.cell 7;have d8:=HM8.o.cell 8;have d9:=HM8.o.cell 9;simp only[cr]at d0 d1 d2 d3 d4 d5 d6 d7 d8 d9
       have HOC:=aa (HOWN.o.kept HM8.o.grown (.inr (by
        intro e;have:=(HOWN.o.lt _ e).1;have:=aX.lt HRD1.o
        omega)))
       have hbz:w1.heap.size<=wb.heap.size:=Nat.le_trans HINV.o.grown.size HM8.o.grown.size;have HXI:=aa (show je data s=some (⟨⟨nm.toArray⟩,kv,mv,tv,0,⟨lk.toArray⟩,[],bG⟩,s6) by rw[HIP.o,Hkv.o,Hmv.o,Htv.o]; rfl);have hlen:l.length<4096:=by have:=HLK.o; omega
       go_wp2_with (at_builtin; go_must (refine aA Tryz.appItems rfl _ _ rfl w1.heap.size (.slice av l.length cv0) l.length cells rfl wb [.string ⟨nm.toArray⟩, .int .i64 kv, .int .i64 mv, .int .i64 tv, .int .i64 (0), .string ⟨lk.toArray⟩, .slice none 0 0, .string ⟨#[]⟩, .int .i64 0, .int .i64 0] _ rfl rfl (eZ (it:=⟨⟨nm.toArray⟩,kv,mv,tv,0,⟨lk.toArray⟩,[],bG⟩)) HOC.o (by omega) hbz ?_); intro v' we hown' hgrow' _ hpl; have HIE:=aa (HINV.o.added (it:=⟨⟨nm.toArray⟩,kv,mv,tv,0,⟨lk.toArray⟩,[],bG⟩) HM8.o HCV.o HOK.o HROW.o HOWN.o hown' hgrow' hpl); obtain⟨ae,ce,rfl,-,-⟩:=ai hown'; clear hown' hgrow' hpl)
       go_roundw
       case rel=>exact⟨k+1,l++[⟨⟨nm.toArray⟩,kv,mv,tv,0,⟨lk.toArray⟩,[],bG⟩],s6,by omega,by go_num,by simp[HLK.o],lh HIT.o HXI.o,HIE.o⟩
       case measure=>simp[intOf]; omega
      ·have e3:(kv == 3)=false:=by simp[hk3]
       have HIN:=aa (xg HBIG.o HCN.o (xe (xf HIT.o (HH.o.trans (zw (fun e=>hk1 (Hkv.o.trans e)) (fun e=>hk2 (Hkv.o.trans e)) (fun e=>hk3 (Hkv.o.trans e))))) n (by omega)));clear hk1 hk2 hk3;go_wp2_with fail
       go_ret2
       have hfb:Below w.heap.size w w9:=HB1.o.trans ((cW.of_grown (S:=fun k=>k=rb) (aG HINV.o.grown HM6.o.grown) (fun k hk=>by cases hk; rfl)).below HB1.o.size (fun k hk=>by subst hk; exact hge));exact⟨hfb,by rw[HIN.o]; rfl⟩
   ·obtain rfl:k=n:=by omega
    have HIS:=aa (xh HBIG.o HCN.o HIT.o);have HIA:=aa (show bI (w.heap.size<= ·) wr (.slice av l.length cv0) l from by
     have hww:=HB1.o.size;refine⟨cells,(aO HOWN.o).weak (fun k hk=>by have:=hk.1; omega),HROW.o.mono (fun c x _ hx=>hx.same (fun k hk hS=>⟨by have:=hS.1; omega,rfl⟩))⟩)
    have HFB:=aa (show Below w.heap.size w wr from HB1.o.trans ((cW.of_grown (S:=fun k=>k=rb) HINV.o.grown (fun k hk=>by cases hk; rfl)).below HB1.o.size (fun k hk=>by subst hk; exact hge)));go_wp2_with fail;refine(GS rb dv data s _ HRD.o).mono ?_;rintro e we ⟨rfl,nd,rfl⟩;obtain⟨ev,hev⟩: ∃ev:Int,ev=qC data s:=⟨_,rfl⟩;rw[<-hev];have HEV:=aa hev;clear hev
    by_cases h0:ev=0
    ·subst h0;have HIA2:=aa (show bI (w.heap.size<= ·) (wr.drewN nd) (.slice av l.length cv0) l from bI.below HIA.o (cw (Below.refl _ _) nd));have HE2:=aa (HE.o.below (cw HFB.o nd))
     cases hvn2:eq l
     ·have HIN:=aa (show dT data=none by rw[HIS.o,hvn2]; simp);have HVN:=aa hvn2;clear hvn2;go_wp2_with fail;refine(iq _ l _ false _ HIA2.o HE2.o HVN.o).mono ?_;rintro e wf ⟨rfl,hbf⟩;have HBF:=aa (ab (cw HFB.o nd) hbf);clear hbf;go_wp2_with fail
      go_ret2
      exact⟨HBF.o,by rw[HIN.o]; rfl⟩
     ·have HIN:=aa (show dT data=some l by rw[HIS.o,hvn2]; simp[HEV.o.symm]);have HVN:=aa hvn2;clear hvn2;go_wp2_with fail;refine(iq _ l _ true _ HIA2.o HE2.o HVN.o).mono ?_;rintro e wf ⟨rfl,hbf⟩;have HBF:=aa (ab (cw HFB.o nd) hbf);have HIF:=aa (bI.below HIA2.o hbf);clear hbf;go_wp2_with fail
      go_ret2
      exact⟨HBF.o,by rw[HIN.o]; exact⟨_,rfl,HIF.o⟩⟩
    ·have HIN:=aa (show dT data=none by rw[HIS.o,if_neg (fun h=>h0 (HEV.o.trans h.1))]);have e6:(ev != 0)=true:=by simp[h0]
     clear h0;go_wp2_with fail
     go_ret2
     exact⟨cw HFB.o nd,by rw[HIN.o]; rfl⟩
open Go Go.RowKit
def eX (l:List aI) (k:Nat):List UInt8:=aw l.length++(l.take k).flatMap cY
theorem vn {l:List aI} {k:Nat} {it:aI} (h:l[k]? =some it):eX l (k+1)=eX l k++cY it:=by
 unfold eX;rw[List.take_add_one,h,List.flatMap_append,<-List.append_assoc]; simp
theorem wN (l:List aI):eX l l.length=cQ l:=by unfold eX cQ; rw[List.take_length]
theorem qA (l:List aI) (k:Nat):(eX l k).length<=(cQ l).length:=by
 have:(l.flatMap cY).length=((l.take k).flatMap cY).length+((l.drop k).flatMap cY).length:=by
  rw[<-List.length_append,<-List.flatMap_append,List.take_append_drop]
 unfold eX cQ;rw[List.length_append,List.length_append];omega
def qb (l:List aI) (w:World) (e:Ending) (w':World):Prop:=Below w.heap.size w w'/\
 if eq l=true then(if(cQ l).length<=32768 then ∃v,e= .returned (.tuple #[v, .int .i64 0])/\fZ w' w.heap.size v (cQ l)else e= .returned (.tuple #[.slice none 0 0, .int .i64 2]))
 else e= .returned (.tuple #[.slice none 0 0, .int .i64 1])
theorem xA (S:Nat->Prop) (l:List aI) (v:Value) (w:World) (hv:bI S w v l) (henv:iV w) (hsm:(cQ l).length<1000000000000) (htm: ∀it∈l,it.time<9223372036854775808):Calls Tryz.prog 15 #[v] w (qb l w):=by
 obtain⟨a,cap,rfl,hc,hm,-⟩:=aU.shape hv fH.len;unfold maxLen at hm;obtain⟨n,hn⟩: ∃n,n=l.length:=⟨_,rfl⟩;rw[<-hn]at hv hc ⊢;have HV:=aa hv;have HE:=aa henv;have HN:=aa hn;have HSM:=aa hsm;have HTM:=aa htm;clear hv henv hn hsm htm
 by_cases hval:eq l=true
 ·have HVN:=aa hval;have HALL:=aa (lX hval);clear hval;have hn4:n<=4096:=by rw[HN.o]; exact HALL.o.1
  go_enter Tryz.func15,Tryz.ntmps15
  go_wp2_with fail;refine(iq S l _ true w HV.o HE.o HVN.o).mono ?_;rintro e w1 ⟨rfl,hb1⟩;have HB1:=aa hb1;clear hb1;go_wp2_with fail;refine(sI w1).mono ?_;rintro e w2 ⟨rfl,hw2,hb2⟩;obtain⟨wb,hwb⟩: ∃wb,wb=w1.heap.size:=⟨_,rfl⟩;rw[<-hwb]at hw2 ⊢;have HB2:=aa (ab HB1.o hb2);have HW2:=aa hw2;have HWB:=aa (show w.heap.size<=wb by rw[hwb]; exact HB1.o.size)
  clear hw2 hb2 hwb;go_wp2_with fail;refine(rX wb n [] w2 HW2.o (by simp) (by omega)).mono ?_;rintro e w3 ⟨rfl,hw3,hk3⟩;rw[List.nil_append]at hw3;have HW3:=aa hw3;have HB3:=aa (HB2.o.trans (hk3.1.mono HWB.o));clear hw3 hk3;go_wp2_with fail
  go_loopw [21] (fun i wr=> ∃k:Nat,k<=n/\i= .int .i64 (k:Int)/\mX wr wb (eX l k)/\Below w.heap.size w wr) (fun i _=>n-(intOf i).toNat)
  case atStart=>exact⟨0,Nat.zero_le _,rfl,by have:=HW3.o; rw[HN.o]at this; simpa [eX]using this,HB3.o⟩
  case round=>
   obtain⟨k,hk,rfl,hw,hb⟩:=hrel;have HW:=aa hw;have HB:=aa hb;clear hw hb
   by_cases hlt:k<n
   ·obtain⟨it,hr⟩: ∃it,l[k]? =some it:=⟨l[k]'(by rw[<-HN.o]; exact hlt),by simp⟩;obtain⟨b,o,ca,cc,rfl,hok,hrf,hbl,-,hcl0⟩:=gG HV.o (Below.refl _ _) hr;have hcl: ∀j,j<10->wr.cell? ⟨b,o+k*10+j,none⟩=(cg (.slice ca it.chunks.length cc) it)[j]? :=fun j hj=>(HB.o.cell (p:=⟨b,o+k*10+j,none⟩) hbl).trans (hcl0 j hj)
    have HR:=aa hr;have HO:=aa hok;have HRF:=aa hrf;have HVI:=aa (HALL.o.2 it (List.mem_of_getElem? hr));have q0:=hcl 0 (by omega);have q1:=hcl 1 (by omega);have q2:=hcl 2 (by omega);have q3:=hcl 3 (by omega);have q4:=hcl 4 (by omega);have q5:=hcl 5 (by omega);have q6:=hcl 6 (by omega);have q7:=hcl 7 (by omega);have q8:=hcl 8 (by omega);have q9:=hcl 9 (by omega);simp only[cg,vN,Nat.add_zero]at q0 q1 q2 q3 q4 q5 q6 q7 q8 q9
    have hvi:=HVI.o;unfold ep at hvi;rw[Bool.and_eq_true]at hvi;have hh:=nt.1 hvi.1;have HBK:=aa (oe hvi.2);have HVB:=aa hvi.2;have htm:=HTM.o it (List.mem_of_getElem? hr);obtain⟨kd,hkd⟩: ∃kd,kd=it.kind.toNat:=⟨_,rfl⟩;obtain⟨md,hmd⟩: ∃md,md=it.mode.toNat:=⟨_,rfl⟩;obtain⟨td,htd⟩: ∃td,td=it.time.toNat:=⟨_,rfl⟩;have hk0:=hh.md0;have hm0:=hh.md1
    have ht0:=hh.tm0;have hnm:=qs hh.val hh.nos;have hki:it.kind=(kd:Int):=by rcases HBK.o with h | h | h<;> omega
    have hmi:it.mode=(md:Int):=by omega
    have hti:it.time=(td:Int):=by omega
    have hkd3:kd<=3:=by rcases HBK.o with h | h | h<;> omega
    have hmd9:md<=511:=by omega
    have htd9:td<9223372036854775808:=by omega
    have HIN:=aa (And.intro hkd (And.intro hmd htd));have hns:it.name.size=(bl it.name).length:=am _;have hwk:IntKind.u64.wrap (kd:Int)=(kd:Int):=by rw[IntKind.wrap_u64]; omega
    have hwm:IntKind.u64.wrap (md:Int)=(md:Int):=by rw[IntKind.wrap_u64]; omega
    have hwt:IntKind.u64.wrap (td:Int)=(td:Int):=by rw[IntKind.wrap_u64]; omega
    rw[hki]at q1;rw[hmi]at q2;rw[hti]at q3;have HBKk:=aa (show kd=1\/kd=2\/kd=3 by rcases HBK.o with h | h | h<;> omega);have HKI:=aa hki;clear hr hok hrf hcl hcl0 hvi hh htm hkd hmd htd hk0 hm0 ht0 hki hmi hti;have l1:=qA l k;have l2:=HSM.o;have l3:=dI (n:=it.name.size) (by omega);have l4:=dI (n:=kd) (by omega);have l5:=dI (n:=md) (by omega)
    have l6:=dI (n:=td) (by omega);have HLN:=aa (show(eX l k).length<1000000000000/\(aw it.name.size).length<=10/\(aw kd).length<=10/\(aw md).length<=10/\(aw td).length<=10/\(bl it.name).length<=64/\it.name.size<=64 from⟨by omega,l3,l4,l5,l6,hnm,by omega⟩);clear l1 l2 l3 l4 l5 l6 hnm hns;have hwbl:wb<wr.heap.size:=by obtain⟨_,h,_⟩:=HW.o; exact lt_of_block h
    have HA:=aa ((Below.refl wr.heap.size wr).alloc (Nat.le_refl _) (.cells #[.string it.name, .int .i64 (kd:Int), .int .i64 (md:Int), .int .i64 (td:Int), .int .i64 it.size, .string it.link, .slice ca it.chunks.length cc, .string it.node.name, .int .i64 it.node.gen, .int .i64 it.node.size] 28));have HX4:=aa (bz wr (.cells #[.string it.name, .int .i64 (kd:Int), .int .i64 (md:Int), .int .i64 (td:Int), .int .i64 it.size, .string it.link, .slice ca it.chunks.length cc, .string it.node.name, .int .i64 it.node.gen, .int .i64 it.node.size] 28))
    have HW4:=aa (HW.o.below HA.o);have HB4:=aa (HB.o.trans (HA.o.mono HB.o.size));go_wp2_with fail;clear q0 q1 q2 q3 q4 q5 q6 q7 q8 q9;refine(uD wb it.name _ _ HW4.o (by have:=HLN.o; omega) (by have:=HLN.o; omega)).mono ?_;rintro e wx ⟨rfl,hw5,hk5⟩;have HX5:=aa ((hk5.2 _ (by decide) (by decide) _ _ HX4.o).trans HX4.o);have HW5:=aa hw5;have HB5:=aa (HB4.o.trans (hk5.1.mono HWB.o))
    clear hw5 hk5 HX4 HW4 HB4;have HX4:=HX5;have HW4:=HW5;have HB4:=HB5;clear HX5 HW5 HB5;obtain⟨c0,c1,c2,c3,_⟩:=aj HX4.o;simp only[Nat.zero_add,Nat.reduceAdd]at c1 c2 c3;have c5:=ag (k:=5) HX4.o;have c6:=ag (k:=6) HX4.o;have c7:=ag (k:=7) HX4.o;have c8:=ag (k:=8) HX4.o;have c9:=ag (k:=9) HX4.o;simp only[cr]at c5 c6 c7 c8 c9;go_wp2_with fail
    clear c0 c1 c2 c3 c5 c6 c7 c8 c9;refine(fL wb kd _ _ HW4.o (by have:=HLN.o; simp only[List.length_append]; omega) (by omega)).mono ?_;rintro e wx ⟨rfl,hw5,hk5⟩;have HX5:=aa ((hk5.2 _ (by decide) (by decide) _ _ HX4.o).trans HX4.o);have HW5:=aa hw5;have HB5:=aa (HB4.o.trans (hk5.1.mono HWB.o));clear hw5 hk5 HX4 HW4 HB4;have HX4:=HX5;have HW4:=HW5;have HB4:=HB5;clear HX5 HW5 HB5
    obtain⟨c0,c1,c2,c3,_⟩:=aj HX4.o;simp only[Nat.zero_add,Nat.reduceAdd]at c1 c2 c3;have c5:=ag (k:=5) HX4.o;have c6:=ag (k:=6) HX4.o;have c7:=ag (k:=7) HX4.o;have c8:=ag (k:=8) HX4.o;have c9:=ag (k:=9) HX4.o;simp only[cr]at c5 c6 c7 c8 c9;go_wp2_with fail;clear c0 c1 c2 c3 c5 c6 c7 c8 c9;refine(fL wb md _ _ HW4.o (by have:=HLN.o; simp only[List.length_append]; omega) (by omega)).mono ?_
    rintro e wx ⟨rfl,hw5,hk5⟩;have HX5:=aa ((hk5.2 _ (by decide) (by decide) _ _ HX4.o).trans HX4.o);have HW5:=aa hw5;have HB5:=aa (HB4.o.trans (hk5.1.mono HWB.o));clear hw5 hk5 HX4 HW4 HB4;have HX4:=HX5;have HW4:=HW5;have HB4:=HB5;clear HX5 HW5 HB5;obtain⟨c0,c1,c2,c3,_⟩:=aj HX4.o;simp only[Nat.zero_add,Nat.reduceAdd]at c1 c2 c3;have c5:=ag (k:=5) HX4.o;have c6:=ag (k:=6) HX4.o
    have c7:=ag (k:=7) HX4.o;have c8:=ag (k:=8) HX4.o;have c9:=ag (k:=9) HX4.o;simp only[cr]at c5 c6 c7 c8 c9;go_wp2_with fail;clear c0 c1 c2 c3 c5 c6 c7 c8 c9;have HNX:=aa (vn HR.o);have HLX:=aa (show(eX l (k+1)).length<1000000000000 by have h1:=qA l (k+1); have h2:=HSM.o; omega)
    rcases HBKk.o with h | h | h
    ·subst h;have hbf:=jE (by rw[HKI.o]; rfl) HVB.o;have HBF:=aa hbf.2.2.1;obtain⟨_,_,heq,hcn,hcm,-⟩:=aU.shape HRF.o lZ.len;simp only[Value.slice.injEq]at heq;obtain⟨rfl,-,rfl⟩:=heq;obtain⟨n2,hn2⟩: ∃n2,n2=it.chunks.length:=⟨_,rfl⟩;have HN2:=aa hn2;unfold maxLen at hcm;rw[<-hn2]at HX4 HRF hcn;have hn2b:n2<9223372036854775808:=by omega
     have HTL:=aa (show cY it=aw it.name.size++(bl it.name++(aw 1++(aw md++(aw td++(aw n2++it.chunks.flatMap cT))))) by
      unfold cY ii;rw[if_pos (by rw[HKI.o]; rfl),<-HIN.o.1,<-HIN.o.2.1,<-HIN.o.2.2,<-hn2])
     clear hn2 hbf;refine(fL wb td _ _ HW4.o (by have:=HLN.o; simp only[List.length_append]; omega) (by omega)).mono ?_;rintro e wx ⟨rfl,hw5,hk5⟩;have HX5:=aa ((hk5.2 _ (by decide) (by decide) _ _ HX4.o).trans HX4.o);have HW5:=aa hw5;have HB5:=aa (HB4.o.trans (hk5.1.mono HWB.o));clear hw5 hk5 HX4 HW4 HB4;have HX4:=HX5;have HW4:=HW5;have HB4:=HB5;clear HX5 HW5 HB5;obtain⟨c0,c1,c2,c3,_⟩:=aj HX4.o
     simp only[Nat.zero_add,Nat.reduceAdd]at c1 c2 c3;have c5:=ag (k:=5) HX4.o;have c6:=ag (k:=6) HX4.o;have c7:=ag (k:=7) HX4.o;have c8:=ag (k:=8) HX4.o;have c9:=ag (k:=9) HX4.o;simp only[cr]at c5 c6 c7 c8 c9;go_wp2_with fail;clear c0 c1 c2 c3 c5 c6 c7 c8 c9;refine(rX wb n2 _ _ HW4.o (by have:=HLN.o; simp only[List.length_append]; omega) hn2b).mono ?_
     rintro e wx ⟨rfl,hw5,hk5⟩;have HX5:=aa ((hk5.2 _ (by decide) (by decide) _ _ HX4.o).trans HX4.o);have HW5:=aa hw5;have HB5:=aa (HB4.o.trans (hk5.1.mono HWB.o));clear hw5 hk5 HX4 HW4 HB4;have HX4:=HX5;have HW4:=HW5;have HB4:=HB5;clear HX5 HW5 HB5;obtain⟨c0,c1,c2,c3,_⟩:=aj HX4.o;simp only[Nat.zero_add,Nat.reduceAdd]at c1 c2 c3;have c5:=ag (k:=5) HX4.o;have c6:=ag (k:=6) HX4.o
     have c7:=ag (k:=7) HX4.o;have c8:=ag (k:=8) HX4.o;have c9:=ag (k:=9) HX4.o;simp only[cr]at c5 c6 c7 c8 c9;go_wp2_with fail;clear c0 c1 c2 c3 c5 c6 c7 c8 c9;obtain⟨D,hDw,hDe⟩: ∃D,mX wx wb D/\D++it.chunks.flatMap cT=eX l (k+1):=⟨_,HW4.o,by rw[HNX.o,HTL.o]; simp[List.append_assoc]⟩;have HDW:=aa hDw;have HDE:=aa hDe;clear hDw hDe
     go_loopw [56] (fun j w6=> ∃m:Nat,m<=n2/\j= .int .i64 (m:Int)/\mX w6 wb (D++(it.chunks.take m).flatMap cT)/\Below w.heap.size w w6) (fun j _=>n2-(intOf j).toNat)
     case atStart=>exact⟨0,Nat.zero_le _,rfl,by simpa using HDW.o,HB4.o⟩
     case round=>
      obtain⟨m,hmn,rfl,hw6,hb6⟩:=hrel;have HW6:=aa hw6;have HB6:=aa hb6;clear hw6 hb6
      by_cases hlm:m<n2
      ·obtain⟨r,hr2⟩: ∃r,it.chunks[m]? =some r:=⟨it.chunks[m]'(by rw[<-HN2.o]; exact hlm),by simp⟩;have HR2:=aa hr2;have HVR:=aa ((HBF.o r (List.mem_of_getElem? hr2)).1);obtain⟨b2,o2,rfl,-,p0,p1,p2⟩:=jn HRF.o HB6.o hr2;have HLD:=aa (show(D++(it.chunks.take m).flatMap cT).length<1098000000000 by
        have h1:=congrArg List.length HDE.o;have h2:=HLX.o;have h3:(it.chunks.flatMap cT).length=((it.chunks.take m).flatMap cT).length+((it.chunks.drop m).flatMap cT).length:=by
         rw[<-List.length_append,<-List.flatMap_append,List.take_append_drop]
        rw[List.length_append]at h1 ⊢
        omega)
       clear hr2;have HA6:=aa ((Below.refl wr.heap.size wr).alloc (Nat.le_refl _) (.cells #[.string r.name, .int .i64 r.gen, .int .i64 r.size] 26));have HTK:=aa (show(it.chunks.take (m+1)).flatMap cT=(it.chunks.take m).flatMap cT++cT r by
        rw[List.take_add_one,HR2.o,List.flatMap_append]; simp)
       have HR6:=aa (nZ wb r _ _ (HW6.o.below HA6.o) HLD.o HVR.o);have HB7:=aa (HB6.o.trans (HA6.o.mono HB6.o.size));go_wp2_with fail;refine HR6.o.mono ?_;rintro e w8 ⟨rfl,hw8,hk8⟩;have HW8:=aa hw8;have HB8:=aa (HB7.o.trans (hk8.1.mono HWB.o));clear hw8 hk8 p0 p1 p2;go_wp2_with fail
       go_roundw
       case rel=>
        refine⟨m+1,by omega,by go_num, ?_,HB8.o⟩;rw[HTK.o,<-List.append_assoc];exact HW8.o
       case measure=>simp[intOf]; omega
      ·have hm2:m=n2:=by omega
       subst hm2;have HWE:=aa (show mX _ wb (eX l (k+1)) by have:=HW6.o; rw[HN2.o,List.take_length,HDE.o]at this; exact this);go_wp2_with fail
       go_roundw
       case rel=>exact⟨k+1,by omega,by go_num,HWE.o,HB6.o⟩
       case measure=>simp[intOf]; omega
    ·subst h;have hbf:=qj (by rw[HKI.o]; rfl) HVB.o;have HBF:=aa hbf.2.2.2;have HTL:=aa (show cY it=aw it.name.size++(bl it.name++(aw 2++(aw md++(aw td++cT it.node)))) by
      unfold cY ii;rw[if_neg (by rw[HKI.o]; decide),if_pos (by rw[HKI.o]; rfl),<-HIN.o.1,<-HIN.o.2.1,<-HIN.o.2.2])
     clear hbf;refine(fL wb td _ _ HW4.o (by have:=HLN.o; simp only[List.length_append]; omega) (by omega)).mono ?_;rintro e wx ⟨rfl,hw5,hk5⟩;have HX5:=aa ((hk5.2 _ (by decide) (by decide) _ _ HX4.o).trans HX4.o);have HW5:=aa hw5;have HB5:=aa (HB4.o.trans (hk5.1.mono HWB.o));clear hw5 hk5 HX4 HW4 HB4;have HX4:=HX5;have HW4:=HW5;have HB4:=HB5;clear HX5 HW5 HB5;obtain⟨c0,c1,c2,c3,_⟩:=aj HX4.o
     simp only[Nat.zero_add,Nat.reduceAdd]at c1 c2 c3;have c5:=ag (k:=5) HX4.o;have c6:=ag (k:=6) HX4.o;have c7:=ag (k:=7) HX4.o;have c8:=ag (k:=8) HX4.o;have c9:=ag (k:=9) HX4.o;simp only[cr]at c5 c6 c7 c8 c9;go_wp2_with fail;clear c0 c1 c2 c3 c5 c6 c7 c8 c9;refine(nZ wb it.node _ _ HW4.o (by have:=HLN.o; simp only[List.length_append]; omega) HBF.o).mono ?_
     rintro e wx ⟨rfl,hw5,hk5⟩;have HX5:=aa ((hk5.2 _ (by decide) (by decide) _ _ HX4.o).trans HX4.o);have HW5:=aa hw5;have HB5:=aa (HB4.o.trans (hk5.1.mono HWB.o));clear hw5 hk5 HX4 HW4 HB4;have HX4:=HX5;have HW4:=HW5;have HB4:=HB5;clear HX5 HW5 HB5;obtain⟨c0,c1,c2,c3,_⟩:=aj HX4.o;simp only[Nat.zero_add,Nat.reduceAdd]at c1 c2 c3;have c5:=ag (k:=5) HX4.o;have c6:=ag (k:=6) HX4.o
     have c7:=ag (k:=7) HX4.o;have c8:=ag (k:=8) HX4.o;have c9:=ag (k:=9) HX4.o;simp only[cr]at c5 c6 c7 c8 c9;go_wp2_with fail;clear c0 c1 c2 c3 c5 c6 c7 c8 c9
     go_roundw
     case rel=>
      refine⟨k+1,by omega,by go_num, ?_,HB4.o⟩;rw[HNX.o,HTL.o]
      simpa [List.append_assoc]using HW4.o
     case measure=>simp[intOf]; omega
    ·subst h;have hbf:=sY (by rw[HKI.o]; rfl) HVB.o;have HBF:=aa hbf.2.2.2.2.1;have HTL:=aa (show cY it=aw it.name.size++(bl it.name++(aw 3++(aw md++(aw td++(aw it.link.size++bl it.link))))) by
      unfold cY ii;rw[if_neg (by rw[HKI.o]; decide),if_neg (by rw[HKI.o]; decide),<-HIN.o.1,<-HIN.o.2.1,<-HIN.o.2.2])
     clear hbf;refine(fL wb td _ _ HW4.o (by have:=HLN.o; simp only[List.length_append]; omega) (by omega)).mono ?_;rintro e wx ⟨rfl,hw5,hk5⟩;have HX5:=aa ((hk5.2 _ (by decide) (by decide) _ _ HX4.o).trans HX4.o);have HW5:=aa hw5;have HB5:=aa (HB4.o.trans (hk5.1.mono HWB.o));clear hw5 hk5 HX4 HW4 HB4;have HX4:=HX5;have HW4:=HW5;have HB4:=HB5;clear HX5 HW5 HB5;obtain⟨c0,c1,c2,c3,_⟩:=aj HX4.o
     simp only[Nat.zero_add,Nat.reduceAdd]at c1 c2 c3;have c5:=ag (k:=5) HX4.o;have c6:=ag (k:=6) HX4.o;have c7:=ag (k:=7) HX4.o;have c8:=ag (k:=8) HX4.o;have c9:=ag (k:=9) HX4.o;simp only[cr]at c5 c6 c7 c8 c9;go_wp2_with fail;clear c0 c1 c2 c3 c5 c6 c7 c8 c9;refine(uD wb it.link _ _ HW4.o (by have:=HLN.o; simp only[List.length_append]; omega) (by have:=HBF.o; omega)).mono ?_
     rintro e wx ⟨rfl,hw5,hk5⟩;have HX5:=aa ((hk5.2 _ (by decide) (by decide) _ _ HX4.o).trans HX4.o);have HW5:=aa hw5;have HB5:=aa (HB4.o.trans (hk5.1.mono HWB.o));clear hw5 hk5 HX4 HW4 HB4;have HX4:=HX5;have HW4:=HW5;have HB4:=HB5;clear HX5 HW5 HB5;obtain⟨c0,c1,c2,c3,_⟩:=aj HX4.o;simp only[Nat.zero_add,Nat.reduceAdd]at c1 c2 c3;have c5:=ag (k:=5) HX4.o;have c6:=ag (k:=6) HX4.o
     have c7:=ag (k:=7) HX4.o;have c8:=ag (k:=8) HX4.o;have c9:=ag (k:=9) HX4.o;simp only[cr]at c5 c6 c7 c8 c9;go_wp2_with fail;clear c0 c1 c2 c3 c5 c6 c7 c8 c9
     go_roundw
     case rel=>
      refine⟨k+1,by omega,by go_num, ?_,HB4.o⟩;rw[HNX.o,HTL.o]
      simpa [List.append_assoc]using HW4.o
     case measure=>simp[intOf]; omega
   ·have hk2:k=n:=by omega
    subst hk2;have HWE:=aa (show mX wr wb (cQ l) by have:=HW.o; rw[HN.o,wN]at this; exact this);go_wp2_with fail;refine(DV wb (cQ l) wr HWE.o (by have:=HSM.o; omega)).mono ?_;rintro e w9 ⟨hb9,hif⟩;obtain⟨m,hm0⟩: ∃m,m=(cQ l).length:=⟨_,rfl⟩;rw[<-hm0]at hif;have HM0:=aa hm0;have HB9:=aa (HB.o.trans (hb9.mono HB.o.size));have hbs:=HB.o.size
    by_cases hbig:m<=1048576
    ·rw[if_pos hbig]at hif;obtain⟨v9,rfl,ho9⟩:=hif;obtain⟨a9,c9,hv9,-,-⟩:=ai ho9;rw[<-hm0]at hv9;subst hv9;have HO9:=aa (cK ho9 hbs);clear hm0 ho9 hb9
     by_cases hsmall:m<=32768
     ·have hmi:(m:Int)<=32768:=by omega
      go_wp2_with fail
      go_ret2
      refine⟨HB9.o, ?_⟩;rw[if_pos HVN.o,<-HM0.o,if_pos hsmall];exact⟨_,rfl,HO9.o⟩
     ·have hmi:(32768:Int)<(m:Int):=by omega
      have HSB:=aa hsmall;clear hsmall;go_wp2_with fail
      go_ret2
      refine⟨HB9.o, ?_⟩;rw[if_pos HVN.o,<-HM0.o,if_neg HSB.o]
      rfl
    ·rw[if_neg hbig]at hif;subst hif;have HSB:=aa (show ¬m<=32768 by omega);clear hm0 hb9 hbig;go_wp2_with fail
     go_ret2
     refine⟨HB9.o, ?_⟩;rw[if_pos HVN.o,<-HM0.o,if_neg HSB.o]
     rfl
 ·have HVN:=aa (show eq l=false by simpa using hval);clear hval
  go_enter Tryz.func15,Tryz.ntmps15
  go_wp2_with fail;refine(iq S l _ false w HV.o HE.o HVN.o).mono ?_;rintro e w1 ⟨rfl,hb1⟩;have HB1:=aa hb1;clear hb1;go_wp2_with fail
  go_ret2
  refine⟨HB1.o, ?_⟩;rw[HVN.o]
  rfl
end Go.Proofs.YtpffpjbkbaleiaaGreatDoor
namespace Go.Proofs.YtpffpjbkbaleiaaGreatDoor
open Go.RowKit Go.Maps
def bW (S:Nat->Prop) (w:World):List (Value×Value)->List (ByteArray×List UInt8)->Prop
 | [],[]=>True
 | (k,v)::m,(n,bs)::cs=>k= .string n/\ar S w v bs/\bW S w m cs
 | _,_=>False
theorem bW.mono {S:Nat->Prop} {w w':World} : ∀ {m:List (Value×Value)} {cs:List (ByteArray×List UInt8)},bW S w m cs->(∀v bs,ar S w v bs->ar S w' v bs)->bW S w' m cs
 | [],[],_,_=>trivial
 | [],_::_,h,_=>h
 | _::_,[],h,_=>h
 | (_,_)::_,(_,_)::_,h,hm=>⟨h.1,hm _ _ h.2.1,bW.mono h.2.2 hm⟩
def ef :List (ByteArray×List UInt8)->ByteArray->Option (List UInt8)
 | [],_=>none
 | (k,bs)::cs,n=>if k=n then some bs else ef cs n
theorem bW.hit {S:Nat->Prop} {w:World} {n:ByteArray} {bs:List UInt8} : ∀ {m:List (Value×Value)} {cs:List (ByteArray×List UInt8)},bW S w m cs->ef cs n=some bs-> ∃v,(Value.string n,v)∈m/\ar S w v bs
 | [],[],_,hf=>by simp[ef]at hf
 | [],_::_,h,_=>False.elim h
 | _::_,[],h,_=>False.elim h
 | (k,v)::m,(n',bs')::cs,h,hf=>by
  simp only[ef]at hf
  split at hf
  ·rename_i e;simp only[Option.some.injEq]at hf;subst hf e;exact⟨v,by rw[h.1]; simp,h.2.1⟩
  ·obtain⟨v',h1,h2⟩:=bW.hit h.2.2 hf;exact⟨v',by simp[h1],h2⟩
theorem bW.miss {S:Nat->Prop} {w:World} {n:ByteArray} : ∀ {m:List (Value×Value)} {cs:List (ByteArray×List UInt8)},bW S w m cs->ef cs n=none-> ∀p∈m,p.1≠Value.string n
 | [],[],_,_,_,hp=>by simp at hp
 | [],_::_,h,_,_,_=>False.elim h
 | _::_,[],h,_,_,_=>False.elim h
 | (k,v)::m,(n',bs')::cs,h,hf,p,hp=>by
  simp only[ef]at hf
  split at hf
  ·simp at hf
  ·rename_i e
   rcases List.mem_cons.1 hp with rfl | hp
   ·intro e2;have:=h.1.symm.trans e2;simp only[Value.string.injEq]at this;exact e this
   ·exact bW.miss h.2.2 hf p hp
def cM (S:Nat->Prop) (w:World) (cv:Value) (cs:List (ByteArray×List UInt8)):Prop:=
 (cv= .map none/\cs=[])\/ ∃b m,cv= .map (some b)/\S b/\em Tryz.prog 9 w b m/\bW S w m cs
theorem cM.below {S:Nat->Prop} {w w':World} {cv:Value} {cs:List (ByteArray×List UInt8)} (h:cM S w cv cs) (hb:Below w.heap.size w w'):cM S w' cv cs:=by
 rcases h with h | ⟨b,m,h1,h0,h2,h3⟩
 ·exact .inl h
 ·exact .inr ⟨b,m,h1,h0,h2.same (hb.block b h2.lt),h3.mono (fun v bs hv=>aL.below hv (by omega) hb)⟩
theorem ox :Keyed Tryz.prog 9:=string_keyed Tryz.underlying9
theorem ow {n:ByteArray} (h:n.size<=maxLen): ∃l,keyOf Tryz.prog 9 (.string n)=some l:=⟨.string n.data.toList,by simp[keyOf,mapKey,Tryz.underlying9,h]⟩
theorem cM.hitL {S:Nat->Prop} {w:World} {cv:Value} {cs:List (ByteArray×List UInt8)} (h:cM S w cv cs) {n:ByteArray} {bs:List UInt8} (hn:n.size<=maxLen) (hf:ef cs n=some bs):
  ∃v,(Instr.lookup 133 cv (.string n) true).run Tryz.prog w= .ok (.tuple #[v, .bool true]) w/\ar S w v bs:=by
 rcases h with⟨_,rfl⟩ | ⟨b,m,rfl,_,h2,h3⟩
 ·simp[ef]at hf
 ·obtain⟨v,hv,hb⟩:=h3.hit hf;exact⟨v,h2.hit ox (t:=133) (e:=29) (by kernel_rfl) (ow hn) hv true,hb⟩
theorem cM.missL {S:Nat->Prop} {w:World} {cv:Value} {cs:List (ByteArray×List UInt8)} (h:cM S w cv cs) {n:ByteArray} (hn:n.size<=maxLen) (hf:ef cs n=none):
  (Instr.lookup 133 cv (.string n) true).run Tryz.prog w= .ok (.tuple #[.slice none 0 0, .bool false]) w:=by
 obtain⟨l,hl⟩:=ow hn
 rcases h with⟨rfl,_⟩ | ⟨b,m,rfl,_,h2,h3⟩
 ·exact Maps.look_nil true ox (t:=133) (e:=29) (by kernel_rfl) (by kernel_rfl) hl
 ·exact h2.miss ox (t:=133) (e:=29) (by kernel_rfl) (by kernel_rfl) (ow hn) (h3.miss hf) true
def eF (cs:List (ByteArray×List UInt8)) (r:aV):Except Int (List UInt8):=match ef cs r.name with
 | none=> .error 10
 | some bs=>if(bs.length:Int)=r.size then .ok bs else .error 9
def ey (cs:List (ByteArray×List UInt8)) (r:aV):Except Int (List aI):=match eF cs r with
 | .error e=> .error e
 | .ok bs=>match dT bs with
  | none=> .error 9
  | some l=> .ok l
def vP (cs:List (ByteArray×List UInt8)) (r:aV) (S:Nat->Prop) (w:World) (e:Ending) (w':World):Prop:=Below w.heap.size w w'/\match eF cs r with
 | .error x=>e= .returned (.tuple #[.slice none 0 0, .int .i64 x])/\x≠0
 | .ok bs=> ∃v,e= .returned (.tuple #[v, .int .i64 0])/\ar S w' v bs
theorem th (S:Nat->Prop) (cv:Value) (cs:List (ByteArray×List UInt8)) (r:aV) (w:World) (hc:cM S w cv cs) (hr:bK r):Calls Tryz.prog 129 #[cv,bU r] w (vP cs r S w):=by
 have hnm:=hr.nm;have HC:=aa (hc.below ((Below.refl _ _).alloc (Nat.le_refl _) (.cells #[.string r.name, .int .i64 r.gen, .int .i64 r.size] 26)));have HB:=aa ((Below.refl w.heap.size w).alloc (Nat.le_refl _) (.cells #[.string r.name, .int .i64 r.gen, .int .i64 r.size] 26));unfold bU;clear hc hr
 cases hf:ef cs r.name with
 | none=>
  have hlk:=HC.o.missL hnm hf;have HF:=aa (show eF cs r= .error 10 by unfold eF; rw[hf]);clear hf hnm
  go_enter Tryz.func129,Tryz.ntmps129
  go_wp2_with fail
  go_ret2
  exact⟨HB.o,by rw[HF.o]; exact⟨rfl,by decide⟩⟩
 | some bs=>
  obtain⟨v,hlk,hv⟩:=HC.o.hitL hnm hf;have HV:=aa hv;obtain⟨_,a,cap,rfl,hn,hm,-⟩:=hv;unfold maxLen at hm
  by_cases hl:(bs.length:Int)=r.size
  ·have HF:=aa (show eF cs r= .ok bs by unfold eF; rw[hf]; simp only[if_pos hl]);have e1:((bs.length:Int) != r.size)=false:=by simp[hl]
   clear hf hnm hl
   go_enter Tryz.func129,Tryz.ntmps129
   go_wp2_with fail
   go_ret2
   exact⟨HB.o,by rw[HF.o]; exact⟨_,rfl,HV.o⟩⟩
  ·have HF:=aa (show eF cs r= .error 9 by unfold eF; rw[hf]; simp only[if_neg hl]);have e1:((bs.length:Int) != r.size)=true:=by simp[hl]
   clear hf hnm hl
   go_enter Tryz.func129,Tryz.ntmps129
   go_wp2_with fail
   go_ret2
   exact⟨HB.o,by rw[HF.o]; exact⟨rfl,by decide⟩⟩
def uQ (cs:List (ByteArray×List UInt8)) (r:aV) (w:World) (e:Ending) (w':World):Prop:=Below w.heap.size w w'/\match ey cs r with
 | .error x=>e= .returned (.tuple #[.slice none 0 0, .int .i64 x])/\x≠0
 | .ok l=> ∃v,e= .returned (.tuple #[v, .int .i64 0])/\bI (w.heap.size<= ·) w' v l
theorem nG (S:Nat->Prop) (cv:Value) (cs:List (ByteArray×List UInt8)) (r:aV) (w:World) (hc:cM S w cv cs) (hr:bK r) (henv:iV w):Calls Tryz.prog 83 #[cv,bU r] w (uQ cs r w):=by
 have HB:=aa ((Below.refl w.heap.size w).alloc (Nat.le_refl _) (.cells #[.string r.name, .int .i64 r.gen, .int .i64 r.size] 26));have HC:=aa (hc.below HB.o);have HR:=aa hr;have HE:=aa (henv.below HB.o);unfold bU;clear hc hr henv
 go_enter Tryz.func83,Tryz.ntmps83
 go_wp2_with fail;refine(th S cv cs r _ HC.o HR.o).mono ?_;rintro e w1 ⟨hb1,hres⟩;have HB1:=aa (ab HB.o hb1);have HE1:=aa (HE.o.below hb1);clear hb1
 cases hch:eF cs r with
 | error x=>
  rw[hch]at hres;obtain⟨rfl,hx⟩:=hres;have HN:=aa (show ey cs r= .error x by unfold ey; rw[hch]);have HX:=aa hx;have e1:(x != 0)=true:=by simp[hx]
  clear hch hx;go_wp2_with fail
  go_ret2
  exact⟨HB1.o,by rw[HN.o]; exact⟨rfl,HX.o⟩⟩
 | ok bs=>
  rw[hch]at hres;obtain⟨v,rfl,hv⟩:=hres;have HV:=aa hv;obtain⟨_,a,cap,rfl,hn,hm,-⟩:=hv;unfold maxLen at hm;have HCH:=aa hch;clear hch;go_wp2_with fail;refine(tL S bs _ w1 HV.o HE1.o).mono ?_;rintro e w2 ⟨hb2,hres⟩;have HB2:=aa (ab HB1.o hb2);clear hb2
  cases hit:dT bs with
  | none=>
   rw[hit]at hres;simp only at hres;subst hres;have HN:=aa (show ey cs r= .error 9 by unfold ey; rw[HCH.o]; simp only[hit]);clear hit;go_wp2_with fail
   go_ret2
   exact⟨HB2.o,by rw[HN.o]; exact⟨rfl,by decide⟩⟩
  | some l=>
   rw[hit]at hres;simp only at hres;obtain⟨v,rfl,hv⟩:=hres;have hwz:=HB1.o.size;have HV2:=aa (show bI (w.heap.size<= ·) w2 v l from by
    obtain⟨cells,h1,h2⟩:=hv;exact⟨cells,h1.weak (fun k hk=>Nat.le_trans hwz hk),h2.mono (fun c x _ hx=>hx.same (fun k _ hS=>⟨Nat.le_trans hwz hS,rfl⟩))⟩)
   obtain⟨a2,c2,rfl,-,-,-⟩:=aU.shape hv fH.len;have HN:=aa (show ey cs r= .ok l by unfold ey; rw[HCH.o]; simp only[hit]);clear hit hv;go_wp2_with fail
   go_ret2
   exact⟨HB2.o,by rw[HN.o]; exact⟨_,rfl,HV2.o⟩⟩
end Go.Proofs.YtpffpjbkbaleiaaGreatDoor
