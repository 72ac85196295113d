/- Texts of this proof, one after the other: WireB, WireC, WireD, Map, RefV, ItemA, Last, ItemE, ShaC, ShaD, ShaE, ShaF, Built, RollP, ChkP, RollA, RollB, HmacA, HmacB, MarkA. -/
import Derived.Test.YtnjkpcalgoefhaaGreatDoorCEncodesA
set_option maxRecDepth 100000
set_option maxHeartbeats 8000000
namespace Go.Proofs.YtnjkpcalgoefhaaGreatDoor
open Go.RowKit
structure RS where
 off:Nat
 last:Nat
 err:Int
deriving DecidableEq
def mQ (w:World) (rb:Nat) (v:Value) (data:List UInt8) (s:RS):Prop:=aW w rb v data s.off s.last s.err
def rv {α:Type} (z:α) (r:Except Int (α×Nat)) (s:RS):α×RS:=if s.err=0 then match r with
 | .ok (x,o)=>(x,⟨o,s.off,0⟩)
 | .error y=>(z,⟨s.off,s.off,y⟩)else(z,s)
def DM {α:Type} (zero:Value) (val:α->Value) (w:World) (rb:Nat) (v:Value) (data:List UInt8) (last:Nat) (err:Int) (r:Except Int (α×Nat)) (e:Ending) (w':World):Prop:=
 ∃o',aW w' rb v data o' last err/\w.grownBy w' (some rb)/\match r with
  | .ok (x,o)=>e= .returned (.tuple #[val x, .int .i64 0])/\o'=o
  | .error y=>e= .returned (.tuple #[zero, .int .i64 y])
theorem DL.v {kd:IntKind} {w:World} {rb:Nat} {v:Value} {data:List UInt8} {last:Nat} {err:Int} {r:Except Int (Nat×Nat)} {e:Ending} {w':World} (h:DL kd w rb v data last err r e w'):
  DM (.int kd 0) (fun n:Nat=> .int kd (n:Int)) w rb v data last err r e w':=by
 obtain⟨o',h1,h2,h3⟩:=h;refine⟨o',h1,h2, ?_⟩
 cases r with
 | error x=>exact h3
 | ok p=>exact h3
def nE {α:Type} (z:α) (val:α->Value) (w:World) (rb:Nat) (v:Value) (data:List UInt8) (r:Except Int (α×Nat)) (s:RS) (e:Ending) (w':World):Prop:=
 e= .returned (val (rv z r s).1)/\mQ w' rb v data (rv z r s).2/\w.grownBy w' (some rb)
structure bH (w W : World) (rb : Nat) (x : Value) (t : TypeId) (start : Nat) : Prop where
 bx:W.heap[w.heap.size]? =some (.cells #[.pointer (some ⟨rb,0,none⟩)] 108 (0,0))
 bv:W.heap[w.heap.size+1]? =some (.cells #[x] t (0,0))
 bs:W.heap[w.heap.size+2]? =some (.cells #[.int .i64 (start:Int)] 3 (0,0))
 grown:w.grownBy W (some rb)
 lt:rb<w.heap.size
theorem bH.step {w W W':World} {rb:Nat} {x:Value} {t:TypeId} {start:Nat} (h:bH w W rb x t start) (hg:W.grownBy W' (some rb)):bH w W' rb x t start:=by
 have h1:=h.lt;refine⟨?_, ?_, ?_,aR h.grown hg,h.lt⟩
 ·rw[hg.block _ (lt_of_block h.bx) (by simp; omega)]; exact h.bx
 ·rw[hg.block _ (lt_of_block h.bv) (by simp; omega)]; exact h.bv
 ·rw[hg.block _ (lt_of_block h.bs) (by simp; omega)]; exact h.bs
theorem bH.setv {w W:World} {rb:Nat} {x:Value} {t:TypeId} {start:Nat} (h:bH w W rb x t start) (y:Value):bH w (W.setCell ⟨w.heap.size+1,0,none⟩ y) rb y t start:=by
 refine⟨?_,one_setCell h.bv, ?_, ?_,h.lt⟩
 ·rw[Below.heap_setCell _ _ _ _ (by simp)]; exact h.bx
 ·rw[Below.heap_setCell _ _ _ _ (by simp)]; exact h.bs
 ·exact⟨h.grown.os,h.grown.tape,h.grown.output,by have:=h.grown.size; simpa [World.setCell]using this,fun k hk hne=>by rw[Below.heap_setCell _ _ _ _ (by simp; omega)]; exact h.grown.block k hk hne⟩
theorem aW.setOther {w0 w:World} {rb:Nat} {v:Value} {data:List UInt8} {off last off0 last0:Nat} {err err0:Int} (h0:aW w0 rb v data off0 last0 err0) (h:aW w rb v data off last err) {b k:Nat} (hb:w0.heap.size<=b) (y:Value):
  aW (w.setCell ⟨b,k,none⟩ y) rb v data off last err:=by
 have h1:=h0.lt;have hr0:=h0.row.mono (T:=fun k=>k≠rb/\k<w0.heap.size) (fun k hk hS=>⟨hS,hk⟩) (by omega);obtain⟨_,a0,cap0,hv0,_,_,h00⟩:=hr0;obtain⟨hl,a,cap,hv,hn,hm,h2⟩:=h.row;refine⟨by rw[Below.heap_setCell _ _ _ _ (by simp; omega)]; exact h.box,⟨hl,a,cap,hv,hn,hm, ?_⟩,h.le,h.ls,h.small⟩
 rcases h2 with h2 | ⟨bk,o,rfl,hk,hc⟩
 ·exact .inl h2
 ·rcases h00 with h00 | ⟨bk0,o0,rfl,hk0,_⟩
  ·exact .inl h00
  ·rw[hv0]at hv
   cases hv
   refine .inr ⟨bk,o,rfl,hk,fun j u hj=> ?_⟩;rw[<-hc j u hj];exact World.cell?_of_block (Below.heap_setCell _ _ _ _ (by have:=hk0.2; show bk≠b; omega))
theorem wT (xb mb rb:Nat) (v:Value) (data:List UInt8) (off last most:Nat) (err:Int) (w:World) (hr:aW w rb v data off last err) (hm:most<=2000000)
  (hx:w.cell? ⟨xb,0,none⟩=some (.pointer (some ⟨rb,0,none⟩))) (hmb:w.cell? ⟨mb,0,none⟩=some (.int .i64 (most:Int))):
  Calls Tryz.prog 85 #[.pointer (some ⟨xb,0,none⟩), .pointer (some ⟨mb,0,none⟩)] w (DM (.int .i64 0) (fun n:Nat=> .int .i64 (n:Int)) w rb v data last err (go data off most)):=by
 have HR:=ab hr;clear hr
 go_enter Tryz.func85,Tryz.ntmps85
 go_wp2_with fail;refine(nP rb v data off last most err w HR.out hm).mono ?_;intro e w1 hd;obtain⟨o',h1,h2,h3⟩:=hd.v;have H1:=ab h1;have H2:=ab h2;clear hd h1 h2
 cases hl:go data off most with
 | error y=>
  rw[hl]at h3; simp only at h3; subst h3;have HL:=ab hl;clear hl;go_wp2_with fail
  go_ret2
  exact⟨o',H1.out,H2.out,by rw[HL.out]; rfl⟩
 | ok p=>
  obtain⟨n,o⟩:=p;rw[hl]at h3; simp only at h3; obtain⟨rfl,rfl⟩:=h3;have HL:=ab hl;clear hl;go_wp2_with fail
  go_ret2
  exact⟨o',H1.out,H2.out,by rw[HL.out]; exact⟨rfl,rfl⟩⟩
theorem cw {w w':World} (h:Below w.heap.size w w') (r:Option Nat):w.grownBy w' r:=⟨h.os,h.tape,h.output,h.size,fun k hk _=>h.block k hk⟩
def NoP (Q:Exit->Act->World->Prop) (e:Exit) (a:Act) (w:World):Prop:=match e with
 | .panic _=>False
 | e=>Q e a w
theorem kN {P:Program} {Q:Exit->Act->World->Prop} {c:Code} {a:Act} {w:World} (h:c.wp P (NoP Q) a w):c.wp P Q a w:=wp_mono h (fun e a w hn=>by
 cases e<;> first | exact hn | exact False.elim hn)
theorem ei {Q:Exit->Act->World->Prop} {a:Act} {w:World} (h:Q .normal a w):NoP Q .normal a w:=h
theorem bH.start {w:World} {rb:Nat} (h:rb<w.heap.size) (x:Value) (t:TypeId) (o:Nat):bH w (((w.alloc (.cells #[.pointer (some ⟨rb,0,none⟩)] 108)).alloc (.cells #[x] t)).alloc (.cells #[.int .i64 (o:Int)] 3)) rb x t o:=by
 refine⟨?_, ?_, ?_, ?_,h⟩
 ·rw[Below.heap_alloc _ _ _ (by simp; omega),Below.heap_alloc _ _ _ (by simp)]; exact heap_alloc_new w _
 ·rw[Below.heap_alloc _ _ _ (by simp)];have:=heap_alloc_new (w.alloc (.cells #[.pointer (some ⟨rb,0,none⟩)] 108)) (.cells #[x] t)
  simpa using this
 ·have:=heap_alloc_new ((w.alloc (.cells #[.pointer (some ⟨rb,0,none⟩)] 108)).alloc (.cells #[x] t)) (.cells #[.int .i64 (o:Int)] 3)
  simpa using this
 ·exact cw ((((Below.refl _ _).alloc (Nat.le_refl _) _).alloc (by simp) _).alloc (by simp; omega) _) _
theorem bH.below0 {w:World} (a b c:Obj):Below w.heap.size w (((w.alloc a).alloc b).alloc c):=(((Below.refl _ _).alloc (Nat.le_refl _) _).alloc (by simp) _).alloc (by simp; omega) _
theorem yL {data:List UInt8} {off most:Nat} {x:Int} (h:go data off most= .error x): ¬x=0:=by rcases vh h with rfl | rfl<;> decide
theorem EK {data:List UInt8} {off:Nat} {x:Int} (h:ic data off= .error x): ¬x=0:=by rw[pJ h]; decide
theorem Dd (sb xb vb rb:Nat) (v:Value) (data:List UInt8) (off last start:Nat) (u:FrameMode) (w:World) (hr:aW w rb v data off last 0)
  (hs:w.cell? ⟨sb,0,none⟩=some (.int .i64 (start:Int))) (hx:w.cell? ⟨xb,0,none⟩=some (.pointer (some ⟨rb,0,none⟩))) (_:sb≠rb) (_:xb≠rb):
  CallsD Tryz.prog 122 #[.pointer (some ⟨sb,0,none⟩), .pointer (some ⟨xb,0,none⟩), .pointer (some ⟨vb,0,none⟩)] u w fun e u' w'=>u'=u/\(e= .returned (.tuple #[])/\w'=w.setCell ⟨rb,2,none⟩ (.int .i64 (start:Int))):=by
 have c3:=hr.c3;have c2:=hr.c2;have f2:=hr.free 2;clear hr
 go_enter_d Tryz.func122,Tryz.ntmps122
 go_wp2_with fail
 first | go_end0 | refine bodyPost_ret (results_none rfl _ _ _) rfl ?_
 exact⟨rfl,rfl⟩
theorem AH (sb xb vb rb:Nat) (v:Value) (data:List UInt8) (off last start:Nat) (err:Int) (x:Value) (t:TypeId) (u:FrameMode) (w:World) (hr:aW w rb v data off last err) (he: ¬err=0)
  (hs:w.cell? ⟨sb,0,none⟩=some (.int .i64 (start:Int))) (hx:w.cell? ⟨xb,0,none⟩=some (.pointer (some ⟨rb,0,none⟩))) (hv:w.heap[vb]? =some (.cells #[x] t (0,0))) (hsr:sb≠rb) (hxr:xb≠rb) (hvr:vb≠rb) (hvs:vb≠sb) (hvx:vb≠xb):
  CallsD Tryz.prog 122 #[.pointer (some ⟨sb,0,none⟩), .pointer (some ⟨xb,0,none⟩), .pointer (some ⟨vb,0,none⟩)] u w fun e u' w'=>u'=u/\(e= .returned (.tuple #[])/\w'=((w.setCell ⟨rb,2,none⟩ (.int .i64 (start:Int))).setCell ⟨rb,1,none⟩ (.int .i64 (start:Int))).setCell ⟨vb,0,none⟩ (.int .i64 0)):=by
 have c3:=hr.c3;have c2:=hr.c2;have c1:=hr.c1;have f2:=hr.free 2;have f1:=hr.free 1;have v0:=cell_of_one hv;have fv:=free_of_one hv;clear hr
 go_enter_d Tryz.func122,Tryz.ntmps122
 go_wp2_with fail
 first | go_end0 | refine bodyPost_ret (results_none rfl _ _ _) rfl ?_
 exact⟨rfl,rfl⟩
theorem vQ (sb xb vb rb:Nat) (v:Value) (data:List UInt8) (off last start:Nat) (u:FrameMode) (w:World) (hr:aW w rb v data off last 0)
  (hs:w.cell? ⟨sb,0,none⟩=some (.int .i64 (start:Int))) (hx:w.cell? ⟨xb,0,none⟩=some (.pointer (some ⟨rb,0,none⟩))) (_:sb≠rb) (_:xb≠rb):
  CallsD Tryz.prog 123 #[.pointer (some ⟨sb,0,none⟩), .pointer (some ⟨xb,0,none⟩), .pointer (some ⟨vb,0,none⟩)] u w fun e u' w'=>u'=u/\(e= .returned (.tuple #[])/\w'=w.setCell ⟨rb,2,none⟩ (.int .i64 (start:Int))):=by
 have c3:=hr.c3;have c2:=hr.c2;have f2:=hr.free 2;clear hr
 go_enter_d Tryz.func123,Tryz.ntmps123
 go_wp2_with fail
 first | go_end0 | refine bodyPost_ret (results_none rfl _ _ _) rfl ?_
 exact⟨rfl,rfl⟩
theorem sA (sb xb vb rb:Nat) (v:Value) (data:List UInt8) (off last start:Nat) (err:Int) (x:Value) (t:TypeId) (u:FrameMode) (w:World) (hr:aW w rb v data off last err) (he: ¬err=0)
  (hs:w.cell? ⟨sb,0,none⟩=some (.int .i64 (start:Int))) (hx:w.cell? ⟨xb,0,none⟩=some (.pointer (some ⟨rb,0,none⟩))) (hv:w.heap[vb]? =some (.cells #[x] t (0,0))) (hsr:sb≠rb) (hxr:xb≠rb) (hvr:vb≠rb) (hvs:vb≠sb) (hvx:vb≠xb):
  CallsD Tryz.prog 123 #[.pointer (some ⟨sb,0,none⟩), .pointer (some ⟨xb,0,none⟩), .pointer (some ⟨vb,0,none⟩)] u w fun e u' w'=>u'=u/\(e= .returned (.tuple #[])/\w'=((w.setCell ⟨rb,2,none⟩ (.int .i64 (start:Int))).setCell ⟨rb,1,none⟩ (.int .i64 (start:Int))).setCell ⟨vb,0,none⟩ (.string ⟨#[]⟩)):=by
 have c3:=hr.c3;have c2:=hr.c2;have c1:=hr.c1;have f2:=hr.free 2;have f1:=hr.free 1;have v0:=cell_of_one hv;have fv:=free_of_one hv;clear hr
 go_enter_d Tryz.func123,Tryz.ntmps123
 go_wp2_with fail
 first | go_end0 | refine bodyPost_ret (results_none rfl _ _ _) rfl ?_
 exact⟨rfl,rfl⟩
theorem De (sb xb vb rb:Nat) (v:Value) (data:List UInt8) (off last start:Nat) (u:FrameMode) (w:World) (hr:aW w rb v data off last 0)
  (hs:w.cell? ⟨sb,0,none⟩=some (.int .i64 (start:Int))) (hx:w.cell? ⟨xb,0,none⟩=some (.pointer (some ⟨rb,0,none⟩))) (_:sb≠rb) (_:xb≠rb):
  CallsD Tryz.prog 121 #[.pointer (some ⟨sb,0,none⟩), .pointer (some ⟨xb,0,none⟩), .pointer (some ⟨vb,0,none⟩)] u w fun e u' w'=>u'=u/\(e= .returned (.tuple #[])/\w'=w.setCell ⟨rb,2,none⟩ (.int .i64 (start:Int))):=by
 have c3:=hr.c3;have c2:=hr.c2;have f2:=hr.free 2;clear hr
 go_enter_d Tryz.func121,Tryz.ntmps121
 go_wp2_with fail
 first | go_end0 | refine bodyPost_ret (results_none rfl _ _ _) rfl ?_
 exact⟨rfl,rfl⟩
theorem AJ (sb xb vb rb:Nat) (v:Value) (data:List UInt8) (off last start:Nat) (err:Int) (x:Value) (t:TypeId) (u:FrameMode) (w:World) (hr:aW w rb v data off last err) (he: ¬err=0)
  (hs:w.cell? ⟨sb,0,none⟩=some (.int .i64 (start:Int))) (hx:w.cell? ⟨xb,0,none⟩=some (.pointer (some ⟨rb,0,none⟩))) (hv:w.heap[vb]? =some (.cells #[x] t (0,0))) (hsr:sb≠rb) (hxr:xb≠rb) (hvr:vb≠rb) (hvs:vb≠sb) (hvx:vb≠xb):
  CallsD Tryz.prog 121 #[.pointer (some ⟨sb,0,none⟩), .pointer (some ⟨xb,0,none⟩), .pointer (some ⟨vb,0,none⟩)] u w fun e u' w'=>u'=u/\(e= .returned (.tuple #[])/\w'=((w.setCell ⟨rb,2,none⟩ (.int .i64 (start:Int))).setCell ⟨rb,1,none⟩ (.int .i64 (start:Int))).setCell ⟨vb,0,none⟩ (.int .u64 0)):=by
 have c3:=hr.c3;have c2:=hr.c2;have c1:=hr.c1;have f2:=hr.free 2;have f1:=hr.free 1;have v0:=cell_of_one hv;have fv:=free_of_one hv;clear hr
 go_enter_d Tryz.func121,Tryz.ntmps121
 go_wp2_with fail
 first | go_end0 | refine bodyPost_ret (results_none rfl _ _ _) rfl ?_
 exact⟨rfl,rfl⟩
theorem og (cx cm rb:Nat) (v:Value) (data:List UInt8) (s:RS) (most:Nat) (w:World) (hr:mQ w rb v data s) (hm:most<=2000000)
  (hx:w.cell? ⟨cx,0,none⟩=some (.pointer (some ⟨rb,0,none⟩))) (hmb:w.cell? ⟨cm,0,none⟩=some (.int .i64 (most:Int))):
  Calls Tryz.prog 84 #[.pointer (some ⟨rb,0,none⟩), .func (.func 85) #[] #[.pointer (some ⟨cx,0,none⟩), .pointer (some ⟨cm,0,none⟩)]] w
   (nE 0 (fun n:Nat=> .int .i64 (n:Int)) w rb v data (go data s.off most) s):=by
 have HX:=ab hx;have HM:=ab hmb;clear hx hmb;have hmf: ∀(fn:Fn) (first cap:Array Value) (w:World),(Instr.makeFunc fn first cap).run Tryz.prog w= .ok (.func fn first cap) w:=fun _ _ _ _=>rfl
 have hr':aW w rb v data s.off s.last s.err:=hr;have HR:=ab hr';have hlt:=hr'.lt;have c1:=hr'.c1;have c3:=hr'.c3;clear hr hr'
 go_enter_defers Tryz.func84,Tryz.ntmps84
 by_cases he:s.err=0
 ·rw[he]at c3;go_wp2_with fail;obtain⟨W,hW⟩: ∃W,W=((w.alloc (.cells #[.pointer (some ⟨rb,0,none⟩)] 108)).alloc (.cells #[.int .i64 0] 3)).alloc (.cells #[.int .i64 (s.off:Int)] 3):=⟨_,rfl⟩;rw[<-hW];have hB:bH w W rb (.int .i64 0) 3 s.off:=by rw[hW]; exact bH.start hlt _ _ _
  have hBel:Below w.heap.size w W:=by rw[hW]; exact bH.below0 _ _ _
  have hRW:aW W rb v data s.off s.last 0:=by have:=HR.out.below hBel; rw[he]at this; exact this
  have HB:=ab hB;have HRW:=ab hRW;have HBel:=ab hBel;have HE:=ab he;have x0:=cell_of_one hB.bx;have hxr:w.heap.size≠rb:=by omega
  clear hW hB hRW hBel c1 c3 he;refine kN ?_;refine cX (fun w'=>w'.cell? ⟨w.heap.size,0,none⟩=some (.pointer (some ⟨rb,0,none⟩))) (by kernel_rfl) ?_;refine ag 0 rfl (by kernel_rfl) (by kernel_rfl) (by kernel_rfl) (fun _ _ _ h=>False.elim h) rfl (by go_simp) (by intro w' hw'; go_simp; rfl) ?_;simp only[Act.put,aH,aI,aJ];refine ag 1 rfl (by kernel_rfl) (by kernel_rfl) (by kernel_rfl) (fun _ _ _ h=>False.elim h) rfl (by go_simp) (by intro w' hw'; go_simp; rfl) ?_
  simp only[Act.put,aH,aI,aJ];refine aC 2 rfl (by kernel_rfl) rfl (fun K hK=> ?_);have hBel2:Below w.heap.size w W.drew:=HBel.out.trans ⟨rfl,rfl,rfl,Nat.le_refl _,fun _ _=>rfl⟩;have HRW2:=ab (show aW W.drew rb v data s.off s.last 0 from HRW.out.draws 1);have HBel2:=ab hBel2;clear hBel2;go_wp2_with fail;refine(wT cx cm rb v data s.off s.last most 0 _ HRW2.out hm ((HBel2.out.cell (aE HX.out)).trans HX.out) ((HBel2.out.cell (aE HM.out)).trans HM.out)).mono ?_
  rintro e w1 ⟨o',h1,h2,h3⟩;have HB1:=ab (HB.out.step (aR (b:=W.drew) ⟨rfl,rfl,rfl,Nat.le_refl _,fun _ _ _=>rfl⟩ h2));have x1:=cell_of_one HB1.out.bx;have v1:=cell_of_one HB1.out.bv;have fv1:=free_of_one HB1.out.bv;have HR1:=ab h1;have e3:=h1.c3;have f3:=h1.free 3;clear h1 h2 x0
  cases hd:go data s.off most with
  | error y=>
   have hy: ¬y=0:=yL hd;have HD:=ab hd;rw[hd]at h3;simp only at h3;subst h3;clear hd;go_wp2_with fail;refine⟨x1, ?_⟩;refine ag 3 rfl (by kernel_rfl) (by kernel_rfl) (by kernel_rfl) (fun _ _ _ h=>False.elim h) rfl (by go_simp) (by intro w' hw'; go_simp; rfl) ?_;simp only[Act.put,aH,aI,aJ];refine ag 4 rfl (by kernel_rfl) (by kernel_rfl) (by kernel_rfl) (fun _ _ _ h=>False.elim h) rfl (by go_simp) (by intro w' hw'; go_simp; rfl) ?_
   simp only[Act.put,aH,aI,aJ];refine ag 5 rfl (by kernel_rfl) (by kernel_rfl) (by kernel_rfl) (fun _ _ _ h=>False.elim h) rfl (by go_simp) (by intro w' hw'; go_simp; rfl) ?_;simp only[Act.put,aH,aI,aJ];refine aC 6 rfl (by kernel_rfl) rfl (fun K hK=> ?_);go_wp2_with fail;obtain⟨w2,hw2⟩: ∃w2,w2=w1.setCell ⟨w.heap.size+1,0,none⟩ (.int .i64 0):=⟨_,rfl⟩;rw[<-hw2]
   have HB2:=ab (show bH w w2 rb (.int .i64 0) 3 s.off by rw[hw2]; exact HB1.out.setv _);have HR2:=ab (show aW w2 rb v data o' s.last 0 by rw[hw2]; exact HR.out.setOther HR1.out (by omega) _);have x2:=cell_of_one HB2.out.bx;have e4:=HR2.out.c3;have f4:=HR2.out.free 3;clear hw2 x1 v1 fv1 e3 f3;refine⟨x2, ?_⟩;refine ag 7 rfl (by kernel_rfl) (by kernel_rfl) (by kernel_rfl) (fun _ _ _ h=>False.elim h) rfl (by go_simp) (by intro w' hw'; go_simp; rfl) ?_
   simp only[Act.put,aH,aI,aJ];refine ag 8 rfl (by kernel_rfl) (by kernel_rfl) (by kernel_rfl) (fun _ _ _ h=>False.elim h) rfl (by go_simp) (by intro w' hw'; go_simp; rfl) ?_;simp only[Act.put,aH,aI,aJ];refine aC 9 rfl (by kernel_rfl) rfl (fun K hK=> ?_);go_wp2_with fail;obtain⟨w3,hw3⟩: ∃w3,w3=w2.setCell ⟨rb,3,none⟩ (.int .i64 (y)):=⟨_,rfl⟩;rw[<-hw3];have HB3:=ab (show bH w w3 rb (.int .i64 0) 3 s.off by rw[hw3]; exact HB2.out.step (aG _ _ _ _))
   have HR3:=ab (show aW w3 rb v data o' s.last (y) by rw[hw3]; exact HR2.out.set3 _);have x3:=cell_of_one HB3.out.bx;have v3:=cell_of_one HB3.out.bv;have fv3:=free_of_one HB3.out.bv;clear hw3 x2 e4 f4;refine⟨x3, ?_⟩;refine bu (by kernel_rfl) ?_;refine ei ?_;go_wp2_with fail;obtain⟨w5,hw5⟩: ∃w5,w5=w3.setCell ⟨w.heap.size+1,0,none⟩ (.int .i64 0):=⟨_,rfl⟩;rw[<-hw5]
   have HB5:=ab (show bH w w5 rb (.int .i64 0) 3 s.off by rw[hw5]; exact HB3.out.setv _);have HR5:=ab (show aW w5 rb v data o' s.last (y) by rw[hw5]; exact HR.out.setOther HR3.out (by omega) _);clear hw5;refine leaves_cons (f:=122) (args:= #[.pointer (some ⟨w.heap.size+1+1,0,none⟩), .pointer (some ⟨w.heap.size,0,none⟩), .pointer (some ⟨w.heap.size+1,0,none⟩)]) (by simp) (by simp[go_sem]) ?_
   refine(AH (w.heap.size+1+1) w.heap.size (w.heap.size+1) rb v data o' s.last s.off y _ _ .returning _ HR5.out hy (cell_of_one HB5.out.bs) (cell_of_one HB5.out.bx) HB5.out.bv (by omega) (by omega) (by omega) (by omega) (by omega)).mono ?_;rintro e u' w'' ⟨rfl,rfl,hw4⟩;have HB4:=ab (show bH w w'' rb (.int .i64 0) 3 s.off by rw[hw4]; exact(HB5.out.step (aR (aG _ _ _ _) (aG _ _ _ _))).setv _)
   have HR4:=ab (show aW w'' rb v data s.off s.off y by rw[hw4]; exact HR.out.setOther ((HR5.out.set2 s.off HR.out.le).set1 s.off HR.out.le) (by omega) _);have m0:=cell_of_one HB4.out.bv;simp only[Leaves,settle];refine⟨_,by simp[results,Tryz.results84,go_sem,m0]<;> rfl, ?_⟩;have hrv:rv ((0:Nat)) (go data s.off most) s=((0:Nat),⟨s.off,s.off,y⟩):=by unfold rv; rw[if_pos HE.out,HD.out]
   exact⟨by rw[hrv]<;> rfl,by rw[hrv]; exact HR4.out,HB4.out.grown⟩
  | ok p=>
   obtain⟨n,o⟩:=p;have HD:=ab hd;rw[hd]at h3;simp only at h3;obtain⟨rfl,rfl⟩:=h3;clear hd;go_wp2_with fail;refine⟨x1, ?_⟩;refine ag 3 rfl (by kernel_rfl) (by kernel_rfl) (by kernel_rfl) (fun _ _ _ h=>False.elim h) rfl (by go_simp) (by intro w' hw'; go_simp; rfl) ?_;simp only[Act.put,aH,aI,aJ];refine ag 4 rfl (by kernel_rfl) (by kernel_rfl) (by kernel_rfl) (fun _ _ _ h=>False.elim h) rfl (by go_simp) (by intro w' hw'; go_simp; rfl) ?_
   simp only[Act.put,aH,aI,aJ];refine ag 5 rfl (by kernel_rfl) (by kernel_rfl) (by kernel_rfl) (fun _ _ _ h=>False.elim h) rfl (by go_simp) (by intro w' hw'; go_simp; rfl) ?_;simp only[Act.put,aH,aI,aJ];refine aC 6 rfl (by kernel_rfl) rfl (fun K hK=> ?_);go_wp2_with fail;obtain⟨w2,hw2⟩: ∃w2,w2=w1.setCell ⟨w.heap.size+1,0,none⟩ (.int .i64 (n:Int)):=⟨_,rfl⟩
   rw[<-hw2];have HB2:=ab (show bH w w2 rb (.int .i64 (n:Int)) 3 s.off by rw[hw2]; exact HB1.out.setv _);have HR2:=ab (show aW w2 rb v data o' s.last 0 by rw[hw2]; exact HR.out.setOther HR1.out (by omega) _);have x2:=cell_of_one HB2.out.bx;have e4:=HR2.out.c3;have f4:=HR2.out.free 3;clear hw2 x1 v1 fv1 e3 f3;refine⟨x2, ?_⟩;refine ag 7 rfl (by kernel_rfl) (by kernel_rfl) (by kernel_rfl) (fun _ _ _ h=>False.elim h) rfl (by go_simp) (by intro w' hw'; go_simp; rfl) ?_
   simp only[Act.put,aH,aI,aJ];refine ag 8 rfl (by kernel_rfl) (by kernel_rfl) (by kernel_rfl) (fun _ _ _ h=>False.elim h) rfl (by go_simp) (by intro w' hw'; go_simp; rfl) ?_;simp only[Act.put,aH,aI,aJ];refine aC 9 rfl (by kernel_rfl) rfl (fun K hK=> ?_);go_wp2_with fail;obtain⟨w3,hw3⟩: ∃w3,w3=w2.setCell ⟨rb,3,none⟩ (.int .i64 (0)):=⟨_,rfl⟩;rw[<-hw3];have HB3:=ab (show bH w w3 rb (.int .i64 (n:Int)) 3 s.off by rw[hw3]; exact HB2.out.step (aG _ _ _ _))
   have HR3:=ab (show aW w3 rb v data o' s.last (0) by rw[hw3]; exact HR2.out.set3 _);have x3:=cell_of_one HB3.out.bx;have v3:=cell_of_one HB3.out.bv;have fv3:=free_of_one HB3.out.bv;clear hw3 x2 e4 f4;refine⟨x3, ?_⟩;refine bu (by kernel_rfl) ?_;refine ei ?_;go_wp2_with fail;obtain⟨w5,hw5⟩: ∃w5,w5=w3.setCell ⟨w.heap.size+1,0,none⟩ (.int .i64 (n:Int)):=⟨_,rfl⟩
   rw[<-hw5];have HB5:=ab (show bH w w5 rb (.int .i64 (n:Int)) 3 s.off by rw[hw5]; exact HB3.out.setv _);have HR5:=ab (show aW w5 rb v data o' s.last (0) by rw[hw5]; exact HR.out.setOther HR3.out (by omega) _);clear hw5;refine leaves_cons (f:=122) (args:= #[.pointer (some ⟨w.heap.size+1+1,0,none⟩), .pointer (some ⟨w.heap.size,0,none⟩), .pointer (some ⟨w.heap.size+1,0,none⟩)]) (by simp) (by simp[go_sem]) ?_
   refine(Dd (w.heap.size+1+1) w.heap.size (w.heap.size+1) rb v data o' s.last s.off .returning _ HR5.out (cell_of_one HB5.out.bs) (cell_of_one HB5.out.bx) (by omega) (by omega)).mono ?_;rintro e u' w'' ⟨rfl,rfl,hw4⟩;have HB4:=ab (show bH w w'' rb (.int .i64 (n:Int)) 3 s.off by rw[hw4]; exact HB5.out.step (aG _ _ _ _));have HR4:=ab (show aW w'' rb v data o' s.off 0 by rw[hw4]; exact HR5.out.set2 s.off HR.out.le)
   have m0:=cell_of_one HB4.out.bv;simp only[Leaves,settle];refine⟨_,by simp[results,Tryz.results84,go_sem,m0]<;> rfl, ?_⟩;have hrv:rv ((0:Nat)) (go data s.off most) s=(n,⟨o',s.off,0⟩):=by unfold rv; rw[if_pos HE.out,HD.out]
   exact⟨by rw[hrv]<;> rfl,by rw[hrv]; exact HR4.out,HB4.out.grown⟩
 ·have HE:=ab he;go_wp2_with fail;simp only[bodyPostD];refine⟨_,by simp[results,Tryz.results84,go_sem]<;> rfl, ?_⟩;have hrv:rv ((0:Nat)) (go data s.off most) s=((0:Nat),s):=by unfold rv; rw[if_neg HE.out]
  refine⟨by rw[hrv]<;> rfl,by rw[hrv]; exact HR.out.below (((Below.refl _ _).alloc (Nat.le_refl _) _).alloc (by simp) _),cw (((Below.refl _ _).alloc (Nat.le_refl _) _).alloc (by simp) _) _⟩
theorem pX (rb:Nat) (v:Value) (data:List UInt8) (s:RS) (w:World) (hr:mQ w rb v data s):
  Calls Tryz.prog 82 #[.pointer (some ⟨rb,0,none⟩), .func (.func 83) #[.pointer (some ⟨rb,0,none⟩)] #[]] w
   (nE 0 (fun n:Nat=> .int .u64 (n:Int)) w rb v data (ic data s.off) s):=by
 have hmf: ∀(fn:Fn) (first cap:Array Value) (w:World),(Instr.makeFunc fn first cap).run Tryz.prog w= .ok (.func fn first cap) w:=fun _ _ _ _=>rfl
 have hr':aW w rb v data s.off s.last s.err:=hr;have HR:=ab hr';have hlt:=hr'.lt;have c1:=hr'.c1;have c3:=hr'.c3;clear hr hr'
 go_enter_defers Tryz.func82,Tryz.ntmps82
 by_cases he:s.err=0
 ·rw[he]at c3;go_wp2_with fail;obtain⟨W,hW⟩: ∃W,W=((w.alloc (.cells #[.pointer (some ⟨rb,0,none⟩)] 108)).alloc (.cells #[.int .u64 0] 46)).alloc (.cells #[.int .i64 (s.off:Int)] 3):=⟨_,rfl⟩;rw[<-hW];have hB:bH w W rb (.int .u64 0) 46 s.off:=by rw[hW]; exact bH.start hlt _ _ _
  have hBel:Below w.heap.size w W:=by rw[hW]; exact bH.below0 _ _ _
  have hRW:aW W rb v data s.off s.last 0:=by have:=HR.out.below hBel; rw[he]at this; exact this
  have HB:=ab hB;have HRW:=ab hRW;have HBel:=ab hBel;have HE:=ab he;have x0:=cell_of_one hB.bx;have hxr:w.heap.size≠rb:=by omega
  clear hW hB hRW hBel c1 c3 he;refine kN ?_;refine cX (fun w'=>w'.cell? ⟨w.heap.size,0,none⟩=some (.pointer (some ⟨rb,0,none⟩))) (by kernel_rfl) ?_;refine ag 0 rfl (by kernel_rfl) (by kernel_rfl) (by kernel_rfl) (fun _ _ _ h=>False.elim h) rfl (by go_simp) (by intro w' hw'; go_simp; rfl) ?_;simp only[Act.put,aH,aI,aJ];refine ag 1 rfl (by kernel_rfl) (by kernel_rfl) (by kernel_rfl) (fun _ _ _ h=>False.elim h) rfl (by go_simp) (by intro w' hw'; go_simp; rfl) ?_
  simp only[Act.put,aH,aI,aJ];refine aC 2 rfl (by kernel_rfl) rfl (fun K hK=> ?_);have hBel2:Below w.heap.size w W.drew:=HBel.out.trans ⟨rfl,rfl,rfl,Nat.le_refl _,fun _ _=>rfl⟩;have HRW2:=ab (show aW W.drew rb v data s.off s.last 0 from HRW.out.draws 1);have HBel2:=ab hBel2;clear hBel2;go_wp2_with fail;refine((pL rb v data s.off s.last 0 _ HRW2.out).mono fun _ _ h=>h.v).mono ?_
  rintro e w1 ⟨o',h1,h2,h3⟩;have HB1:=ab (HB.out.step (aR (b:=W.drew) ⟨rfl,rfl,rfl,Nat.le_refl _,fun _ _ _=>rfl⟩ h2));have x1:=cell_of_one HB1.out.bx;have v1:=cell_of_one HB1.out.bv;have fv1:=free_of_one HB1.out.bv;have HR1:=ab h1;have e3:=h1.c3;have f3:=h1.free 3;clear h1 h2 x0
  cases hd:ic data s.off with
  | error y=>
   have hy: ¬y=0:=EK hd;have HD:=ab hd;rw[hd]at h3;simp only at h3;subst h3;clear hd;go_wp2_with fail;refine⟨x1, ?_⟩;refine ag 3 rfl (by kernel_rfl) (by kernel_rfl) (by kernel_rfl) (fun _ _ _ h=>False.elim h) rfl (by go_simp) (by intro w' hw'; go_simp; rfl) ?_;simp only[Act.put,aH,aI,aJ];refine ag 4 rfl (by kernel_rfl) (by kernel_rfl) (by kernel_rfl) (fun _ _ _ h=>False.elim h) rfl (by go_simp) (by intro w' hw'; go_simp; rfl) ?_
   simp only[Act.put,aH,aI,aJ];refine ag 5 rfl (by kernel_rfl) (by kernel_rfl) (by kernel_rfl) (fun _ _ _ h=>False.elim h) rfl (by go_simp) (by intro w' hw'; go_simp; rfl) ?_;simp only[Act.put,aH,aI,aJ];refine aC 6 rfl (by kernel_rfl) rfl (fun K hK=> ?_);go_wp2_with fail;obtain⟨w2,hw2⟩: ∃w2,w2=w1.setCell ⟨w.heap.size+1,0,none⟩ (.int .u64 0):=⟨_,rfl⟩;rw[<-hw2]
   have HB2:=ab (show bH w w2 rb (.int .u64 0) 46 s.off by rw[hw2]; exact HB1.out.setv _);have HR2:=ab (show aW w2 rb v data o' s.last 0 by rw[hw2]; exact HR.out.setOther HR1.out (by omega) _);have x2:=cell_of_one HB2.out.bx;have e4:=HR2.out.c3;have f4:=HR2.out.free 3;clear hw2 x1 v1 fv1 e3 f3;refine⟨x2, ?_⟩;refine ag 7 rfl (by kernel_rfl) (by kernel_rfl) (by kernel_rfl) (fun _ _ _ h=>False.elim h) rfl (by go_simp) (by intro w' hw'; go_simp; rfl) ?_
   simp only[Act.put,aH,aI,aJ];refine ag 8 rfl (by kernel_rfl) (by kernel_rfl) (by kernel_rfl) (fun _ _ _ h=>False.elim h) rfl (by go_simp) (by intro w' hw'; go_simp; rfl) ?_;simp only[Act.put,aH,aI,aJ];refine aC 9 rfl (by kernel_rfl) rfl (fun K hK=> ?_);go_wp2_with fail;obtain⟨w3,hw3⟩: ∃w3,w3=w2.setCell ⟨rb,3,none⟩ (.int .i64 (y)):=⟨_,rfl⟩;rw[<-hw3];have HB3:=ab (show bH w w3 rb (.int .u64 0) 46 s.off by rw[hw3]; exact HB2.out.step (aG _ _ _ _))
   have HR3:=ab (show aW w3 rb v data o' s.last (y) by rw[hw3]; exact HR2.out.set3 _);have x3:=cell_of_one HB3.out.bx;have v3:=cell_of_one HB3.out.bv;have fv3:=free_of_one HB3.out.bv;clear hw3 x2 e4 f4;refine⟨x3, ?_⟩;refine bu (by kernel_rfl) ?_;refine ei ?_;go_wp2_with fail;obtain⟨w5,hw5⟩: ∃w5,w5=w3.setCell ⟨w.heap.size+1,0,none⟩ (.int .u64 0):=⟨_,rfl⟩;rw[<-hw5]
   have HB5:=ab (show bH w w5 rb (.int .u64 0) 46 s.off by rw[hw5]; exact HB3.out.setv _);have HR5:=ab (show aW w5 rb v data o' s.last (y) by rw[hw5]; exact HR.out.setOther HR3.out (by omega) _);clear hw5;refine leaves_cons (f:=121) (args:= #[.pointer (some ⟨w.heap.size+1+1,0,none⟩), .pointer (some ⟨w.heap.size,0,none⟩), .pointer (some ⟨w.heap.size+1,0,none⟩)]) (by simp) (by simp[go_sem]) ?_
   refine(AJ (w.heap.size+1+1) w.heap.size (w.heap.size+1) rb v data o' s.last s.off y _ _ .returning _ HR5.out hy (cell_of_one HB5.out.bs) (cell_of_one HB5.out.bx) HB5.out.bv (by omega) (by omega) (by omega) (by omega) (by omega)).mono ?_;rintro e u' w'' ⟨rfl,rfl,hw4⟩;have HB4:=ab (show bH w w'' rb (.int .u64 0) 46 s.off by rw[hw4]; exact(HB5.out.step (aR (aG _ _ _ _) (aG _ _ _ _))).setv _)
   have HR4:=ab (show aW w'' rb v data s.off s.off y by rw[hw4]; exact HR.out.setOther ((HR5.out.set2 s.off HR.out.le).set1 s.off HR.out.le) (by omega) _);have m0:=cell_of_one HB4.out.bv;simp only[Leaves,settle];refine⟨_,by simp[results,Tryz.results82,go_sem,m0]<;> rfl, ?_⟩;have hrv:rv ((0:Nat)) (ic data s.off) s=((0:Nat),⟨s.off,s.off,y⟩):=by unfold rv; rw[if_pos HE.out,HD.out]
   exact⟨by rw[hrv]<;> rfl,by rw[hrv]; exact HR4.out,HB4.out.grown⟩
  | ok p=>
   obtain⟨n,o⟩:=p;have HD:=ab hd;rw[hd]at h3;simp only at h3;obtain⟨rfl,rfl⟩:=h3;clear hd;go_wp2_with fail;refine⟨x1, ?_⟩;refine ag 3 rfl (by kernel_rfl) (by kernel_rfl) (by kernel_rfl) (fun _ _ _ h=>False.elim h) rfl (by go_simp) (by intro w' hw'; go_simp; rfl) ?_;simp only[Act.put,aH,aI,aJ];refine ag 4 rfl (by kernel_rfl) (by kernel_rfl) (by kernel_rfl) (fun _ _ _ h=>False.elim h) rfl (by go_simp) (by intro w' hw'; go_simp; rfl) ?_
   simp only[Act.put,aH,aI,aJ];refine ag 5 rfl (by kernel_rfl) (by kernel_rfl) (by kernel_rfl) (fun _ _ _ h=>False.elim h) rfl (by go_simp) (by intro w' hw'; go_simp; rfl) ?_;simp only[Act.put,aH,aI,aJ];refine aC 6 rfl (by kernel_rfl) rfl (fun K hK=> ?_);go_wp2_with fail;obtain⟨w2,hw2⟩: ∃w2,w2=w1.setCell ⟨w.heap.size+1,0,none⟩ (.int .u64 (n:Int)):=⟨_,rfl⟩
   rw[<-hw2];have HB2:=ab (show bH w w2 rb (.int .u64 (n:Int)) 46 s.off by rw[hw2]; exact HB1.out.setv _);have HR2:=ab (show aW w2 rb v data o' s.last 0 by rw[hw2]; exact HR.out.setOther HR1.out (by omega) _);have x2:=cell_of_one HB2.out.bx;have e4:=HR2.out.c3;have f4:=HR2.out.free 3;clear hw2 x1 v1 fv1 e3 f3;refine⟨x2, ?_⟩;refine ag 7 rfl (by kernel_rfl) (by kernel_rfl) (by kernel_rfl) (fun _ _ _ h=>False.elim h) rfl (by go_simp) (by intro w' hw'; go_simp; rfl) ?_
   simp only[Act.put,aH,aI,aJ];refine ag 8 rfl (by kernel_rfl) (by kernel_rfl) (by kernel_rfl) (fun _ _ _ h=>False.elim h) rfl (by go_simp) (by intro w' hw'; go_simp; rfl) ?_;simp only[Act.put,aH,aI,aJ];refine aC 9 rfl (by kernel_rfl) rfl (fun K hK=> ?_);go_wp2_with fail;obtain⟨w3,hw3⟩: ∃w3,w3=w2.setCell ⟨rb,3,none⟩ (.int .i64 (0)):=⟨_,rfl⟩;rw[<-hw3];have HB3:=ab (show bH w w3 rb (.int .u64 (n:Int)) 46 s.off by rw[hw3]; exact HB2.out.step (aG _ _ _ _))
   have HR3:=ab (show aW w3 rb v data o' s.last (0) by rw[hw3]; exact HR2.out.set3 _);have x3:=cell_of_one HB3.out.bx;have v3:=cell_of_one HB3.out.bv;have fv3:=free_of_one HB3.out.bv;clear hw3 x2 e4 f4;refine⟨x3, ?_⟩;refine bu (by kernel_rfl) ?_;refine ei ?_;go_wp2_with fail;obtain⟨w5,hw5⟩: ∃w5,w5=w3.setCell ⟨w.heap.size+1,0,none⟩ (.int .u64 (n:Int)):=⟨_,rfl⟩
   rw[<-hw5];have HB5:=ab (show bH w w5 rb (.int .u64 (n:Int)) 46 s.off by rw[hw5]; exact HB3.out.setv _);have HR5:=ab (show aW w5 rb v data o' s.last (0) by rw[hw5]; exact HR.out.setOther HR3.out (by omega) _);clear hw5;refine leaves_cons (f:=121) (args:= #[.pointer (some ⟨w.heap.size+1+1,0,none⟩), .pointer (some ⟨w.heap.size,0,none⟩), .pointer (some ⟨w.heap.size+1,0,none⟩)]) (by simp) (by simp[go_sem]) ?_
   refine(De (w.heap.size+1+1) w.heap.size (w.heap.size+1) rb v data o' s.last s.off .returning _ HR5.out (cell_of_one HB5.out.bs) (cell_of_one HB5.out.bx) (by omega) (by omega)).mono ?_;rintro e u' w'' ⟨rfl,rfl,hw4⟩;have HB4:=ab (show bH w w'' rb (.int .u64 (n:Int)) 46 s.off by rw[hw4]; exact HB5.out.step (aG _ _ _ _));have HR4:=ab (show aW w'' rb v data o' s.off 0 by rw[hw4]; exact HR5.out.set2 s.off HR.out.le)
   have m0:=cell_of_one HB4.out.bv;simp only[Leaves,settle];refine⟨_,by simp[results,Tryz.results82,go_sem,m0]<;> rfl, ?_⟩;have hrv:rv ((0:Nat)) (ic data s.off) s=(n,⟨o',s.off,0⟩):=by unfold rv; rw[if_pos HE.out,HD.out]
   exact⟨by rw[hrv]<;> rfl,by rw[hrv]; exact HR4.out,HB4.out.grown⟩
 ·have HE:=ab he;go_wp2_with fail;simp only[bodyPostD];refine⟨_,by simp[results,Tryz.results82,go_sem]<;> rfl, ?_⟩;have hrv:rv ((0:Nat)) (ic data s.off) s=((0:Nat),s):=by unfold rv; rw[if_neg HE.out]
  refine⟨by rw[hrv]<;> rfl,by rw[hrv]; exact HR.out.below (((Below.refl _ _).alloc (Nat.le_refl _) _).alloc (by simp) _),cw (((Below.refl _ _).alloc (Nat.le_refl _) _).alloc (by simp) _) _⟩
theorem DC (rb:Nat) (v:Value) (data:List UInt8) (s:RS) (w:World) (hr:mQ w rb v data s):
  Calls Tryz.prog 49 #[.pointer (some ⟨rb,0,none⟩)] w (nE 0 (fun n:Nat=> .int .u64 (n:Int)) w rb v data (ic data s.off) s):=by
 have hmf: ∀(fn:Fn) (first cap:Array Value) (w:World),(Instr.makeFunc fn first cap).run Tryz.prog w= .ok (.func fn first cap) w:=fun _ _ _ _=>rfl
 go_enter Tryz.func49,Tryz.ntmps49
 go_wp2_with fail;refine(pX rb v data s w hr).mono ?_;rintro e w1 ⟨rfl,h1,h2⟩;have H1:=ab h1;have H2:=ab h2;clear h1 h2;go_wp2_with fail;go_ret;exact⟨rfl,H1.out,H2.out⟩
theorem zD (rb:Nat) (v:Value) (data:List UInt8) (s:RS) (most:Nat) (w:World) (hr:mQ w rb v data s) (hm:most<=2000000):
  Calls Tryz.prog 50 #[.pointer (some ⟨rb,0,none⟩), .int .i64 (most:Int)] w (nE 0 (fun n:Nat=> .int .i64 (n:Int)) w rb v data (go data s.off most) s):=by
 have hmf: ∀(fn:Fn) (first cap:Array Value) (w:World),(Instr.makeFunc fn first cap).run Tryz.prog w= .ok (.func fn first cap) w:=fun _ _ _ _=>rfl
 have HR:=ab hr;clear hr
 go_enter Tryz.func50,Tryz.ntmps50
 go_wp2_with fail;have hb:Below w.heap.size w ((w.alloc (.cells #[.pointer (some ⟨rb,0,none⟩)] 108)).alloc (.cells #[.int .i64 (most:Int)] 3)):=((Below.refl _ _).alloc (Nat.le_refl _) _).alloc (by simp) _;have HB:=ab hb;clear hb;refine(og w.heap.size (w.heap.size+1) rb v data s most _ (aW.below HR.out HB.out) hm (by simp[go_sem]) (by simp[go_sem])).mono ?_;rintro e w1 ⟨rfl,h1,h2⟩
 have H1:=ab h1;have H2:=ab (aR (cw HB.out (some rb)) h2);clear h1 h2;go_wp2_with fail;go_ret;exact⟨rfl,H1.out,H2.out⟩
theorem qn (bs:List UInt8):strOfNums (bs.map fun b=>(b.toNat:Int))=⟨bs.toArray⟩:=by
 simp only[strOfNums,List.map_map,Function.comp_def,Int.toNat_natCast];simp
theorem yz {w:World} {rb:Nat} {pv:Value} {bs:List UInt8} (h:ym w rb pv bs):(convert 28 9 pv).run Tryz.prog w= .ok (.string ⟨bs.toArray⟩) w:=by
 obtain⟨bk,o,c,rfl,_,_,hc⟩:=h;have h:=run_convert_bytes_arg (P:=Tryz.prog) w 28 5 Tryz.underlying28 Tryz.underlying5 bk o bs.length c (bs.map fun b=>(b.toNat:Int)) (by simp) (fun i hi=>by
  rw[hc i bs[i] (by simp[hi])];simp[aN,List.getD,hi]) 9 Tryz.underlying9
 rw[qn]at h;exact h
theorem uq (w:World):(convert 28 9 (.slice none 0 0)).run Tryz.prog w= .ok (.string ⟨#[]⟩) w:=by kernel_rfl
theorem vZ {data:List UInt8} {off n:Nat} {x:Int} (h:el data off n= .error x): ¬x=0:=by
 unfold el at h
 split at h
 ·simp only[Except.error.injEq]at h; omega
 ·simp at h
theorem zu {data:List UInt8} {off most:Nat} {x:Int} (h:dZ data off most= .error x): ¬x=0:=by
 unfold dZ at h
 split at h
 ·rename_i y hy;simp only[Except.error.injEq]at h;exact h▸yL hy
 ·exact vZ h
theorem Bk (xb mb rb:Nat) (v:Value) (data:List UInt8) (off last most:Nat) (err:Int) (w:World) (hr:aW w rb v data off last err) (hm:most<=2000000)
  (hx:w.cell? ⟨xb,0,none⟩=some (.pointer (some ⟨rb,0,none⟩))) (hmb:w.cell? ⟨mb,0,none⟩=some (.int .i64 (most:Int))):
  Calls Tryz.prog 88 #[.pointer (some ⟨xb,0,none⟩), .pointer (some ⟨mb,0,none⟩)] w (DM (.string ⟨#[]⟩) (fun bs:List UInt8=>Value.string ⟨bs.toArray⟩) w rb v data last err (dZ data off most)):=by
 have HR:=ab hr;clear hr
 go_enter Tryz.func88,Tryz.ntmps88
 go_wp2_with fail;refine(zw rb v data off last most err w HR.out hm).mono ?_;intro e w1 hd;obtain⟨o',h1,h2,h3⟩:=hd;have H1:=ab h1;have H2:=ab h2;clear h1 h2
 cases hl:dZ data off most with
 | error y=>
  rw[hl]at h3; simp only at h3; subst h3;have HL:=ab hl;clear hl;have hcv:=uq;go_wp2_with fail
  go_ret2
  exact⟨o',H1.out,H2.out,by rw[HL.out]; rfl⟩
 | ok p=>
  obtain⟨bs,o⟩:=p;rw[hl]at h3; simp only at h3;obtain⟨⟨pv,rfl,hpv⟩,rfl⟩:=h3;have HL:=ab hl;clear hl;have hcv:=yz hpv;clear hpv;go_wp2_with fail
  go_ret2
  exact⟨o',H1.out,H2.out,by rw[HL.out]; exact⟨rfl,rfl⟩⟩
theorem Ds (xb rb:Nat) (v:Value) (data:List UInt8) (off last:Nat) (err:Int) (w:World) (hr:aW w rb v data off last err)
  (hx:w.cell? ⟨xb,0,none⟩=some (.pointer (some ⟨rb,0,none⟩))):
  Calls Tryz.prog 90 #[.pointer (some ⟨xb,0,none⟩)] w (DM (.string ⟨#[]⟩) (fun bs:List UInt8=>Value.string ⟨bs.toArray⟩) w rb v data last err (el data off 32)):=by
 have HR:=ab hr;clear hr
 go_enter Tryz.func90,Tryz.ntmps90
 go_wp2_with fail;refine(wg rb v data off last 32 err w HR.out (by omega) (.inr (by omega))).mono ?_;intro e w1 hd;obtain⟨o',h1,h2,h3⟩:=hd;have H1:=ab h1;have H2:=ab h2;clear h1 h2
 cases hl:el data off 32 with
 | error y=>
  rw[hl]at h3; simp only at h3; subst h3;have HL:=ab hl;clear hl;have hcv:=uq;go_wp2_with fail
  go_ret2
  exact⟨o',H1.out,H2.out,by rw[HL.out]; rfl⟩
 | ok p=>
  obtain⟨bs,o⟩:=p;rw[hl]at h3; simp only at h3;obtain⟨⟨pv,rfl,hpv⟩,rfl⟩:=h3;have HL:=ab hl;clear hl;have hcv:=yz hpv;clear hpv;go_wp2_with fail
  go_ret2
  exact⟨o',H1.out,H2.out,by rw[HL.out]; exact⟨rfl,rfl⟩⟩
theorem pW (cx cm rb:Nat) (v:Value) (data:List UInt8) (s:RS) (most:Nat) (w:World) (hr:mQ w rb v data s) (hm:most<=2000000)
  (hx:w.cell? ⟨cx,0,none⟩=some (.pointer (some ⟨rb,0,none⟩))) (hmb:w.cell? ⟨cm,0,none⟩=some (.int .i64 (most:Int))):
  Calls Tryz.prog 87 #[.pointer (some ⟨rb,0,none⟩), .func (.func 88) #[] #[.pointer (some ⟨cx,0,none⟩), .pointer (some ⟨cm,0,none⟩)]] w
   (nE [] (fun bs:List UInt8=>Value.string ⟨bs.toArray⟩) w rb v data (dZ data s.off most) s):=by
 have HX:=ab hx;have HM:=ab hmb;clear hx hmb;have hmf: ∀(fn:Fn) (first cap:Array Value) (w:World),(Instr.makeFunc fn first cap).run Tryz.prog w= .ok (.func fn first cap) w:=fun _ _ _ _=>rfl
 have hr':aW w rb v data s.off s.last s.err:=hr;have HR:=ab hr';have hlt:=hr'.lt;have c1:=hr'.c1;have c3:=hr'.c3;clear hr hr'
 go_enter_defers Tryz.func87,Tryz.ntmps87
 by_cases he:s.err=0
 ·rw[he]at c3;go_wp2_with fail;obtain⟨W,hW⟩: ∃W,W=((w.alloc (.cells #[.pointer (some ⟨rb,0,none⟩)] 108)).alloc (.cells #[.string ⟨#[]⟩] 9)).alloc (.cells #[.int .i64 (s.off:Int)] 3):=⟨_,rfl⟩;rw[<-hW];have hB:bH w W rb (.string ⟨#[]⟩) 9 s.off:=by rw[hW]; exact bH.start hlt _ _ _
  have hBel:Below w.heap.size w W:=by rw[hW]; exact bH.below0 _ _ _
  have hRW:aW W rb v data s.off s.last 0:=by have:=HR.out.below hBel; rw[he]at this; exact this
  have HB:=ab hB;have HRW:=ab hRW;have HBel:=ab hBel;have HE:=ab he;have x0:=cell_of_one hB.bx;have hxr:w.heap.size≠rb:=by omega
  clear hW hB hRW hBel c1 c3 he;refine kN ?_;refine cX (fun w'=>w'.cell? ⟨w.heap.size,0,none⟩=some (.pointer (some ⟨rb,0,none⟩))) (by kernel_rfl) ?_;refine ag 0 rfl (by kernel_rfl) (by kernel_rfl) (by kernel_rfl) (fun _ _ _ h=>False.elim h) rfl (by go_simp) (by intro w' hw'; go_simp; rfl) ?_;simp only[Act.put,aH,aI,aJ];refine ag 1 rfl (by kernel_rfl) (by kernel_rfl) (by kernel_rfl) (fun _ _ _ h=>False.elim h) rfl (by go_simp) (by intro w' hw'; go_simp; rfl) ?_
  simp only[Act.put,aH,aI,aJ];refine aC 2 rfl (by kernel_rfl) rfl (fun K hK=> ?_);have hBel2:Below w.heap.size w W.drew:=HBel.out.trans ⟨rfl,rfl,rfl,Nat.le_refl _,fun _ _=>rfl⟩;have HRW2:=ab (show aW W.drew rb v data s.off s.last 0 from HRW.out.draws 1);have HBel2:=ab hBel2;clear hBel2;go_wp2_with fail;refine(Bk cx cm rb v data s.off s.last most 0 _ HRW2.out hm ((HBel2.out.cell (aE HX.out)).trans HX.out) ((HBel2.out.cell (aE HM.out)).trans HM.out)).mono ?_
  rintro e w1 ⟨o',h1,h2,h3⟩;have HB1:=ab (HB.out.step (aR (b:=W.drew) ⟨rfl,rfl,rfl,Nat.le_refl _,fun _ _ _=>rfl⟩ h2));have x1:=cell_of_one HB1.out.bx;have v1:=cell_of_one HB1.out.bv;have fv1:=free_of_one HB1.out.bv;have HR1:=ab h1;have e3:=h1.c3;have f3:=h1.free 3;clear h1 h2 x0
  cases hd:dZ data s.off most with
  | error y=>
   have hy: ¬y=0:=zu hd;have HD:=ab hd;rw[hd]at h3;simp only at h3;subst h3;clear hd;go_wp2_with fail;refine⟨x1, ?_⟩;refine ag 3 rfl (by kernel_rfl) (by kernel_rfl) (by kernel_rfl) (fun _ _ _ h=>False.elim h) rfl (by go_simp) (by intro w' hw'; go_simp; rfl) ?_;simp only[Act.put,aH,aI,aJ];refine ag 4 rfl (by kernel_rfl) (by kernel_rfl) (by kernel_rfl) (fun _ _ _ h=>False.elim h) rfl (by go_simp) (by intro w' hw'; go_simp; rfl) ?_
   simp only[Act.put,aH,aI,aJ];refine ag 5 rfl (by kernel_rfl) (by kernel_rfl) (by kernel_rfl) (fun _ _ _ h=>False.elim h) rfl (by go_simp) (by intro w' hw'; go_simp; rfl) ?_;simp only[Act.put,aH,aI,aJ];refine aC 6 rfl (by kernel_rfl) rfl (fun K hK=> ?_);go_wp2_with fail;obtain⟨w2,hw2⟩: ∃w2,w2=w1.setCell ⟨w.heap.size+1,0,none⟩ (.string ⟨#[]⟩):=⟨_,rfl⟩;rw[<-hw2]
   have HB2:=ab (show bH w w2 rb (.string ⟨#[]⟩) 9 s.off by rw[hw2]; exact HB1.out.setv _);have HR2:=ab (show aW w2 rb v data o' s.last 0 by rw[hw2]; exact HR.out.setOther HR1.out (by omega) _);have x2:=cell_of_one HB2.out.bx;have e4:=HR2.out.c3;have f4:=HR2.out.free 3;clear hw2 x1 v1 fv1 e3 f3;refine⟨x2, ?_⟩;refine ag 7 rfl (by kernel_rfl) (by kernel_rfl) (by kernel_rfl) (fun _ _ _ h=>False.elim h) rfl (by go_simp) (by intro w' hw'; go_simp; rfl) ?_
   simp only[Act.put,aH,aI,aJ];refine ag 8 rfl (by kernel_rfl) (by kernel_rfl) (by kernel_rfl) (fun _ _ _ h=>False.elim h) rfl (by go_simp) (by intro w' hw'; go_simp; rfl) ?_;simp only[Act.put,aH,aI,aJ];refine aC 9 rfl (by kernel_rfl) rfl (fun K hK=> ?_);go_wp2_with fail;obtain⟨w3,hw3⟩: ∃w3,w3=w2.setCell ⟨rb,3,none⟩ (.int .i64 (y)):=⟨_,rfl⟩;rw[<-hw3];have HB3:=ab (show bH w w3 rb (.string ⟨#[]⟩) 9 s.off by rw[hw3]; exact HB2.out.step (aG _ _ _ _))
   have HR3:=ab (show aW w3 rb v data o' s.last (y) by rw[hw3]; exact HR2.out.set3 _);have x3:=cell_of_one HB3.out.bx;have v3:=cell_of_one HB3.out.bv;have fv3:=free_of_one HB3.out.bv;clear hw3 x2 e4 f4;refine⟨x3, ?_⟩;refine bu (by kernel_rfl) ?_;refine ei ?_;go_wp2_with fail;obtain⟨w5,hw5⟩: ∃w5,w5=w3.setCell ⟨w.heap.size+1,0,none⟩ (.string ⟨#[]⟩):=⟨_,rfl⟩;rw[<-hw5]
   have HB5:=ab (show bH w w5 rb (.string ⟨#[]⟩) 9 s.off by rw[hw5]; exact HB3.out.setv _);have HR5:=ab (show aW w5 rb v data o' s.last (y) by rw[hw5]; exact HR.out.setOther HR3.out (by omega) _);clear hw5;refine leaves_cons (f:=123) (args:= #[.pointer (some ⟨w.heap.size+1+1,0,none⟩), .pointer (some ⟨w.heap.size,0,none⟩), .pointer (some ⟨w.heap.size+1,0,none⟩)]) (by simp) (by simp[go_sem]) ?_
   refine(sA (w.heap.size+1+1) w.heap.size (w.heap.size+1) rb v data o' s.last s.off y _ _ .returning _ HR5.out hy (cell_of_one HB5.out.bs) (cell_of_one HB5.out.bx) HB5.out.bv (by omega) (by omega) (by omega) (by omega) (by omega)).mono ?_;rintro e u' w'' ⟨rfl,rfl,hw4⟩;have HB4:=ab (show bH w w'' rb (.string ⟨#[]⟩) 9 s.off by rw[hw4]; exact(HB5.out.step (aR (aG _ _ _ _) (aG _ _ _ _))).setv _)
   have HR4:=ab (show aW w'' rb v data s.off s.off y by rw[hw4]; exact HR.out.setOther ((HR5.out.set2 s.off HR.out.le).set1 s.off HR.out.le) (by omega) _);have m0:=cell_of_one HB4.out.bv;simp only[Leaves,settle];refine⟨_,by simp[results,Tryz.results87,go_sem,m0]<;> rfl, ?_⟩;have hrv:rv (([]:List UInt8)) (dZ data s.off most) s=(([]:List UInt8),⟨s.off,s.off,y⟩):=by unfold rv; rw[if_pos HE.out,HD.out]
   exact⟨by rw[hrv]<;> rfl,by rw[hrv]; exact HR4.out,HB4.out.grown⟩
  | ok p=>
   obtain⟨n,o⟩:=p;have HD:=ab hd;rw[hd]at h3;simp only at h3;obtain⟨rfl,rfl⟩:=h3;clear hd;go_wp2_with fail;refine⟨x1, ?_⟩;refine ag 3 rfl (by kernel_rfl) (by kernel_rfl) (by kernel_rfl) (fun _ _ _ h=>False.elim h) rfl (by go_simp) (by intro w' hw'; go_simp; rfl) ?_;simp only[Act.put,aH,aI,aJ];refine ag 4 rfl (by kernel_rfl) (by kernel_rfl) (by kernel_rfl) (fun _ _ _ h=>False.elim h) rfl (by go_simp) (by intro w' hw'; go_simp; rfl) ?_
   simp only[Act.put,aH,aI,aJ];refine ag 5 rfl (by kernel_rfl) (by kernel_rfl) (by kernel_rfl) (fun _ _ _ h=>False.elim h) rfl (by go_simp) (by intro w' hw'; go_simp; rfl) ?_;simp only[Act.put,aH,aI,aJ];refine aC 6 rfl (by kernel_rfl) rfl (fun K hK=> ?_);go_wp2_with fail;obtain⟨w2,hw2⟩: ∃w2,w2=w1.setCell ⟨w.heap.size+1,0,none⟩ (.string ⟨n.toArray⟩):=⟨_,rfl⟩
   rw[<-hw2];have HB2:=ab (show bH w w2 rb (.string ⟨n.toArray⟩) 9 s.off by rw[hw2]; exact HB1.out.setv _);have HR2:=ab (show aW w2 rb v data o' s.last 0 by rw[hw2]; exact HR.out.setOther HR1.out (by omega) _);have x2:=cell_of_one HB2.out.bx;have e4:=HR2.out.c3;have f4:=HR2.out.free 3;clear hw2 x1 v1 fv1 e3 f3;refine⟨x2, ?_⟩;refine ag 7 rfl (by kernel_rfl) (by kernel_rfl) (by kernel_rfl) (fun _ _ _ h=>False.elim h) rfl (by go_simp) (by intro w' hw'; go_simp; rfl) ?_
   simp only[Act.put,aH,aI,aJ];refine ag 8 rfl (by kernel_rfl) (by kernel_rfl) (by kernel_rfl) (fun _ _ _ h=>False.elim h) rfl (by go_simp) (by intro w' hw'; go_simp; rfl) ?_;simp only[Act.put,aH,aI,aJ];refine aC 9 rfl (by kernel_rfl) rfl (fun K hK=> ?_);go_wp2_with fail;obtain⟨w3,hw3⟩: ∃w3,w3=w2.setCell ⟨rb,3,none⟩ (.int .i64 (0)):=⟨_,rfl⟩;rw[<-hw3];have HB3:=ab (show bH w w3 rb (.string ⟨n.toArray⟩) 9 s.off by rw[hw3]; exact HB2.out.step (aG _ _ _ _))
   have HR3:=ab (show aW w3 rb v data o' s.last (0) by rw[hw3]; exact HR2.out.set3 _);have x3:=cell_of_one HB3.out.bx;have v3:=cell_of_one HB3.out.bv;have fv3:=free_of_one HB3.out.bv;clear hw3 x2 e4 f4;refine⟨x3, ?_⟩;refine bu (by kernel_rfl) ?_;refine ei ?_;go_wp2_with fail;obtain⟨w5,hw5⟩: ∃w5,w5=w3.setCell ⟨w.heap.size+1,0,none⟩ (.string ⟨n.toArray⟩):=⟨_,rfl⟩
   rw[<-hw5];have HB5:=ab (show bH w w5 rb (.string ⟨n.toArray⟩) 9 s.off by rw[hw5]; exact HB3.out.setv _);have HR5:=ab (show aW w5 rb v data o' s.last (0) by rw[hw5]; exact HR.out.setOther HR3.out (by omega) _);clear hw5;refine leaves_cons (f:=123) (args:= #[.pointer (some ⟨w.heap.size+1+1,0,none⟩), .pointer (some ⟨w.heap.size,0,none⟩), .pointer (some ⟨w.heap.size+1,0,none⟩)]) (by simp) (by simp[go_sem]) ?_
   refine(vQ (w.heap.size+1+1) w.heap.size (w.heap.size+1) rb v data o' s.last s.off .returning _ HR5.out (cell_of_one HB5.out.bs) (cell_of_one HB5.out.bx) (by omega) (by omega)).mono ?_;rintro e u' w'' ⟨rfl,rfl,hw4⟩;have HB4:=ab (show bH w w'' rb (.string ⟨n.toArray⟩) 9 s.off by rw[hw4]; exact HB5.out.step (aG _ _ _ _));have HR4:=ab (show aW w'' rb v data o' s.off 0 by rw[hw4]; exact HR5.out.set2 s.off HR.out.le)
   have m0:=cell_of_one HB4.out.bv;simp only[Leaves,settle];refine⟨_,by simp[results,Tryz.results87,go_sem,m0]<;> rfl, ?_⟩;have hrv:rv (([]:List UInt8)) (dZ data s.off most) s=(n,⟨o',s.off,0⟩):=by unfold rv; rw[if_pos HE.out,HD.out]
   exact⟨by rw[hrv]<;> rfl,by rw[hrv]; exact HR4.out,HB4.out.grown⟩
 ·have HE:=ab he;go_wp2_with fail;simp only[bodyPostD];refine⟨_,by simp[results,Tryz.results87,go_sem]<;> rfl, ?_⟩;have hrv:rv (([]:List UInt8)) (dZ data s.off most) s=(([]:List UInt8),s):=by unfold rv; rw[if_neg HE.out]
  refine⟨by rw[hrv]<;> rfl,by rw[hrv]; exact HR.out.below (((Below.refl _ _).alloc (Nat.le_refl _) _).alloc (by simp) _),cw (((Below.refl _ _).alloc (Nat.le_refl _) _).alloc (by simp) _) _⟩
theorem qX (cx rb:Nat) (v:Value) (data:List UInt8) (s:RS) (w:World) (hr:mQ w rb v data s)
  (hx:w.cell? ⟨cx,0,none⟩=some (.pointer (some ⟨rb,0,none⟩))):
  Calls Tryz.prog 87 #[.pointer (some ⟨rb,0,none⟩), .func (.func 90) #[] #[.pointer (some ⟨cx,0,none⟩)]] w
   (nE [] (fun bs:List UInt8=>Value.string ⟨bs.toArray⟩) w rb v data (el data s.off 32) s):=by
 have HX:=ab hx;clear hx;have hmf: ∀(fn:Fn) (first cap:Array Value) (w:World),(Instr.makeFunc fn first cap).run Tryz.prog w= .ok (.func fn first cap) w:=fun _ _ _ _=>rfl
 have hr':aW w rb v data s.off s.last s.err:=hr;have HR:=ab hr';have hlt:=hr'.lt;have c1:=hr'.c1;have c3:=hr'.c3;clear hr hr'
 go_enter_defers Tryz.func87,Tryz.ntmps87
 by_cases he:s.err=0
 ·rw[he]at c3;go_wp2_with fail;obtain⟨W,hW⟩: ∃W,W=((w.alloc (.cells #[.pointer (some ⟨rb,0,none⟩)] 108)).alloc (.cells #[.string ⟨#[]⟩] 9)).alloc (.cells #[.int .i64 (s.off:Int)] 3):=⟨_,rfl⟩;rw[<-hW];have hB:bH w W rb (.string ⟨#[]⟩) 9 s.off:=by rw[hW]; exact bH.start hlt _ _ _
  have hBel:Below w.heap.size w W:=by rw[hW]; exact bH.below0 _ _ _
  have hRW:aW W rb v data s.off s.last 0:=by have:=HR.out.below hBel; rw[he]at this; exact this
  have HB:=ab hB;have HRW:=ab hRW;have HBel:=ab hBel;have HE:=ab he;have x0:=cell_of_one hB.bx;have hxr:w.heap.size≠rb:=by omega
  clear hW hB hRW hBel c1 c3 he;refine kN ?_;refine cX (fun w'=>w'.cell? ⟨w.heap.size,0,none⟩=some (.pointer (some ⟨rb,0,none⟩))) (by kernel_rfl) ?_;refine ag 0 rfl (by kernel_rfl) (by kernel_rfl) (by kernel_rfl) (fun _ _ _ h=>False.elim h) rfl (by go_simp) (by intro w' hw'; go_simp; rfl) ?_;simp only[Act.put,aH,aI,aJ];refine ag 1 rfl (by kernel_rfl) (by kernel_rfl) (by kernel_rfl) (fun _ _ _ h=>False.elim h) rfl (by go_simp) (by intro w' hw'; go_simp; rfl) ?_
  simp only[Act.put,aH,aI,aJ];refine aC 2 rfl (by kernel_rfl) rfl (fun K hK=> ?_);have hBel2:Below w.heap.size w W.drew:=HBel.out.trans ⟨rfl,rfl,rfl,Nat.le_refl _,fun _ _=>rfl⟩;have HRW2:=ab (show aW W.drew rb v data s.off s.last 0 from HRW.out.draws 1);have HBel2:=ab hBel2;clear hBel2;go_wp2_with fail;refine(Ds cx rb v data s.off s.last 0 _ HRW2.out ((HBel2.out.cell (aE HX.out)).trans HX.out)).mono ?_
  rintro e w1 ⟨o',h1,h2,h3⟩;have HB1:=ab (HB.out.step (aR (b:=W.drew) ⟨rfl,rfl,rfl,Nat.le_refl _,fun _ _ _=>rfl⟩ h2));have x1:=cell_of_one HB1.out.bx;have v1:=cell_of_one HB1.out.bv;have fv1:=free_of_one HB1.out.bv;have HR1:=ab h1;have e3:=h1.c3;have f3:=h1.free 3;clear h1 h2 x0
  cases hd:el data s.off 32 with
  | error y=>
   have hy: ¬y=0:=vZ hd;have HD:=ab hd;rw[hd]at h3;simp only at h3;subst h3;clear hd;go_wp2_with fail;refine⟨x1, ?_⟩;refine ag 3 rfl (by kernel_rfl) (by kernel_rfl) (by kernel_rfl) (fun _ _ _ h=>False.elim h) rfl (by go_simp) (by intro w' hw'; go_simp; rfl) ?_;simp only[Act.put,aH,aI,aJ];refine ag 4 rfl (by kernel_rfl) (by kernel_rfl) (by kernel_rfl) (fun _ _ _ h=>False.elim h) rfl (by go_simp) (by intro w' hw'; go_simp; rfl) ?_
   simp only[Act.put,aH,aI,aJ];refine ag 5 rfl (by kernel_rfl) (by kernel_rfl) (by kernel_rfl) (fun _ _ _ h=>False.elim h) rfl (by go_simp) (by intro w' hw'; go_simp; rfl) ?_;simp only[Act.put,aH,aI,aJ];refine aC 6 rfl (by kernel_rfl) rfl (fun K hK=> ?_);go_wp2_with fail;obtain⟨w2,hw2⟩: ∃w2,w2=w1.setCell ⟨w.heap.size+1,0,none⟩ (.string ⟨#[]⟩):=⟨_,rfl⟩;rw[<-hw2]
   have HB2:=ab (show bH w w2 rb (.string ⟨#[]⟩) 9 s.off by rw[hw2]; exact HB1.out.setv _);have HR2:=ab (show aW w2 rb v data o' s.last 0 by rw[hw2]; exact HR.out.setOther HR1.out (by omega) _);have x2:=cell_of_one HB2.out.bx;have e4:=HR2.out.c3;have f4:=HR2.out.free 3;clear hw2 x1 v1 fv1 e3 f3;refine⟨x2, ?_⟩;refine ag 7 rfl (by kernel_rfl) (by kernel_rfl) (by kernel_rfl) (fun _ _ _ h=>False.elim h) rfl (by go_simp) (by intro w' hw'; go_simp; rfl) ?_
   simp only[Act.put,aH,aI,aJ];refine ag 8 rfl (by kernel_rfl) (by kernel_rfl) (by kernel_rfl) (fun _ _ _ h=>False.elim h) rfl (by go_simp) (by intro w' hw'; go_simp; rfl) ?_;simp only[Act.put,aH,aI,aJ];refine aC 9 rfl (by kernel_rfl) rfl (fun K hK=> ?_);go_wp2_with fail;obtain⟨w3,hw3⟩: ∃w3,w3=w2.setCell ⟨rb,3,none⟩ (.int .i64 (y)):=⟨_,rfl⟩;rw[<-hw3];have HB3:=ab (show bH w w3 rb (.string ⟨#[]⟩) 9 s.off by rw[hw3]; exact HB2.out.step (aG _ _ _ _))
   have HR3:=ab (show aW w3 rb v data o' s.last (y) by rw[hw3]; exact HR2.out.set3 _);have x3:=cell_of_one HB3.out.bx;have v3:=cell_of_one HB3.out.bv;have fv3:=free_of_one HB3.out.bv;clear hw3 x2 e4 f4;refine⟨x3, ?_⟩;refine bu (by kernel_rfl) ?_;refine ei ?_;go_wp2_with fail;obtain⟨w5,hw5⟩: ∃w5,w5=w3.setCell ⟨w.heap.size+1,0,none⟩ (.string ⟨#[]⟩):=⟨_,rfl⟩;rw[<-hw5]
   have HB5:=ab (show bH w w5 rb (.string ⟨#[]⟩) 9 s.off by rw[hw5]; exact HB3.out.setv _);have HR5:=ab (show aW w5 rb v data o' s.last (y) by rw[hw5]; exact HR.out.setOther HR3.out (by omega) _);clear hw5;refine leaves_cons (f:=123) (args:= #[.pointer (some ⟨w.heap.size+1+1,0,none⟩), .pointer (some ⟨w.heap.size,0,none⟩), .pointer (some ⟨w.heap.size+1,0,none⟩)]) (by simp) (by simp[go_sem]) ?_
   refine(sA (w.heap.size+1+1) w.heap.size (w.heap.size+1) rb v data o' s.last s.off y _ _ .returning _ HR5.out hy (cell_of_one HB5.out.bs) (cell_of_one HB5.out.bx) HB5.out.bv (by omega) (by omega) (by omega) (by omega) (by omega)).mono ?_;rintro e u' w'' ⟨rfl,rfl,hw4⟩;have HB4:=ab (show bH w w'' rb (.string ⟨#[]⟩) 9 s.off by rw[hw4]; exact(HB5.out.step (aR (aG _ _ _ _) (aG _ _ _ _))).setv _)
   have HR4:=ab (show aW w'' rb v data s.off s.off y by rw[hw4]; exact HR.out.setOther ((HR5.out.set2 s.off HR.out.le).set1 s.off HR.out.le) (by omega) _);have m0:=cell_of_one HB4.out.bv;simp only[Leaves,settle];refine⟨_,by simp[results,Tryz.results87,go_sem,m0]<;> rfl, ?_⟩;have hrv:rv (([]:List UInt8)) (el data s.off 32) s=(([]:List UInt8),⟨s.off,s.off,y⟩):=by unfold rv; rw[if_pos HE.out,HD.out]
   exact⟨by rw[hrv]<;> rfl,by rw[hrv]; exact HR4.out,HB4.out.grown⟩
  | ok p=>
   obtain⟨n,o⟩:=p;have HD:=ab hd;rw[hd]at h3;simp only at h3;obtain⟨rfl,rfl⟩:=h3;clear hd;go_wp2_with fail;refine⟨x1, ?_⟩;refine ag 3 rfl (by kernel_rfl) (by kernel_rfl) (by kernel_rfl) (fun _ _ _ h=>False.elim h) rfl (by go_simp) (by intro w' hw'; go_simp; rfl) ?_;simp only[Act.put,aH,aI,aJ];refine ag 4 rfl (by kernel_rfl) (by kernel_rfl) (by kernel_rfl) (fun _ _ _ h=>False.elim h) rfl (by go_simp) (by intro w' hw'; go_simp; rfl) ?_
   simp only[Act.put,aH,aI,aJ];refine ag 5 rfl (by kernel_rfl) (by kernel_rfl) (by kernel_rfl) (fun _ _ _ h=>False.elim h) rfl (by go_simp) (by intro w' hw'; go_simp; rfl) ?_;simp only[Act.put,aH,aI,aJ];refine aC 6 rfl (by kernel_rfl) rfl (fun K hK=> ?_);go_wp2_with fail;obtain⟨w2,hw2⟩: ∃w2,w2=w1.setCell ⟨w.heap.size+1,0,none⟩ (.string ⟨n.toArray⟩):=⟨_,rfl⟩
   rw[<-hw2];have HB2:=ab (show bH w w2 rb (.string ⟨n.toArray⟩) 9 s.off by rw[hw2]; exact HB1.out.setv _);have HR2:=ab (show aW w2 rb v data o' s.last 0 by rw[hw2]; exact HR.out.setOther HR1.out (by omega) _);have x2:=cell_of_one HB2.out.bx;have e4:=HR2.out.c3;have f4:=HR2.out.free 3;clear hw2 x1 v1 fv1 e3 f3;refine⟨x2, ?_⟩;refine ag 7 rfl (by kernel_rfl) (by kernel_rfl) (by kernel_rfl) (fun _ _ _ h=>False.elim h) rfl (by go_simp) (by intro w' hw'; go_simp; rfl) ?_
   simp only[Act.put,aH,aI,aJ];refine ag 8 rfl (by kernel_rfl) (by kernel_rfl) (by kernel_rfl) (fun _ _ _ h=>False.elim h) rfl (by go_simp) (by intro w' hw'; go_simp; rfl) ?_;simp only[Act.put,aH,aI,aJ];refine aC 9 rfl (by kernel_rfl) rfl (fun K hK=> ?_);go_wp2_with fail;obtain⟨w3,hw3⟩: ∃w3,w3=w2.setCell ⟨rb,3,none⟩ (.int .i64 (0)):=⟨_,rfl⟩;rw[<-hw3];have HB3:=ab (show bH w w3 rb (.string ⟨n.toArray⟩) 9 s.off by rw[hw3]; exact HB2.out.step (aG _ _ _ _))
   have HR3:=ab (show aW w3 rb v data o' s.last (0) by rw[hw3]; exact HR2.out.set3 _);have x3:=cell_of_one HB3.out.bx;have v3:=cell_of_one HB3.out.bv;have fv3:=free_of_one HB3.out.bv;clear hw3 x2 e4 f4;refine⟨x3, ?_⟩;refine bu (by kernel_rfl) ?_;refine ei ?_;go_wp2_with fail;obtain⟨w5,hw5⟩: ∃w5,w5=w3.setCell ⟨w.heap.size+1,0,none⟩ (.string ⟨n.toArray⟩):=⟨_,rfl⟩
   rw[<-hw5];have HB5:=ab (show bH w w5 rb (.string ⟨n.toArray⟩) 9 s.off by rw[hw5]; exact HB3.out.setv _);have HR5:=ab (show aW w5 rb v data o' s.last (0) by rw[hw5]; exact HR.out.setOther HR3.out (by omega) _);clear hw5;refine leaves_cons (f:=123) (args:= #[.pointer (some ⟨w.heap.size+1+1,0,none⟩), .pointer (some ⟨w.heap.size,0,none⟩), .pointer (some ⟨w.heap.size+1,0,none⟩)]) (by simp) (by simp[go_sem]) ?_
   refine(vQ (w.heap.size+1+1) w.heap.size (w.heap.size+1) rb v data o' s.last s.off .returning _ HR5.out (cell_of_one HB5.out.bs) (cell_of_one HB5.out.bx) (by omega) (by omega)).mono ?_;rintro e u' w'' ⟨rfl,rfl,hw4⟩;have HB4:=ab (show bH w w'' rb (.string ⟨n.toArray⟩) 9 s.off by rw[hw4]; exact HB5.out.step (aG _ _ _ _));have HR4:=ab (show aW w'' rb v data o' s.off 0 by rw[hw4]; exact HR5.out.set2 s.off HR.out.le)
   have m0:=cell_of_one HB4.out.bv;simp only[Leaves,settle];refine⟨_,by simp[results,Tryz.results87,go_sem,m0]<;> rfl, ?_⟩;have hrv:rv (([]:List UInt8)) (el data s.off 32) s=(n,⟨o',s.off,0⟩):=by unfold rv; rw[if_pos HE.out,HD.out]
   exact⟨by rw[hrv]<;> rfl,by rw[hrv]; exact HR4.out,HB4.out.grown⟩
 ·have HE:=ab he;go_wp2_with fail;simp only[bodyPostD];refine⟨_,by simp[results,Tryz.results87,go_sem]<;> rfl, ?_⟩;have hrv:rv (([]:List UInt8)) (el data s.off 32) s=(([]:List UInt8),s):=by unfold rv; rw[if_neg HE.out]
  refine⟨by rw[hrv]<;> rfl,by rw[hrv]; exact HR.out.below (((Below.refl _ _).alloc (Nat.le_refl _) _).alloc (by simp) _),cw (((Below.refl _ _).alloc (Nat.le_refl _) _).alloc (by simp) _) _⟩
theorem Dw (rb:Nat) (v:Value) (data:List UInt8) (s:RS) (most:Nat) (w:World) (hr:mQ w rb v data s) (hm:most<=2000000):
  Calls Tryz.prog 51 #[.pointer (some ⟨rb,0,none⟩), .int .i64 (most:Int)] w (nE [] (fun bs:List UInt8=>Value.string ⟨bs.toArray⟩) w rb v data (dZ data s.off most) s):=by
 have hmf: ∀(fn:Fn) (first cap:Array Value) (w:World),(Instr.makeFunc fn first cap).run Tryz.prog w= .ok (.func fn first cap) w:=fun _ _ _ _=>rfl
 have HR:=ab hr;clear hr
 go_enter Tryz.func51,Tryz.ntmps51
 go_wp2_with fail;have hb:Below w.heap.size w ((w.alloc (.cells #[.pointer (some ⟨rb,0,none⟩)] 108)).alloc (.cells #[.int .i64 (most:Int)] 3)):=((Below.refl _ _).alloc (Nat.le_refl _) _).alloc (by simp) _;have HB:=ab hb;clear hb;refine(pW w.heap.size (w.heap.size+1) rb v data s most _ (aW.below HR.out HB.out) hm (by simp[go_sem]) (by simp[go_sem])).mono ?_;rintro e w1 ⟨rfl,h1,h2⟩
 have H1:=ab h1;have H2:=ab (aR (cw HB.out (some rb)) h2);clear h1 h2;go_wp2_with fail;go_ret;exact⟨rfl,H1.out,H2.out⟩
theorem Fk (rb:Nat) (v:Value) (data:List UInt8) (s:RS) (w:World) (hr:mQ w rb v data s):
  Calls Tryz.prog 53 #[.pointer (some ⟨rb,0,none⟩)] w (nE [] (fun bs:List UInt8=>Value.string ⟨bs.toArray⟩) w rb v data (el data s.off 32) s):=by
 have hmf: ∀(fn:Fn) (first cap:Array Value) (w:World),(Instr.makeFunc fn first cap).run Tryz.prog w= .ok (.func fn first cap) w:=fun _ _ _ _=>rfl
 have HR:=ab hr;clear hr
 go_enter Tryz.func53,Tryz.ntmps53
 go_wp2_with fail;have hb:Below w.heap.size w (w.alloc (.cells #[.pointer (some ⟨rb,0,none⟩)] 108)):=(Below.refl _ _).alloc (Nat.le_refl _) _;have HB:=ab hb;clear hb;refine(qX w.heap.size rb v data s _ (aW.below HR.out HB.out) (by simp[go_sem])).mono ?_;rintro e w1 ⟨rfl,h1,h2⟩;have H1:=ab h1;have H2:=ab (aR (cw HB.out (some rb)) h2);clear h1 h2;go_wp2_with fail
 go_ret;exact⟨rfl,H1.out,H2.out⟩
def oc (data:List UInt8) (s:RS):Int:=if s.err=0 then(if s.off<data.length then 3 else 0)else s.err
theorem Ek (rb:Nat) (v:Value) (data:List UInt8) (s:RS) (w:World) (hr:mQ w rb v data s):
  Calls Tryz.prog 54 #[.pointer (some ⟨rb,0,none⟩)] w fun e w'=>e= .returned (.tuple #[.int .i64 (s.off:Int), .int .i64 (oc data s)])/\ ∃n,w'=w.drewN n:=by
 obtain⟨a,cap,rfl,hc,hcm,-⟩:=aW.shape hr;unfold maxLen at hcm;have c0:=aW.c0 hr;have c1:=aW.c1 hr;have c3:=aW.c3 hr;have hsm:=aW.small hr;have hle:=aW.le hr;clear hr
 by_cases he:s.err=0
 ·rw[he]at c3;have HE:=ab he;clear he
  by_cases hl:s.off<data.length
  ·have HR:=ab (show oc data s=3 by unfold oc; rw[if_pos HE.out,if_pos hl])
   go_enter Tryz.func54,Tryz.ntmps54
   go_wp2_with fail
   go_quiet (fail)
   go_wp2_with fail
   go_ret2
   exact⟨by rw[HR.out]; rfl,_,rfl⟩
  ·have HR:=ab (show oc data s=0 by unfold oc; rw[if_pos HE.out,if_neg hl])
   go_enter Tryz.func54,Tryz.ntmps54
   go_wp2_with fail
   go_quiet (fail)
   go_wp2_with fail
   go_ret2
   exact⟨by rw[HR.out]; rfl,_,rfl⟩
 ·have HR:=ab (show oc data s=s.err by unfold oc; rw[if_neg he])
  go_enter Tryz.func54,Tryz.ntmps54
  go_wp2_with fail
  go_quiet (fail)
  go_wp2_with fail
  go_ret2
  exact⟨by rw[HR.out]; rfl,_,rfl⟩
open Go Go.RowKit Go.Maps
def eG (P:Program) (k:TypeId) (w:World) (b:Nat) (m:List (Value×Value)):Prop:=
 ∃es clock,w.heap[b]? =some (.map es clock)/\es.toList.map (fun e=>(e.key,e.val))=m/\(m.map Prod.fst).Nodup/\ ∀p∈m,∃l,keyOf P k p.1=some l
theorem pC {w:World} {b:Nat} {x:Obj} (hb:w.heap[b]? =some x) (o:Obj):(ChangeMaps.setBlock w b o).heap[b]? =some o:=by
 have:=(Array.getElem?_eq_some_iff.1 hb).1;simp[ChangeMaps.setBlock,this]
theorem rS {w:World} {b:Nat} {x:Obj} (_:w.heap[b]? =some x) (o:Obj) {i:Nat} (h:i≠b):(ChangeMaps.setBlock w b o).heap[i]? =w.heap[i]? :=by
 simp[ChangeMaps.setBlock,Ne.symm h]
section
variable {P : Program} {k t e : TypeId} {w w' : World} {b : Nat} {m : List (Value × Value)} {key val z : Value}
theorem eG.lt (h:eG P k w b m):b<w.heap.size:=by
 obtain⟨es,clock,hb,_⟩:=h;exact(Array.getElem?_eq_some_iff.1 hb).1
theorem eG.same (h:eG P k w b m) (hs:w'.heap[b]? =w.heap[b]?):eG P k w' b m:=by
 obtain⟨es,clock,hb,h2⟩:=h;exact⟨es,clock,hs.trans hb,h2⟩
theorem eG.made (w:World):eG P k (w.alloc (.map #[] 0)) w.heap.size []:=⟨#[],0,(MapKept.heap_alloc w _).1,rfl,List.nodup_nil,by simp⟩
theorem eG.keys {es:Array MapEntry} (h:es.toList.map (fun e=>(e.key,e.val))=m) (hk: ∀p∈m,∃l,keyOf P k p.1=some l): ∀x∈es.toList,∃l,keyOf P k x.key=some l:=fun x hx=>hk (x.key,x.val) (by rw[<-h]; exact List.mem_map.2 ⟨x,hx,rfl⟩)
theorem rX : ∀ {m:List (Value×Value)} {key v v':Value},(m.map Prod.fst).Nodup->(key,v)∈m->(key,v')∈m->v=v'
 | [],_,_,_,_,h,_=>by simp at h
 | (a,x)::m,key,v,v',hn,h,h'=>by
  simp only[List.map_cons,List.nodup_cons]at hn
  rcases List.mem_cons.1 h with h | h<;> rcases List.mem_cons.1 h' with h' | h'
  ·cases h; cases h'; rfl
  ·cases h
   exact absurd (List.mem_map.2 ⟨_,h',rfl⟩) hn.1
  ·cases h'
   exact absurd (List.mem_map.2 ⟨_,h,rfl⟩) hn.1
  ·exact rX hn.2 h h'
theorem eG.hit (h:eG P k w b m) (K:Keyed P k) (ht:P.underlying t=some (.map k e)) (hkey: ∃l,keyOf P k key=some l) (hm:(key,val)∈m) (c:Bool):
  (Instr.lookup t (.map (some b)) key c).run P w= .ok (if c then .tuple #[val, .bool true]else val) w:=by
 obtain⟨es,clock,hb,he,hn,hk⟩:=h;obtain⟨kl,hkl⟩:=hkey
 rcases K.find w hkl es.toList (eG.keys he hk)with⟨h1,h2⟩ | ⟨j,e0,h1,h2,h3⟩
 ·rw[<-he]at hm;obtain⟨x,hx,hxe⟩:=List.mem_map.1 hm;exact absurd (congrArg Prod.fst hxe) (h2 x hx)
 ·have hv:e0.val=val:=by
   refine rX hn (key:=key) ?_ hm;rw[<-he,<-h3];exact List.mem_map.2 ⟨e0,List.mem_of_getElem? h2,rfl⟩
  cases c<;> simp[Instr.lookup,run_underlying ht,MapKept.run_getObj_map hb,K.check w _ hkl,h1,hv,Result.andThen]
theorem eG.miss (h:eG P k w b m) (K:Keyed P k) (ht:P.underlying t=some (.map k e)) (hz:(zeroValue e).run P w= .ok z w) (hkey: ∃l,keyOf P k key=some l) (hm: ∀p∈m,p.1≠key) (c:Bool):
  (Instr.lookup t (.map (some b)) key c).run P w= .ok (if c then .tuple #[z, .bool false]else z) w:=by
 obtain⟨es,clock,hb,he,hn,hk⟩:=h;obtain⟨kl,hkl⟩:=hkey
 rcases K.find w hkl es.toList (eG.keys he hk)with⟨h1,h2⟩ | ⟨j,e0,h1,h2,h3⟩
 ·cases c<;> simp[Instr.lookup,run_underlying ht,MapKept.run_getObj_map hb,K.check w _ hkl,h1,hz,Result.andThen]
 ·exact absurd h3 (hm (e0.key,e0.val) (by rw[<-he]; exact List.mem_map.2 ⟨e0,List.mem_of_getElem? h2,rfl⟩))
theorem eG.put (h:eG P k w b m) (K:Keyed P k) (ht:P.underlying t=some (.map k e)) (hkey: ∃l,keyOf P k key=some l) (hm: ∀p∈m,p.1≠key) (val:Value):
  ∃w',(Instr.mapUpdate t (.map (some b)) key val).run P w= .ok () w'/\eG P k w' b (m++[(key,val)])/\w.grownBy w' (some b):=by
 obtain⟨es,clock,hb,he,hn,hk⟩:=h;obtain⟨kl,hkl⟩:=hkey
 rcases K.find w hkl es.toList (eG.keys he hk)with⟨h1,h2⟩ | ⟨j,e0,h1,h2,h3⟩
 ·refine⟨ChangeMaps.setBlock w b (.map (es.push ⟨key,val,clock⟩) (clock+1)), ?_,⟨_,_,pC hb _, ?_, ?_, ?_⟩,⟨rfl,rfl,rfl,by simp[ChangeMaps.setBlock],fun i _ hi=>rS hb _ (fun e=>hi (by rw[e]))⟩⟩
  ·simp[Instr.mapUpdate,run_underlying ht,MapKept.run_getObj_map hb,K.check w false hkl,h1,MapKept.run_setObj_map _ hb,Result.andThen,ChangeMaps.setBlock]
  ·simp[<-he]
  ·rw[List.map_append,List.nodup_append];refine⟨hn,by simp,fun a ha b' hb' e=> ?_⟩;obtain⟨p,hp,rfl⟩:=List.mem_map.1 ha;simp only[List.map_cons,List.map_nil,List.mem_singleton]at hb';exact hm p hp (e.trans hb')
  ·intro p hp
   rcases List.mem_append.1 hp with hp | hp
   ·exact hk p hp
   ·simp only[List.mem_singleton]at hp;subst hp;exact⟨kl,hkl⟩
 ·exact absurd h3 (hm (e0.key,e0.val) (by rw[<-he]; exact List.mem_map.2 ⟨e0,List.mem_of_getElem? h2,rfl⟩))
end
theorem Ez :laidOutB Tryz.prog=true:=by kernel_rfl
end Go.Proofs.YtnjkpcalgoefhaaGreatDoor
namespace Go.Proofs.YtnjkpcalgoefhaaGreatDoor
open Go.RowKit
def wm (data:List UInt8) (most:Nat) (s:RS):List UInt8×RS:=rv [] (dZ data s.off most) s
def jJ (data:List UInt8) (s:RS):Nat×RS:=rv 0 (ic data s.off) s
def smP (data:List UInt8) (s:RS):List UInt8×RS:=rv [] (el data s.off 32) s
def BW (data:List UInt8) (most:Nat) (s:RS):Nat×RS:=rv 0 (go data s.off most) s
def qD (n:Nat):Int:=wrap64 (n:Int)
theorem Gc (n:Nat):(Lit.int .i64 (qD n)).wf=true:=by
 exact wrap64_wf _
theorem GA (rb:Nat) (v:Value) (data:List UInt8) (s:RS) (w:World) (hr:mQ w rb v data s):
  Calls Tryz.prog 53 #[.pointer (some ⟨rb,0,none⟩)] w fun e w'=> ∃bs s1,smP data s=(bs,s1)/\e= .returned (.string ⟨bs.toArray⟩)/\mQ w' rb v data s1/\w.grownBy w' (some rb):=
 (Fk rb v data s w hr).mono fun _ _ ⟨h1,h2,h3⟩=>⟨_,_,rfl,h1,h2,h3⟩
theorem nw (rb:Nat) (v:Value) (data:List UInt8) (s:RS) (w:World) (hr:mQ w rb v data s):
  Calls Tryz.prog 49 #[.pointer (some ⟨rb,0,none⟩)] w fun e w'=> ∃n s1,jJ data s=(n,s1)/\e= .returned (.int .u64 (n:Int))/\mQ w' rb v data s1/\w.grownBy w' (some rb):=
 (DC rb v data s w hr).mono fun _ _ ⟨h1,h2,h3⟩=>⟨_,_,rfl,h1,h2,h3⟩
theorem Dx (rb:Nat) (v:Value) (data:List UInt8) (s:RS) (most:Nat) (w:World) (hr:mQ w rb v data s) (hm:most<=2000000):
  Calls Tryz.prog 51 #[.pointer (some ⟨rb,0,none⟩), .int .i64 (most:Int)] w fun e w'=> ∃bs s1,wm data most s=(bs,s1)/\e= .returned (.string ⟨bs.toArray⟩)/\mQ w' rb v data s1/\w.grownBy w' (some rb):=
 (Dw rb v data s most w hr hm).mono fun _ _ ⟨h1,h2,h3⟩=>⟨_,_,rfl,h1,h2,h3⟩
theorem yA (rb:Nat) (v:Value) (data:List UInt8) (s:RS) (most:Nat) (w:World) (hr:mQ w rb v data s) (hm:most<=2000000):
  Calls Tryz.prog 50 #[.pointer (some ⟨rb,0,none⟩), .int .i64 (most:Int)] w fun e w'=> ∃n s1,BW data most s=(n,s1)/\e= .returned (.int .i64 (n:Int))/\mQ w' rb v data s1/\w.grownBy w' (some rb):=
 (zD rb v data s most w hr hm).mono fun _ _ ⟨h1,h2,h3⟩=>⟨_,_,rfl,h1,h2,h3⟩
theorem Gr {w w':World} {r b:Nat} {o:Obj} (hg:w.grownBy w' (some r)) (h:w.heap[b]? =some o) (hne:b≠r):w'.heap[b]? =some o:=
 (hg.block b ((Array.getElem?_eq_some_iff.1 h).1) (by simpa using hne)).trans h
theorem jQ {w:World} {b:Nat} {o:Obj} (h:w.heap[b]? =some o) (x:Obj):(w.alloc x).heap[b]? =some o:=by
 rw[Below.heap_alloc _ _ _ ((Array.getElem?_eq_some_iff.1 h).1)]; exact h
theorem oq {w:World} {b k:Nat} {cs:Array Value} {t:TypeId} (h:w.heap[b]? =some (.cells cs t (0,0))) (x:Value):(w.setCell ⟨b,k,none⟩ x).heap[b]? =some (.cells (cs.setIfInBounds k x) t (0,0)):=by
 simp only[World.setCell,Array.getElem?_modify,if_true,h,Option.map_some]; rfl
theorem zJ {w w':World} {r:Option Nat} {b:Nat} (h:w.grownBy w' r) (hb:w.heap.size<=b) {k:Nat} (x:Value):w.grownBy (w'.setCell ⟨b,k,none⟩ x) r:=
 ⟨h.os,h.tape,h.output,by have:=h.size; simpa [World.setCell]using this,fun i hi hn=>by rw[Below.heap_setCell _ _ _ _ (by show i≠b; omega)]; exact h.block i hi hn⟩
theorem Fh (data:List UInt8) (s:RS):(smP data s).1.length<=32:=by
 unfold smP rv el
 split
 ·split
  ·rename_i x o h
   split at h
   ·simp at h
   ·simp only[Except.ok.injEq,Prod.mk.injEq]at h;obtain⟨rfl,rfl⟩:=h
    simp; omega
  ·simp
 ·simp
theorem aX {α:Type} {l:List α} {k:Nat} {x:α} (h:l[k]? =some x):l.take (k+1)=l.take k++[x]:=by
 obtain⟨hk,rfl⟩:=List.getElem?_eq_some_iff.1 h;exact List.take_succ_eq_append_getElem hk
theorem jP {α:Type} {p:α->Bool} {l:List α} {k:Nat} {x:α} (h:(l.take k).all p=true) (hx:l[k]? =some x) (hp:p x=true):(l.take (k+1)).all p=true:=by
 rw[aX hx,List.all_append,h]; simp[hp]
theorem iV {α:Type} {p:α->Bool} {l:List α} {k:Nat} {x:α} (hx:l[k]? =some x) (hp:p x=false):l.all p=false:=by
 rw[List.all_eq_false];exact⟨x,List.mem_of_getElem? hx,by rw[hp]; simp⟩
end Go.Proofs.YtnjkpcalgoefhaaGreatDoor
namespace Go.Proofs.YtnjkpcalgoefhaaGreatDoor
open Go
section
variable {P : Program} {md : Region.Mode} {Q : Exit → Act → World → Prop}
def rh (P:Program) (ops:Array Oper) (m:Nat) (Q:Exit->Act->World->Prop):Exit->Act->World->Prop
 | .normal,a,w=>wpOp P ops Q m (fun a' w'=>Q .normal a' w') a w
 | e,a,w=>Q e a w
def ve (md:Region.Mode) (L:List Oper):Bool:=
 wU md L.toArray (L.length-1) && decide (0<L.length) &&
 ((List.range L.length).all fun i=>match L[i]? with | some x=>x.after.all (fun e=>decide (e.on<i)) && (match x.guard with | none=>true | some (j,_)=>decide (j<i)) | none=>true)
theorem tJ {L:List Oper} {i:Nat} (hi:i<L.length-1):L.dropLast.toArray[i]? =L.toArray[i]? :=by
 simp[hi]
theorem DI {L:List Oper} {i m:Nat} (hi:i<L.length-1) (hg: ∀(x:Oper) (j:Nat) (b:Bool),L[i]? =some x->x.guard=some (j,b)->j<i) {K:Act->World->Prop} {a:Act} {w:World}
  (h:wpOp P L.dropLast.toArray (rh P L.toArray m Q) i K a w):wpOp P L.toArray Q i K a w:=by
 unfold wpOp at h ⊢;rw[tJ hi]at h
 cases hx:L.toArray[i]? with
 | none=>rw[hx]at h; exact h
 | some x=>
  rw[hx]at h;simp only at h ⊢;have hw:Region.wanted x (yielded L.dropLast.toArray a.tmps)=Region.wanted x (yielded L.toArray a.tmps):=by
   unfold Region.wanted
   cases hgd:x.guard with
   | none=>rfl
   | some p=>
    obtain⟨j,b⟩:=p;have hj:=hg x j b (by simpa using hx) hgd;simp only[yielded];rw[tJ (by omega)]
  rw[hw]at h
  split at h
  ·rename_i hh;rw[if_pos hh];exact h
  ·rename_i hh;rw[if_neg hh];exact h
theorem sP {ops:Array Oper} {listed:Array Bool} {a:Act} {w:World} (hr:Region.ready md ops listed=[]) (h:Q .normal a w): ∀fuel,wpAny P md ops Q fuel listed a w
 | 0=>⟨hr,h⟩
 | _+1=>⟨fun _=>h,by rw[hr]; simp⟩
theorem kR {L:List Oper} {i:Nat} {listed:Array Bool} (hi:i<L.length-1):i∈Region.ready md L.dropLast.toArray listed<->i∈Region.ready md L.toArray listed:=by
 rw[mem_ready,mem_ready,tJ hi]
theorem yH {listed:Array Bool} {i:Nat} (hi:i<listed.size) (h:listed.getD i true=true):listed.getD i false=true:=by
 simp[hi]at h ⊢; exact h
theorem km {L:List Oper} {i:Nat} {listed:Array Bool} (h:i∈Region.ready md L.toArray listed):i<L.length:=by
 obtain⟨_,o,ho,_⟩:=mem_ready.1 h
 simpa using (Array.getElem?_eq_some_iff.1 ho).1
theorem BK {L:List Oper} {listed:Array Bool} (hs:listed.size=L.length) (hback: ∀(i:Nat) (x:Oper),L[i]? =some x-> ∀e∈x.after,e.on<i) (hr:Region.ready md L.dropLast.toArray listed=[]):
  ∀(n i:Nat),i<n->i<L.length-1->listed.getD i true=true
 | 0,i,hn,_=>by omega
 | n+1,i,hn,hi=>by
  cases hg:listed.getD i true with
  | true=>rfl
  | false=>
   exfalso
   obtain⟨x,hx⟩: ∃x,L[i]? =some x:=⟨L[i]'(by omega),by simp⟩;have:i∈Region.ready md L.dropLast.toArray listed:=by
    rw[kR hi,mem_ready];refine⟨hg,x,by simpa using hx,fun e he _=> ?_⟩;have hb:=hback i x hx e he;exact yH (by omega) (BK hs hback hr n e.on (by omega) (by omega))
   rw[hr]at this
   cases this
theorem yr {L:List Oper} (hc:wU md L.toArray (L.length-1)=true) (hpos:0<L.length) (hback: ∀(i:Nat) (x:Oper),L[i]? =some x-> ∀e∈x.after,e.on<i) (hg: ∀(i:Nat) (x:Oper) (j:Nat) (b:Bool),L[i]? =some x->x.guard=some (j,b)->j<i):
  ∀(fuel:Nat) (listed:Array Bool) (a:Act) (w:World),HeadInv md L.toArray (L.length-1) listed->wpAny P md L.dropLast.toArray (rh P L.toArray (L.length-1) Q) fuel listed a w->wpAny P md L.toArray Q (fuel+1) listed a w:=by
 have hlast: ∀listed:Array Bool,HeadInv md L.toArray (L.length-1) listed->Region.ready md L.dropLast.toArray listed=[]->(L.length-1)∈Region.ready md L.toArray listed:=fun listed inv hr=>by
  have hs:listed.size=L.length:=by simpa using inv.size
  obtain⟨x,hx⟩: ∃x,L[L.length-1]? =some x:=⟨L[L.length-1]'(by omega),by simp⟩;rw[mem_ready];refine⟨inv.tail _ (Nat.le_refl _) (by simp; omega),x,by simpa using hx,fun e he _=> ?_⟩;have hb:=hback _ x hx e he;exact yH (by omega) (BK hs hback hr L.length e.on (by omega) (by omega))
 have hne: ∀listed:Array Bool,HeadInv md L.toArray (L.length-1) listed->Region.ready md L.toArray listed≠[]:=fun listed inv e=>by
  cases hr:Region.ready md L.dropLast.toArray listed with
  | nil=>have:=hlast listed inv hr; rw[e]at this; cases this
  | cons i r=>
   have hi:i∈Region.ready md L.dropLast.toArray listed:=by rw[hr]; simp
   have hlt:=km hi;simp only[List.length_dropLast]at hlt;rw[kR hlt,e]at hi
   cases hi
 have hfin: ∀listed:Array Bool,HeadInv md L.toArray (L.length-1) listed->(L.length-1)∈Region.ready md L.toArray listed->Region.ready md L.dropLast.toArray listed=[]/\Region.ready md L.toArray (listed.setIfInBounds (L.length-1) true)=[]:=fun listed inv hm=>by
  have hs:listed.size=L.length:=by simpa using inv.size
  have hall: ∀i,i<L.length-1->listed.getD i true=true:=fun i hi=>by
   cases hgd:listed.getD i true with
   | true=>rfl
   | false=>exact absurd hm (mW hc inv _ i rfl hi hgd _ (Nat.le_refl _))
  constructor
  ·rw[List.eq_nil_iff_forall_not_mem];intro i hi;have hlt:=km hi;simp only[List.length_dropLast]at hlt;have:=(mem_ready.1 hi).1;rw[hall i hlt]at this
   cases this
  ·rw[List.eq_nil_iff_forall_not_mem];intro i hi;have hlt:=km hi;have h1:=(mem_ready.1 hi).1
   by_cases e:i=L.length-1
   ·rw[e]at h1;simp[hs]at h1
   ·rw[getD_set_ne true (Ne.symm e),hall i (by omega)]at h1
    cases h1
 intro fuel
 induction fuel with
 | zero=>
  intro listed a w inv h;refine⟨fun e=>absurd e (hne listed inv),fun i hi=> ?_⟩;have hlt:=km hi
  by_cases e:i=L.length-1
  ·subst e;exact wpOp_mono (fun a' w' h'=>sP (hfin listed inv hi).2 h' 0) h.2
  ·have:=(kR (by omega)).2 hi;rw[h.1]at this
   cases this
 | succ fuel ih=>
  intro listed a w inv h;refine⟨fun e=>absurd e (hne listed inv),fun i hi=> ?_⟩;have hlt:=km hi
  by_cases e:i=L.length-1
  ·subst e;exact wpOp_mono (fun a' w' h'=>sP (hfin listed inv hi).2 h' (fuel+1)) (h.1 (hfin listed inv hi).1)
  ·have hi':i<L.length-1:=by omega
   refine DI hi' (fun x j b hx hgd=>hg i x j b hx hgd) (wpOp_mono (fun a' w' h'=>ih _ a' w' (inv.set hi hi') h') (h.2 i ((kR hi').2 hi)))
theorem uT {ops:Array Oper} {m:Nat} :HeadInv md ops m (Array.replicate ops.size false):=by
 refine⟨by simp,fun j oj hj hl=> ?_,fun t _ ht=>by simp[ht]⟩;have:=(Array.getElem?_eq_some_iff.1 hj).1;simp[this]at hl
theorem cL {id:Nat} {a:Act} {w:World} {L:List Oper} (S:World->Prop) (hm:P.follows .mixedOrders=true) (hB:ve .any L=true)
  (h:tU P L.dropLast.toArray (rh P L.toArray (L.length-1) Q) S (L.length-1) (Array.replicate L.length false) a w.drew):(Code.region id L.toArray true).wp P Q a w:=by
 simp only[ve,Bool.and_eq_true,decide_eq_true_eq]at hB;obtain⟨⟨hc,hpos⟩,hall⟩:=hB;have hall': ∀(i:Nat) (x:Oper),L[i]? =some x->(∀e∈x.after,e.on<i)/\ ∀j b,x.guard=some (j,b)->j<i:=fun i x hx=>by
  have:=List.all_eq_true.1 hall i (List.mem_range.2 (List.getElem?_eq_some_iff.1 hx).1);rw[hx]at this;simp only[Bool.and_eq_true]at this;refine⟨fun e he=> ?_,fun j b hg=> ?_⟩
  ·have:=Array.all_eq_true'.1 this.1 e he
   simpa using this
  ·have:=this.2;rw[hg]at this
   simpa using this
 refine wp_region_any hm ?_;have:=yr hc hpos (fun i x hx=>(hall' i x hx).1) (fun i x j b hx=>(hall' i x hx).2 j b) (L.length-1) _ a w.drew uT (wpAny_of_held _ _ _ _ (by simpa using h.out));rw[show L.length-1+1=L.length by omega]at this
 simpa using this
theorem dd {L:List Oper} {m:Nat} {a:Act} {w:World} {dst:Option Tmp} {op:Op} {ty:TypeId} {pos:String} {aft:Array Edge} {g:Option (Nat×Bool)} (hi:L[m]? =some ⟨dst,op,ty,pos,aft,g⟩) (hw:Region.wanted ⟨dst,op,ty,pos,aft,g⟩ (yielded L.toArray a.tmps)=true)
  (h: ∀K:Act->World->Prop,(∀a w,Q .normal a w->K a w)->wpList P #[] (Exit.then K Q) [⟨dst,op,ty,pos, #[],none⟩] a w):rh P L.toArray m Q .normal a w:=by
 show wpOp P L.toArray Q m _ a w
 have hb:wB P L.toArray (fun a' w'=>Q .normal a' w') Q [⟨dst,op,ty,pos,aft,g⟩] a w:=bE hw (fun K hK=>h K (fun a w hh=>hK a w hh));unfold wpOp;have hi':L.toArray[m]? =some ⟨dst,op,ty,pos,aft,g⟩:=by simpa using hi
 simp only[hi'];exact wB.out hb
end
end Go.Proofs.YtnjkpcalgoefhaaGreatDoor
namespace Go.Proofs.YtnjkpcalgoefhaaGreatDoor
open Go.RowKit
theorem Tryz.appBytes :cY Tryz.prog 28 5 1 1:=cY.mk' (z:= .int .u8 0) Tryz.underlying28 (by kernel_rfl) rfl (by decide) (by decide)
def bi (S:Nat->Prop) (w:World) (v:Value) (bs:List UInt8):Prop:=aS S w 1 v bs.length (bs.map aN)
def Gh (bs:List UInt8) (w:World) (e:Ending) (w':World):Prop:= ∃rb dv,e= .returned (.pointer (some ⟨rb,0,none⟩))/\w.heap.size<=rb/\mQ w' rb dv bs ⟨0,0,0⟩/\Below w.heap.size w w'
theorem fD (bs:List UInt8): ∀u∈bs.map aN,u.oneCell'=true:=fun u hu=>by
 obtain⟨b,_,rfl⟩:=List.mem_map.1 hu
 rfl
theorem qR (S:Nat->Prop) (bs:List UInt8) (v:Value) (w:World) (hv:bi S w v bs) (hl:bs.length<=32768):Calls Tryz.prog 48 #[v] w (Gh bs w):=by
 obtain⟨_,a,cap,rfl,hn,hm,-⟩:=id hv;unfold maxLen at hm;have HV:=ab (show aS S (w.alloc (.cells #[] 5)) 1 (.slice a bs.length cap) bs.length (bs.map aN)from aS.below hv (by omega) ((Below.refl _ _).alloc (Nat.le_refl _) _));have HO:=ab (World.ownsRow_made (base:=w.heap.size) (e:=5) (size:=1) w #[] 0 (Nat.le_refl _) (by unfold maxLen; omega) rfl);clear hv
 go_enter Tryz.func48,Tryz.ntmps48
 go_wp2_with (at_builtin; go_must (refine bI Tryz.appBytes rfl _ _ rfl w.heap.size _ 0 [] rfl HO.out _ bs.length (bs.map aN) rfl HV.out (fD bs) (by omega) (by simp) ?_); intro v5 w5 hown5 hgrow5; rw[Nat.zero_add,List.nil_append]at hown5; have HO5:=ab hown5; obtain⟨a5,c5,rfl,hn5,hm5⟩:=au hown5; have HB5:=ab (show Below w.heap.size w w5 from aZ ((Below.refl w.heap.size w).alloc (Nat.le_refl _) _) HO.out hgrow5 (Nat.le_refl _) (by simp)); clear hown5 hgrow5)
 go_ret;refine⟨w5.heap.size,_,rfl,HB5.out.size,⟨heap_alloc_new w5 _, ?_,Nat.zero_le _,Nat.zero_le _,hl⟩,HB5.out.alloc HB5.out.size _⟩;have hr:=aS.below (bp HO5.out) (by omega) ((Below.refl w5.heap.size w5).alloc (Nat.le_refl _) (.cells #[.slice a5 bs.length c5, .int .i64 0, .int .i64 0, .int .i64 0] 161));refine hr.weak (fun k hk e=> ?_);have:=(HO5.out.lt k hk.2).2;omega
theorem BX (data:List UInt8) (most:Nat) (s:RS):(BW data most s).1<=most:=by
 unfold BW rv
 split
 ·split
  ·rename_i x o h;exact(mY h).1
  ·exact Nat.zero_le _
 ·exact Nat.zero_le _
theorem zh (data:List UInt8) (most:Nat) (s:RS):(wm data most s).1.length<=most:=by
 unfold wm rv
 split
 ·split
  ·rename_i x o h;unfold dZ at h
   split at h
   ·simp at h
   ·rename_i n o' hn;unfold el at h
    split at h
    ·simp at h
    ·simp only[Except.ok.injEq,Prod.mk.injEq]at h;obtain⟨rfl,rfl⟩:=h;have:=(mY hn).1
     simp; omega
  ·exact Nat.zero_le _
 ·exact Nat.zero_le _
structure ed (rb ib : Nat) (wr wc : World) (dv : Value) (data : List UInt8) (s : RS) (cs : Array Value) : Prop where
 rd:mQ wc rb dv data s
 rd0: ∃s0,mQ wr rb dv data s0
 box:wc.heap[ib]? =some (.cells cs 27 (0,0))
 grown:wr.grownBy wc (some rb)
 ge:wr.heap.size<=ib
theorem ed.lt {rb ib:Nat} {wr wc:World} {dv:Value} {data:List UInt8} {s:RS} {cs:Array Value} (h:ed rb ib wr wc dv data s cs):rb<wr.heap.size:=by
 obtain⟨s0,h0⟩:=h.rd0;exact aW.lt h0
theorem ed.call {rb ib:Nat} {wr wc w':World} {dv:Value} {data:List UInt8} {s s':RS} {cs:Array Value} (h:ed rb ib wr wc dv data s cs) (h1:mQ w' rb dv data s') (h2:wc.grownBy w' (some rb)):ed rb ib wr w' dv data s' cs:=
 ⟨h1,h.rd0,Gr h2 h.box (by have:=h.lt; have:=h.ge; omega),aR h.grown h2,h.ge⟩
theorem ed.set {rb ib:Nat} {wr wc:World} {dv:Value} {data:List UInt8} {s:RS} {cs:Array Value} (h:ed rb ib wr wc dv data s cs) (k:Nat) (x:Value):ed rb ib wr (wc.setCell ⟨ib,k,none⟩ x) dv data s (cs.setIfInBounds k x):=by
 obtain⟨s0,h0⟩:=h.rd0;exact⟨aW.setOther h0 h.rd h.ge x,h.rd0,oq h.box x,zJ h.grown h.ge x,h.ge⟩
theorem ed.below {rb ib:Nat} {wr wc w':World} {dv:Value} {data:List UInt8} {s:RS} {cs:Array Value} (h:ed rb ib wr wc dv data s cs) (hb:Below wc.heap.size wc w'):ed rb ib wr w' dv data s cs:=
 ⟨aW.below h.rd hb,h.rd0,(hb.block ib ((Array.getElem?_eq_some_iff.1 h.box).1)).trans h.box,aR h.grown (cw hb _),h.ge⟩
theorem ed.start {rb:Nat} {wr w2:World} {dv:Value} {data:List UInt8} {s s2:RS} (h0:mQ wr rb dv data s) (h1:mQ w2 rb dv data s2) (h2:wr.grownBy w2 (some rb)) (cs:Array Value):
  ed rb w2.heap.size wr (w2.alloc (.cells cs 27)) dv data s2 cs:=
 ⟨aW.below h1 ((Below.refl _ _).alloc (Nat.le_refl _) _),⟨s,h0⟩,heap_alloc_new w2 _,aR h2 (cw ((Below.refl _ _).alloc (Nat.le_refl _) _) _),h2.size⟩
theorem ed.cell {rb ib:Nat} {wr wc:World} {dv:Value} {data:List UInt8} {s:RS} {cs:Array Value} (h:ed rb ib wr wc dv data s cs) (k:Nat):wc.cell? ⟨ib,k,none⟩=cs[k]? :=ai h.box
theorem ed.free {rb ib:Nat} {wr wc:World} {dv:Value} {data:List UInt8} {s:RS} {cs:Array Value} (h:ed rb ib wr wc dv data s cs) (k:Nat):wc.frozen? ⟨ib,k,none⟩=false:=aO h.box
theorem aW.keep {w1 wc w':World} {rb:Nat} {v:Value} {data:List UInt8} {off last off0 last0:Nat} {err err0:Int} (h0:aW w1 rb v data off0 last0 err0) (h:aW wc rb v data off last err) (hs: ∀k,k<w1.heap.size->w'.heap[k]? =wc.heap[k]?):aW w' rb v data off last err:=by
 have h1:=h0.lt;have hr0:=h0.row.mono (T:=fun k=>k≠rb/\k<w1.heap.size) (fun k hk hS=>⟨hS,hk⟩) (by omega);obtain⟨_,a0,cap0,hv0,_,_,h00⟩:=hr0;obtain⟨hl,a,cap,hv,hn,hm,h2⟩:=h.row;refine⟨(hs rb h1).trans h.box,⟨hl,a,cap,hv,hn,hm, ?_⟩,h.le,h.ls,h.small⟩
 rcases h2 with h2 | ⟨bk,o,rfl,hk,hc⟩
 ·exact .inl h2
 ·rcases h00 with h00 | ⟨bk0,o0,rfl,hk0,_⟩
  ·exact .inl h00
  ·rw[hv0]at hv
   cases hv
   refine .inr ⟨bk,o,rfl,hk,fun j u hj=> ?_⟩;rw[<-hc j u hj];exact World.cell?_of_block (hs bk hk0.2)
theorem ed.app {rb ib:Nat} {wr wc w':World} {dv:Value} {data:List UInt8} {s:RS} {cs:Array Value} {r:Option Nat} (h:ed rb ib wr wc dv data s cs) (h2:wc.grownBy w' r) (hr: ∀k,r=some k->ib<k):ed rb ib wr w' dv data s cs:=by
 obtain⟨s0,h0⟩:=h.rd0;have hg:=h.grown.size;have hge:=h.ge;refine⟨aW.keep h0 h.rd (fun k hk=>h2.block k (by omega) (fun e=>by have:=hr k e.symm; omega)),h.rd0, ?_, ?_,h.ge⟩
 ·exact(h2.block ib ((Array.getElem?_eq_some_iff.1 h.box).1) (fun e=>by have:=hr ib e.symm; omega)).trans h.box
 ·refine⟨h2.os.trans h.grown.os,h2.tape.trans h.grown.tape,h2.output.trans h.grown.output,Nat.le_trans hg h2.size,fun k hk hn=> ?_⟩;rw[h2.block k (by omega) (fun e=>by have:=hr k e.symm; omega)];exact h.grown.block k hk hn
theorem eS {w w':World} {base:Nat} {e:TypeId} {sz:Nat} {v:Value} {n:Nat} {xs:List Value} (h:w.ownsRow base e sz v n xs) (hb:Below w.heap.size w w'):w'.ownsRow base e sz v n xs:=
 h.kept (cw hb none) (by cases v.ownBlock<;> simp)
open Go Go.RowKit
def bq (v:V8) (buf:List UInt8) (n:Nat):List Value:=v.list.map gi++(buf.map aN++[.int .i64 (n:Int)])
def lW (w:World) (sb:Nat) (ty:TypeId) (rest:List Value) (data:List UInt8):Prop:=
 ∃buf:List UInt8,buf.length=64/\buf.take (data.length%64)=data.drop (64*(data.length/64))/\w.heap[sb]? =some (.cells (bq (eQ data (data.length/64)) buf data.length++rest).toArray ty (0,0))
theorem bi.call {w w':World} {sb:Nat} {v:Value} {bs:List UInt8} (h:bi (· ≠sb) w v bs) (hg:w.grownBy w' (some sb)):bi (· ≠sb) w' v bs:=by
 have h2:=aS.mono (T:=fun k=>k≠sb/\k<w.heap.size) h (fun k hk hS=>⟨hS,hk⟩) (by omega);exact(aS.same h2 (fun k hk=>hg.block k hk.2 (fun e=>hk.1 (Option.some.inj e)))).weak (fun k hk=>hk.1)
theorem lO {S:Nat->Prop} {w:World} {a:Option Addr} {n cap:Nat} {bs:List UInt8} (h:bi S w (.slice a n cap) bs) {k:Nat} (hk:k<=bs.length):
  ∃a' cap',(∀w',(Instr.slice 28 (.slice a n cap) (some (.int .i64 (k:Int))) none none).run Tryz.prog w'= .ok (.slice a' (bs.drop k).length cap') w')/\bi S w (.slice a' (bs.drop k).length cap') (bs.drop k):=by
 obtain⟨hl,a0,cap0,hv,hn,hm,h0⟩:=h;simp only[Value.slice.injEq]at hv;obtain⟨rfl,rfl,rfl⟩:=hv;have hz: ∀w',(sizeOf (Tryz.prog.elem 28)).run Tryz.prog w'= .ok 1 w':=fun _=>by kernel_rfl
 refine⟨if cap=k then a else a.map (fun p=>p.add k),cap-k,fun w'=> ?_, ?_⟩
 ·rw[run_slice_l _ _ _ _ _ Tryz.underlying28 _ _ (by omega) (by omega),hz];simp only[Result.andThen,sliced,Int.toNat_natCast,Nat.mul_one,List.length_drop]
 ·refine⟨by simp,_,_,rfl,by rw[List.length_drop]; omega,by omega, ?_⟩
  rcases h0 with h0 | ⟨b,o,rfl,hS,hc⟩
  ·exact .inl (by rw[List.length_drop]; omega)
  ·by_cases hlen:(bs.drop k).length=0
   ·exact .inl hlen
   ·rw[List.length_drop]at hlen;refine .inr ⟨b,o+k, ?_,hS,fun j x hj=> ?_⟩
    ·rw[if_neg (by omega),Option.map_some,Addr.add_mid]
    ·rw[Nat.add_assoc];exact hc (k+j) x (by rw[<-hj,List.map_drop,List.getElem?_drop])
theorem vU {S:Nat->Prop} {w:World} {a:Option Addr} {n cap:Nat} {bs:List UInt8} (h:bi S w (.slice a n cap) bs) {k:Nat} (hk:k<=bs.length) (h0:0<k):
  (∀w',(Instr.slice 28 (.slice a n cap) none (some (.int .i64 (k:Int))) none).run Tryz.prog w'= .ok (.slice a k cap) w')/\bi S w (.slice a (bs.take k).length cap) (bs.take k)/\ ∃b o,a=some ⟨b,o,none⟩:=by
 obtain⟨hl,a0,cap0,hv,hn,hm,h1⟩:=h;simp only[Value.slice.injEq]at hv;obtain⟨rfl,rfl,rfl⟩:=hv;have hz: ∀w',(sizeOf (Tryz.prog.elem 28)).run Tryz.prog w'= .ok 1 w':=fun _=>by kernel_rfl
 rcases h1 with h1 | ⟨b,o,rfl,hS,hc⟩
 ·omega
 ·refine⟨fun w'=> ?_,⟨by simp,_,_,rfl,by rw[List.length_take]; omega,hm, .inr ⟨b,o,rfl,hS,fun j x hj=> ?_⟩⟩,b,o,rfl⟩
  ·rw[run_slice_h _ _ _ _ _ Tryz.underlying28 _ _ (by omega) (by omega),hz];simp only[Result.andThen,sliced,Int.toNat_natCast,Nat.zero_mul,Nat.sub_zero]
   by_cases hcz:cap=0
   ·omega
   ·rw[if_neg hcz,Option.map_some,Addr.add_mid,Nat.add_zero]
  ·refine hc j x ?_;rw[List.map_take,List.getElem?_take]at hj
   split at hj
   ·exact hj
   ·cases hj
theorem eu {ops:Array Oper} {rest:List Oper} {o:Oper} {a:Act} {Q:Exit->Act->World->Prop} {w:World} (hgd:o.guard=none) (d s:Operand)
  (ho:o.op= .call {callee:= .builtin .copy,args:= #[d,s],argTypes:= #[28,28]}) (g off dLen dCap:Nat) (sp:Option Addr) (sLen sCap:Nat) (hd:a.eval d= .slice (some ⟨g,off,none⟩) dLen dCap) (hs:a.eval s= .slice sp sLen sCap)
  (cur:List Value) (t:TypeId) (hg:w.heap[g]? =some (.cells cur.toArray t (0,0))) (S:Nat->Prop) (bs:List UInt8) (hb:bi S w (.slice sp sLen sCap) bs) (k:Nat) (hk:k=Nat.min bs.length dLen) (hfit:off+dLen<=cur.length)
  (h: ∀w',w'.heap[g]? =some (.cells (splice cur off ((bs.take k).map aN)).toArray t (0,0))->w.grownBy w' (some g)->wpList Tryz.prog ops Q rest (a.put o.dst (.int .i64 (k:Int))) w'):wpList Tryz.prog ops Q (o::rest) a w:=by
 obtain⟨hl,a0,cap0,hv,hn,hm,h1⟩:=hb;simp only[Value.slice.injEq]at hv;obtain⟨rfl,rfl,rfl⟩:=hv
 by_cases hk0:k=0
 ·subst hk0;refine wpList_copy_nothing hgd d s _ _ ho 5 Tryz.underlying28 (by kernel_rfl) _ _ _ _ _ _ hd hs (by rw[<-hk]) ?_;refine h w ?_ (jf w _);rw[hg,List.take_zero,List.map_nil];simp[splice]
 ·have hkb:k<=bs.length:=by rw[hk]; exact Nat.min_le_left _ _
  have hkd:k<=dLen:=by rw[hk]; exact Nat.min_le_right _ _
  rcases h1 with h1 | ⟨b,o2,rfl,hS,hc⟩
  ·omega
  ·have hlen:((bs.take k).map aN).length=k:=by rw[List.length_map,List.length_take]; omega
   refine wpList_copy_own hgd d s _ _ ho 5 Tryz.underlying28 (by kernel_rfl) g off dLen dCap ⟨b,o2,none⟩ bs.length sCap hd hs cur.toArray t hg ((bs.take k).map aN) (by rw[hlen,hk]) (fun j x hj=> ?_) (by rw[hlen,List.size_toArray]; omega) (fun v hv=>by obtain⟨x,_,rfl⟩:=List.mem_map.1 hv; rfl) ?_
   ·rw[Addr.add_mid];refine hc j x ?_;rw[List.map_take,List.getElem?_take]at hj
    split at hj
    ·exact hj
    ·cases hj
   ·rw[hlen];refine h _ ?_ ?_
    ·rw[setRow_heap w g _ _ t _ hg];simp only[splice,hlen]
    ·exact⟨rfl,rfl,rfl,by simp[World.setRow],fun i _ hne=>setRow_other w g i _ (fun e=>hne (by rw[e]))⟩
theorem jm (v:V8) {buf:List UInt8} (h:buf.length=64) (n:Nat):(bq v buf n).length=73:=by unfold bq V8.list; simp[h]
theorem sC (v:V8) {buf:List UInt8} (h:buf.length=64) (n:Nat) (rest:List Value):(bq v buf n++rest).toArray[72]? =some (.int .i64 (n:Int)):=by
 rw[List.getElem?_toArray,List.getElem?_append_left (by rw[jm v h]; decide)];unfold bq;rw[List.getElem?_append_right (by simp[V8.list]),List.getElem?_append_right (by simp[V8.list,h])];simp[V8.list,h]
theorem AY (v:V8) {buf:List UInt8} (h:buf.length=64) (n n':Nat) (rest:List Value):(bq v buf n++rest).set 72 (.int .i64 (n':Int))=bq v buf n'++rest:=by
 rw[List.set_append_left _ _ (by rw[jm v h]; decide)]
 congr 1
 unfold bq;rw[List.set_append_right _ _ (by simp[V8.list]),List.set_append_right _ _ (by simp[V8.list,h])]
 congr 2
 simp[V8.list,h]
theorem dX (v:V8) (buf:List UInt8) (n:Nat) (rest:List Value):bq v buf n++rest=v.list.map gi++(buf.map aN++([.int .i64 (n:Int)]++rest)):=by unfold bq; simp
theorem lN (v:V8) {buf:List UInt8} (h:buf.length=64) (n:Nat) (rest:List Value) {off:Nat} {xs:List UInt8} (ho:off+xs.length<=64):splice (bq v buf n++rest) (8+off) (xs.map aN)=bq v (splice buf off xs) n++rest:=by
 have e: ∀(A B C:List Value),A.length=8->B.length=64->splice (A++(B++C)) (8+off) (xs.map aN)=A++(splice B off (xs.map aN)++C):=by
  intro A B C hA hB;unfold splice;have hx:(xs.map aN).length=xs.length:=by simp
  rw[hx,List.take_append,List.drop_append,hA,show 8+off-8=off by omega,show 8+off+xs.length-8=off+xs.length by omega,List.take_of_length_le (by omega),List.drop_eq_nil_of_le (by omega),List.nil_append,List.take_append_of_le_length (by omega),List.drop_append_of_le_length (by omega)];simp
 rw[dX,e _ _ _ (by simp[V8.list]) (by simpa using h),dX]
 congr 2
 unfold splice;simp
theorem jg {buf xs:List UInt8} (h:buf.length=64) {off:Nat} (ho:off+xs.length<=64):(splice buf off xs).length=64:=by rw[length_splice _ _ _ (by omega),h]
structure tX (sb : Nat) (ty : TypeId) (rest : List Value) (D buf : List UInt8) (w wr : World) (j : Nat) : Prop where
 box:wr.heap[sb]? =some (.cells (bq (eQ D j) buf D.length++rest).toArray ty (0,0))
 len:buf.length=64
 grown:w.grownBy wr (some sb)
theorem gH.grown {w wr:World} {sb:Nat} (h:gH w) (hne:sb≠4) (hg:w.grownBy wr (some sb)) (hlt:4<w.heap.size):gH wr:=by
 intro j x hj;rw[<-h j x hj];exact World.cell?_of_block (hg.block _ hlt (fun e=>hne (Option.some.inj e).symm))
theorem Fc (v:V8) {buf:List UInt8} (n:Nat) (rest:List Value) {j:Nat} {x:UInt8} (hj:buf[j]? =some x):(bq v buf n++rest).toArray[8+j]? =some (aN x):=by
 have hlt:=(List.getElem?_eq_some_iff.1 hj).1;rw[List.getElem?_toArray,dX,List.getElem?_append_right (by simp[V8.list]),List.getElem?_append_left (by simp[V8.list]; omega)];rw[show 8+j-(List.map gi v.list).length=j by simp[V8.list],List.getElem?_map,hj]; rfl
theorem rH {data xs:List UInt8} {q:Nat} (h:64*q<=data.length):(data++xs).drop (64*q)=data.drop (64*q)++xs:=List.drop_append_of_le_length h
theorem vV {buf xs:List UInt8} {u:Nat} (hb:buf.length=64) (hx:u+xs.length=64):splice buf u xs=buf.take u++xs:=by
 unfold splice;rw[hx,List.drop_eq_nil_of_le (by omega),List.append_nil]
def EA :Value->Nat
 | .slice _ n _=>n
 | _=>0
def yo (sb:Nat) (ty:TypeId) (rest:List Value) (D:List UInt8) (w:World) (x:Value) (wr:World):Prop:=
 ∃(j rl cap:Nat) (a:Option Addr) (buf:List UInt8),rl=(D.drop (64*j)).length/\64*j<=D.length/\x= .slice a rl cap/\bi (· ≠sb) wr (.slice a rl cap) (D.drop (64*j))/\tX sb ty rest D buf w wr j
theorem tX.done {sb:Nat} {ty:TypeId} {rest:List Value} {D buf:List UInt8} {w wr w':World} {j:Nat} (h:tX sb ty rest D buf w wr j) (hj:64*j<=D.length) (hl:(D.drop (64*j)).length<64)
  (hb:w'.heap[sb]? =some (.cells (splice (bq (eQ D j) buf D.length++rest) 8 (((D.drop (64*j)).take (D.drop (64*j)).length).map aN)).toArray ty (0,0))) (hg:wr.grownBy w' (some sb)):lW w' sb ty rest D/\w.grownBy w' (some sb):=by
 have e:D.length/64=j:=by rw[List.length_drop]at hl; omega
 have e2:D.length%64=(D.drop (64*j)).length:=by rw[List.length_drop]at hl ⊢; omega
 refine⟨⟨splice buf 0 (D.drop (64*j)),jg h.len (by omega), ?_, ?_⟩,aR h.grown hg⟩
 ·rw[e2,e];unfold splice;rw[List.take_zero,List.nil_append,List.take_left]
 ·rw[hb,List.take_length,e,lN _ h.len D.length rest (off:=0) (by omega)]
theorem mL (sb:Nat) (ty:TypeId) (rest:List Value) (data xs:List UInt8) (xv:Value) (w:World) (h:lW w sb ty rest data) (hx:bi (· ≠sb) w xv xs) (hlen:data.length+xs.length<1152921504606846976) (hK:gH w) (hKlt:4<w.heap.size) (hne:sb≠4):
  Calls Tryz.prog 148 #[.pointer (some ⟨sb,0,none⟩),xv] w fun e w'=>e= .returned (.tuple #[])/\lW w' sb ty rest (data++xs)/\w.grownBy w' (some sb):=by
 obtain⟨buf,hb64,htl,hbox⟩:=h;obtain⟨_,a,cap,rfl,hcap,hcm,-⟩:=id hx;have HX:=ab hx;have HBX:=ab hbox;have HTL:=ab htl;have HK:=ab hK;have HL64:=ab hb64;obtain⟨n,hn⟩: ∃n,n=data.length:=⟨_,rfl⟩;obtain⟨m,hm⟩: ∃m,m=xs.length:=⟨_,rfl⟩;rw[<-hn]at HBX hlen;rw[<-hm]at hlen hcap;have c72:=(cell_of_row w _ 72 _ _ _ HBX.out).trans (sC _ hb64 n rest)
 have f72:=frozen_of_row w _ 72 _ _ HBX.out;have HN:=ab (And.intro hn hm);clear hx hbox htl hK hb64;rw[<-hm];clear hn hm
 go_enter Tryz.func148,Tryz.ntmps148
 go_upto_region 2 with(fail)
 obtain⟨W1,hW1⟩: ∃W1,W1=w.setCell ⟨sb,72,none⟩ (.int .i64 ((n:Int)+(m:Int))):=⟨_,rfl⟩;rw[<-hW1];have HB1:=ab (show W1.heap[sb]? =some (.cells (bq (eQ data (n/64)) buf (n+m)++rest).toArray ty (0,0)) by
  rw[hW1,heap_setCell_same w _ _ _ _ _ HBX.out,List.setIfInBounds_toArray,<-AY _ HL64.out n (n+m) rest];rw[Int.natCast_add])
 have HG1:=ab (show w.grownBy W1 (some sb) by rw[hW1]; exact aG w sb 72 _);have HX1:=ab (HX.out.call HG1.out);clear hW1 c72 f72
 by_cases hu:n%64=0
 ·have hui:(n:Int)%64=0:=by omega
  have HLS:=ab (show yo sb ty rest (data++xs) w (.slice a m cap) W1 from by
   have e1:64*(n/64)=data.length:=by have:=HN.out.1; omega
   refine⟨n/64,m,cap,a,buf, ?_,by rw[List.length_append]; omega,rfl, ?_, ?_⟩
   ·rw[e1,List.drop_left]; exact HN.out.2
   ·rw[e1,List.drop_left];have:=HX1.out;rw[<-HN.out.2]at this;exact this
   ·refine⟨?_,HL64.out,HG1.out⟩;rw[lZ xs (by omega),List.length_append,<-HN.out.1,<-HN.out.2];exact HB1.out)
  go_wp2_with fail;clear hui hu
  go_loopw [1] (fun x wr=>yo sb ty rest (data++xs) w x wr) (fun x _=>EA x)
  case atStart=>exact HLS.out
  case round=>
   obtain⟨j,rl,cap2,a2,bf,hrl,hj,rfl,hby,hmid⟩:=hrel;have HRL:=ab hrl;have HBY:=ab hby
   have HMD:=ab hmid;have hrl2:rl<1152921504606846976:=by
    have:=HN.out;rw[hrl,List.length_drop,List.length_append]; omega
   obtain⟨_,_,_,hveq,hcap2,hcm2,-⟩:=id hby
   simp only[Value.slice.injEq]at hveq;obtain⟨rfl,-,rfl⟩:=hveq;rw[<-hrl]at hcap2;clear hrl hby hmid
   by_cases h64:64<=rl
   ·obtain⟨s1,s2,b,o,rfl⟩:=vU HBY.out (k:=64) (by rw[<-HRL.out]; exact h64) (by decide);obtain⟨a3,cap3,s3,s4⟩:=lO HBY.out (k:=64) (by rw[<-HRL.out]; exact h64);have S1: ∀w',(Instr.slice 28 (.slice (some ⟨b,o,none⟩) rl cap2) none (some (.int .i64 64)) none).run Tryz.prog w'= .ok (.slice (some ⟨b,o,none⟩) 64 cap2) w':=s1;obtain⟨r3,hr3⟩: ∃r3,r3=((List.drop (64*j) (data++xs)).drop 64).length:=⟨_,rfl⟩
    have S3: ∀w',(Instr.slice 28 (.slice (some ⟨b,o,none⟩) rl cap2) (some (.int .i64 64)) none none).run Tryz.prog w'= .ok (.slice a3 r3 cap3) w':=by rw[hr3]; exact s3
    rw[<-hr3]at s4;have HR3:=ab hr3;have S2:=ab s2;have S4:=ab s4;clear s1 s2 s3 s4 hr3;go_wp2_with fail;refine(kk sb (eQ (data++xs) j) (bf.map aN++([.int .i64 ((data++xs).length:Int)]++rest)) ty b o cap2 ((List.drop (64*j) (data++xs)).take 64) wr (by rw[<-dX]; exact HMD.out.box) (tg _ _) (by rw[List.length_take,<-HRL.out]; omega) (by omega) hcm2 ?_ (HK.out.grown hne HMD.out.grown hKlt) (by have:=HMD.out.grown.size; omega)).mono ?_
    ·intro i x hi;obtain⟨_,_,_,hv9,_,_,h9⟩:=S2.out;simp only[Value.slice.injEq]at hv9;rw[<-hv9.1]at h9
     rcases h9 with h9 | ⟨b9,o9,e9,_,h9⟩
     ·rw[List.length_take,<-HRL.out]at h9; omega
     ·simp only[Option.some.injEq,Addr.mk.injEq]at e9;rw[e9.1,e9.2.1];exact h9 i _ (by rw[List.getElem?_map,hi]; rfl)
    ·rintro e w2 ⟨rfl,hb2,hg2⟩;have HM2:=ab (show tX sb ty rest (data++xs) bf w w2 (j+1)from⟨by rw[dX]; exact hb2,HMD.out.len,aR HMD.out.grown hg2⟩);have HY2:=ab (S4.out.call hg2);clear hb2 hg2;go_wp2_with fail
     go_roundw
     case rel=>
      refine⟨j+1,r3,cap3,a3,bf, ?_, ?_,rfl, ?_,HM2.out⟩
      ·rw[HR3.out,List.drop_drop,show 64*j+64=64*(j+1) by omega]
      ·have:=HRL.out;rw[List.length_drop]at this; omega
      ·have:=HY2.out;rw[List.drop_drop,show 64*j+64=64*(j+1) by omega]at this;exact this
     case measure=>
      have h1:=HR3.out;rw[List.length_drop,<-HRL.out]at h1
      show r3<rl
      omega
   ·have hmin:rl=Nat.min (List.drop (64*j) (data++xs)).length 64:=by rw[<-HRL.out]; exact(Nat.min_eq_left (by omega)).symm
    have hfit:8+64<=(bq (eQ (data++xs) j) bf (data++xs).length++rest).length:=by rw[List.length_append,jm _ HMD.out.len]; omega
    have HMIN:=ab hmin;have HFIT:=ab hfit;clear hmin hfit;go_wp2_with (refine eu rfl _ _ rfl sb 8 64 64 a2 rl cap2 rfl rfl (bq (eQ (data++xs) j) bf (data++xs).length++rest) ty HMD.out.box (· ≠sb) (List.drop (64*j) (data++xs)) HBY.out rl HMIN.out HFIT.out ?_; intro w3 hb3 hg3; have HB3:=ab hb3; have HG3:=ab hg3; clear hb3 hg3)
    go_end0
    refine⟨rfl, ?_⟩;refine HMD.out.done hj (by rw[<-HRL.out]; omega) ?_ HG3.out;rw[<-HRL.out]; exact HB3.out
 ·obtain⟨u,hu2⟩: ∃u,u=n%64:=⟨_,rfl⟩;have hui:(n:Int)%64=(u:Int):=by omega
  have hupos:(0:Int)<(u:Int):=by omega
  have hule:(u:Int)<=64:=by omega
  obtain⟨k,hk⟩: ∃k,k=Nat.min xs.length (64-u):=⟨_,rfl⟩;have hkle:k<=xs.length:=by rw[hk]; exact Nat.min_le_left _ _
  have hkle2:k<=64-u:=by rw[hk]; exact Nat.min_le_right _ _
  have hk3:k=xs.length\/k=64-u:=by
   rw[hk]
   rcases Nat.le_total xs.length (64-u)with e | e
   ·exact .inl (Nat.min_eq_left e)
   ·exact .inr (Nat.min_eq_right e)
  have HU:=ab (And.intro hu2 hu);have HKK:=ab hk;have HK3:=ab hk3;have HKL:=ab (And.intro hkle hkle2);have hX1:=HX1.out;rw[<-HN.out.2]at hX1;obtain⟨a4,cap4,s4,y4⟩:=lO hX1 hkle;obtain⟨m4,hm4⟩: ∃m4,m4=(xs.drop k).length:=⟨_,rfl⟩;rw[<-hm4]at s4 y4;have HM4:=ab hm4;have Y4:=ab y4;have HXX:=ab hX1;have HFIT:=ab (show 8+u+(64-u)<=(bq (eQ data (n/64)) buf (n+m)++rest).length by rw[List.length_append,jm _ HL64.out]; omega)
  clear hu hu2 hk hk3 hkle hkle2 hX1 hm4 y4;have hw64:wrap64 ((u:Int)+(k:Int))=(u:Int)+(k:Int):=by unfold wrap64; have:=HKL.out.2; omega
  by_cases hlt:u+k<64
  ·have hlti:(u:Int)+(k:Int)<64:=by omega
   go_wp2_with (refine eu rfl _ _ rfl sb (8+u) (64-u) (64-u) a m cap rfl rfl (bq (eQ data (n/64)) buf (n+m)++rest) ty HB1.out (· ≠sb) xs HXX.out k HKK.out HFIT.out ?_; intro w3 hb3 hg3; have HB3:=ab hb3; have HG3:=ab hg3; clear hb3 hg3);refine bodyPost_ret (results_none rfl _ _ _) rfl ?_;have hk:k=xs.length:=by rcases HK3.out with e | e<;> omega
   have hnl:=HN.out.1;have hml:=HN.out.2;have hun:=HU.out.1;have hq:64*(n/64)<=data.length:=by omega
   refine⟨rfl,⟨splice buf u xs,jg HL64.out (by omega), ?_, ?_⟩,aR HG1.out HG3.out⟩
   ·rw[List.length_append,<-hnl,<-hml,show(n+m)/64=n/64 by omega,show(n+m)%64=u+xs.length by omega,rH hq];have:=HTL.out;rw[<-hnl,<-hun]at this;rw[<-this];unfold splice;rw[<-List.append_assoc,List.take_left' (by rw[List.length_append,List.length_take]; have:=HL64.out; omega)]
   ·rw[HB3.out,hk,List.take_length,lN _ HL64.out _ rest (by omega),List.length_append,<-hnl,<-hml,show(n+m)/64=n/64 by omega,lZ xs hq]
  ·have hge:64<=(u:Int)+(k:Int):=by omega
   have hk:k=64-u:=by have:=HKL.out.2; rcases HK3.out with e | e<;> omega
   have huk:u+k=64:=by have:=HKL.out.2; omega
   have HKE:=ab (And.intro hk huk);clear hk huk;go_wp2_with (refine eu rfl _ _ rfl sb (8+u) (64-u) (64-u) a m cap rfl rfl (bq (eQ data (n/64)) buf (n+m)++rest) ty HB1.out (· ≠sb) xs HXX.out k HKK.out HFIT.out ?_; intro w3 hb3 hg3; have HB3:=ab hb3; have HG3:=ab hg3; clear hb3 hg3);obtain⟨B,hB⟩: ∃B,B=splice buf u (xs.take k):=⟨_,rfl⟩;have hkl:=HKL.out.1
   have htk:(xs.take k).length=k:=by rw[List.length_take]; omega
   have hun:=HU.out.1;have hnl:=HN.out.1;have hml:=HN.out.2;have hq:64*(n/64)<=data.length:=by omega
   have hBl:B.length=64:=by rw[hB]; exact jg HL64.out (by rw[htk]; have:=HKE.out.2; omega)
   have hB3:w3.heap[sb]? =some (.cells (bq (eQ data (n/64)) B (n+m)++rest).toArray ty (0,0)):=by rw[HB3.out,lN _ HL64.out _ rest (by rw[htk]; have:=HKE.out.2; omega),<-hB]
   have hBD:B=((data++xs).drop (64*(n/64))).take 64:=by
    have ht:=HTL.out;rw[<-hnl,<-hun]at ht;rw[hB,vV HL64.out (by rw[htk]; exact HKE.out.2),rH hq,<-ht,List.take_append,List.length_take,HL64.out,Nat.min_eq_left (by omega),<-HKE.out.1,List.take_of_length_le (l:=List.take u buf) (by rw[List.length_take]; omega)]
   have HBL:=ab hBl;have HBD:=ab hBD;have HB4:=ab hB3;clear hkl htk hun hnl hml hq hBl hB3 hBD hB;refine(kk sb (eQ data (n/64)) (B.map aN++([.int .i64 ((n+m:Nat):Int)]++rest)) ty sb 8 64 B w3 (by rw[<-dX]; exact HB4.out) (tg _ _) HBL.out (Nat.le_refl _) (by unfold maxLen; omega) ?_ (HK.out.grown hne (aR HG1.out HG3.out) hKlt) (by have:=HG1.out.size; have:=HG3.out.size; omega)).mono ?_
   ·intro i x hi;rw[cell_of_row w3 _ _ _ _ _ HB4.out,Fc _ _ rest hi]; rfl
   ·rintro e w4 ⟨rfl,hb4,hg4⟩;have hnl:=HN.out.1;have hml:=HN.out.2;have hun:=HU.out.1;have hq:64*(n/64)<=data.length:=by omega
    have hke:=HKE.out.2;have hkl:=HKL.out.1;have HG4:=ab (aR HG1.out (aR HG3.out hg4));have hY:=(Y4.out.call HG3.out).call hg4;have hdr:(data++xs).drop (64*(n/64+1))=xs.drop k:=by
     rw[show 64*(n/64+1)=data.length+k by omega,<-List.drop_drop,List.drop_left]
    have HLS:=ab (show yo sb ty rest (data++xs) w (.slice a4 m4 cap4) w4 from by
     refine⟨n/64+1,m4,cap4,a4,B, ?_,by rw[List.length_append]; omega,rfl, ?_, ?_⟩
     ·rw[hdr]; exact HM4.out
     ·rw[hdr]; exact hY
     ·refine⟨?_,HBL.out,HG4.out⟩;rw[dX,eQ,<-HBD.out,lZ xs hq,List.length_append,<-hnl,<-hml];exact hb4)
    clear hb4 hg4 hnl hml hun hq hke hkl hY hdr;go_wp2_with fail;clear hw64 hlt hge hupos hule hui
    go_loopw [1] (fun x wr=>yo sb ty rest (data++xs) w x wr) (fun x _=>EA x)
    case atStart=>exact HLS.out
    case round=>
     obtain⟨j,rl,cap2,a2,bf,hrl,hj,rfl,hby,hmid⟩:=hrel;have HRL:=ab hrl;have HBY:=ab hby
     have HMD:=ab hmid;have hrl2:rl<1152921504606846976:=by
      have:=HN.out;rw[hrl,List.length_drop,List.length_append]; omega
     obtain⟨_,_,_,hveq,hcap2,hcm2,-⟩:=id hby
     simp only[Value.slice.injEq]at hveq;obtain⟨rfl,-,rfl⟩:=hveq;rw[<-hrl]at hcap2;clear hrl hby hmid
     by_cases h64:64<=rl
     ·obtain⟨s1,s2,b,o,rfl⟩:=vU HBY.out (k:=64) (by rw[<-HRL.out]; exact h64) (by decide);obtain⟨a3,cap3,s3,s4⟩:=lO HBY.out (k:=64) (by rw[<-HRL.out]; exact h64);have S1: ∀w',(Instr.slice 28 (.slice (some ⟨b,o,none⟩) rl cap2) none (some (.int .i64 64)) none).run Tryz.prog w'= .ok (.slice (some ⟨b,o,none⟩) 64 cap2) w':=s1;obtain⟨r3,hr3⟩: ∃r3,r3=((List.drop (64*j) (data++xs)).drop 64).length:=⟨_,rfl⟩
      have S3: ∀w',(Instr.slice 28 (.slice (some ⟨b,o,none⟩) rl cap2) (some (.int .i64 64)) none none).run Tryz.prog w'= .ok (.slice a3 r3 cap3) w':=by rw[hr3]; exact s3
      rw[<-hr3]at s4;have HR3:=ab hr3;have S2:=ab s2;have S4:=ab s4;clear s1 s2 s3 s4 hr3;go_wp2_with fail;refine(kk sb (eQ (data++xs) j) (bf.map aN++([.int .i64 ((data++xs).length:Int)]++rest)) ty b o cap2 ((List.drop (64*j) (data++xs)).take 64) wr (by rw[<-dX]; exact HMD.out.box) (tg _ _) (by rw[List.length_take,<-HRL.out]; omega) (by omega) hcm2 ?_ (HK.out.grown hne HMD.out.grown hKlt) (by have:=HMD.out.grown.size; omega)).mono ?_
      ·intro i x hi;obtain⟨_,_,_,hv9,_,_,h9⟩:=S2.out;simp only[Value.slice.injEq]at hv9;rw[<-hv9.1]at h9
       rcases h9 with h9 | ⟨b9,o9,e9,_,h9⟩
       ·rw[List.length_take,<-HRL.out]at h9; omega
       ·simp only[Option.some.injEq,Addr.mk.injEq]at e9;rw[e9.1,e9.2.1];exact h9 i _ (by rw[List.getElem?_map,hi]; rfl)
      ·rintro e w2 ⟨rfl,hb2,hg2⟩;have HM2:=ab (show tX sb ty rest (data++xs) bf w w2 (j+1)from⟨by rw[dX]; exact hb2,HMD.out.len,aR HMD.out.grown hg2⟩);have HY2:=ab (S4.out.call hg2);clear hb2 hg2;go_wp2_with fail
       go_roundw
       case rel=>
        refine⟨j+1,r3,cap3,a3,bf, ?_, ?_,rfl, ?_,HM2.out⟩
        ·rw[HR3.out,List.drop_drop,show 64*j+64=64*(j+1) by omega]
        ·have:=HRL.out;rw[List.length_drop]at this; omega
        ·have:=HY2.out;rw[List.drop_drop,show 64*j+64=64*(j+1) by omega]at this;exact this
       case measure=>
        have h1:=HR3.out;rw[List.length_drop,<-HRL.out]at h1
        show r3<rl
        omega
     ·have hmin:rl=Nat.min (List.drop (64*j) (data++xs)).length 64:=by rw[<-HRL.out]; exact(Nat.min_eq_left (by omega)).symm
      have hfit:8+64<=(bq (eQ (data++xs) j) bf (data++xs).length++rest).length:=by rw[List.length_append,jm _ HMD.out.len]; omega
      have HMIN:=ab hmin;have HFIT:=ab hfit;clear hmin hfit;go_wp2_with (refine eu rfl _ _ rfl sb 8 64 64 a2 rl cap2 rfl rfl (bq (eQ (data++xs) j) bf (data++xs).length++rest) ty HMD.out.box (· ≠sb) (List.drop (64*j) (data++xs)) HBY.out rl HMIN.out HFIT.out ?_; intro w3 hb3 hg3; have HB3:=ab hb3; have HG3:=ab hg3; clear hb3 hg3)
      go_end0
      refine⟨rfl, ?_⟩;refine HMD.out.done hj (by rw[<-HRL.out]; omega) ?_ HG3.out;rw[<-HRL.out]; exact HB3.out
theorem FM {S:Nat->Prop} {w:World} {v:Value} {bs:List UInt8} (hd:bi S w v bs):(convert 28 9 v).run Tryz.prog w= .ok (.string ⟨bs.toArray⟩) w:=by
 obtain⟨_,a,cap,rfl,hn,hm,h0⟩:=hd
 rcases h0 with h0 | ⟨b,o,rfl,_,hc⟩
 ·obtain rfl:=List.eq_nil_of_length_eq_zero h0
  show(convert 28 9 (.slice a 0 cap)).run Tryz.prog w=_
  cases a<;> kernel_rfl
 ·have h:=run_convert_bytes_arg (P:=Tryz.prog) w 28 5 Tryz.underlying28 Tryz.underlying5 b o bs.length cap (bs.map fun b=>(b.toNat:Int)) (by simp) (fun i hi=>by
   rw[hc i (aN bs[i]) (by simp[hi])];simp[aN,List.getD,hi]) 9 Tryz.underlying9
  rw[qn]at h;exact h
def jM (w:World):Prop:= ∀j x,nz.list[j]? =some x->w.cell? ⟨1,j,none⟩=some (gi x)
def yK :List Value:=[.int .u32 1779033703, .int .u32 3144134277, .int .u32 1013904242, .int .u32 2773480762, .int .u32 1359893119, .int .u32 2600822924, .int .u32 528734635, .int .u32 1541459225]
theorem jM.range {w:World} (h:jM w):w.rangeAt 1 0 yK:=by
 intro j x hj;rw[Nat.zero_add];have h2:yK=nz.list.map gi:=by kernel_rfl
 rw[h2,List.getElem?_map]at hj
 cases hq:nz.list[j]? with
 | none=>rw[hq]at hj; cases hj
 | some y=>
  rw[hq]at hj;rw[h j y hq];exact hj
theorem xQ (w:World) (hI:jM w):Calls Tryz.prog 147 #[] w fun e w'=>e= .returned (.pointer (some ⟨w.heap.size,0,none⟩))/\lW w' w.heap.size 248 [] []/\Below w.heap.size w w'/\w.heap.size<w'.heap.size:=by
 have HR:=ab hI.range;clear hI
 go_enter Tryz.func147,Tryz.ntmps147
 go_wp2_with (first | (refine wpList_load_mid rfl 101 _ rfl 1 0 rfl yK _ HR.out Tryz.underlying101 rfl (by kernel_rfl) ?_) | (refine wpList_build rfl 248 _ rfl (by kernel_rfl) ?_));go_ret;refine⟨rfl,⟨List.replicate 64 0,by simp,by simp, ?_⟩,(Below.refl _ _).alloc (Nat.le_refl _) _,by simp⟩;rw[heap_alloc_new,show(Tryz.prog.built 248 [(0,Value.agg yK.toArray)]).getD #[]=(bq (eQ [] (([]:List UInt8).length/64)) (List.replicate 64 0) ([]:List UInt8).length++[]).toArray by kernel_rfl]
theorem kA {ops:Array Oper} {rest:List Oper} {o:Oper} {a:Act} {Q:Exit->Act->World->Prop} (hgd:o.guard=none) (s x:Operand)
  (ho:o.op= .call {callee:= .builtin .append,args:= #[s,x],argTypes:= #[28,28]}) (base:Nat) (v:Value) (n m:Nat) (xs:List Value) (hs:a.eval s=v) (w0:World) (news:List Value) (e2:TypeId)
  (hx:a.eval x= .slice (some ⟨w0.heap.size,0,none⟩) m m) (hl:news.length=m) (h1: ∀u∈news,u.oneCell'=true) (hown:w0.ownsRow base 5 1 v n xs) (hn:n+m<1099511627775) (hbase:base<=w0.heap.size)
  (h: ∀v' w',w'.ownsRow base 5 1 v' (n+m) (xs++news)->w0.grownBy w' v.ownBlock->wpList Tryz.prog ops Q rest (a.put o.dst v') w'):wpList Tryz.prog ops Q (o::rest) a (w0.alloc (.cells news.toArray e2)):=by
 obtain⟨ht,⟨i,z,h11,h12,h13,h14,h15⟩,hpos,hsm⟩:=Tryz.appBytes;have hnews: ∀(j:Nat) u,news[j]? =some u->(w0.alloc (.cells news.toArray e2)).cell? ((⟨w0.heap.size,0,none⟩:Addr).add j)=some u:=by
  intro j u hj;rw[Addr.add_mid,Nat.zero_add,cell_of_row _ _ _ _ _ _ (heap_alloc_new w0 (.cells news.toArray e2))]
  simpa using hj
 have hl1:news.length=m*1:=by rw[hl,Nat.mul_one]
 obtain⟨v',w',hr,h2,hg,_⟩:=run_append_own (P:=Tryz.prog) (w0.alloc (.cells news.toArray e2)) base _ o.type _ i z 1 1 ht h11 h12 h13 h14 h15 hpos v n xs (hown.alloc _) ⟨w0.heap.size,0,none⟩ m m news hl1 hnews h1 (by unfold maxLen; omega) (by omega) (by simp; omega);refine wpList_plain hgd fun K hK=> ?_
 unfold Oper.wp execOp;simp only[ho,resolve,invoke,builtin,Sem.run_bind,Sem.run_pure,Result.andThen_ok,List.map_toArray,List.map_cons,List.map_nil,hs,hx,hr];refine hK _ _ (h v' w' h2 ⟨hg.os,hg.tape,hg.output,by have:=hg.size; simp at this; omega,fun k hk hne=> ?_⟩);rw[hg.block k (by simp; omega) hne];exact Below.heap_alloc _ _ _ hk
theorem Do (v:V8) {buf:List UInt8} (h:buf.length=64) (n:Nat):(bq v buf n).toArray.size=73:=by rw[List.size_toArray,jm v h]
theorem Fd (v:V8) (buf:List UInt8) (n:Nat): ∀x∈bq v buf n,x.oneCell'=true:=by
 intro x hx;unfold bq at hx
 rcases List.mem_append.1 hx with hx | hx
 ·obtain⟨y,_,rfl⟩:=List.mem_map.1 hx; rfl
 ·rcases List.mem_append.1 hx with hx | hx
  ·obtain⟨y,_,rfl⟩:=List.mem_map.1 hx; rfl
  ·rw[List.mem_singleton.1 hx]; rfl
theorem AX {w:World} {sb:Nat} {v:V8} {buf:List UInt8} {n:Nat} {rest:List Value} {ty:TypeId} (h:w.heap[sb]? =some (.cells (bq v buf n++rest).toArray ty (0,0))):w.rangeAt sb 0 (bq v buf n):=by
 intro j x hj;rw[cell_of_row w _ _ _ _ _ h,Nat.zero_add,List.getElem?_toArray,List.getElem?_append_left (List.getElem?_eq_some_iff.1 hj).1];exact hj
theorem uc : ∀l:List Nat,(l.flatMap wK).length=4*l.length
 | []=>rfl
 | x::l=>by rw[List.flatMap_cons,List.length_append,uc l,yt,List.length_cons]; omega
theorem GB (v:V8) {k:Nat} (h:k<8):v.list.take (k+1)=v.list.take k++[v.list.getD k 0]:=by
 have hc:k=0\/k=1\/k=2\/k=3\/k=4\/k=5\/k=6\/k=7:=by omega
 rcases hc with rfl | rfl | rfl | rfl | rfl | rfl | rfl | rfl<;> rfl
theorem kZ {w w':World} (h:w.grownBy w' none):Below w.heap.size w w':=⟨h.os,h.tape,h.output,h.size,fun k hk=>h.block k hk (by simp)⟩
def oe (z:Nat):List UInt8:=128::List.replicate z 0
theorem Af (z:Nat):oe (z+1)=oe z++[0]:=by unfold oe; rw[List.replicate_succ',List.cons_append]
theorem pN (z:Nat):(oe z).length=z+1:=by simp[oe]
structure oF (w W1 wr : World) (v : Value) (pad : List UInt8) : Prop where
 row:wr.ownsRow (w.heap.size+1) 5 1 v pad.length (pad.map aN)
 below:Below W1.heap.size W1 wr
theorem oF.app {w W1 wr w':World} {v v':Value} {pad:List UInt8} {x:UInt8} {n:Nat} {cs:List Value} (h:oF w W1 wr v pad) (hs:W1.heap.size=w.heap.size+1) (h1:w'.ownsRow (w.heap.size+1) 5 1 v' (n+1) cs) (h2:wr.grownBy w' v.ownBlock) (hn:n=pad.length:=by simp[pN]) (hc:cs=pad.map aN++[aN x]:=by rfl):oF w W1 w' v' (pad++[x]):=by
 subst hn hc;refine⟨by simpa using h1,aZ h.below h.row h2 (by omega) (by have:=h.below.size; omega)⟩
theorem DY (c:Nat) {k s:Nat} (h:k<8) (hs:s=56-8*k):(sY c).getD k 0=UInt8.ofNat (c/2^s):=by
 subst hs;have hc:k=0\/k=1\/k=2\/k=3\/k=4\/k=5\/k=6\/k=7:=by omega
 rcases hc with rfl | rfl | rfl | rfl | rfl | rfl | rfl | rfl
 case inr.inr.inr.inr.inr.inr.inr=>simp[sY]
 all_goals rfl
theorem BL (c:Nat) {k:Nat} (h:k<8):(sY c)[k]? =some ((sY c).getD k 0):=by
 have:k<(sY c).length:=h;simp[List.getD_eq_getElem?_getD,this]
theorem iI (y:Nat) (v:Int) (h:v=(y:Int)):Value.int .u8 (v%256)=aN (UInt8.ofNat y):=by
 subst h;unfold aN;rw[UInt8.toNat_ofNat'];simp
theorem xS (sb:Nat) (ty:TypeId) (rest:List Value) (data:List UInt8) (w:World) (h:lW w sb ty rest data) (hlen:data.length<576460752303423488) (hK:gH w) (hKlt:4<w.heap.size):
  Calls Tryz.prog 149 #[.pointer (some ⟨sb,0,none⟩)] w fun e w'=>e= .returned (.string ⟨(xR data).toArray⟩)/\Below w.heap.size w w':=by
 obtain⟨buf,hb64,htl,hbox⟩:=h;have HBX:=ab hbox;have HTL:=ab htl;have HK:=ab hK;have HL64:=ab hb64;have hsl:=lt_of_block hbox;obtain⟨n,hn⟩: ∃n,n=data.length:=⟨_,rfl⟩;have c72:=(cell_of_row w _ 72 _ _ _ HBX.out).trans (sC _ hb64 data.length rest);rw[<-hn]at c72 hlen;have HN:=ab hn;clear hbox htl hK hb64 hn;have HSZ:=ab (Do (eQ data (data.length/64)) HL64.out data.length)
 have HONE:=ab (all_oneCell_toArray (Fd (eQ data (data.length/64)) buf data.length));have HI73:=ab (show(Tryz.prog.info? 248).map (·.size)=some (bq (eQ data (data.length/64)) buf data.length).length by rw[jm _ HL64.out]; kernel_rfl);have HI73b:=ab (show(Tryz.prog.info? 248).map (·.size)=some (bq (eQ data (data.length/64)) buf data.length).toArray.size by rw[HSZ.out]; kernel_rfl)
 have HRG:=ab (AX HBX.out)
 go_enter Tryz.func149,Tryz.ntmps149
 go_wp2_with (first | (refine wpList_load_mid rfl 248 _ rfl sb 0 rfl (bq (eQ data (data.length/64)) buf data.length) _ HRG.out Tryz.underlying248 rfl HI73.out ?_) | (refine wpList_store_row rfl 248 _ _ rfl w.heap.size _ rfl rfl _ _ (heap_alloc_new w _) HI73b.out (HSZ.out.symm) HONE.out ?_));obtain⟨W1,hW1⟩: ∃W1,W1=(w.alloc (.cells Tryz.zeroCells248 248)).setRow w.heap.size (bq (eQ data (data.length/64)) buf data.length).toArray:=⟨_,rfl⟩
 rw[<-hW1];have hsz1:W1.heap.size=w.heap.size+1:=by rw[hW1]; simp
 have HBW:=ab (show Below w.heap.size w W1 by rw[hW1]; exact below_setRow ((Below.refl _ _).alloc (Nat.le_refl _) _) (Nat.le_refl _) _);have HPB:=ab (show lW W1 w.heap.size 248 [] data from⟨buf,HL64.out,HTL.out,by rw[hW1,List.append_nil]; exact setRow_heap _ _ _ _ _ _ (heap_alloc_new w _)⟩);clear hW1;rw[<-hsz1];obtain⟨W2,hW2⟩: ∃W2,W2=W1.alloc (.cells #[.int .u8 128] 5):=⟨_,rfl⟩
 have HP0:=ab (show oF w W1 W2 (.slice (some ⟨W1.heap.size,0,none⟩) 1 1) (oe 0)from⟨by
  rw[hW2];exact World.ownsRow_lit (e:=5) (size:=1) (base:=w.heap.size+1) W1 #[.int .u8 128] 1 (by omega) (by decide) (by simp),by rw[hW2]; exact(Below.refl _ _).alloc (Nat.le_refl _) _⟩)
 rw[<-hW2];clear hW2;have HSZ1:=ab hsz1;clear hsz1;have hzn:iD n<64:=by unfold iD; omega
 go_loopw [4] (fun x wr=> ∃z:Nat,z<=iD n/\oF w W1 wr x (oe z)) (fun x _=>64-EA x)
 case atStart=>exact⟨0,by omega,HP0.out⟩
 case round=>
  obtain⟨z,hz,hpad⟩:=hrel;obtain⟨ao,co,rfl,h1,h2⟩:=au hpad.row;have hl:(oe z).length=z+1:=pN z;have hpd:=hpad;rw[hl]at hpd;have HPD:=ab hpd;clear hpd;rw[hl]at h1 ⊢;have HROW:=ab (show wr.ownsRow (w.heap.size+1) 5 1 (.slice ao (z+1) co) (z+1) ((oe z).map aN) by have:=hpad.row; rw[hl]at this; exact this);have hbz:=hpad.below.size;clear hpad HP0
  have c72r:=(HPD.out.below.cell (p:=⟨sb,72,none⟩) (by have:=HSZ1.out; show sb<_; omega)).trans ((HBW.out.cell (p:=⟨sb,72,none⟩) hsl).trans c72)
  by_cases hzz:z<iD n
  ·have hne: ¬((n:Int)+((z:Int)+1))%64=56:=by unfold iD at hzz; omega
   have HZ:=ab (show ∀u∈[(Value.int .u8 0)],u.oneCell'=true by simp[Value.oneCell']);have hzb:z+1+1<1099511627775:=by omega
   have hzc:w.heap.size+1<=wr.heap.size:=by have:=HSZ1.out; omega
   go_wp2_with (at_builtin; (refine kA rfl _ _ rfl (w.heap.size+1) (.slice ao (z+1) co) (z+1) 1 ((oe z).map aN) rfl wr [.int .u8 0] _ rfl rfl HZ.out HROW.out hzb hzc ?_); intro v' wc hown' hgrow'; have HP3:=ab (HPD.out.app (x:=0) HSZ1.out hown' hgrow' hl.symm rfl); obtain⟨ae,ce,rfl,-,-⟩:=au hown'; clear hown' hgrow')
   go_roundw
   case rel=>exact⟨z+1,by omega,by rw[Af]; exact HP3.out⟩
   case measure=>simp[EA]; omega
  ·have hez:z=iD n:=by omega
   have heq:((n:Int)+((z:Int)+1))%64=56:=by rw[hez]; unfold iD; omega
   have HZE:=ab hez
   go_upto_region 6 with(fail)
   rename ((_ != _)=false)=>hcond
   clear hcond heq hez hzz;obtain⟨pz,hpz⟩: ∃pz,pz=oe z:=⟨_,rfl⟩;have HPZ:=ab hpz;have HQ0:=ab (show oF w W1 wr (.slice ao (z+1) co) (pz++(sY (n*8)).take 0) by rw[List.take_zero,List.append_nil,hpz]; exact HPD.out);clear hpz;go_wp2_with fail
   go_loopw [4,6] (fun x s wr=> ∃k:Nat,k<=8/\s= .int .i64 (56-8*(k:Int))/\oF w W1 wr x (pz++(sY (n*8)).take k)) (fun _ s _=>(intOf s+8).toNat)
   case atStart=>exact⟨0,by omega,rfl,HQ0.out⟩
   case round=>
    obtain⟨k,hk,rfl,hpad⟩:=hrel;obtain⟨aq,cq,rfl,h1q,h2q⟩:=au hpad.row;obtain⟨pl,hpl⟩: ∃pl,pl=(pz++(sY (n*8)).take k).length:=⟨_,rfl⟩;rw[<-hpl]at hpad h1q ⊢;have HQD:=ab hpad;have HROW2:=ab (show wr.ownsRow (w.heap.size+1) 5 1 (.slice aq pl cq) pl ((pz++(sY (n*8)).take k).map aN) by have:=hpad.row; rw[<-hpl]at this; exact this);have HPL:=ab hpl
    have hplb:pl<=72:=by rw[hpl,List.length_append,HPZ.out,pN]; have:=List.length_take_le k (sY (n*8)); have:(sY (n*8)).length=8:=rfl; omega
    have hbz2:=hpad.below.size;have hbz3:=HSZ1.out▸hbz2;clear hpad hpl
    by_cases hk8:k<8
    ·obtain⟨sN,hsN⟩: ∃sN:Nat,56-8*(k:Int)=(sN:Int):=⟨56-8*k,by omega⟩;rw[hsN];have hsl2:(sN:Int)<=56:=by omega
     have hmin:min sN 64=sN:=by omega
     obtain⟨x,hx⟩: ∃x,x=(sY (n*8)).getD k 0:=⟨_,rfl⟩;have HV:=ab (show Value.int .u8 ((n:Int)*8/2^sN%256)=aN x by rw[hx,DY _ hk8 (by omega:sN=56-8*k)]; exact iI _ _ rfl);have HTK:=ab (show(sY (n*8)).take (k+1)=(sY (n*8)).take k++[x] by rw[hx,List.take_add_one,BL _ hk8]; rfl);have HSN:=ab hsN;have hsn8: -8<=(sN:Int)-8:=by omega
     clear hx hsN;have HZ:=ab (show ∀u∈[(Value.int .u8 ((n:Int)*8/2^sN%256))],u.oneCell'=true by simp[Value.oneCell']);have hzb:pl+1<1099511627775:=by omega
     have hzc:w.heap.size+1<=wr.heap.size:=by have:=HSZ1.out; omega
     go_wp2_with (at_builtin; go_loud (refine kA rfl _ _ rfl (w.heap.size+1) (.slice aq pl cq) pl 1 ((pz++(sY (n*8)).take k).map aN) rfl wr [.int .u8 ((n:Int)*8/2^sN%256)] _ rfl rfl HZ.out HROW2.out hzb hzc ?_); intro v' wc hown' hgrow'; go_loud (have HP3:=ab (HQD.out.app (x:=x) HSZ1.out hown' hgrow' HPL.out (by rw[HV.out]))); obtain⟨ae,ce,rfl,-,-⟩:=au hown'; clear hown' hgrow')
     go_roundw
     case rel=>exact⟨k+1,by omega,by have:=HSN.out; congr 1; omega,by rw[HTK.out,<-List.append_assoc]; exact HP3.out⟩
     case measure=>simp[intOf]; omega
    ·obtain rfl:k=8:=by omega
     have hpp:pz++(sY (n*8)).take 8=od data.length:=by
      rw[HPZ.out,HZE.out,<-HN.out,List.take_of_length_le (show(sY (n*8)).length<=8 from Nat.le_refl _)];unfold od oe;rw[Nat.mod_eq_of_lt (by omega)]
     have hby:bi (· ≠w.heap.size) wr (.slice aq pl cq) (od data.length):=by
      have h9:=bp HROW2.out;rw[hpp]at h9;have h10:pl=(od data.length).length:=by rw[<-hpp]; exact HPL.out
      rw[h10]at h9 ⊢;exact h9.weak (fun j hj=>by show j≠w.heap.size; have:=hj.1; omega)
     have HBY:=ab hby
     have HPP:=ab hpp;clear hby hpp;have hpl2:(od data.length).length<=80:=by rw[CK]; unfold iD; omega
     go_wp2_with fail;refine(mL w.heap.size 248 [] data (od data.length) (.slice aq pl cq) wr ?_ HBY.out (by have:=HN.out; omega) ?_ (by have:=HSZ1.out; omega) (by omega)).mono ?_
     ·obtain⟨b1,b2,b3,b4⟩:=HPB.out;exact⟨b1,b2,b3,(HQD.out.below.block _ (lt_of_block b4)).trans b4⟩
     ·intro j x hj;rw[<-HK.out j x hj];exact World.cell?_of_block ((HQD.out.below.block _ (by have:=HSZ1.out; show 4<_; omega)).trans (HBW.out.block _ hKlt))
     ·rintro e w3 ⟨rfl,hsha,hg3⟩;obtain⟨buf2,hb1,hb2,hb3⟩:=hsha;obtain⟨vv,hvv⟩: ∃vv,vv=eQ (data++od data.length) ((data++od data.length).length/64):=⟨_,rfl⟩;rw[<-hvv,dX]at hb3;have HB3:=ab hb3;have HVV:=ab hvv;have hz3:=hg3.size;have HBL3:=ab (show Below w.heap.size w w3 from((HBW.out.trans (HQD.out.below.mono HBW.out.size)).grown hg3 (by have:=HSZ1.out; omega) (fun k hk=>by cases hk; exact Nat.le_refl _)))
      have hzz3:w.heap.size+1<=w3.heap.size:=by have:=HSZ1.out; omega
      clear hb1 hb2 hb3 hvv hg3;obtain⟨ht9,⟨i9,z9,h91,h92,h93,h94,h95⟩,-,-⟩:=Tryz.appBytes;have hb32:i9.bytes*32<=281474976710656:=by rw[h94]; decide
      have H9:=ab (And.intro h91 (And.intro h92 (And.intro h93 hb32)));clear h91 h92 h93 h94 h95 hb32
      go_upto_region 12 with(refine wpList_make_own _ rfl _ _ 28 rfl (w.heap.size+1) 5 i9 z9 1 Tryz.underlying28 H9.out.1 H9.out.2.1 H9.out.2.2.1 .i64 .i64 32 32 rfl rfl rfl H9.out.2.2.2 (by decide) hzz3 ?_; intro w4 hown4 hg4; have HO4:=ab hown4; have HG4:=ab hg4; clear hown4 hg4)
      have HBL4:=ab (HBL3.out.trans ((kZ HG4.out).mono HBL3.out.size));have HB4:=ab ((HG4.out.block _ (lt_of_block HB3.out) (by simp)).trans HB3.out);have HR4:=ab (nX HB4.out);have hzz4:w.heap.size+1<=w4.heap.size:=by have:=HG4.out.size; omega
      have HO5:=ab (show w4.ownsRow (w.heap.size+1) 5 1 (.slice (some ⟨w3.heap.size,0,none⟩) 0 32) (((vv.list.take 0).flatMap wK).length) (((vv.list.take 0).flatMap wK).map aN)from HO4.out);go_wp2_with (refine wpList_load_mid rfl 101 _ rfl w.heap.size 0 rfl [.int .u32 (vv.a:Int), .int .u32 (vv.b:Int), .int .u32 (vv.c:Int), .int .u32 (vv.d:Int), .int .u32 (vv.e:Int), .int .u32 (vv.f:Int), .int .u32 (vv.g:Int), .int .u32 (vv.h:Int)] _ HR4.out Tryz.underlying101 rfl (by kernel_rfl) ?_)
      go_loopw [7,48] (fun x i wr=> ∃k:Nat,k<=8/\i= .int .i64 (k:Int)/\wr.ownsRow (w.heap.size+1) 5 1 x (((vv.list.take k).flatMap wK).length) (((vv.list.take k).flatMap wK).map aN)/\Below w.heap.size w wr/\w.heap.size+1<=wr.heap.size) (fun _ i _=>8-(intOf i).toNat)
      case atStart=>exact⟨0,by omega,rfl,HO5.out,HBL4.out,hzz4⟩
      case round=>
       obtain⟨k,hk,rfl,hown,hbel,hzz5⟩:=hrel;obtain⟨asx,csx,rfl,h1s,h2s⟩:=au hown;obtain⟨sl,hsl5⟩: ∃sl,sl=((vv.list.take k).flatMap wK).length:=⟨_,rfl⟩;rw[<-hsl5]at hown h1s ⊢;have HSL:=ab hsl5;have HOW:=ab hown;have HBE:=ab hbel;have hslb:sl<=32:=by rw[hsl5,uc,List.length_take]; omega
       clear hsl5 hown hbel
       by_cases hk8:k<8
       ·have hI: ∀w,(Instr.index 101 (.agg #[.int .u32 (vv.a:Int), .int .u32 (vv.b:Int), .int .u32 (vv.c:Int), .int .u32 (vv.d:Int), .int .u32 (vv.e:Int), .int .u32 (vv.f:Int), .int .u32 (vv.g:Int), .int .u32 (vv.h:Int)]) (.int .i64 (k:Int))).run Tryz.prog w= .ok (.int .u32 ((vv.list.getD k 0:Nat):Int)) w:=Cx vv hk8;obtain⟨y,hy⟩: ∃y,y=vv.list.getD k 0:=⟨_,rfl⟩
        rw[<-hy]at hI;have HTK:=ab (show(vv.list.take (k+1)).flatMap wK=(vv.list.take k).flatMap wK++wK y by rw[hy,GB vv hk8,List.flatMap_append]; simp);have HZ:=ab (show ∀u∈[(Value.int .u8 ((y:Int)/16777216%256)), .int .u8 ((y:Int)/65536%256), .int .u8 ((y:Int)/256%256), .int .u8 ((y:Int)%256)],u.oneCell'=true by simp[Value.oneCell']);have HV:=ab (show [(Value.int .u8 ((y:Int)/16777216%256)), .int .u8 ((y:Int)/65536%256), .int .u8 ((y:Int)/256%256), .int .u8 ((y:Int)%256)]=(wK y).map aN by
         rw[iI (y/2^24) _ (by simp),iI (y/2^16) _ (by simp),iI (y/2^8) _ (by simp),iI y _ rfl]; rfl)
        have hk8i:(k:Int)<8:=by omega
        have hslb2:sl+4<1099511627775:=by omega
        clear hy;go_wp2_with (at_builtin; go_loud (refine kA rfl _ _ rfl (w.heap.size+1) (.slice asx sl csx) sl 4 (((vv.list.take k).flatMap wK).map aN) rfl wr [.int .u8 ((y:Int)/16777216%256), .int .u8 ((y:Int)/65536%256), .int .u8 ((y:Int)/256%256), .int .u8 ((y:Int)%256)] _ rfl rfl HZ.out HOW.out hslb2 hzz5 ?_); intro v' wc hown' hgrow'; have HO6:=ab hown'; have HG6:=ab hgrow'; obtain⟨ae,ce,rfl,-,-⟩:=au hown'; clear hown' hgrow')
        go_roundw
        case rel=>
         refine⟨k+1,by omega,by simp, ?_,aZ HBE.out HOW.out HG6.out (by omega) (by omega),by have:=HG6.out.size; omega⟩;rw[HTK.out,List.length_append,yt,List.map_append,<-HV.out,<-HSL.out];exact HO6.out
        case measure=>simp[intOf]; omega
       ·obtain rfl:k=8:=by omega
        have hout:(vv.list.take 8).flatMap wK=xR data:=by
         unfold xR V8.out;rw[<-HVV.out]; rfl
        have hb8:bi (fun _=>True) wr (.slice asx sl csx) (xR data):=by
         have h9:=bp HOW.out;have h10:=HSL.out;rw[hout]at h9 h10;rw[h10]at h9 ⊢;exact h9.weak (fun _ _=>trivial)
        have hcv:=FM hb8;have HBE2:=ab HBE.out;clear hb8 hout;go_wp2_with fail;go_ret;exact⟨rfl,HBE2.out⟩
theorem uN (off:Nat): ∀(xs:List Value) (k:Nat) (cs:Array Value),off+k+xs.length<=cs.size->
  ((xs.zipIdx k).foldl (fun cs p=>cs.setIfInBounds (off+p.2) p.1) cs).toList=cs.toList.take (off+k)++(xs++cs.toList.drop (off+k+xs.length))
 | [],k,cs,_=>by simp
 | x::xs,k,cs,h=>by
  rw[List.length_cons]at h;rw[List.zipIdx_cons,List.foldl_cons,uN off xs (k+1) _ (by simp; omega),Array.toList_setIfInBounds];have h1:off+k<cs.toList.length:=by simp; omega
  have h2:((cs.toList.set (off+k) x).take (off+(k+1)))=cs.toList.take (off+k)++[x]:=by
   rw[show off+(k+1)=off+k+1 by omega,List.take_add_one,List.take_set_of_le (Nat.le_refl _),List.getElem?_set_self h1]; rfl
  have h3:(cs.toList.set (off+k) x).drop (off+(k+1)+xs.length)=cs.toList.drop (off+k+(xs.length+1)):=by
   rw[List.drop_set_of_lt (by omega),show off+(k+1)+xs.length=off+k+(xs.length+1) by omega]
  rw[h2,h3,List.length_cons]; simp
theorem rO {place:Nat->Option (Nat×Nat)} {cells:Array Value} {i off size:Nat} {a:Array Value} {rest:List (Nat×Value)} (hp:place i=some (off,size)) (ha:a.size=size) (hf:off+size<=cells.size):
  Instr.fill place cells ((i, .agg a)::rest)=Instr.fill place (splice cells.toList off a.toList).toArray rest:=by
 subst ha;have hc:(Value.agg a).cells=a:=rfl;rw[Instr.fill,hp];simp only[hc];rw[if_neg (by simp; omega)]
 congr 1
 apply Array.ext'
 have h:=uN off a.toList 0 cells (by simpa using hf);have e:(a.zipIdx.foldl (fun cs (p:Value×Nat)=>cs.setIfInBounds (off+p.2) p.1) cells)=((a.toList.zipIdx 0).foldl (fun cs (p:Value×Nat)=>cs.setIfInBounds (off+p.2) p.1) cells):=by
  rw[<-Array.foldl_toList,Array.toList_zipIdx]
 show(a.zipIdx.foldl (fun cs (p:Value×Nat)=>cs.setIfInBounds (off+p.2) p.1) cells).toList=_
 rw[e,h];simp[splice]
end Go.Proofs.YtnjkpcalgoefhaaGreatDoor
namespace Go.Proofs.YtnjkpcalgoefhaaGreatDoor
def dV (x k:Nat):Nat:=(x*2^k%18446744073709551616) ||| (x/2^(64-k))
def oh :Nat->Nat->Nat
 | 0,x=>x
 | n+1,x=>dV (oh n x) 1
theorem fM {x k:Nat} (_hk:k<=64) (i:Nat):(dV x k).testBit i=((decide (i<64) && decide (k<=i) && x.testBit (i-k)) || x.testBit (64-k+i)):=by
 unfold dV;rw[Nat.testBit_or,show(18446744073709551616:Nat)=2^64 from rfl,Nat.testBit_mod_two_pow,Nat.testBit_mul_two_pow,Nat.testBit_div_two_pow,Nat.add_comm i (64-k),Bool.and_assoc]
theorem gM {x:Nat} (hx:x<18446744073709551616) {i:Nat} (h:64<=i):x.testBit i=false:=
 Nat.testBit_lt_two_pow (Nat.lt_of_lt_of_le hx (Nat.pow_le_pow_right (by decide) h:2^64<=2^i))
theorem iQ {x:Nat} (k:Nat) (hx:x<18446744073709551616):dV x k<18446744073709551616:=
 Nat.or_lt_two_pow (n:=64) (Nat.mod_lt _ (by decide)) (Nat.lt_of_le_of_lt (Nat.div_le_self _ _) hx)
theorem yW : ∀(n:Nat) {x:Nat},x<18446744073709551616->oh n x<18446744073709551616
 | 0,_,h=>h
 | n+1,_,h=>iQ 1 (yW n h)
theorem pY {x:Nat} (hx:x<18446744073709551616):dV x 0=x:=by
 unfold dV;rw[show(2:Nat)^(64-0)=18446744073709551616 by decide,Nat.div_eq_of_lt hx,Nat.or_zero,Nat.pow_zero,Nat.mul_one,Nat.mod_eq_of_lt hx]
theorem xL {x k:Nat} (hx:x<18446744073709551616) (hk:k<64):dV (dV x k) 1=dV x (k+1):=by
 apply Nat.eq_of_testBit_eq
 intro i;rw[fM (by decide),fM (by omega),fM (by omega),fM (by omega)]
 by_cases h64:i<64
 ·by_cases h0:i=0
  ·subst h0;have e1:x.testBit (64-k+(64-1+0))=false:=gM hx (by omega);have e2:64-1+0-k=64-(k+1)+0:=by omega
   have e3:x.testBit (64-0+0-k+64)=false:=gM hx (by omega);simp only[e1,e2];simp;omega
  ·have e1:x.testBit (64-k+(64-1+i))=false:=gM hx (by omega);have e2:(64-1+i<64)=False:=by simp; omega
   have e3:i-1-k=i-(k+1):=by omega
   have e4:64-k+(i-1)=64-(k+1)+i:=by omega
   have e5:(decide (k<=i-1))=decide (k+1<=i):=by rw[decide_eq_decide]; omega
   have e6:decide (1<=i)=true:=by simp; omega
   have e7:decide (i-1<64)=true:=by simp; omega
   have e8:decide (i<64)=true:=by simp; omega
   have e9:decide (64-1+i<64)=false:=by simp; omega
   simp only[e1,e3,e4,e5,e6,e7,e8,e9,Bool.true_and,Bool.false_and,Bool.or_false]
 ·have e1:x.testBit (64-k+(64-1+i))=false:=gM hx (by omega);have e2:x.testBit (64-(k+1)+i)=false:=gM hx (by omega);have e8:decide (i<64)=false:=by simp; omega
  have e9:decide (64-1+i<64)=false:=by simp; omega
  simp only[e1,e2,e8,e9,Bool.false_and,Bool.or_false]
theorem oA {x:Nat} (hx:x<18446744073709551616): ∀ {k:Nat},k<=64->oh k x=dV x k
 | 0,_=>(pY hx).symm
 | k+1,h=>by rw[oh,oA hx (k:=k) (by omega),xL hx (by omega)]
theorem AE {x:Nat} (hx:x<18446744073709551616):oh 64 x=x:=by
 rw[oA hx (by decide)];unfold dV;rw[show(2:Nat)^64=18446744073709551616 by decide,Nat.mul_mod_left,Nat.zero_or];simp
theorem ES {x y:Nat} (hx:x<18446744073709551616) (hy:y<18446744073709551616) {k:Nat} (hk:k<=64):dV (x^^^y) k=dV x k^^^dV y k:=by
 apply Nat.eq_of_testBit_eq
 intro i;rw[Nat.testBit_xor,fM hk,fM hk,fM hk,Nat.testBit_xor,Nat.testBit_xor]
 by_cases h:i<64/\k<=i
 ·have e:decide (i<64)=true/\decide (k<=i)=true:=by simpa using h
  rw[e.1,e.2,gM hx (i:=64-k+i) (by omega),gM hy (i:=64-k+i) (by omega)];simp
 ·have e:(decide (i<64) && decide (k<=i))=false:=by simp; omega
  rw[e]; simp
theorem mO {x y:Nat} (hx:x<18446744073709551616) (hy:y<18446744073709551616):x^^^y<18446744073709551616:=Nat.xor_lt_two_pow (n:=64) hx hy
def CA (z:Nat):Nat:=((z^^^(z/2^30))*13787848793156543929)%18446744073709551616
def CB (z:Nat):Nat:=((z^^^(z/2^27))*10723151780598845931)%18446744073709551616
def FV (z:Nat):Nat:=z^^^(z/2^31)
def vS (seed i:Nat):Nat:=(seed+(i+1)*11400714819323198485%18446744073709551616)%18446744073709551616
def tH (seed i:Nat):Nat:=FV (CB (CA (vS seed i)))
theorem oz (seed i:Nat):tH seed i<18446744073709551616:=by
 unfold tH FV;have h:CB (CA (vS seed i))<18446744073709551616:=Nat.mod_lt _ (by decide);exact mO h (Nat.lt_of_le_of_lt (Nat.div_le_self _ _) h)
theorem uR {M:List UInt8->Prop} (h0:M []) (h1: ∀l b,M l->M (l++[b])) (l:List UInt8):M l:=by
 have: ∀r:List UInt8,M r.reverse:=by
  intro r
  induction r with
  | nil=>exact h0
  | cons b r ih=>rw[List.reverse_cons]; exact h1 _ _ ih
 have h:=this l.reverse;rw[List.reverse_reverse]at h; exact h
section
variable (T : Nat → Nat)
def eJ (l:List UInt8):Nat:=l.foldl (fun s b=>dV s 1^^^T b.toNat) 0
theorem gR (l:List UInt8) (b:UInt8):eJ T (l++[b])=dV (eJ T l) 1^^^T b.toNat:=by
 unfold eJ; rw[List.foldl_append,List.foldl_cons,List.foldl_nil]
theorem rR :eJ T []=0:=rfl
theorem zK (x:UInt8):eJ T [x]=T x.toNat:=by
 unfold eJ; rw[List.foldl_cons,List.foldl_nil,show dV 0 1=0 by decide,Nat.zero_xor]
variable {T}
theorem uQ (hT: ∀i,T i<18446744073709551616) (l:List UInt8):eJ T l<18446744073709551616:=by
 refine uR (M:=fun l=>eJ T l<18446744073709551616) ?_ (fun l b ih=> ?_) l
 ·show eJ T []<_
  rw[rR]; decide
 ·show eJ T (l++[b])<_
  rw[gR]; exact mO (iQ 1 ih) (hT _)
theorem xh (hT: ∀i,T i<18446744073709551616) (x:UInt8) (l:List UInt8):eJ T (x::l)=oh l.length (T x.toNat)^^^eJ T l:=by
 refine uR (M:=fun l=>eJ T (x::l)=oh l.length (T x.toNat)^^^eJ T l) ?_ (fun l b ih=> ?_) l
 ·show eJ T [x]=oh 0 (T x.toNat)^^^eJ T []
  rw[zK,rR,Nat.xor_zero,oh]
 ·show eJ T (x::(l++[b]))=oh (l++[b]).length (T x.toNat)^^^eJ T (l++[b])
  rw[<-List.cons_append,gR,gR,List.length_append,List.length_singleton,oh,ih,ES (yW _ (hT _)) (uQ hT _) (by decide),Nat.xor_assoc]
theorem xi (hT: ∀i,T i<18446744073709551616) (x b:UInt8) (l:List UInt8) (h:l.length+1<=64):(dV (eJ T (x::l)) 1^^^T b.toNat)^^^dV (T x.toNat) (l.length+1)=eJ T (l++[b]):=by
 rw[<-gR,List.cons_append,xh hT,List.length_append,List.length_singleton,<-oA (hT _) h,Nat.xor_comm (oh _ _),Nat.xor_assoc,Nat.xor_self,Nat.xor_zero]
end
def nL (seed:Nat) (l:List UInt8):Nat:=eJ (tH seed) l
theorem uP (seed:Nat) (l:List UInt8):nL seed l<18446744073709551616:=uQ (oz seed) l
def iR (W:Nat) (d:List UInt8):List UInt8:=d.drop (d.length-W)
theorem kz (W:Nat) (d:List UInt8):(iR W d).length=min W d.length:=by unfold iR; rw[List.length_drop]; omega
theorem sL {W:Nat} {d:List UInt8} (h:d.length<W) (b:UInt8):iR W (d++[b])=iR W d++[b]:=by
 unfold iR;rw[List.length_append,List.length_singleton,show d.length+1-W=0 by omega,show d.length-W=0 by omega]; rfl
theorem sM {W:Nat} {d:List UInt8} (hW:1<=W) (h:W<=d.length) (b:UInt8):iR W (d++[b])=(iR W d).tail++[b]:=by
 unfold iR;rw[List.length_append,List.length_singleton,List.tail_drop,List.drop_append_of_le_length (by omega)]
 congr 2; omega
def FB (seed W bits:Nat) (d:List UInt8):Bool:=decide (W<=d.length) && decide (bits<=Lib.ctz 64 (nL seed (iR W d)))
section
variable (mk : Nat → Bool) (mn mx len : Nat)
def jA :Nat->Int
 | 0=> -(mn:Int)
 | p+1=>if mk (p+1)then((p+1:Nat):Int)else jA p
def pU :Nat->Bool
 | 0=>false
 | p+1=>mk (p+1) && decide ((mn:Int)<=((p+1:Nat):Int)-jA mk mn p)
def gd (l:List Nat):Nat:=l.getLast?.getD 0
def gY (s q:Nat):Bool:=pU mk mn q || decide (s+mx<=q) || decide (len<=q)
def eC :Nat->List Nat
 | 0=>[]
 | p+1=>if gY mk mn mx len (gd (eC p)) (p+1)then eC p++[p+1]else eC p
def uG :List Nat:=eC mk mn mx len len
end
section
variable {mk : Nat → Bool} {mn mx len : Nat}
theorem fJ (l:List Nat) (p:Nat):gd (l++[p])=p:=by simp[gd]
theorem xt (p:Nat):(jA mk mn p= -(mn:Int)/\ ∀q,1<=q->q<=p->mk q=false)\/ ∃L,jA mk mn p=((L:Nat):Int)/\1<=L/\L<=p/\mk L=true/\ ∀q,L<q->q<=p->mk q=false:=by
 induction p with
 | zero=>exact .inl ⟨rfl,fun q h1 h2=>by omega⟩
 | succ p ih=>
  rw[jA]
  by_cases h:mk (p+1)=true
  ·rw[if_pos h];exact .inr ⟨p+1,rfl,by omega,by omega,h,fun q h1 h2=>by omega⟩
  ·rw[if_neg h];have h0:mk (p+1)=false:=by simpa using h
   rcases ih with⟨h1,h2⟩ | ⟨L,h1,h2,h3,h4,h5⟩
   ·exact .inl ⟨h1,fun q hq1 hq2=>by
     by_cases e:q=p+1
     ·rw[e]; exact h0
     ·exact h2 q hq1 (by omega)⟩
   ·exact .inr ⟨L,h1,h2,by omega,h4,fun q hq1 hq2=>by
     by_cases e:q=p+1
     ·rw[e]; exact h0
     ·exact h5 q hq1 (by omega)⟩
def FJ (mk:Nat->Bool) (mn mx len s q:Nat):Prop:=s<q/\q<=len/\gY mk mn mx len s q=true/\ ∀r,s<r->r<q->gY mk mn mx len s r=false
inductive BC (mk : Nat → Bool) (mn mx len : Nat) : List Nat → Nat → Prop
 | nil:BC mk mn mx len [] 0
 | snoc {l:List Nat} {s q:Nat} :BC mk mn mx len l s->FJ mk mn mx len s q->BC mk mn mx len (l++[q]) q
theorem BC.last {l:List Nat} {s:Nat} (h:BC mk mn mx len l s):gd l=s:=by
 cases h with
 | nil=>rfl
 | snoc _ _=>exact fJ _ _
theorem BC.le {l:List Nat} {s:Nat} (h:BC mk mn mx len l s):s<=len:=by
 cases h with
 | nil=>omega
 | snoc _ h=>exact h.2.1
theorem pp : ∀ {p:Nat},p<=len-> ∃s,BC mk mn mx len (eC mk mn mx len p) s/\s<=p/\ ∀r,s<r->r<=p->gY mk mn mx len s r=false
 | 0,_=>⟨0, .nil,by omega,fun r h1 h2=>by omega⟩
 | p+1,hp=>by
  obtain⟨s,h1,h2,h3⟩:=pp (p:=p) (by omega);rw[eC,h1.last]
  by_cases h:gY mk mn mx len s (p+1)=true
  ·rw[if_pos h];exact⟨p+1,h1.snoc ⟨by omega,hp,h,fun r hr1 hr2=>h3 r hr1 (by omega)⟩,by omega,fun r hr1 hr2=>by omega⟩
  ·rw[if_neg h];exact⟨s,h1,by omega,fun r hr1 hr2=>by
    by_cases e:r=p+1
    ·rw[e]; simpa using h
    ·exact h3 r hr1 (by omega)⟩
theorem rL :BC mk mn mx len (uG mk mn mx len) len:=by
 obtain⟨s,h1,h2,h3⟩:=pp (mk:=mk) (mn:=mn) (mx:=mx) (len:=len) (Nat.le_refl len)
 by_cases e:s=len
 ·rw[e]at h1; exact h1
 ·have:=h3 len (by omega) (by omega);simp[gY]at this
theorem FJ.reach {s q:Nat} (hm:1<=mx) (h:FJ mk mn mx len s q):q<=s+mx:=by
 by_cases h1:s+mx<q
 ·have h2:=h.2.2.2 (s+mx) (by omega) h1;simp[gY]at h2
 ·omega
def gp (data:List UInt8) (s e:Nat):List UInt8:=(data.drop s).take (e-s)
def er (data:List UInt8):Nat->List Nat->List (List UInt8)
 | _,[]=>[]
 | s,e::l=>gp data s e::er data e l
theorem gA (data:List UInt8): ∀(l:List Nat) (s e:Nat),er data s (l++[e])=er data s l++[gp data (l.getLast?.getD s) e]
 | [],_,_=>rfl
 | x::l,s,e=>by
  rw[List.cons_append,er,gA data l x e,er,List.cons_append]
  congr 3
  rw[List.getLast?_cons]; rfl
theorem vC {data:List UInt8} {l:List Nat} {s:Nat} (h:BC mk mn mx data.length l s):(er data 0 l).flatten=data.take s:=by
 induction h with
 | nil=>simp[er]
 | snoc h1 h2 ih=>
  rename_i l s q;rw[gA,List.flatten_append,ih];have:=h1.last;unfold gd at this;rw[this,List.flatten_cons,List.flatten_nil,List.append_nil];unfold gp;have h3:=h2.1;rw[show q=s+(q-s) by omega,List.take_add,show s+(q-s)-s=q-s by omega]
theorem pT {data:List UInt8} :(er data 0 (uG mk mn mx data.length)).flatten=data:=by
 rw[vC rL,List.take_length]
theorem Al {data:List UInt8} {l:List Nat} {s:Nat} (hm:1<=mx) (h:BC mk mn mx data.length l s): ∀c∈er data 0 l,1<=c.length/\c.length<=mx:=by
 induction h with
 | nil=>simp[er]
 | snoc h1 h2 ih=>
  rename_i l s q;rw[gA];intro c hc
  rcases List.mem_append.1 hc with hc | hc
  ·exact ih c hc
  ·rw[List.mem_singleton.1 hc];have:=h1.last;unfold gd at this;rw[this];unfold gp;rw[List.length_take,List.length_drop];have h3:=h2.reach hm;have h4:=h2.1;have h5:=h2.2.1;omega
end
open Go Go.RowKit
theorem AF {x s:Nat} (hx:x<18446744073709551616):bits .or .u64 ((x:Int)*2^s%18446744073709551616) ((x:Int)/2^(64-s))=((dV x s:Nat):Int):=by
 have e1:((x:Int)*2^s%18446744073709551616)=((x*2^s%18446744073709551616:Nat):Int):=by simp
 have e2:((x:Int)/2^(64-s))=((x/2^(64-s):Nat):Int):=by simp
 rw[e1,e2,u64_or_nat _ _ (Nat.mod_lt _ (by decide)) (Nat.lt_of_le_of_lt (Nat.div_le_self _ _) hx)]
 rfl
theorem sr (x k:Nat) (w:World) (hx:x<18446744073709551616) (hk:k<=64):Calls Tryz.prog 205 #[.int .u64 (x:Int), .int .i64 (k:Int)] w fun e w'=>e= .returned (.int .u64 ((dV x k:Nat):Int))/\w=w':=by
 obtain⟨s,hs⟩: ∃s,s=k%64:=⟨_,rfl⟩;have h1:bits BinOp.and IntKind.u64 (k:Int) 63=(s:Int):=by
  rw[show(63:Int)=((63:Nat):Int)from rfl,u64_and_nat _ _ (by omega) (by decide),nat_mask6,hs]
 have hs64:s<64:=by omega
 have hmin:min s 64=s:=by omega
 have hmin2:min (64-s) 64=64-s:=by omega
 have HR:=ab (show dV x s=dV x k by
  by_cases h:k=64
  ·have e:s=0:=by rw[hs,h]
   rw[e,h,pY hx,<-oA hx (Nat.le_refl 64),AE hx]
  ·rw[show s=k by omega])
 clear hs
 go_enter Tryz.func205,Tryz.ntmps205
 go_wp2_with fail;go_ret;refine⟨?_,rfl⟩;rw[<-HR.out,<-AF hx,IntKind.wrap_u64]
 rfl
theorem FW (a c:Nat):((a:Int)*(c:Int))%18446744073709551616=((a*c%18446744073709551616:Nat):Int):=by simp
theorem qC (z d:Nat) (hz:z<18446744073709551616):bits BinOp.xor IntKind.u64 (z:Int) ((z:Int)/(d:Int))=((z^^^(z/d):Nat):Int):=by
 rw[show((z:Int)/(d:Int))=((z/d:Nat):Int) by simp,u64_xor_nat _ _ hz (Nat.lt_of_le_of_lt (Nat.div_le_self _ _) hz)]
theorem zT (z:Nat) (hz:z<18446744073709551616):(bits BinOp.xor IntKind.u64 (z:Int) ((z:Int)/1073741824)*13787848793156543929)%18446744073709551616=((CA z:Nat):Int):=by
 have h:=qC z 1073741824 hz;rw[show((1073741824:Nat):Int)=1073741824 from rfl]at h;rw[h];exact FW (z^^^(z/1073741824)) 13787848793156543929
theorem zV (z:Nat) (hz:z<18446744073709551616):(bits BinOp.xor IntKind.u64 (z:Int) ((z:Int)/134217728)*10723151780598845931)%18446744073709551616=((CB z:Nat):Int):=by
 have h:=qC z 134217728 hz;rw[show((134217728:Nat):Int)=134217728 from rfl]at h;rw[h];exact FW (z^^^(z/134217728)) 10723151780598845931
theorem zX (z:Nat) (hz:z<18446744073709551616):bits BinOp.xor IntKind.u64 (z:Int) ((z:Int)/2147483648)=((FV z:Nat):Int):=by
 have h:=qC z 2147483648 hz;rw[show((2147483648:Nat):Int)=2147483648 from rfl]at h;exact h
theorem AV (s k:Nat):IntKind.u64.wrap ((s:Int)+IntKind.u64.wrap (((k:Int)+1)*11400714819323198485))=((vS s k:Nat):Int):=by
 rw[IntKind.wrap_u64,IntKind.wrap_u64,show((k:Int)+1)=((k+1:Nat):Int) by omega,show(11400714819323198485:Int)=((11400714819323198485:Nat):Int)from rfl,FW];unfold vS;omega
theorem zU (z:Nat) (hz:z<18446744073709551616):IntKind.u64.wrap (bits BinOp.xor IntKind.u64 (z:Int) ((z:Int)/1073741824)*13787848793156543929)=((CA z:Nat):Int):=by rw[IntKind.wrap_u64,zT z hz]
theorem zW (z:Nat) (hz:z<18446744073709551616):IntKind.u64.wrap (bits BinOp.xor IntKind.u64 (z:Int) ((z:Int)/134217728)*10723151780598845931)=((CB z:Nat):Int):=by rw[IntKind.wrap_u64,zV z hz]
theorem EE (z:Nat):CA z<18446744073709551616:=Nat.mod_lt _ (by decide)
theorem EF (z:Nat):CB z<18446744073709551616:=Nat.mod_lt _ (by decide)
theorem Dk (s i:Nat):vS s i<18446744073709551616:=Nat.mod_lt _ (by decide)
def Bl (x:Nat):Value:= .int .u64 (x:Int)
structure iu (w : World) (seed k : Nat) (wr : World) : Prop where
 box:wr.heap[w.heap.size]? =some (.cells ((List.range k).map (fun i=>Bl (tH seed i))++List.replicate (256-k) (Bl 0)).toArray 46 (0,0))
 below:Below w.heap.size w wr
theorem iu.here {w wr:World} {seed k:Nat} (h:iu w seed k wr) (hk:k<256):wr.cell? ⟨w.heap.size,k,none⟩=some (.int .u64 0):=by
 rw[cell_of_row wr _ _ _ _ _ h.box,List.getElem?_toArray,List.getElem?_append_right (by simp)];rw[List.length_map,List.length_range,Nat.sub_self,show 256-k=(256-(k+1))+1 by omega,List.replicate_succ]
 rfl
theorem iu.put {w wr:World} {seed k:Nat} (h:iu w seed k wr) (hk:k<256):iu w seed (k+1) (wr.setCell ⟨w.heap.size,k,none⟩ (Bl (tH seed k))):=by
 refine⟨?_,h.below.trans ⟨rfl,rfl,rfl,by simp[World.setCell],fun j hj=>heap_setCell_other wr _ j _ (by show j≠w.heap.size; omega)⟩⟩;rw[heap_setCell_same wr _ _ _ _ _ h.box]
 congr 2
 rw[List.setIfInBounds_toArray,List.set_append_right _ _ (by simp),List.length_map,List.length_range,Nat.sub_self,show 256-k=(256-(k+1))+1 by omega,List.replicate_succ,List.range_succ,List.map_append];simp
theorem ED (w:World):(Instr.makeSlice 269 (.int .i64 256) (.int .i64 256)).run Tryz.prog w= .ok (.slice (some ⟨w.heap.size,0,none⟩) 256 256) (w.alloc (.cells (List.replicate 256 (Bl 0)).toArray 46)):=by kernel_rfl
theorem Bj (seed:Nat) (w:World):Calls Tryz.prog 204 #[.int .u64 (seed:Int)] w fun e w'=>e= .returned (.slice (some ⟨w.heap.size,0,none⟩) 256 256)/\iu w seed 256 w':=by
 have hmk:=ED
 go_enter Tryz.func204,Tryz.ntmps204
 go_wp2_with fail;have HT0:=ab (show iu w seed 0 (w.alloc (.cells (List.replicate 256 (Bl 0)).toArray 46))from⟨by rw[heap_alloc_new]; rfl,(Below.refl _ _).alloc (Nat.le_refl _) _⟩);clear hmk
 go_loopw [9] (fun i wr=> ∃k:Nat,k<=256/\i= .int .i64 (k:Int)/\iu w seed k wr) (fun i _=>256-(intOf i).toNat)
 case atStart=>exact⟨0,by omega,rfl,HT0.out⟩
 case round=>
  obtain⟨k,hk,rfl,ht⟩:=hrel;have HT:=ab ht;have hz:=ht.below.size;clear ht
  by_cases h256:k<256
  ·have ch:=HT.out.here h256;have cf:=frozen_of_row wr _ k _ _ HT.out.box;have hki:(k:Int)<256:=by omega
   go_wp2_with fail
   go_roundw
   case rel=>
    rw[AV,zU _ (Dk _ _),zW _ (EE _),zX _ (EF _)];exact⟨k+1,by omega,by simp,HT.out.put h256⟩
   case measure=>simp[intOf]; omega
  ·obtain rfl:k=256:=by omega
   go_wp2_with fail;go_ret;exact⟨rfl,HT.out⟩
def nt (seed:Nat):List Value:=(List.range 256).map fun i=>Bl (tH seed i)
theorem mM (seed:Nat):(nt seed).length=256:=by simp[nt]
def eK (seed:Nat) (ring:List UInt8) (W s n h:Nat):List Value:=nt seed++(ring.map aN++[.int .i64 (W:Int), .int .i64 (s:Int), .int .i64 (n:Int), .int .u64 (h:Int)])
theorem iu.full {w wr:World} {seed:Nat} (h:iu w seed 256 wr):wr.heap[w.heap.size]? =some (.cells (nt seed).toArray 46 (0,0)):=by
 rw[h.box,Nat.sub_self,List.replicate_zero,List.append_nil]; rfl
def kC (W:Nat):List Value:=List.replicate 256 (.int .u64 0)++((List.replicate 64 (0:UInt8)).map aN++[.int .i64 (W:Int), .int .i64 0, .int .i64 0, .int .u64 0])
theorem vO (seed W:Nat) (w:World) (hW:1<=W) (hW2:W<=64):Calls Tryz.prog 194 #[.int .u64 (seed:Int), .int .i64 (W:Int)] w fun e w'=> ∃rb,e= .returned (.pointer (some ⟨rb,0,none⟩))/\w.heap.size<=rb/\
  w'.heap[rb]? =some (.cells (eK seed (List.replicate 64 0) W 0 0 0).toArray 242 (0,0))/\Below w.heap.size w w':=by
 have hmax:max (W:Int) 1=(W:Int):=by omega
 have hmin:min (W:Int) 64=(W:Int):=by omega
 go_enter Tryz.func194,Tryz.ntmps194
 go_wp2_with fail;obtain⟨w1,hw1⟩: ∃w1,w1=w.alloc (.cells (Tryz.zeroCells242.setIfInBounds 320 (.int .i64 (W:Int))) 242):=⟨_,rfl⟩;rw[<-hw1];have HX1:=ab (show w1.heap[w.heap.size]? =some (.cells (kC W).toArray 242 (0,0)) by rw[hw1,heap_alloc_new,show Tryz.zeroCells242.setIfInBounds 320 (.int .i64 (W:Int))=(kC W).toArray by kernel_rfl]);have HB1:=ab (show Below w.heap.size w w1 by rw[hw1]; exact(Below.refl _ _).alloc (Nat.le_refl _) _)
 clear hw1 hmax hmin;refine cX (fun _=>True) (by kernel_rfl) ?_;obtain⟨V,hV⟩: ∃V:World,V=w1.drew:=⟨_,rfl⟩;rw[<-hV];have HXV:=ab (show V.heap[w.heap.size]? =some (.cells (kC W).toArray 242 (0,0)) by rw[hV]; exact HX1.out);have HBV:=ab (show Below w.heap.size w V by rw[hV]; exact HB1.out.trans (Below.refl _ _).drew);clear hV;refine ag 0 rfl (by kernel_rfl) (by kernel_rfl) (by kernel_rfl) (fun _ _ _ h=>h) rfl trivial (by intro w' hw1; go_simp; rfl) ?_
 simp only[Act.put,aH,aI,aJ];refine ag 1 rfl (by kernel_rfl) (by kernel_rfl) (by kernel_rfl) (fun _ _ _ h=>h) rfl trivial (by intro w' hw1; go_simp; rfl) ?_;simp only[Act.put,aH,aI,aJ];refine ag 2 rfl (by kernel_rfl) (by kernel_rfl) (by kernel_rfl) (fun _ _ _ h=>h) rfl trivial (by intro w' hw1; go_simp; rfl) ?_;simp only[Act.put,aH,aI,aJ];refine ag 3 rfl (by kernel_rfl) (by kernel_rfl) (by kernel_rfl) (fun _ _ _ h=>h) rfl trivial (by intro w' hw1; go_simp; rfl) ?_
 simp only[Act.put,aH,aI,aJ];refine ag 4 rfl (by kernel_rfl) (by kernel_rfl) (by kernel_rfl) (fun _ _ _ h=>h) rfl trivial (by intro w' hw1; go_simp; rfl) ?_;simp only[Act.put,aH,aI,aJ];refine aC 5 rfl (by kernel_rfl) rfl (fun K hK=> ?_);go_wp2_with fail;refine(Bj seed V).mono ?_;rintro e w2 ⟨rfl,ht⟩;have HTF:=ab ht.full;have HB2:=ab (ak HBV.out ht.below)
 have HX2:=ab ((ht.below.block _ (lt_of_block HXV.out)).trans HXV.out);have HLT:=ab (lt_of_block HXV.out);clear ht;go_wp2_with fail
 try refine⟨trivial, ?_⟩
 refine aC 6 rfl (by kernel_rfl) rfl (fun K hK=> ?_);have HSRC:=ab (show ∀j v,(nt seed)[j]? =some v->w2.cell? ((⟨V.heap.size,0,none⟩:Addr).add j)=some v from fun j v hj=>by rw[Addr.add_mid,Nat.zero_add,cell_of_row w2 _ _ _ _ _ HTF.out,List.getElem?_toArray]; exact hj);have HFIT:=ab (show 0+(nt seed).length<=(kC W).toArray.size by rw[mM,List.size_toArray]; simp[kC])
 have HONE:=ab (show ∀v∈nt seed,v.oneCell'=true from fun v hv=>by obtain⟨x,_,rfl⟩:=List.mem_map.1 hv; rfl);go_wp2_with (refine wpList_copy_own rfl _ _ 269 269 rfl 46 Tryz.underlying269 (by kernel_rfl) w.heap.size 0 256 256 ⟨V.heap.size,0,none⟩ 256 256 rfl rfl (kC W).toArray 242 HX2.out (nt seed) rfl HSRC.out HFIT.out HONE.out ?_);simp only[Act.put,aH,aI,aJ];obtain⟨w3,hw3⟩: ∃w3,w3=w2.setRow w.heap.size (List.take 0 (kC W)++(nt seed++List.drop (0+(nt seed).length) (kC W))).toArray:=⟨_,rfl⟩
 have HX3:=ab (show w3.heap[w.heap.size]? =some (.cells (eK seed (List.replicate 64 0) W 0 0 0).toArray 242 (0,0)) by
  rw[hw3,setRow_heap w2 _ _ _ _ _ HX2.out,List.take_zero,List.nil_append,Nat.zero_add,mM]
  congr 3)
 have HB3:=ab (show Below w.heap.size w w3 by rw[hw3]; exact below_setRow HB2.out (Nat.le_refl _) _);refine⟨trivial, ?_⟩;refine bu (by kernel_rfl) ?_
 change Exit.then _ _ _ _ (w2.setRow w.heap.size (List.take 0 (kC W)++(nt seed++List.drop (0+(nt seed).length) (kC W))).toArray)
 rw[<-hw3];clear hw3;go_wp2_with fail;go_ret;exact⟨_,rfl,Nat.le_refl _,HX3.out,HB3.out⟩
theorem lW.below {w w':World} {sb:Nat} {ty:TypeId} {rest:List Value} {data:List UInt8} (h:lW w sb ty rest data) (hb:Below w.heap.size w w'):lW w' sb ty rest data:=by
 obtain⟨b,h1,h2,h3⟩:=h;exact⟨b,h1,h2,(hb.block _ (lt_of_block h3)).trans h3⟩
theorem gH.below {w w':World} (h:gH w) (hb:Below w.heap.size w w') (hlt:4<w.heap.size):gH w':=by
 intro j x hj;rw[<-h j x hj];exact World.cell?_of_block (hb.block _ hlt)
theorem jM.below {w0 w w':World} (h:jM w) (hb:Below w0.heap.size w w') (hlt:1<w0.heap.size):jM w':=by
 intro j x hj;rw[<-h j x hj];exact World.cell?_of_block (hb.block _ hlt)
theorem su {w:World} {sb:Nat} {cs:List Value} {ty:TypeId} (h:w.heap[sb]? =some (.cells cs.toArray ty (0,0))):w.rangeAt sb 0 cs:=by
 intro j x hj;rw[cell_of_row w _ _ _ _ _ h,Nat.zero_add,List.getElem?_toArray];exact hj
theorem tS {ops:Array Oper} {rest:List Oper} {o:Oper} {a:Act} {w:World} {Q:Exit->Act->World->Prop} (hg:o.guard=none) (t:TypeId) (parts:Array (Nat×Operand)) (ho:o.op= .build t parts) (vs:List (Nat×Value))
  (hv:(parts.map fun(i,x)=>(i,a.eval x)).toList=vs) (c:Array Value) (hb:Tryz.prog.built t vs=some c) (h:wpList Tryz.prog ops Q rest (a.put o.dst (.agg c)) w):wpList Tryz.prog ops Q (o::rest) a w:=by
 subst hv;exact wpList_build hg t parts ho (by rw[hb]; rfl) (by rw[hb]; exact h)
structure eU where
 mn:Int
 mx:Int
 win:Int
 bits:Int
 seed:Nat
def cT (c:eU):List Value:=[.int .i64 c.mn, .int .i64 c.mx, .int .i64 c.win, .int .i64 c.bits, .int .u64 (c.seed:Int)]
def iw (c:eU):Value:= .agg #[.int .i64 c.mn, .int .i64 c.mx, .int .i64 c.win, .int .i64 c.bits, .int .u64 (c.seed:Int)]
def fq (c:eU):Bool:=decide (1<=c.win) && decide (c.win<=64) && decide (c.win<=c.mn) && decide (c.mn<=c.mx) && decide (c.mx<=32768) && decide (0<=c.bits) && decide (c.bits<=20)
theorem fo {c:eU} :fq c=true<->1<=c.win/\c.win<=64/\c.win<=c.mn/\c.mn<=c.mx/\c.mx<=32768/\0<=c.bits/\c.bits<=20:=by unfold fq; simp[and_assoc]
theorem tp (c:eU) (w:World):Calls Tryz.prog 36 #[iw c] w fun e w'=>e= .returned (.bool (fq c))/\Below w.heap.size w w':=by
 unfold iw
 go_enter Tryz.func36,Tryz.ntmps36
 go_wp2_with fail
 all_goals (go_ret; refine⟨az ?_,(Below.refl _ _).alloc (Nat.le_refl _) _⟩; rw[Bool.eq_iff_iff,fo]; simp; try omega)
theorem Cs {place:Nat->Option (Nat×Nat)} {cells:Array Value} {i off:Nat} {v:Value} {rest:List (Nat×Value)} (hp:place i=some (off,1)) (hv:v.cells= #[v]) (hf:off<cells.size):
  Instr.fill place cells ((i,v)::rest)=Instr.fill place (cells.setIfInBounds off v) rest:=by
 rw[Instr.fill,hp];simp only[hv];rw[if_neg (by simp; omega)]
 rfl
def DJ :List Value:=kC 0++([.int .i64 0, .int .i64 0, .int .i64 0, .int .i64 0, .int .u64 0]++[.int .i64 0, .int .i64 0])
theorem Bp :DJ.length=331:=by kernel_rfl
theorem nj (seed:Nat) {ring:List UInt8} (h:ring.length=64) (W s n x:Nat):(eK seed ring W s n x).length=324:=by unfold eK; rw[List.length_append,mM,List.length_append,List.length_map,h]; rfl
theorem wN (r:List Value) (c:eU) (l:Int) (hr:r.length=324):Tryz.prog.built 244 [(0, .agg r.toArray),(1,iw c),(3, .int .i64 l)]=some (r++(cT c++[Value.int .i64 0,Value.int .i64 l])).toArray:=by
 have h: ∀parts,Tryz.prog.built 244 parts=Instr.fill (fun i=>(#[(0,324),(324,5),(329,1),(330,1)]:Array (Nat×Nat))[i]?) DJ.toArray parts:=fun parts=>by kernel_rfl
 have e0:splice DJ 0 r=r++([.int .i64 0, .int .i64 0, .int .i64 0, .int .i64 0, .int .u64 0]++[.int .i64 0, .int .i64 0]):=by
  unfold splice;rw[List.take_zero,List.nil_append,Nat.zero_add,hr]
  congr 1
 rw[h,rO (off:=0) (size:=324) rfl (by simpa using hr) (by rw[List.size_toArray,Bp]; decide)];simp only;rw[e0];unfold iw;rw[rO (off:=324) (size:=5) rfl rfl (by rw[List.size_toArray,List.length_append,hr]; decide),Cs (off:=330) rfl rfl (by rw[List.size_toArray,length_splice _ _ _ (by rw[List.length_append,hr]; show 324+5<=324+7; decide),List.length_append,hr]; show 330<324+7; decide)]
 simp only[Instr.fill]
 congr 1
 unfold splice;rw[List.setIfInBounds_toArray]
 congr 1
 rw[List.take_append_of_le_length (by omega),List.take_of_length_le (by omega),List.drop_append,List.drop_eq_nil_of_le (by rw[hr]; show 324<=324+5; decide),List.set_append_right _ _ (by omega),hr]
 rfl
def lq (c:eU) (roll:List Value) (pos last:Int):List Value:=roll++(cT c++[Value.int .i64 pos,Value.int .i64 last])
theorem mZ (c:eU) {roll:List Value} (h:roll.length=324) (p l:Int):(lq c roll p l).length=331:=by unfold lq; rw[List.length_append,h]; rfl
theorem As (seed:Nat) (ring:List UInt8) (W s n x:Nat): ∀v∈eK seed ring W s n x,v.oneCell'=true:=by
 intro v hv;unfold eK at hv
 rcases List.mem_append.1 hv with hv | hv
 ·obtain⟨y,_,rfl⟩:=List.mem_map.1 hv; rfl
 ·rcases List.mem_append.1 hv with hv | hv
  ·obtain⟨y,_,rfl⟩:=List.mem_map.1 hv; rfl
  ·simp only[List.mem_cons,List.not_mem_nil,or_false]at hv
   rcases hv with rfl | rfl | rfl | rfl<;> rfl
theorem rW (c:eU) (seed:Nat) (W:Nat) (l:Int): ∀v∈eK seed (List.replicate 64 0) W 0 0 0++(cT c++[Value.int .i64 0,Value.int .i64 l]),v.oneCell'=true:=by
 intro v hv
 rcases List.mem_append.1 hv with hv | hv
 ·exact As _ _ _ _ _ _ v hv
 ·simp only[cT,List.mem_append,List.mem_cons,List.not_mem_nil,or_false]at hv
  rcases hv with(rfl | rfl | rfl | rfl | rfl) | rfl | rfl<;> rfl
theorem xK (seed W:Nat) (wi:Int) (w:World) (hwi:wi=(W:Int)) (hW:1<=W) (hW2:W<=64):Calls Tryz.prog 194 #[.int .u64 (seed:Int), .int .i64 wi] w fun e w'=> ∃rb,e= .returned (.pointer (some ⟨rb,0,none⟩))/\w.heap.size<=rb/\
  w'.heap[rb]? =some (.cells (eK seed (List.replicate 64 0) W 0 0 0).toArray 242 (0,0))/\Below w.heap.size w w':=by
 subst hwi; exact vO seed W w hW hW2
theorem qQ (c:eU) (W:Nat) (w:World) (_hs:c.seed<18446744073709551616) (hW:c.win=(W:Int)) (h1:1<=W) (h2:W<=64) (hm:0<=c.mn/\c.mn<=32768):
  Calls Tryz.prog 175 #[iw c] w fun e w'=>e= .returned (.agg (lq c (eK c.seed (List.replicate 64 0) W 0 0 0) 0 (-c.mn)).toArray)/\Below w.heap.size w w':=by
 have HW:=ab hW;have hneg:IntKind.i64.wrap (-c.mn)= -c.mn:=by rw[IntKind.wrap_i64]; omega
 clear hW;unfold iw
 go_enter Tryz.func175,Tryz.ntmps175
 go_wp2_with fail;obtain⟨w1,hw1⟩: ∃w1,w1=(w.alloc (.cells #[.int .i64 c.mn, .int .i64 c.mx, .int .i64 c.win, .int .i64 c.bits, .int .u64 (c.seed:Int)] 48)).alloc (.cells Tryz.zeroCells244 244):=⟨_,rfl⟩;rw[<-hw1];have HX1:=ab (show w1.heap[w.heap.size]? =some (.cells (cT c).toArray 48 (0,0)) by rw[hw1]; exact heap_alloc2_old w _ _);have HZ1:=ab (show w1.heap[w.heap.size+1]? =some (.cells Tryz.zeroCells244 244 (0,0)) by rw[hw1]; exact heap_alloc2_new w _ _)
 have HB1:=ab (show Below w.heap.size w w1 by rw[hw1]; exact((Below.refl _ _).alloc (Nat.le_refl _) _).alloc (by simp) _);clear hw1;refine cX (fun w'=>w'.cell? ⟨w.heap.size,0,none⟩=some (.int .i64 c.mn)/\w'.cell? ⟨w.heap.size,1,none⟩=some (.int .i64 c.mx)/\w'.cell? ⟨w.heap.size,2,none⟩=some (.int .i64 c.win)/\w'.cell? ⟨w.heap.size,3,none⟩=some (.int .i64 c.bits)/\w'.cell? ⟨w.heap.size,4,none⟩=some (.int .u64 (c.seed:Int))) (by kernel_rfl) ?_
 obtain⟨V,hV⟩: ∃V:World,V=w1.drew:=⟨_,rfl⟩;rw[<-hV];have HXV:=ab (show V.heap[w.heap.size]? =some (.cells (cT c).toArray 48 (0,0)) by rw[hV]; exact HX1.out);have HZV:=ab (show V.heap[w.heap.size+1]? =some (.cells Tryz.zeroCells244 244 (0,0)) by rw[hV]; exact HZ1.out);have HBV:=ab (show Below w.heap.size w V by rw[hV]; exact HB1.out.trans (Below.refl _ _).drew);clear hV
 have c0:V.cell? ⟨w.heap.size,0,none⟩=some (.int .i64 c.mn):=(cell_of_row V _ _ _ _ _ HXV.out).trans rfl;have c1:V.cell? ⟨w.heap.size,1,none⟩=some (.int .i64 c.mx):=(cell_of_row V _ _ _ _ _ HXV.out).trans rfl;have c2:V.cell? ⟨w.heap.size,2,none⟩=some (.int .i64 c.win):=(cell_of_row V _ _ _ _ _ HXV.out).trans rfl;have c3:V.cell? ⟨w.heap.size,3,none⟩=some (.int .i64 c.bits):=(cell_of_row V _ _ _ _ _ HXV.out).trans rfl
 have c4:V.cell? ⟨w.heap.size,4,none⟩=some (.int .u64 (c.seed:Int)):=(cell_of_row V _ _ _ _ _ HXV.out).trans rfl;refine ag 0 rfl (by kernel_rfl) (by kernel_rfl) (by kernel_rfl) (fun _ _ _ h=>h) rfl ⟨c0,c1,c2,c3,c4⟩ (by rintro w' ⟨hw1,hw2,hw3,hw4,hw5⟩; go_simp; rfl) ?_;simp only[Act.put,aH,aI,aJ];refine ag 1 rfl (by kernel_rfl) (by kernel_rfl) (by kernel_rfl) (fun _ _ _ h=>h) rfl ⟨c0,c1,c2,c3,c4⟩ (by rintro w' ⟨hw1,hw2,hw3,hw4,hw5⟩; go_simp; rfl) ?_
 simp only[Act.put,aH,aI,aJ];refine ag 2 rfl (by kernel_rfl) (by kernel_rfl) (by kernel_rfl) (fun _ _ _ h=>h) rfl ⟨c0,c1,c2,c3,c4⟩ (by rintro w' ⟨hw1,hw2,hw3,hw4,hw5⟩; go_simp; rfl) ?_;simp only[Act.put,aH,aI,aJ];refine ag 3 rfl (by kernel_rfl) (by kernel_rfl) (by kernel_rfl) (fun _ _ _ h=>h) rfl ⟨c0,c1,c2,c3,c4⟩ (by rintro w' ⟨hw1,hw2,hw3,hw4,hw5⟩; go_simp; rfl) ?_
 simp only[Act.put,aH,aI,aJ];refine ag 7 rfl (by kernel_rfl) (by kernel_rfl) (by kernel_rfl) (fun _ _ _ h=>h) rfl ⟨c0,c1,c2,c3,c4⟩ (by rintro w' ⟨hw1,hw2,hw3,hw4,hw5⟩; go_simp; rfl) ?_;simp only[Act.put,aH,aI,aJ];refine ag 8 rfl (by kernel_rfl) (by kernel_rfl) (by kernel_rfl) (fun _ _ _ h=>h) rfl ⟨c0,c1,c2,c3,c4⟩ (by rintro w' ⟨hw1,hw2,hw3,hw4,hw5⟩; go_simp; rfl) ?_
 simp only[Act.put,aH,aI,aJ];refine ag 9 rfl (by kernel_rfl) (by kernel_rfl) (by kernel_rfl) (fun _ _ _ h=>h) rfl ⟨c0,c1,c2,c3,c4⟩ (by rintro w' ⟨hw1,hw2,hw3,hw4,hw5⟩; go_simp; rfl) ?_;simp only[Act.put,aH,aI,aJ];refine ag 10 rfl (by kernel_rfl) (by kernel_rfl) (by kernel_rfl) (fun _ _ _ h=>h) rfl ⟨c0,c1,c2,c3,c4⟩ (by rintro w' ⟨hw1,hw2,hw3,hw4,hw5⟩; go_simp; rfl) ?_
 simp only[Act.put,aH,aI,aJ];refine aC 4 rfl (by kernel_rfl) rfl (fun K hK=> ?_);go_wp2_with fail;refine(xK c.seed W c.win V HW.out h1 h2).mono ?_;rintro e w2 ⟨rb,rfl,hrb,hbx,hb2⟩;have HB2:=ab (ak HBV.out hb2);have HX2:=ab ((hb2.block _ (lt_of_block HXV.out)).trans HXV.out);have HZ2:=ab ((hb2.block _ (lt_of_block HZV.out)).trans HZV.out);have HRB:=ab hbx
 clear c0 c1 c2 c3 c4 hb2 hbx;have c0:w2.cell? ⟨w.heap.size,0,none⟩=some (.int .i64 c.mn):=(cell_of_row w2 _ _ _ _ _ HX2.out).trans rfl;have c1:w2.cell? ⟨w.heap.size,1,none⟩=some (.int .i64 c.mx):=(cell_of_row w2 _ _ _ _ _ HX2.out).trans rfl;have c2:w2.cell? ⟨w.heap.size,2,none⟩=some (.int .i64 c.win):=(cell_of_row w2 _ _ _ _ _ HX2.out).trans rfl;have c3:w2.cell? ⟨w.heap.size,3,none⟩=some (.int .i64 c.bits):=(cell_of_row w2 _ _ _ _ _ HX2.out).trans rfl
 have c4:w2.cell? ⟨w.heap.size,4,none⟩=some (.int .u64 (c.seed:Int)):=(cell_of_row w2 _ _ _ _ _ HX2.out).trans rfl;go_wp2_with fail;refine⟨⟨c0,c1,c2,c3,c4⟩, ?_⟩;refine ag 5 rfl (by kernel_rfl) (by kernel_rfl) (by kernel_rfl) (fun _ _ _ h=>h) rfl ⟨c0,c1,c2,c3,c4⟩ (by rintro w' ⟨hw1,hw2,hw3,hw4,hw5⟩; go_simp; rfl) ?_;simp only[Act.put,aH,aI,aJ];obtain⟨rc,hrc⟩: ∃rc,rc=eK c.seed (List.replicate 64 0) W 0 0 0:=⟨_,rfl⟩
 have hrl:rc.length=324:=by rw[hrc]; exact nj _ (by simp) _ _ _ _
 rw[<-hrc]at HRB;have HRC:=ab hrc;clear hrc;have HI324:=ab (show(Tryz.prog.info? 242).map (·.size)=some rc.length by rw[hrl]; kernel_rfl);have HRG:=ab (su HRB.out);have HBM:=ab (wN rc c (-c.mn) hrl);have HRL:=ab hrl;clear hrl;refine aC 6 rfl (by kernel_rfl) rfl (fun K hK=> ?_);go_wp2_with (refine wpList_load_mid rfl 242 _ rfl rb 0 rfl rc _ HRG.out Tryz.underlying242 rfl HI324.out ?_)
 refine⟨⟨c0,c1,c2,c3,c4⟩, ?_⟩;simp only[Act.put,aH,aI,aJ];refine aC 11 rfl (by kernel_rfl) rfl (fun K hK=> ?_);go_wp2_with (go_loud (refine tS rfl 244 _ rfl [(0, .agg rc.toArray),(1,iw c),(3, .int .i64 (-c.mn))] (by kernel_rfl) _ HBM.out ?_));refine⟨⟨c0,c1,c2,c3,c4⟩, ?_⟩;simp only[Act.put,aH,aI,aJ];refine aC 12 rfl (by kernel_rfl) rfl (fun K hK=> ?_)
 obtain⟨mc,hmc⟩: ∃mc,mc=rc++(cT c++[Value.int .i64 0,Value.int .i64 (-c.mn)]):=⟨_,rfl⟩;have hml:mc.length=331:=by rw[hmc]; exact mZ c HRL.out 0 (-c.mn)
 rw[<-hmc];have HMC:=ab hmc;have HI331:=ab (show(Tryz.prog.info? 244).map (·.size)=some mc.toArray.size by rw[List.size_toArray,hml]; kernel_rfl);have HOLD:=ab (show Tryz.zeroCells244.size=mc.toArray.size by rw[show mc.toArray.size=331 from by rw[List.size_toArray]; exact hml]; kernel_rfl);have HONE:=ab (show mc.toArray.all (·.oneCell')=true from all_oneCell_toArray (by
  rw[hmc,HRC.out];exact rW c _ _ _))
 clear hml hmc;go_wp2_with (go_loud (refine wpList_store_row rfl 244 _ _ rfl (w.heap.size+1) _ rfl rfl _ _ HZ2.out HI331.out HOLD.out HONE.out ?_));simp only[Act.put];obtain⟨w3,hw3⟩: ∃w3,w3=w2.setRow (w.heap.size+1) mc.toArray:=⟨_,rfl⟩;rw[<-hw3];have hX3:w3.heap[w.heap.size]? =some (.cells (cT c).toArray 48 (0,0)):=by rw[hw3,setRow_other w2 _ _ _ (by omega)]; exact HX2.out
 have HM3:=ab (show w3.heap[w.heap.size+1]? =some (.cells mc.toArray 244 (0,0)) by rw[hw3]; exact setRow_heap w2 _ _ _ _ _ HZ2.out);have HB3:=ab (show Below w.heap.size w w3 by rw[hw3]; exact below_setRow HB2.out (by omega) _);clear hw3;refine⟨⟨(cell_of_row w3 _ _ _ _ _ hX3).trans rfl,(cell_of_row w3 _ _ _ _ _ hX3).trans rfl,(cell_of_row w3 _ _ _ _ _ hX3).trans rfl,(cell_of_row w3 _ _ _ _ _ hX3).trans rfl,(cell_of_row w3 _ _ _ _ _ hX3).trans rfl⟩, ?_⟩
 refine bu (by kernel_rfl) ?_;clear c0 c1 c2 c3 c4 hX3;have HFIN:=ab (show Ending.returned (.agg mc.toArray)=Ending.returned (.agg (lq c (eK c.seed (List.replicate 64 0) W 0 0 0) 0 (-c.mn)).toArray) by rw[HMC.out,HRC.out]; rfl);go_wp2_with fail;refine bodyPost_ret (results_cell_row rfl _ _ (w.heap.size+1) _ _ _ _ rfl HM3.out Tryz.underlying244 rfl HI331.out) rfl ?_;exact⟨HFIN.out,HB3.out⟩
end Go.Proofs.YtnjkpcalgoefhaaGreatDoor
