/- Texts of this proof, one after the other: LawDec, Frame, OpI. -/
import Derived.Test.YtnjkpcalgoefhaaGreatDoorCDecodesG
set_option maxRecDepth 100000
set_option maxHeartbeats 8000000
namespace Go.Proofs.YtnjkpcalgoefhaaGreatDoor
open Go Go.RowKit Go.Maps
def xZ (X:Obj) (b:Nat) (v:Value) (data:List UInt8) (w:World):Prop:=w.heap[b]? =some X/\aX (fun _=>True) w v data
theorem xZ.below {X:Obj} {b:Nat} {v:Value} {data:List UInt8} {w w':World} (h:xZ X b v data w) (hb:Below w.heap.size w w'):xZ X b v data w':=
 ⟨(hb.block _ (lt_of_block h.1)).trans h.1,aO.below h.2 (by omega) hb⟩
theorem AH (S:Nat->Prop) (data:List UInt8) (v:Value) (w:World) (hv:aX S w v data) (hl:data.length<=32768) (he:jl w) (h:jx data=none):Calls Tryz.prog 26 #[v] w fun e w'=>e= .returned (.tuple #[.agg #[.int .i64 0, .slice none 0 0], .int .i64 3])/\Below w.heap.size w w':=by
 refine(kF S data v w hv hl he).mono ?_;rintro e w' ⟨hb,hr⟩;rw[h]at hr;exact⟨hr,hb⟩
theorem AJ (S:Nat->Prop) (data:List UInt8) (v:Value) (x:dh) (w:World) (hv:aX S w v data) (hl:data.length<=32768) (he:jl w) (h:jx data=some x):Calls Tryz.prog 26 #[v] w fun e w'=> ∃a c,e= .returned (.tuple #[.agg #[.int .i64 x.tm, .slice a x.files.length c], .int .i64 0])/\aZ (w.heap.size<= ·) w' (.slice a x.files.length c) x.files/\Below w.heap.size w w':=by
 refine(kF S data v w hv hl he).mono ?_;rintro e w' ⟨hb,hr⟩;rw[h]at hr;obtain⟨fv,rfl,hf⟩:=hr;obtain⟨a,c,rfl,-,-,-⟩:=aY.shape hf fF.len;exact⟨a,c,rfl,hf,hb⟩
theorem wG (S:Nat->Prop) (x:dh) (fv:Value) (w:World) (hx:aZ S w fv x.files) (hps: ∀f∈x.files,f.path.size<=16777216) (hlen:x.files.length<=1048576) (hpl: ∀f∈x.files,f.parts.length<=1048576) (h:di x=true):Calls Tryz.prog 13 #[gd fv x.tm] w fun e w'=>e= .returned (.bool true)/\Below w.heap.size w w':=by
 rw[<-h]; exact wF S x fv w hx hps hlen hpl
structure ED (x : dh) : Prop where
 tml:x.tm<9223372036854775808
 sh:DX x
 fok: ∀f∈x.files,FOk f
 path: ∀f∈x.files,f.path.size<=16777216
 len: ∀f∈x.files,f.parts.length<=1048576
 pok: ∀f∈x.files,∀p∈f.parts,de p
 n:x.files.length<=1048576
theorem CY {S:Nat->Prop} {w:World} {fv:Value} {x:dh} (ht:x.tm<9223372036854775808) (h:di x=true) (hl:(fS x).length<=32768) (hf:aZ S w fv x.files):ED x:=by
 have h1:=yw h hl;obtain⟨a,cap,rfl,-,-,-⟩:=aY.shape hf fF.len;obtain⟨-,-,h2⟩:=mj h;have h3: ∀f∈x.files,FOk f:=fun f hm=>tG (h2 f hm).1 (h2 f hm).2 (by
  have h4:=oD hf f hm;exact⟨h4.knd,h4.mde,h4.tim,by have:=h1.each f hm; omega⟩)
 exact⟨ht,h1,h3,fun f hm=>by have:=(h3 f hm).path; omega,fun f hm=>by have:=h1.each f hm; omega,fun g hg=>by
  obtain⟨k,hk⟩:=List.getElem?_of_mem hg;obtain⟨_,_,_,_,_,_,h3,_⟩:=dK hf (Below.refl _ _) hk;exact ur h3,by have:=h1.num; omega⟩
theorem Ev (S:Nat->Prop) (x:dh) (fv:Value) (data:List UInt8) (w:World) (hx:aZ S w fv x.files) (h:ED x) (he:fS x=data) (hl:data.length<=32768):
  Calls Tryz.prog 27 #[gd fv x.tm] w fun e w'=> ∃v,e= .returned v/\aX (w.heap.size<= ·) w' v data/\Below w.heap.size w w':=by
 subst he;exact uE S x fv w hx h.sh.num h.sh.tot h.fok h.sh.tm h.tml (by omega)
theorem CL {data:List UInt8} {x:dh} (h:jx data=some x):x.tm<9223372036854775808:=by
 unfold jx at h;rw[Option.bind_eq_some_iff]at h;obtain⟨p,-,h⟩:=h
 split at h
 ·simp only[Option.some.injEq]at h;rw[<-h]
  show lX _<_
  unfold lX wrap64; omega
 ·cases h
theorem AK (v:Value) (data:List UInt8) (w:World) (he:je w) (hv:aX (fun _=>True) w v data):
  Calls Tryz.prog 7 #[v] w fun e w'=>e= .returned (.bool true)/\Below w.heap.size w w':=by
 obtain⟨_,a,cap,rfl,hn,hm,-⟩:=id hv;unfold maxLen at hm;have HE:=aa he;have h6:=he.six;have HV:=aa hv;clear he hv;obtain⟨n,hnl⟩: ∃n,n=data.length:=⟨_,rfl⟩;rw[<-hnl]at HV hn ⊢;have HN:=aa hnl;clear hnl
 go_enter Tryz.func7,Tryz.ntmps7
 by_cases hbig:2000<n
 ·go_wp2_with fail;refine(jq _ HE.out).mono ?_;rintro e w1 ⟨rfl,hb1⟩;have HB1:=aa hb1;clear hb1;go_wp2_with fail;go_ret;exact⟨rfl,HB1.out⟩
 ·have HL:=aa (show data.length<=2000 by have:=HN.out; omega);have HLL:=aa (show data.length<=32768 by have:=HN.out; omega)
  cases hd:jx data with
  | none=>
   have HD:=aa hd;clear hd;go_wp2_with fail;refine(AH _ data _ _ HV.out HLL.out HE.out.env HD.out).mono ?_;rintro e w1 ⟨rfl,hb1⟩;have HB1:=aa hb1;clear hb1;go_wp2_with fail;obtain⟨W1,hW1⟩: ∃W1,W1=w1.alloc (.cells #[.int .i64 0, .slice none 0 0] 24):=⟨_,rfl⟩;rw[<-hW1];have HX1:=aa (show W1.heap[w1.heap.size]? =some (.cells #[.int .i64 0, .slice none 0 0] 24 (0,0)) by rw[hW1]; exact heap_alloc_new w1 _)
   have HB2:=aa (show Below w.heap.size w W1 by rw[hW1]; exact HB1.out.alloc HB1.out.size _);obtain⟨b,hb⟩: ∃b,b=w1.heap.size:=⟨_,rfl⟩;rw[<-hb]at HX1 ⊢;clear hW1 hb;refine(jq _ (HE.out.keep HB2.out h6)).mono ?_;rintro e w3 ⟨rfl,hb3⟩;have HB3:=aa (ag HB2.out hb3);have HX3:=aa ((hb3.block _ (lt_of_block HX1.out)).trans HX1.out);clear hb3;have x0:=ah (k:=0) HX3.out
   have x1:=ah (k:=1) HX3.out;simp only[List.getElem?_toArray,ci]at x0 x1;go_wp2_with fail;go_ret;exact⟨rfl,HB3.out⟩
  | some x=>
   have HD:=aa hd;obtain⟨hen,hvi⟩:=Da hd;have HVI:=aa hvi;have HEN:=aa hen;clear hd hen hvi;go_wp2_with fail;refine(AJ _ data _ x _ HV.out HLL.out HE.out.env HD.out).mono ?_;rintro e w1 ⟨fa,fc,rfl,hf1,hb1⟩;have HIF:=aa (CY (CL HD.out) HVI.out (by rw[HEN.out]; exact HLL.out) hf1);have HB1:=aa hb1;have HF1:=aa hf1;have HV1:=aa (aO.below HV.out (by omega) hb1)
   obtain⟨fl,hfl⟩: ∃m,m=x.files.length:=⟨_,rfl⟩;rw[<-hfl]at HF1 ⊢;have HFL:=aa hfl;clear hb1 hf1 hfl;go_wp2_with fail;obtain⟨W1,hW1⟩: ∃W1,W1=w1.alloc (.cells #[.int .i64 x.tm, .slice fa fl fc] 24):=⟨_,rfl⟩;rw[<-hW1];have hbw:Below w1.heap.size w1 W1:=by rw[hW1]; exact(Below.refl _ _).alloc (Nat.le_refl _) _
   have HX1:=aa (show W1.heap[w1.heap.size]? =some (.cells #[.int .i64 x.tm, .slice fa fl fc] 24 (0,0)) by rw[hW1]; exact heap_alloc_new w1 _);have HB2:=aa (ag HB1.out hbw);have HF2:=aa (HF1.out.below hbw);have HV2:=aa (aO.below HV1.out (by omega) hbw);obtain⟨b,hb⟩: ∃b,b=w1.heap.size:=⟨_,rfl⟩;rw[<-hb]at HX1 ⊢;clear hW1 hb hbw;refine cI (xZ (.cells #[.int .i64 x.tm, .slice fa fl fc] 24 (0,0)) b (.slice a n cap) data) (by kernel_rfl) ?_
   obtain⟨V,hV⟩: ∃V:World,V=W1.drew:=⟨_,rfl⟩;rw[<-hV];have hb:Below W1.heap.size W1 V:=by rw[hV]; exact(Below.refl _ _).drew
   have HBV:=aa (ag HB2.out hb);have HFV:=aa (HF2.out.below hb);have SV:=aa (xZ.below (show xZ (.cells #[.int .i64 x.tm, .slice fa fl fc] 24 (0,0)) b (.slice a n cap) data W1 from⟨HX1.out,HV2.out⟩) hb);clear hV hb;refine ax 0 rfl (by kernel_rfl) rfl (fun K hK=> ?_);go_wp2_with (go_at_call 11; refine(jq _ (HE.out.keep HBV.out h6)).mono ?_; rintro e w3 ⟨rfl,hb⟩)
   have HF3:=aa (HFV.out.below hb);have HB3:=aa (ag HBV.out hb);have S3:=aa (SV.out.below hb);clear hb;refine⟨S3.out, ?_⟩;refine ab 1 rfl (by kernel_rfl) (by kernel_rfl) (by kernel_rfl) (fun _ _ _ h=>h) rfl S3.out (by rintro w' ⟨hx,hv⟩; have x0:=ah (k:=0) hx; have x1:=ah (k:=1) hx; have hcv:=cr hv; simp only[List.getElem?_toArray,ci]at x0 x1; go_simp; rfl) ?_
   simp only[Act.put,aD,aE,aF];refine ab 2 rfl (by kernel_rfl) (by kernel_rfl) (by kernel_rfl) (fun _ _ _ h=>h) rfl S3.out (by rintro w' ⟨hx,hv⟩; have x0:=ah (k:=0) hx; have x1:=ah (k:=1) hx; have hcv:=cr hv; simp only[List.getElem?_toArray,ci]at x0 x1; go_simp; rfl) ?_;simp only[Act.put,aD,aE,aF];refine ax 3 rfl (by kernel_rfl) rfl (fun K hK=> ?_)
   go_wp2_with (go_at_call 14; refine(mV _ x _ _ HF3.out HIF.out.n HIF.out.len HIF.out.pok).mono ?_; rintro e w4 ⟨fv2,rfl,hfo,hb⟩; unfold gd);have HFO:=aa hfo.at
   have HF4:=aa (HF3.out.below hb);clear hfo;have HB4:=aa (ag HB3.out hb);have S4:=aa (S3.out.below hb);clear hb;refine⟨S4.out, ?_⟩;refine ax 4 rfl (by kernel_rfl) rfl (fun K hK=> ?_);go_wp2_with (go_at_call 13; refine(wG _ x fv2 _ HFO.out HIF.out.path HIF.out.n HIF.out.len HVI.out).mono ?_; rintro e w5 ⟨rfl,hb⟩);have HF5:=aa (HF4.out.below hb);clear HFO;have HB5:=aa (ag HB4.out hb)
   have S5:=aa (S4.out.below hb);clear hb;refine⟨S5.out, ?_⟩;refine ab 5 rfl (by kernel_rfl) (by kernel_rfl) (by kernel_rfl) (fun _ _ _ h=>h) rfl S5.out (by rintro w' ⟨hx,hv⟩; have x0:=ah (k:=0) hx; have x1:=ah (k:=1) hx; have hcv:=cr hv; simp only[List.getElem?_toArray,ci]at x0 x1; go_simp; rfl) ?_;simp only[Act.put,aD,aE,aF];refine ab 6 rfl (by kernel_rfl) (by kernel_rfl) (by kernel_rfl) (fun _ _ _ h=>h) rfl S5.out (by rintro w' ⟨hx,hv⟩; have x0:=ah (k:=0) hx; have x1:=ah (k:=1) hx; have hcv:=cr hv; simp only[List.getElem?_toArray,ci]at x0 x1; go_simp; rfl) ?_
   simp only[Act.put,aD,aE,aF];refine ab 7 rfl (by kernel_rfl) (by kernel_rfl) (by kernel_rfl) (fun _ _ _ h=>h) rfl S5.out (by rintro w' ⟨hx,hv⟩; have x0:=ah (k:=0) hx; have x1:=ah (k:=1) hx; have hcv:=cr hv; simp only[List.getElem?_toArray,ci]at x0 x1; go_simp; rfl) ?_;simp only[Act.put,aD,aE,aF];refine ab 11 rfl (by kernel_rfl) (by kernel_rfl) (by kernel_rfl) (fun _ _ _ h=>h) rfl S5.out (by rintro w' ⟨hx,hv⟩; have x0:=ah (k:=0) hx; have x1:=ah (k:=1) hx; have hcv:=cr hv; simp only[List.getElem?_toArray,ci]at x0 x1; go_simp; rfl) ?_
   simp only[Act.put,aD,aE,aF];refine ab 12 rfl (by kernel_rfl) (by kernel_rfl) (by kernel_rfl) (fun _ _ _ h=>h) rfl S5.out (by rintro w' ⟨hx,hv⟩; have x0:=ah (k:=0) hx; have x1:=ah (k:=1) hx; have hcv:=cr hv; simp only[List.getElem?_toArray,ci]at x0 x1; go_simp; rfl) ?_;simp only[Act.put,aD,aE,aF];refine ax 8 rfl (by kernel_rfl) rfl (fun K hK=> ?_)
   go_wp2_with (go_at_call 14; refine(mV _ x _ _ HF5.out HIF.out.n HIF.out.len HIF.out.pok).mono ?_; rintro e w6 ⟨fv3,rfl,hfo,hb⟩; unfold gd);have HFO:=aa hfo.at
   clear hfo;have HB6:=aa (ag HB5.out hb);have S6:=aa (S5.out.below hb);clear hb;refine⟨S6.out, ?_⟩;refine ax 9 rfl (by kernel_rfl) rfl (fun K hK=> ?_);go_wp2_with (go_at_call 27; refine(Ev _ x fv3 data _ HFO.out HIF.out HEN.out HLL.out).mono ?_; rintro e w7 ⟨bv,rfl,hbv,hb⟩);have hcv:=cr hbv;have HB7:=aa (ag HB6.out hb);have S7:=aa (S6.out.below hb)
   clear hb;refine⟨S7.out, ?_⟩;refine ax 10 rfl (by kernel_rfl) rfl (fun K hK=> ?_);go_wp2_with fail;refine⟨S7.out, ?_⟩;clear hcv hbv;refine ab 13 rfl (by kernel_rfl) (by kernel_rfl) (by kernel_rfl) (fun _ _ _ h=>h) rfl S7.out (by rintro w' ⟨hx,hv⟩; have x0:=ah (k:=0) hx; have x1:=ah (k:=1) hx; have hcv:=cr hv; simp only[List.getElem?_toArray,ci]at x0 x1; go_simp; rfl) ?_
   simp only[Act.put,aD,aE,aF];refine ab 14 rfl (by kernel_rfl) (by kernel_rfl) (by kernel_rfl) (fun _ _ _ h=>h) rfl S7.out (by rintro w' ⟨hx,hv⟩; have x0:=ah (k:=0) hx; have x1:=ah (k:=1) hx; have hcv:=cr hv; simp only[List.getElem?_toArray,ci]at x0 x1; go_simp; rfl) ?_;simp only[Act.put,aD,aE,aF];refine ab 15 rfl (by kernel_rfl) (by kernel_rfl) (by kernel_rfl) (fun _ _ _ h=>h) rfl S7.out (by rintro w' ⟨hx,hv⟩; have x0:=ah (k:=0) hx; have x1:=ah (k:=1) hx; have hcv:=cr hv; simp only[List.getElem?_toArray,ci]at x0 x1; go_simp; rfl) ?_
   simp only[Act.put,aD,aE,aF];refine bh (by kernel_rfl) ?_;go_wp2_with fail;go_ret;exact⟨rfl,HB7.out⟩
end Go.Proofs.YtnjkpcalgoefhaaGreatDoor
namespace Go.Proofs.YtnjkpcalgoefhaaGreatDoor
open Go.ChangeShapes Go.WideShapes Go.ChangeAt Go.RowKit Go.Lib Go.Shelf
open Go.ChangeMaps (open_string shut_string)
section
variable {H : Type} {enc : TypeId × Value → H}
theorem Eo {a:Assume} {C:Checked} {os:Os} {f:FuncId} {fn:Func} {s:ChangeSpec} {conds:List PathCond} {apart fresh handsOn again:Bool} {X:World->Array Value->Prop}
  (hX: ∀(w w':World) (args:Array Value),w.heap=w'.heap->X w args->X w' args)
  (own:ownKnob C.prog.godebug=none) (started:os.Started) (noInit:C.prog.inits.idxOf? f=none) (hfn:C.prog.funcs[f]? =some fn)
  (witness: ∃(w:World) (tape:Tape) (i:Input),w.os=os/\(w.forCall tape i).Shaped C.prog/\i.vars=[]/\Input.okWide C.prog (w.forCall tape i) .any w.heap.size f i/\
   ((s.pre enc C.prog fn conds apart (w.forCall tape i).memory i.args/\X (w.forCall tape i).memory i.args)/\sizedMet enc C.prog fn (OpenSpec.ofChange s) apart (w.forCall tape i).memory i.args)/\a.holds C.prog (lone (Frame.enter C.prog f i.args .normal) [] (w.forCall tape i)))
  (contract: ∀(W:World) (base:Nat) (args:Array Value) (ds gs:List (DataW H)) (before:List MemPlace),
   (∀(j:Nat) t v,fn.params[j]? =some t->args[j]? =some v->Value.okWide C.prog W .any base t v)->
   DataW.Whole enc C.prog fn.params.toList s.vars apart W args.toList ds gs before->
   (DataW.weightsEach C.prog (fn.params.toList++s.plain.varTypes C.prog) (ds++gs)).all (· <=reachBytes)=true->X W args->W.ShapedOpen C.prog->
   Calls C.prog f args W fun e W'=> ∃v,e= .returned v/\s.post enc C.prog fn apart fresh handsOn again W args v W'):
  ReturnsInHanded a C os f .any (fun w args=>(s.pre enc C.prog fn conds apart w args/\X w args)/\sizedMet enc C.prog fn (OpenSpec.ofChange s) apart w args) (s.post enc C.prog fn apart fresh handsOn again):=by
 refine returnsInHanded_of_calls own started noInit witness ?_;intro w tape i _ hsh _ hok hpre hholds;obtain⟨_,_,_,fn',hfn',_,_,_,_,hval⟩:=hok;have e:fn'=fn:=Option.some.inj (hfn'.symm.trans hfn);subst e;obtain⟨⟨⟨ds,gs,before,hw,hc⟩,hx⟩,hz⟩:=hpre;have hw':=DataW.Whole.of_heap (w':=w.forCall tape i) (by rfl) hw;refine(contract (w.forCall tape i) w.heap.size i.args ds gs before hval hw' (hz.weights hw) (hX _ _ _ (by rfl) hx) hsh).mono fun e W' ⟨v,he,hp⟩=> ?_
 subst he;exact ChangeSpec.post_blind hp
end
def tZ :List (String×DataW Unit):=[("math/bits.deBruijn64tab",Rows.laid_math_bits_deBruijn64tab),("kinkeep/sha256.initial",Rows.laid_kinkeep_sha256_initial),("kinkeep/sha256.constants",Rows.laid_kinkeep_sha256_constants),("unicode/utf8.acceptRanges",Rows.laid_unicode_utf8_acceptRanges),("unicode/utf8.first",Rows.laid_unicode_utf8_first)]
theorem own :ownKnob Tryz.prog.godebug=none:=by kernel_rfl
theorem yf :(Rows.laid_unicode_utf8_acceptRanges:DataW Unit)=acceptData:=by kernel_rfl
theorem yj :(Rows.laid_math_bits_deBruijn64tab:DataW Unit)=tabData .u8 (Lib.deBruijn64tab.map fun(n:Nat)=>(n:Int)):=by kernel_rfl
theorem vW :(Rows.laid_kinkeep_sha256_initial:DataW Unit)=tabData .u32 (mH.list.map fun(n:Nat)=>(n:Int)):=by kernel_rfl
theorem rW :(Rows.laid_kinkeep_sha256_constants:DataW Unit)=tabData .u32 (kc.map fun(n:Nat)=>(n:Int)):=by kernel_rfl
theorem mE {P:Program} {w:World} {n:String} {k:IntKind} {zs:List Int} {g:Nat} {t e:TypeId} {N:Nat} (hg:P.globalNamed n=some g) (hty:(P.globals[g]?).map (·.type)=some t)
  (ht:P.underlying t=some (.array N e)) (he:P.underlying e=some (.int k)) (hce:P.cellsOf e=1) (hct:P.cellsOf t=N) (h:VarReads P w n (tabData k zs)) (j:Nat):w.cell? ⟨g,j,none⟩=(zs.map fun z=>Value.int k z)[j]? :=by
 obtain⟨g',t',cs,fuel,p,hg',hty',hvar,hd⟩:=h;obtain rfl:=Option.some.inj (hg.symm.trans hg');obtain rfl:=Option.some.inj (hty.symm.trans hty');rw[World.var?_cell hg hvar j,<-Array.getElem?_toList,cells_of_tab ht he hce hct hd]
theorem rU {w:World} {b k:Nat} {v:Value} (h:w.cell? ⟨b,k,none⟩=some v):b<w.heap.size:=by
 by_cases hb:b<w.heap.size
 ·exact hb
 ·exfalso
  have:w.heap[b]? =none:=Array.getElem?_eq_none (by omega);simp[World.cell?,this]at h
theorem El {W:World} (hL:laidMetH Tryz.prog tZ W) (hsh:W.ShapedOpen Tryz.prog):je W:=by
 rw[MakeChecks.laidMetH_plain _ _ _ (by kernel_rfl)]at hL;have h1:=Lib.laidMet.reads hL (.head _);have h2:=Lib.laidMet.reads hL (.tail _ (.head _));have h3:=Lib.laidMet.reads hL (.tail _ (.tail _ (.head _)));have h4:=Lib.laidMet.reads hL (.tail _ (.tail _ (.tail _ (.head _))));have h5:=Lib.laidMet.reads hL (.tail _ (.tail _ (.tail _ (.tail _ (.head _)))));rw[yj]at h1;rw[vW]at h2
 rw[rW]at h3;rw[yf]at h4;have c1:=mE (g:=5) (t:=240) (e:=5) (N:=64) (by kernel_rfl) (by kernel_rfl) (by kernel_rfl) (by kernel_rfl) (by kernel_rfl) (by kernel_rfl) h1;have c2:=mE (g:=1) (t:=101) (e:=100) (N:=8) (by kernel_rfl) (by kernel_rfl) (by kernel_rfl) (by kernel_rfl) (by kernel_rfl) (by kernel_rfl) h2;have c3:=mE (g:=4) (t:=156) (e:=100) (N:=64) (by kernel_rfl) (by kernel_rfl) (by kernel_rfl) (by kernel_rfl) (by kernel_rfl) (by kernel_rfl) h3
 have hI:jm W:=fun j x hj=>by
  rw[c2 j];simp[hj,fM]
 have hK:gq W:=fun j x hj=>by
  rw[c3 j];simp[hj,fM]
 have hD:TabAt 5 Lib.deBruijn64tab W:=fun j hj=>by
  rw[c1 j];simp[hj]
 have hi0:=hI 0 0x6a09e667 rfl;have hk0:=hK 0 0x428a2f98 rfl;have hd0:=hD 0 (by decide);refine⟨⟨?_, ?_⟩,hI,hK,rU hi0,rU hk0,⟨hD,rU hd0⟩⟩
 ·exact cell_of_shapedOpen_int (zero:= #[.int .i64 0]) (t:=3) hsh (of_decide_eq_true (by kernel_rfl)) (by kernel_rfl) rfl (by kernel_rfl) (by kernel_rfl) Tryz.underlying3
 ·exact utf8Tabs_of_readsT (U8Types.of196 Tryz.laysValid) ⟨by kernel_rfl,by kernel_rfl,by kernel_rfl,by kernel_rfl,by kernel_rfl,by kernel_rfl,by kernel_rfl⟩ (Pinned.utf8First_eq▸h5) h4
end Go.Proofs.YtnjkpcalgoefhaaGreatDoor
namespace Go.Proofs.YtnjkpcalgoefhaaGreatDoor
open Go.ChangeShapes Go.WideShapes Go.ChangeAt Go.RowKit Go.Lib Go.Shelf
section
variable {H : Type} {enc : TypeId × Value → H} {P : Program} {W : World} {base b0 : Nat} {spare : Nat → Bool} {held : Bool} {v : Value} {d : DataW H} {ps : List MemPlace}
theorem Cz (a:Addr) (i j:Nat):(a.add i).add j=a.add (i+j):=by
 unfold Addr.add
 by_cases hi:i=0
 ·simp[hi]
 ·by_cases hj:j=0
  ·simp[hi,hj]
  ·simp[hi,hj]; omega
def mK (P:Program) (t:TypeId) (d:DataW H):Prop:=(d.weights P t).all (fun x=>decide (x<=reachBytes))=true
theorem qR {P:Program} {e:TypeId} : ∀ {ds:List (DataW H)} {d:DataW H},d∈ds->(DataW.weightsAll P e ds).all (fun x=>decide (x<=reachBytes))=true->mK P e d
 | [],d,h,_=>by simp at h
 | a::ds,d,h,hw=>by
  rw[DataW.weightsAll,List.all_append,Bool.and_eq_true]at hw
  rcases List.mem_cons.1 h with rfl | h
  ·exact hw.1
  ·exact qR h hw.2
theorem oM {P:Program} : ∀ {ts:List TypeId} {ds:List (DataW H)} {i:Nat} {t:TypeId} {d:DataW H},ts[i]? =some t->ds[i]? =some d->(DataW.weightsEach P ts ds).all (fun x=>decide (x<=reachBytes))=true->mK P t d
 | [],_,_,_,_,h,_,_=>by simp at h
 | _::_,[],_,_,_,_,h,_=>by simp at h
 | t0::ts,d0::ds,0,t,d,h1,h2,hw=>by
  simp at h1 h2;subst h1 h2;rw[DataW.weightsEach,List.all_append,Bool.and_eq_true]at hw;exact hw.1
 | t0::ts,d0::ds,i+1,t,d,h1,h2,hw=>by
  rw[DataW.weightsEach,List.all_append,Bool.and_eq_true]at hw;exact oM (by simpa using h1) (by simpa using h2) hw.2
theorem uL {P:Program} {t e:TypeId} {es rest:List (DataW H)} (ht:P.underlying t=some (.slice e)) (h:mK P t (.slice es rest)):es.length*P.bytesOf e<=reachBytes/\ ∀d∈es,mK P e d:=by
 unfold mK at h;rw[DataW.weights,ht]at h;simp only[List.all_cons,List.all_append,Bool.and_eq_true,decide_eq_true_eq]at h;exact⟨Nat.le_trans (Nat.mul_le_mul_right _ (by omega)) h.1,fun d hd=>qR hd h.2.1⟩
theorem zJ {α:Type} {P:Program} {R:List Value->α->Prop} {t e:TypeId} {sz:Nat} {fuel:Nat} {cs0:List Value} {y0:DataW H×List MemPlace} (ht:P.underlying t=some (.slice e)) (hc:P.cellsOf e=sz) (hpos:0<sz)
  (hR: ∀n cs y,DataW.trod enc P W base spare held n e cs=some y->mK P e y.1-> ∃x,R cs x) (hs: ∀c x,R c x->c.length=sz)
  (hf:DataW.trod enc P W base spare held fuel t cs0=some y0) (hL:mK P t y0.1): ∃v,cs0=[v]/\ ∃xs:List α,aY (fun _=>True) W sz R v xs/\xs.length*P.bytesOf e<=reachBytes:=by
 rcases DataW.trod_slice ht hf with⟨hcs,_⟩ | ⟨a,len0,cap0,elems,rest,n,_,hcs,hy0,hb,hl,hm,hlen,hel,_,_⟩
 ·exact⟨_,hcs,[],aY.nil,by simp⟩
 ·refine⟨_,hcs, ?_⟩;rw[hc]at hel;rw[hy0]at hL;obtain⟨hL1,hL2⟩:=uL ht hL;rw[List.length_map,hlen]at hL1;have each: ∀i,i<len0-> ∃cs x,R cs x/\cs.length=sz/\ ∀j,j<sz->W.cell? (a.add (i*sz+j))=cs[j]? :=by
   intro i hi;have h1:=hel i hi;rw[List.getElem?_eq_getElem (by omega),Option.bind_eq_some_iff]at h1;obtain⟨cs,hcs,hy⟩:=h1;obtain⟨x,hx⟩:=hR n cs _ hy (hL2 _ (List.mem_map.2 ⟨_,List.getElem_mem (by omega),rfl⟩));refine⟨cs,x,hx,hs cs x hx,fun j hj=> ?_⟩;have h3:=World.cells?_some hcs;rw[<-Cz];exact h3.2.2 j hj
  have main: ∀m,m<=len0-> ∃(cells:List Value) (xs:List α),xs.length=m/\cells.length=m*sz/\bo R cells xs/\ ∀(j:Nat) u,cells[j]? =some u->W.cell? (a.add j)=some u:=by
   intro m
   induction m with
   | zero=>intro _; exact⟨[],[],rfl,by simp,rfl,fun j u hj=>by simp at hj⟩
   | succ m ih=>
    intro hm;obtain⟨cells,xs,h1,h2,h3,h4⟩:=ih (by omega);obtain⟨cs,x,hx,hcl,hcc⟩:=each m (by omega);refine⟨cells++cs,xs++[x],by simp[h1],by rw[List.length_append,h2,hcl,Nat.add_mul]; omega,bo.snoc h3 hx,fun j u hj=> ?_⟩
    rcases Nat.lt_or_ge j cells.length with hj2 | hj2
    ·rw[List.getElem?_append_left hj2]at hj; exact h4 j u hj
    ·rw[List.getElem?_append_right hj2]at hj;have hlt:=(List.getElem?_eq_some_iff.1 hj).1;have:=hcc (j-cells.length) (by omega);rw[h2,show m*sz+(j-m*sz)=j by omega]at this;rw[this,<-h2]; exact hj
  obtain⟨cells,xs,h1,h2,h3,h4⟩:=main len0 (Nat.le_refl _);subst h1;refine⟨xs,⟨cells,⟨h2,some a,cap0,rfl,hl,hm, ?_⟩,h3⟩,hL1⟩
  rcases Nat.eq_zero_or_pos xs.length with h0 | h0
  ·exact .inl h0
  ·right
   have hpl:0<cells.length:=by rw[h2]; exact Nat.mul_pos h0 hpos
   have hc0:=h4 0 cells[0] (by simp[hpl]);have hsp:a.spot=none:=by simpa [Addr.add]using World.cell?_spot hc0
   obtain⟨b,o,sp⟩:=a;simp only at hsp;subst hsp;refine⟨b,o,rfl,trivial,fun j u hj=> ?_⟩;have:=h4 j u hj;rw[rN]at this; exact this
end
section
variable {H : Type} {enc : TypeId × Value → H} {W : World} {base b0 : Nat} {spare : Nat → Bool} {held : Bool} {v : Value} {d : DataW H} {ps : List MemPlace}
theorem CG :Tryz.prog.cellsOf 5=1:=by kernel_rfl
def sO (c:List Value) (b:UInt8):Prop:=c=[aJ b]
theorem yY {n:Nat} {cs:List Value} {y:DataW H×List MemPlace} (h:DataW.trod enc Tryz.prog W base spare held n 5 cs=some y): ∃b,sO cs b:=by
 obtain⟨a,e,_,hw⟩:=DataW.trod_int Tryz.underlying5 h;have h1:0<=a/\a<=255:=by
  simp only[Lit.wf,Bool.and_eq_true,decide_eq_true_eq]at hw;exact⟨hw.1,hw.2⟩
 refine⟨UInt8.ofNat a.toNat, ?_⟩;unfold sO;rw[mf (by omega),e,Int.toNat_of_nonneg h1.1]
theorem rT {S:Nat->Prop} {w:World} {v:Value} {bs:List UInt8} (h:aY S w 1 sO v bs):aX S w v bs:=by
 obtain⟨cells,h1,h2⟩:=h;have: ∀(bs:List UInt8) (cells:List Value),bo sO cells bs->cells=bs.map aJ:=by
  intro bs
  induction bs with
  | nil=>intro cells h; exact h
  | cons x bs ih=>
   rintro cells ⟨c,rest,rfl,hc,hr⟩;rw[ih rest hr,show c=[aJ x]from hc]; rfl
 rw[this bs cells h2]at h1;exact h1
theorem vH {S:Nat->Prop} {w:World} {v:Value} {bs:List UInt8} (h:aX S w v bs):cl S w v bs:=h
theorem CF :Tryz.prog.bytesOf 5=1:=by kernel_rfl
theorem wA {n:Nat} {cs:List Value} {y:DataW H×List MemPlace} (h:DataW.trod enc Tryz.prog W base spare held n 28 cs=some y) (hL:mK Tryz.prog 28 y.1): ∃v,cs=[v]/\ ∃bs,cl (fun _=>True) W v bs/\bs.length<=1125899906842624:=by
 obtain⟨v,h1,bs,h2,hb⟩:=zJ (R:=sO) Tryz.underlying28 CG (by omega) (fun n cs y hy _=>yY hy) (fun c x hc=>by rw[show c=[aJ x]from hc]; rfl) h hL;rw[CF]at hb;unfold reachBytes at hb;exact⟨v,h1,bs,vH (rT h2),by omega⟩
end
section
variable {H : Type} {enc : TypeId × Value → H} {P : Program} {w : World} {base : Nat} {spare : Nat → Bool} {held : Bool}
end
end Go.Proofs.YtnjkpcalgoefhaaGreatDoor
