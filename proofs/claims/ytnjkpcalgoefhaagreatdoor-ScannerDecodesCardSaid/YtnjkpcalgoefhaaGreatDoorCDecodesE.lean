/- Texts of this proof, one after the other: ScnO, RNumP, Codec, IdxP, DecA, PatA, PatB, PatC, PatD, PatE, PatF. -/
import Derived.Test.YtnjkpcalgoefhaaGreatDoorCDecodesD
set_option maxRecDepth 100000
set_option maxHeartbeats 8000000
namespace Go.Proofs.YtnjkpcalgoefhaaGreatDoor
open Go Go.RowKit Go.Maps
theorem Tryz.appFiles :cJ Tryz.prog 22 27 7 88:=cJ.mk' (z:=lV) Tryz.underlying22 (by kernel_rfl) rfl (by decide) (by decide)
theorem gk {a:Option Addr} {n c:Nat} {f:al} : ∀u∈bQ (.slice a n c) f,u.oneCell'=true:=by
 intro u hu;simp only[bQ,List.mem_cons,List.not_mem_nil,or_false]at hu
 rcases hu with rfl | rfl | rfl | rfl | rfl | rfl | rfl<;> rfl
theorem dk.hitA {S:Nat->Prop} {W w:World} {mb:Nat} {fs:List al} (h:dk S W w mb fs) {p:ByteArray} (hp:p.size<=maxLen) {f:al} (hf:eN fs p=some f):
  ∃v,aM S W v f.parts/\cQ f/\ ∀w':World,w'.heap[mb]? =w.heap[mb]? ->(Instr.lookup 90 (.map (some mb)) (.string p) true).run Tryz.prog w'= .ok (.tuple #[dV v f, .bool true]) w':=by
 obtain⟨xs,rfl,h2,h3⟩:=h;obtain⟨v,hv,rfl⟩:=qK hf;refine⟨v,(h3 _ hv).1,(h3 _ hv).2,fun w' hw=> ?_⟩;have:=(h2.same hw).is.hit cX so (dr hp) (val:=dV v f) (List.mem_map.2 ⟨(v,f),hv,rfl⟩) true
 simpa using this
theorem dj.nvlt {W0 w:World} {base cb kb:Nat} {q:ij} {nv:Value} {prev:List al} {s:kw} (h:dj W0 w base cb kb q nv prev s): ∀i,nv.ownBlock=some i->i<w.heap.size:=fun i hi=>by
 obtain⟨ys,_,h3,_⟩:=h.col.news;exact(h3.lt i hi).2
theorem mJ {n:Nat} (h:n<=9223372036854775807):(Lit.int .i64 (n:Int)).wf=true:=by
 have e1:IntKind.i64.max=9223372036854775807:=by decide
 have e2:IntKind.i64.min= -9223372036854775808:=by decide
 simp only[Lit.wf,Bool.and_eq_true,decide_eq_true_eq,e1,e2];omega
theorem yh {tm:Int} {prev:List al} {c:eE} {s:kw} {e:bu} (hk: ¬e.kind=1):jo tm prev c s e=⟨s.files++[⟨e.path,e.kind,e.mode,e.time,(e.data.length:Int),e.link,[]⟩],s.known,s.news,s.read,s.kept⟩:=by
 unfold jo;rw[if_neg hk];have hp:dN tm prev c e=[]:=by unfold dN; rw[if_neg hk]
 have h2:eW tm prev c e=⟨e.path,e.kind,e.mode,e.time,(e.data.length:Int),e.link,[]⟩:=congrArg (fun ps=>(⟨e.path,e.kind,e.mode,e.time,(e.data.length:Int),e.link,ps⟩:al)) hp;rw[h2]
theorem yg {tm:Int} {prev:List al} {c:eE} {s:kw} {e:bu} {g:al} (hk:e.kind=1) (hf:eN prev e.path=some g) (ht:fW tm g e=true):jo tm prev c s e=⟨s.files++[⟨e.path,e.kind,e.mode,e.time,(e.data.length:Int),e.link,g.parts⟩],s.known,s.news,s.read,s.kept+1⟩:=by
 have htr:pD tm prev e=true:=by unfold pD; rw[hf]; simp[hk,ht]
 have hp:dN tm prev c e=g.parts:=by unfold dN; rw[if_pos hk,hf]; simp[ht]
 have h2:eW tm prev c e=⟨e.path,e.kind,e.mode,e.time,(e.data.length:Int),e.link,g.parts⟩:=congrArg (fun ps=>(⟨e.path,e.kind,e.mode,e.time,(e.data.length:Int),e.link,ps⟩:al)) hp;unfold jo;rw[if_pos hk,if_pos htr,h2]
theorem qn {tm:Int} {prev:List al} {c:eE} {s:kw} {e:bu} (hk:e.kind=1) (hf: ∀g,eN prev e.path=some g->fW tm g e=false):jo tm prev c s e=⟨s.files++[⟨e.path,e.kind,e.mode,e.time,(e.data.length:Int),e.link,(cg c e.data).map bF⟩],((cg c e.data).foldl bE (s.known,s.news)).1,((cg c e.data).foldl bE (s.known,s.news)).2,s.read+1,s.kept⟩:=by
 have htr:pD tm prev e=false:=by
  unfold pD
  cases h:eN prev e.path with
  | none=>simp
  | some g=>simp[hf g h]
 have hp:dN tm prev c e=(cg c e.data).map bF:=by
  refine oZ ?_;unfold re;rw[htr]; simp[hk]
 have h2:eW tm prev c e=⟨e.path,e.kind,e.mode,e.time,(e.data.length:Int),e.link,(cg c e.data).map bF⟩:=congrArg (fun ps=>(⟨e.path,e.kind,e.mode,e.time,(e.data.length:Int),e.link,ps⟩:al)) hp;unfold jo;rw[if_pos hk,htr,h2];simp
def EH (W0:World) (base cb kb:Nat) (q:ij) (prev:List al) (s':kw) (w:World) (e:Ending) (w':World):Prop:=
 ∃fv' nv' rd' kp',e= .returned (.int .i64 0)/\dj W0 w' base cb kb {q with fv:=fv',rd:=rd',kp:=kp'} nv' prev s'/\Below base w w'
theorem pG (S:Nat->Prop) (tm:Int) (f:al) (pv dv:Value) (e:bu) (b:Bool) (w:World) (hf:cQ f) (hp:aM S w pv f.parts) (hd:cl S w dv e.data) (he:jk e) (h:fW tm f e=b):
  Calls Tryz.prog 15 #[.int .i64 tm,dV pv f,ox dv e] w fun x w'=>x= .returned (.bool b)/\Below w.heap.size w w':=by
 rw[<-h]; exact uV S tm f pv dv e w hf hp hd he
theorem zz (W0:World) (base cb kb:Nat) (q:ij) (nv dv:Value) (prev:List al) (s:kw) (e:bu) (w:World) (h:dj W0 w base cb kb q nv prev s) (hd:cl (· <base) w dv e.data) (hok:jk e) (hv:bW e=true) (hc:eT q.cut=true) (hs:q.cut.seed<18446744073709551616) (he:je w)
  (hcb:base<=cb) (hkb:base<=kb) (hbz:base<=w.heap.size) (h6:6<=base) (hn:s.news.length<10000000000) (hfl:s.files.length<=4096) (hrl:s.read<=4096) (hkl:s.kept<=4096) (hpl: ∀f∈prev,f.parts.length<=1048576):
  Calls Tryz.prog 41 #[.pointer (some ⟨cb,0,none⟩),ox dv e] w (EH W0 base cb kb q prev (jo q.at0 prev q.cut s e) w):=by
 obtain⟨_,da,dcap,rfl,hdc,hdm,-⟩:=id hd;unfold maxLen at hdm;have HH:=aa h;have HD:=aa hd;have HE:=aa he;have HOK:=aa hok;have HV:=aa hv;have HPL:=aa hpl;have hcl:=lt_of_block h.col.box;obtain⟨zs,hzs,hzr,hzd⟩:=h.files.row;have HFL:=aa (show ∀i,q.fv.ownBlock=some i->i<w.heap.size from fun i hi=>(hzr.lt i hi).2);clear h hd he hok hv hpl hzs hzr hzd;obtain⟨dl,hdl⟩: ∃dl,dl=e.data.length:=⟨_,rfl⟩
 rw[<-hdl]at hdc HD ⊢;have HDL:=aa hdl;clear hdl;obtain⟨W,hW⟩: ∃W,W=(w.alloc (.cells #[.string e.path, .int .i64 e.kind, .int .i64 e.mode, .int .i64 e.time, .slice da dl dcap, .string e.link] 30)).alloc (.cells #[.string e.path, .int .i64 e.kind, .int .i64 e.mode, .int .i64 e.time, .int .i64 (dl:Int), .string e.link, .slice none 0 0] 27):=⟨_,rfl⟩;have HBW:=aa (show Below w.heap.size w W by rw[hW]; exact((Below.refl _ _).alloc (Nat.le_refl _) _).alloc (by simp) _)
 have HX:=aa (show W.heap[w.heap.size]? =some (.cells #[.string e.path, .int .i64 e.kind, .int .i64 e.mode, .int .i64 e.time, .slice da dl dcap, .string e.link] 30 (0,0)) by rw[hW]; exact lZ (heap_alloc_new w _) _);have HY:=aa (show W.heap[w.heap.size+1]? =some (.cells #[.string e.path, .int .i64 e.kind, .int .i64 e.mode, .int .i64 e.time, .int .i64 (dl:Int), .string e.link, .slice none 0 0] 27 (0,0)) by rw[hW]; exact heap_alloc2_new w _ _)
 have HSZ:=aa (show W.heap.size=w.heap.size+2 by rw[hW]; simp);unfold ox
 go_enter Tryz.func41,Tryz.ntmps41
 go_upto_region 2 with fail
 change Code.wp _ _ _ _ ((w.alloc (.cells #[.string e.path, .int .i64 e.kind, .int .i64 e.mode, .int .i64 e.time, .slice da dl dcap, .string e.link] 30)).alloc (.cells #[.string e.path, .int .i64 e.kind, .int .i64 e.mode, .int .i64 e.time, .int .i64 (dl:Int), .string e.link, .slice none 0 0] 27))
 rw[<-hW];clear hW;have HT0:=aa (HH.out.below HBW.out hbz);have HE0:=aa (HE.out.below HBW.out)
 by_cases hk:e.kind=1
 ·have hk2:(e.kind == 1)=true:=by simp[hk]
  have HK:=aa hk;clear hk;have x1:=ah (k:=1) HX.out;simp only[List.getElem?_toArray,ci]at x1
  go_upto_region 3 with fail
  obtain⟨g,fa,fl,fc,ob,hlk,hcase⟩: ∃(g:al) (fa:Option Addr) (fl fc:Nat) (ob:Bool),(∀w':World,w'.heap[q.mb]? =W.heap[q.mb]? ->(Instr.lookup 90 (.map (some q.mb)) (.string e.path) true).run Tryz.prog w'= .ok (.tuple #[.agg #[.string g.path, .int .i64 g.kind, .int .i64 g.mode, .int .i64 g.time, .int .i64 g.size, .string g.link, .slice fa fl fc], .bool ob]) w')/\
    ((ob=true/\eN prev e.path=some g/\aM (· <base) W (.slice fa fl fc) g.parts/\cQ g)\/(ob=false/\eN prev e.path=none)):=by
   cases hf:eN prev e.path with
   | some f=>
    obtain⟨fpv,hfp,hfo,hlk⟩:=HT0.out.before.hitA HOK.out.pth hf;obtain⟨fa,fc,rfl,-,-,-⟩:=aY.shape hfp el.len;exact⟨f,fa,_,fc,true,hlk, .inl ⟨rfl,rfl,hfp.old HT0.out.old,hfo⟩⟩
   | none=>exact⟨⟨⟨#[]⟩,0,0,0,0,⟨#[]⟩,[]⟩,none,0,0,false,fun w' hw=>(HT0.out.before.same hw).miss HOK.out.pth hf, .inr ⟨rfl,rfl⟩⟩
  have HCASE:=aa hcase;obtain⟨W5,hW5⟩: ∃W5:World,W5=W.drew:=⟨_,rfl⟩;have HB5:=aa (show Below W.heap.size W W5 by rw[hW5]; exact(Below.refl _ _).drew);have HX5:=aa ((HB5.out.block _ (lt_of_block HX.out)).trans HX.out);have HY5:=aa ((HB5.out.block _ (lt_of_block HY.out)).trans HY.out);have HT5:=aa (HT0.out.below HB5.out (by have:=HSZ.out; omega));have HBX5:=aa HT5.out.col.box
  have k7:=ah (k:=7) HBX5.out;have x0:=ah (k:=0) HX5.out;simp only[cC,cF,List.cons_append,List.nil_append,List.getElem?_toArray,ci]at x0 k7;have HS5:=aa (show W5.cell? ⟨cb,7,none⟩=some (.map (some q.mb))/\W5.cell? ⟨w.heap.size,0,none⟩=some (.string e.path)/\(Instr.lookup 90 (.map (some q.mb)) (.string e.path) true).run Tryz.prog W5= .ok (.tuple #[.agg #[.string g.path, .int .i64 g.kind, .int .i64 g.mode, .int .i64 g.time, .int .i64 g.size, .string g.link, .slice fa fl fc], .bool ob]) W5 from⟨k7,x0,hlk W5 (by rw[hW5]; rfl)⟩)
  have hal:=(Below.refl W5.heap.size W5).alloc (Nat.le_refl _) (.cells #[.string ⟨#[]⟩, .int .i64 0, .int .i64 0, .int .i64 0, .int .i64 0, .string ⟨#[]⟩, .slice none 0 0] 27);have HSA:=aa (show(W5.alloc (.cells #[.string ⟨#[]⟩, .int .i64 0, .int .i64 0, .int .i64 0, .int .i64 0, .string ⟨#[]⟩, .slice none 0 0] 27)).cell? ⟨cb,7,none⟩=some (.map (some q.mb))/\(W5.alloc (.cells #[.string ⟨#[]⟩, .int .i64 0, .int .i64 0, .int .i64 0, .int .i64 0, .string ⟨#[]⟩, .slice none 0 0] 27)).cell? ⟨w.heap.size,0,none⟩=some (.string e.path)/\(Instr.lookup 90 (.map (some q.mb)) (.string e.path) true).run Tryz.prog (W5.alloc (.cells #[.string ⟨#[]⟩, .int .i64 0, .int .i64 0, .int .i64 0, .int .i64 0, .string ⟨#[]⟩, .slice none 0 0] 27))= .ok (.tuple #[.agg #[.string g.path, .int .i64 g.kind, .int .i64 g.mode, .int .i64 g.time, .int .i64 g.size, .string g.link, .slice fa fl fc], .bool ob]) (W5.alloc (.cells #[.string ⟨#[]⟩, .int .i64 0, .int .i64 0, .int .i64 0, .int .i64 0, .string ⟨#[]⟩, .slice none 0 0] 27))from
   ⟨(hal.cell (p:=⟨cb,7,none⟩) (lt_of_block HBX5.out)).trans HS5.out.1,(hal.cell (p:=⟨w.heap.size,0,none⟩) (lt_of_block HX5.out)).trans HS5.out.2.1,hlk _ ((hal.block _ (Nat.lt_of_lt_of_le HT0.out.before.lt HB5.out.size)).trans (HB5.out.block _ HT0.out.before.lt))⟩)
  obtain⟨W6,hW6⟩: ∃W6,W6=W5.alloc (.cells #[.string g.path, .int .i64 g.kind, .int .i64 g.mode, .int .i64 g.time, .int .i64 g.size, .string g.link, .slice fa fl fc] 27):=⟨_,rfl⟩;have HB6:=aa (show Below W5.heap.size W5 W6 by rw[hW6]; exact(Below.refl _ _).alloc (Nat.le_refl _) _);have HO6:=aa (show W6.heap[W5.heap.size]? =some (.cells #[.string g.path, .int .i64 g.kind, .int .i64 g.mode, .int .i64 g.time, .int .i64 g.size, .string g.link, .slice fa fl fc] 27 (0,0)) by rw[hW6]; exact heap_alloc_new W5 _)
  have HZ6:=aa (show W6.heap.size=W5.heap.size+1 by rw[hW6]; simp);have HS6:=aa (show W6.cell? ⟨cb,7,none⟩=some (.map (some q.mb))/\W6.cell? ⟨w.heap.size,0,none⟩=some (.string e.path)/\(Instr.lookup 90 (.map (some q.mb)) (.string e.path) true).run Tryz.prog W6= .ok (.tuple #[.agg #[.string g.path, .int .i64 g.kind, .int .i64 g.mode, .int .i64 g.time, .int .i64 g.size, .string g.link, .slice fa fl fc], .bool ob]) W6 from
   ⟨(HB6.out.cell (p:=⟨cb,7,none⟩) (lt_of_block HBX5.out)).trans HS5.out.1,(HB6.out.cell (p:=⟨w.heap.size,0,none⟩) (lt_of_block HX5.out)).trans HS5.out.2.1,hlk _ ((HB6.out.block _ (Nat.lt_of_lt_of_le HT0.out.before.lt HB5.out.size)).trans (HB5.out.block _ HT0.out.before.lt))⟩)
  clear hlk hcase k7 x0 x1 hal;refine cI (fun w'=>w'.cell? ⟨cb,7,none⟩=some (.map (some q.mb))/\w'.cell? ⟨w.heap.size,0,none⟩=some (.string e.path)/\(Instr.lookup 90 (.map (some q.mb)) (.string e.path) true).run Tryz.prog w'= .ok (.tuple #[.agg #[.string g.path, .int .i64 g.kind, .int .i64 g.mode, .int .i64 g.time, .int .i64 g.size, .string g.link, .slice fa fl fc], .bool ob]) w') (by kernel_rfl) ?_
  rw[<-hW5];clear hW5;refine ab 0 rfl (by kernel_rfl) (by kernel_rfl) (by kernel_rfl) (fun _ _ _ h=>h) rfl HS5.out (by rintro w' ⟨hw1,hw2,hw3⟩; go_simp; rfl) ?_;simp only[Act.put,aD,aE,aF];refine ab 1 rfl (by kernel_rfl) (by kernel_rfl) (by kernel_rfl) (fun _ _ _ h=>h) rfl HS5.out (by rintro w' ⟨hw1,hw2,hw3⟩; go_simp; rfl) ?_;simp only[Act.put,aD,aE,aF];refine ab 2 rfl (by kernel_rfl) (by kernel_rfl) (by kernel_rfl) (fun _ _ _ h=>h) rfl HS5.out (by rintro w' ⟨hw1,hw2,hw3⟩; go_simp; rfl) ?_
  simp only[Act.put,aD,aE,aF];refine ab 3 rfl (by kernel_rfl) (by kernel_rfl) (by kernel_rfl) (fun _ _ _ h=>h) rfl HS5.out (by rintro w' ⟨hw1,hw2,hw3⟩; go_simp; rfl) ?_;simp only[Act.put,aD,aE,aF];refine ab 4 rfl (by kernel_rfl) (by kernel_rfl) (by kernel_rfl) (fun _ _ _ h=>h) rfl HS5.out (by rintro w' ⟨hw1,hw2,hw3⟩; go_simp; rfl) ?_;simp only[Act.put,aD,aE,aF]
  refine ab 5 rfl (by kernel_rfl) (by kernel_rfl) (by kernel_rfl) (fun _ _ _ h=>h) rfl HS5.out (by rintro w' ⟨hw1,hw2,hw3⟩; go_simp; rfl) ?_;simp only[Act.put,aD,aE,aF];refine ab 6 rfl (by kernel_rfl) (by kernel_rfl) (by kernel_rfl) (fun _ _ _ h=>h) rfl HS5.out (by rintro w' ⟨hw1,hw2,hw3⟩; go_simp; rfl) ?_;simp only[Act.put,aD,aE,aF];refine ab 7 rfl (by kernel_rfl) (by kernel_rfl) (by kernel_rfl) (fun _ _ _ h=>h) rfl HS5.out (by rintro w' ⟨hw1,hw2,hw3⟩; go_simp; rfl) ?_
  simp only[Act.put,aD,aE,aF];refine ab 8 rfl (by kernel_rfl) (by kernel_rfl) (by kernel_rfl) (fun _ _ _ h=>h) rfl HS5.out (by rintro w' ⟨hw1,hw2,hw3⟩; go_simp; rfl) ?_;simp only[Act.put,aD,aE,aF];refine ab 9 rfl (by kernel_rfl) (by kernel_rfl) (by kernel_rfl) (fun _ _ _ h=>h) rfl HS5.out (by rintro w' ⟨hw1,hw2,hw3⟩; go_simp; rfl) ?_;simp only[Act.put,aD,aE,aF]
  refine ax 10 rfl (by kernel_rfl) rfl (fun K hK=> ?_);go_wp2_with fail;refine⟨HSA.out, ?_⟩;refine ax 11 rfl (by kernel_rfl) rfl (fun K hK=> ?_);go_wp2_with fail;rw[<-hW6];clear hW6;refine⟨HS6.out, ?_⟩;refine ab 12 rfl (by kernel_rfl) (by kernel_rfl) (by kernel_rfl) (fun _ _ _ h=>h) rfl HS6.out (by rintro w' ⟨hw1,hw2,hw3⟩; go_simp; rfl) ?_;simp only[Act.put,aD,aE,aF]
  refine bh (by kernel_rfl) ?_
  go_upto_region 4 with fail
  obtain⟨W7,hW7⟩: ∃W7:World,W7=W6.drew:=⟨_,rfl⟩;have HB7:=aa (show Below W6.heap.size W6 W7 by rw[hW7]; exact(Below.refl _ _).drew);have hz5:=HB5.out.size;have hz7:=HB7.out.size;have hq7:w.heap.size+2<=W7.heap.size:=by have:=HZ6.out; have:=HSZ.out; omega
  have HBA:=aa (show Below W.heap.size W W7 from ag (ag HB5.out HB6.out) HB7.out);have HBB:=aa (show Below base w W7 from(ag HBW.out HBA.out).mono hbz);have HX7:=aa ((HBA.out.block _ (lt_of_block HX.out)).trans HX.out);have HY7:=aa ((HBA.out.block _ (lt_of_block HY.out)).trans HY.out);have HO7:=aa ((HB7.out.block _ (lt_of_block HO6.out)).trans HO6.out);have HT7:=aa (HT0.out.below HBA.out (by have:=HSZ.out; omega))
  have HE7:=aa (HE0.out.below HBA.out);have HD7:=aa (show cl (· <base) W7 (.slice da dl dcap) e.data from aO.same HD.out (fun k hk=>HBB.out.block k hk));have HBX7:=aa HT7.out.col.box;have HW7:=aa hW7;have x0:=ah (k:=0) HX7.out;have x1:=ah (k:=1) HX7.out;have x2:=ah (k:=2) HX7.out;have x3:=ah (k:=3) HX7.out;have x4:=ah (k:=4) HX7.out;have x5:=ah (k:=5) HX7.out
  simp only[List.getElem?_toArray,ci]at x0 x1 x2 x3 x4 x5;have o0:=ah (k:=0) HO7.out;have o1:=ah (k:=1) HO7.out;have o2:=ah (k:=2) HO7.out;have o3:=ah (k:=3) HO7.out;have o4:=ah (k:=4) HO7.out;have o5:=ah (k:=5) HO7.out;have o6:=ah (k:=6) HO7.out;simp only[List.getElem?_toArray,ci]at o0 o1 o2 o3 o4 o5 o6;have k6:=ah (k:=6) HBX7.out;simp only[cC,cF,List.cons_append,List.nil_append,List.getElem?_toArray,ci]at k6
  rcases HCASE.out with⟨rfl,hfind,hparts,hfo⟩ | ⟨rfl,hfind⟩
  ·have HP7:=aa (hparts.old (HBA.out.mono (by have:=HSZ.out; omega)));have HFO:=aa hfo;have HFIND:=aa hfind;clear hfind hparts hfo
   cases htr:fW q.at0 g e with
   | true=>
    have HTR:=aa htr;clear htr;refine aw [some 8,none,some 1] (by kernel_rfl) (by kernel_rfl) (by kernel_rfl) ?_;simp only[bq,List.take_succ_cons,List.take_zero,List.drop_succ_cons,List.drop_zero];rw[<-hW7];clear hW7
    repeat (first | (refine az rfl ?_; simp only[Act.put,aD,aE,aF]) | (refine aI rfl (fun K hK=> ?_); go_simp; refine hK _ ?_; clear hK K))
    refine aH ?_;clear x0 x1 x2 x3 x4 x5 o0 o1 o2 o3 o4 o5 o6 k6;refine bw rfl (fun K hK=> ?_);go_wp2_with (go_at_call 15; refine(pG (· <base) q.at0 g (.slice fa fl fc) (.slice da dl dcap) e true W7 HFO.out HP7.out HD7.out HOK.out HTR.out).mono ?_; rintro e8 w8 ⟨rfl,hb8⟩; have HB8:=aa hb8; clear hb8)
    repeat (first | (refine az rfl ?_; simp only[Act.put,aD,aE,aF]) | (refine aI rfl (fun K hK=> ?_); go_simp; refine hK _ ?_; clear hK K))
    refine aH ?_
    go_upto_region 5 with fail
    have hz8:=HB8.out.size;have HY8:=aa ((HB8.out.block _ (lt_of_block HY7.out)).trans HY7.out);have HO8:=aa ((HB8.out.block _ (lt_of_block HO7.out)).trans HO7.out);have HT8:=aa (HT7.out.below HB8.out (by have:=HSZ.out; omega));have HP8:=aa (aM.below HP7.out HB8.out);have hgl:g.parts.length<=1048576:=HPL.out g (ir HFIND.out).1;have o6:=ah (k:=6) HO8.out;simp only[List.getElem?_toArray,ci]at o6
    go_upto_region 6 with(go_at_call 76; refine(oa (· <base) (.slice fa fl fc) g.parts w8 HP8.out hgl).mono ?_; rintro e9 w9 ⟨rv,rfl,ho9,hb9⟩; have HB9:=aa hb9; have hz9:=hb9.size; obtain⟨ra,rc,rfl,-,-⟩:=ak ho9; have HP9:=aa ho9; have HY9:=aa ((hb9.block _ (lt_of_block HY8.out)).trans HY8.out); have y6:=ah (k:=6) HY9.out; have f6:=aG (k:=6) HY9.out; simp only[List.getElem?_toArray,ci]at y6; clear ho9 hb9)
    obtain⟨rn,hrn⟩: ∃rn,rn=g.parts.length:=⟨_,rfl⟩;rw[<-hrn];have HRN:=aa hrn;clear hrn;obtain⟨W10,hW10⟩: ∃W10,W10=w9.setCell ⟨w.heap.size+1,6,none⟩ (.slice ra rn rc):=⟨_,rfl⟩;rw[<-hW10];have HG10:=aa (show w9.grownBy W10 (some (w.heap.size+1)) by rw[hW10]; exact aB _ _ _ _);have HFB0:=aa (show W10.heap[w.heap.size+1]? =some (.cells #[.string e.path, .int .i64 e.kind, .int .i64 e.mode, .int .i64 e.time, .int .i64 (dl:Int), .string e.link, .slice ra rn rc] 27 (0,0)) by rw[hW10]; simpa using nA (k:=6) HY9.out (.slice ra rn rc))
    have HT10:=aa ((HT8.out.below HB9.out (by have:=HSZ.out; omega)).other HG10.out HY9.out (fun e1=>by have:=HFL.out _ e1; omega) (by omega) (by have:=HSZ.out; omega));have HP10:=aa (show W10.ownsRow base 62 2 (.slice ra rn rc) g.parts.length (aV g.parts) by
     rw[HRN.out];have h1:w9.ownsRow base 62 2 (.slice ra g.parts.length rc) g.parts.length (aV g.parts):=bP HP9.out (by have:=HSZ.out; omega);refine bm h1 (fun i hi hv=>HG10.out.block i hi (fun e1=> ?_));have h2:=(HP9.out.lt i hv).1;have h3:=Option.some.inj e1;have:=HSZ.out
     omega)
    have HB10:=aa (show Below base w W10 from(((HBB.out.trans (HB8.out.mono (by have:=HSZ.out; omega))).trans (HB9.out.mono (by have:=HSZ.out; omega))).grown HG10.out (by have:=HSZ.out; omega) (fun i e1=>by have:=Option.some.inj e1; omega)));have HC10:=aa HT10.out.col.box;have k5:=ah (k:=5) HC10.out;have f5:=aG (k:=5) HC10.out;simp only[cC,cF,List.cons_append,List.nil_append,List.getElem?_toArray,ci]at k5
    have hkp:q.kp<=4096:=by rw[HT10.out.kp]; exact hkl
    clear hW10 o6 y6 f6
    go_upto_region 12 with fail
    obtain⟨WT,hWT⟩: ∃WT,WT=W10.setCell ⟨cb,5,none⟩ (.int .i64 ((q.kp:Int)+1)):=⟨_,rfl⟩;rw[<-hWT];have hz10:W7.heap.size<=W10.heap.size:=by have:=HG10.out.size; omega
    have HTT:=aa (show dj W0 WT base cb kb {q with kp:=q.kp+1} nv prev {s with kept:=s.kept+1} by rw[hWT]; exact HT10.out.setq 5 (.int .i64 ((q.kp:Int)+1)) (q':= {q with kp:=q.kp+1}) (s':= {s with kept:=s.kept+1}) (by simp[cC]) rfl rfl rfl rfl rfl HT10.out.rd (by show q.kp+1=s.kept+1; rw[HT10.out.kp]) hcb (by omega));have hncb:w.heap.size+1≠cb:=by omega
    have HFB:=aa (show WT.heap[w.heap.size+1]? =some (.cells #[.string e.path, .int .i64 e.kind, .int .i64 e.mode, .int .i64 e.time, .int .i64 (dl:Int), .string e.link, .slice ra rn rc] 27 (0,0)) by rw[hWT,Below.heap_setCell _ _ _ _ hncb]; exact HFB0.out);obtain⟨ps,hps⟩: ∃ps,ps=g.parts:=⟨_,rfl⟩;have HPV:=aa (show WT.ownsRow base 62 2 (.slice ra rn rc) ps.length (aV ps) by
     rw[hps,hWT];refine bm HP10.out (fun i hi hv=>Below.heap_setCell _ _ _ _ (fun e1=> ?_));obtain⟨cs2,hc2⟩:=aC HP10.out hv;rw[e1]at hc2;exact absurd (aK HC10.out hc2) (by decide))
    have HFOK:=aa (show cQ ⟨e.path,e.kind,e.mode,e.time,(dl:Int),e.link,ps⟩from⟨HOK.out.pth,HOK.out.lnk,HOK.out.knd,HOK.out.mde,HOK.out.tim,mJ (by omega)⟩);have HPOK:=aa (show ∀p∈ps,de p by rw[hps]; exact ur HP8.out);have HRES:=aa (show jo q.at0 prev q.cut s e=⟨s.files++[⟨e.path,e.kind,e.mode,e.time,(dl:Int),e.link,ps⟩],s.known,s.news,s.read,s.kept+1⟩ by rw[yg HK.out HFIND.out HTR.out,hps,HDL.out])
    have HBT:=aa (show Below base w WT by rw[hWT]; exact HB10.out.grown (aB _ _ _ _) (by omega) (fun i e1=>by cases e1; exact hcb));have HS2F:=aa (show s.files.length<=4096 from hfl);have hzW:w.heap.size<=WT.heap.size:=HBT.out.size;clear hWT hps k5 f5;obtain⟨zs,hzs,hzr,hzd⟩:=HTT.out.files.row;obtain⟨xa,xc,hfv,-,-⟩:=ak hzr;have HZS:=aa hzs;have HZD:=aa hzd
    have HZR:=aa hzr;have HFV:=aa (show q.fv= .slice xa zs.length xc from hfv);have hzl:zs.length<=4096:=by
     have h1:zs.length=s.files.length:=by have h3:=congrArg List.length hzs; rw[List.length_map]at h3; exact h3
     have h2:=HS2F.out;omega
    obtain⟨W12,hW12⟩: ∃W12:World,W12=WT.drew:=⟨_,rfl⟩;have HB12:=aa (show Below WT.heap.size WT W12 by rw[hW12]; exact(Below.refl _ _).drew);have hzT:=HB12.out.size;have HR12:=aa (show W12.ownsRow base 27 7 (.slice xa zs.length xc) zs.length (cD zs) by rw[<-hfv]; exact aT hzr HB12.out);have HF12:=aa ((HB12.out.block _ (lt_of_block HFB.out)).trans HFB.out);have HC12:=aa ((HB12.out.block _ (lt_of_block HTT.out.col.box)).trans HTT.out.col.box)
    have hne12:(Value.slice xa zs.length xc).ownBlock≠some (w.heap.size+1):=fun e1=>by
     have h1:=HFL.out (w.heap.size+1) (by rw[HFV.out]; exact e1);omega
    have HNE12:=aa hne12;clear hzs hzr hzd hfv hne12;have k1:=ah (k:=1) HC12.out;simp only[cC,cF,List.cons_append,List.nil_append,List.getElem?_toArray,ci,HFV.out]at k1;have S12:=aa (And.intro k1 HF12.out);clear k1;refine cA (fun w'=>w'.cell? ⟨cb,1,none⟩=some (.slice xa zs.length xc)/\w'.heap[w.heap.size+1]? =some (.cells #[.string e.path, .int .i64 e.kind, .int .i64 e.mode, .int .i64 e.time, .int .i64 (dl:Int), .string e.link, .slice ra rn rc] 27 (0,0))) (by kernel_rfl) (by kernel_rfl) ?_
    simp only[List.dropLast_cons_cons,List.dropLast_singleton,List.length_cons,List.length_nil,Nat.reduceAdd,Nat.reduceSub];rw[<-hW12];clear hW12;refine ab 0 rfl (by kernel_rfl) (by kernel_rfl) (by kernel_rfl) (fun _ _ _ h=>h) rfl S12.out (by rintro w' ⟨hw1,hw2⟩; go_simp; rfl) ?_;simp only[Act.put,aD,aE,aF];refine ab 1 rfl (by kernel_rfl) (by kernel_rfl) (by kernel_rfl) (fun _ _ _ h=>h) rfl S12.out (by rintro w' ⟨hw1,hw2⟩; go_simp; rfl) ?_
    simp only[Act.put,aD,aE,aF];refine ab 2 rfl (by kernel_rfl) (by kernel_rfl) (by kernel_rfl) (fun _ _ _ h=>h) rfl S12.out (by rintro w' ⟨hw1,hw2⟩; go_simp; rfl) ?_;simp only[Act.put,aD,aE,aF];refine ab 3 rfl (by kernel_rfl) (by kernel_rfl) (by kernel_rfl) (fun _ _ _ h=>h) rfl S12.out (by rintro w' ⟨hw1,hw2⟩; go_simp; rfl) ?_;simp only[Act.put,aD,aE,aF];refine ab 4 rfl (by kernel_rfl) (by kernel_rfl) (by kernel_rfl) (fun _ _ _ h=>h) rfl S12.out (by rintro w' ⟨hw1,hw2⟩; go_simp; rfl) ?_
    simp only[Act.put,aD,aE,aF];refine ab 5 rfl (by kernel_rfl) (by kernel_rfl) (by kernel_rfl) (fun _ _ _ h=>h) rfl S12.out (by rintro w' ⟨hw1,hw2⟩; go_simp; rfl) ?_;simp only[Act.put,aD,aE,aF];refine ab 6 rfl (by kernel_rfl) (by kernel_rfl) (by kernel_rfl) (fun _ _ _ h=>h) rfl S12.out (by rintro w' ⟨hw1,hw2⟩; go_simp; rfl) ?_;simp only[Act.put,aD,aE,aF];refine ab 7 rfl (by kernel_rfl) (by kernel_rfl) (by kernel_rfl) (fun _ _ _ h=>h) rfl S12.out (by rintro w' ⟨hw1,hw2⟩; have o0:=ah (k:=0) hw2; have o1:=ah (k:=1) hw2; have o2:=ah (k:=2) hw2; have o3:=ah (k:=3) hw2; have o4:=ah (k:=4) hw2; have o5:=ah (k:=5) hw2; have o6:=ah (k:=6) hw2; simp only[List.getElem?_toArray,ci]at o0 o1 o2 o3 o4 o5 o6; clear hw2; go_simp; rfl) ?_
    simp only[Act.put,aD,aE,aF];refine ax 8 rfl (by kernel_rfl) rfl (fun K hK=> ?_);go_wp2_with fail;have hal:=(Below.refl W12.heap.size W12).alloc (Nat.le_refl _) (.cells #[.string e.path, .int .i64 e.kind, .int .i64 e.mode, .int .i64 e.time, .int .i64 (dl:Int), .string e.link, .slice ra rn rc] 27);refine⟨⟨(hal.cell (p:=⟨cb,1,none⟩) (lt_of_block HC12.out)).trans S12.out.1,(hal.block _ (lt_of_block HF12.out)).trans HF12.out⟩, ?_⟩
    refine ax 9 rfl (by kernel_rfl) rfl (fun K hK=> ?_);go_wp2_with (at_builtin; go_must (refine bK Tryz.appFiles rfl _ _ rfl base (.slice xa zs.length xc) zs.length (cD zs) rfl W12 [.string e.path, .int .i64 e.kind, .int .i64 e.mode, .int .i64 e.time, .int .i64 (dl:Int), .string e.link, .slice ra rn rc] _ rfl rfl (gk (f:=⟨e.path,e.kind,e.mode,e.time,(dl:Int),e.link,[]⟩)) HR12.out (by omega) (by omega) ?_); intro vp wc hown3 hg3 _ hpl3; obtain⟨ea,ec,rfl,-,-⟩:=ak hown3)
    have hcb9:(Value.slice xa zs.length xc).ownBlock≠some cb:=fun e1=>by
     obtain⟨cs2,hc2⟩:=aC HR12.out e1;exact absurd (aK HC12.out hc2) (by decide)
    have HCC:=aa ((hg3.block cb (lt_of_block HC12.out) (fun e1=>hcb9 e1.symm)).trans HC12.out);have HFC:=aa ((hg3.block _ (lt_of_block HF12.out) (fun e1=>HNE12.out e1.symm)).trans HF12.out);have HFIN:=aa (HTT.out.file (s':=jo q.at0 prev q.cut s e) (f:=⟨e.path,e.kind,e.mode,e.time,(dl:Int),e.link,ps⟩) (pv:= .slice ra rn rc) (fv':= .slice ea (zs.length+1) ec) HZS.out HZR.out HZD.out HB12.out (aT HPV.out HB12.out) HFOK.out HPOK.out hown3 (by show W12.grownBy wc q.fv.ownBlock; rw[HFV.out]; exact hg3) (by show ∀k,_->q.fv.ownBlock=some k\/_; rw[HFV.out]; exact hpl3) (by rw[HRES.out]) (by rw[HRES.out]) (by rw[HRES.out]) (by rw[HRES.out]) (by rw[HRES.out]) hcb (by omega))
    have hb1:Below base w wc:=(HBT.out.trans (HB12.out.mono (by omega))).grown hg3 (by omega) (fun i e1=>(HR12.out.lt i e1).1);have HBE:=aa (hb1.grown (aB wc cb 1 (.slice ea (zs.length+1) ec)) (by have:=hb1.size; omega) (fun i e1=>by cases e1; exact hcb));have k1:=ah (k:=1) HCC.out;have f1:=aG (k:=1) HCC.out;simp only[cC,cF,List.cons_append,List.nil_append,List.getElem?_toArray,ci,HFV.out]at k1
    have SC:=aa (And.intro k1 HFC.out);clear hown3 hg3 hpl3 hcb9 hb1 hal;refine⟨SC.out, ?_⟩;refine ab 10 rfl (by kernel_rfl) (by kernel_rfl) (by kernel_rfl) (fun _ _ _ h=>h) rfl SC.out (by rintro w' ⟨hw1,hw2⟩; go_simp; rfl) ?_;simp only[Act.put,aD,aE,aF];refine ab 11 rfl (by kernel_rfl) (by kernel_rfl) (by kernel_rfl) (fun _ _ _ h=>h) rfl SC.out (by rintro w' ⟨hw1,hw2⟩; go_simp; rfl) ?_
    simp only[Act.put,aD,aE,aF];refine ab 12 rfl (by kernel_rfl) (by kernel_rfl) (by kernel_rfl) (fun _ _ _ h=>h) rfl SC.out (by rintro w' ⟨hw1,hw2⟩; go_simp; rfl) ?_;simp only[Act.put,aD,aE,aF];refine ab 13 rfl (by kernel_rfl) (by kernel_rfl) (by kernel_rfl) (fun _ _ _ h=>h) rfl SC.out (by rintro w' ⟨hw1,hw2⟩; go_simp; rfl) ?_;simp only[Act.put,aD,aE,aF];refine bh (by kernel_rfl) ?_
    refine cL rfl rfl (fun K hK=> ?_);go_wp2_with fail;go_ret;exact⟨_,_,_,_,rfl,HFIN.out,HBE.out⟩
   | false=>
    have HTR:=aa htr;clear htr;refine aw [some 8,none,some 1] (by kernel_rfl) (by kernel_rfl) (by kernel_rfl) ?_;simp only[bq,List.take_succ_cons,List.take_zero,List.drop_succ_cons,List.drop_zero];rw[<-hW7];clear hW7
    repeat (first | (refine az rfl ?_; simp only[Act.put,aD,aE,aF]) | (refine aI rfl (fun K hK=> ?_); go_simp; refine hK _ ?_; clear hK K))
    refine aH ?_;clear x0 x1 x2 x3 x4 x5 o0 o1 o2 o3 o4 o5 o6 k6;refine bw rfl (fun K hK=> ?_);go_wp2_with (go_at_call 15; refine(pG (· <base) q.at0 g (.slice fa fl fc) (.slice da dl dcap) e false W7 HFO.out HP7.out HD7.out HOK.out HTR.out).mono ?_; rintro e8 w8 ⟨rfl,hb8⟩; have HB8:=aa hb8; clear hb8)
    repeat (first | (refine az rfl ?_; simp only[Act.put,aD,aE,aF]) | (refine aI rfl (fun K hK=> ?_); go_simp; refine hK _ ?_; clear hK K))
    refine aH ?_
    go_upto_region 7 with fail
    have HNO:=aa (show ∀f,eN prev e.path=some f->fW q.at0 f e=false from fun f hf=>by
     have h1:=HFIND.out;rw[hf]at h1
     cases h1
     exact HTR.out)
    have hz8:=HB8.out.size;have HX8:=aa ((HB8.out.block _ (lt_of_block HX7.out)).trans HX7.out);have HY8:=aa ((HB8.out.block _ (lt_of_block HY7.out)).trans HY7.out);have HT8:=aa (HT7.out.below HB8.out (by omega));have HE8:=aa (HE7.out.below HB8.out);have HBB8:=aa (HBB.out.trans (HB8.out.mono (by omega)));have HD8:=aa (show aX (· <base) w8 (.slice da dl dcap) e.data from aO.same HD7.out (fun k hk=>HB8.out.block k (by omega)))
    have hdl2:e.data.length<=1048576:=(lC HV.out).1 HK.out;have x4:=ah (k:=4) HX8.out;simp only[List.getElem?_toArray,ci]at x4
    go_upto_region 8 with(go_at_call 77; refine(uD base cb kb q nv (.slice da dl dcap) s.known s.news e.data w8 HT8.out.col HD8.out hdl2 hc hs HE8.out hcb hkb (by omega) h6 hn).mono ?_; rintro e9 w9 ⟨rv,nv2,rfl,ho9,hc9,hk9⟩; have HP9:=aa ho9; have HC9:=aa hc9; have HK9:=aa hk9; clear ho9 hc9 hk9)
    have hz9:=HK9.out.below.size;obtain⟨ra,rc,rfl,-,-⟩:=ak HP9.out;have HPS:=aa (show(cg q.cut e.data).length=((cg q.cut e.data).map bF).length by rw[List.length_map]);obtain⟨rn,hrn⟩: ∃rn,rn=(cg q.cut e.data).length:=⟨_,rfl⟩;rw[<-hrn]at HP9 ⊢;have HRN:=aa hrn;clear hrn;have HY9:=aa ((HK9.out.same _ (lt_of_block HY8.out) (by omega) (by have:=HH.out.col.known.lt; omega) (fun e1=>by have:=HH.out.nvlt _ e1; omega)).trans HY8.out)
    have HT9:=aa (HT8.out.read (s':= {s with known:=((cg q.cut e.data).foldl bE (s.known,s.news)).1,news:=((cg q.cut e.data).foldl bE (s.known,s.news)).2}) HC9.out HK9.out rfl rfl rfl);have f6:=aG (k:=6) HY9.out;have y6:=ah (k:=6) HY9.out;simp only[List.getElem?_toArray,ci]at y6
    go_upto_region 11 with fail
    obtain⟨W10,hW10⟩: ∃W10,W10=w9.setCell ⟨w.heap.size+1,6,none⟩ (.slice ra rn rc):=⟨_,rfl⟩;rw[<-hW10];have HG10:=aa (show w9.grownBy W10 (some (w.heap.size+1)) by rw[hW10]; exact aB _ _ _ _);have HFB0:=aa (show W10.heap[w.heap.size+1]? =some (.cells #[.string e.path, .int .i64 e.kind, .int .i64 e.mode, .int .i64 e.time, .int .i64 (dl:Int), .string e.link, .slice ra rn rc] 27 (0,0)) by rw[hW10]; simpa using nA (k:=6) HY9.out (.slice ra rn rc))
    have HT10:=aa (HT9.out.other HG10.out HY9.out (fun e1=>by have:=HFL.out _ e1; omega) (by omega) (by omega));have HP10:=aa (show W10.ownsRow base 62 2 (.slice ra rn rc) rn (aV ((cg q.cut e.data).map bF)) by
     have h1:w9.ownsRow base 62 2 (.slice ra rn rc) rn (aV ((cg q.cut e.data).map bF)):=bP HP9.out (by omega);refine bm h1 (fun i hi hv=>HG10.out.block i hi (fun e1=> ?_));have h2:=(HP9.out.lt i hv).1;have h3:=Option.some.inj e1
     omega)
    have HB10:=aa (show Below base w W10 from((HBB8.out.trans HK9.out.below).grown HG10.out (by omega) (fun i e1=>by have:=Option.some.inj e1; omega)));have HC10:=aa HT10.out.col.box;have k4:=ah (k:=4) HC10.out;have f4:=aG (k:=4) HC10.out;simp only[cC,cF,List.cons_append,List.nil_append,List.getElem?_toArray,ci]at k4;have hrd:q.rd<=4096:=by rw[HT8.out.rd]; exact hrl
    clear hW10 y6 f6 x4
    go_upto_region 12 with fail
    obtain⟨WT,hWT⟩: ∃WT,WT=W10.setCell ⟨cb,4,none⟩ (.int .i64 ((q.rd:Int)+1)):=⟨_,rfl⟩;rw[<-hWT];have hz10:W7.heap.size<=W10.heap.size:=by have:=HG10.out.size; omega
    have HTT:=aa (show dj W0 WT base cb kb {q with rd:=q.rd+1} nv2 prev {s with known:=((cg q.cut e.data).foldl bE (s.known,s.news)).1,news:=((cg q.cut e.data).foldl bE (s.known,s.news)).2,read:=s.read+1} by rw[hWT]; exact HT10.out.setq 4 (.int .i64 ((q.rd:Int)+1)) (q':= {q with rd:=q.rd+1}) (s':= {s with known:=((cg q.cut e.data).foldl bE (s.known,s.news)).1,news:=((cg q.cut e.data).foldl bE (s.known,s.news)).2,read:=s.read+1}) (by simp[cC]) rfl rfl rfl rfl rfl (by show q.rd+1=s.read+1; rw[HT8.out.rd]) HT8.out.kp hcb (by omega))
    have hncb:w.heap.size+1≠cb:=by omega
    have HFB:=aa (show WT.heap[w.heap.size+1]? =some (.cells #[.string e.path, .int .i64 e.kind, .int .i64 e.mode, .int .i64 e.time, .int .i64 (dl:Int), .string e.link, .slice ra rn rc] 27 (0,0)) by rw[hWT,Below.heap_setCell _ _ _ _ hncb]; exact HFB0.out);obtain⟨ps,hps⟩: ∃ps,ps=(cg q.cut e.data).map bF:=⟨_,rfl⟩;have HPV:=aa (show WT.ownsRow base 62 2 (.slice ra rn rc) ps.length (aV ps) by
     rw[hps,<-HPS.out,<-HRN.out,hWT];refine bm HP10.out (fun i hi hv=>Below.heap_setCell _ _ _ _ (fun e1=> ?_));obtain⟨cs2,hc2⟩:=aC HP10.out hv;rw[e1]at hc2;exact absurd (aK HC10.out hc2) (by decide))
    have HFOK:=aa (show cQ ⟨e.path,e.kind,e.mode,e.time,(dl:Int),e.link,ps⟩from⟨HOK.out.pth,HOK.out.lnk,HOK.out.knd,HOK.out.mde,HOK.out.tim,mJ (by omega)⟩);have HPOK:=aa (show ∀p∈ps,de p by
     rw[hps];intro p hp;obtain⟨y,hy,rfl⟩:=List.mem_map.1 hp;have h1:=(oh hc e.data y hy).2;have h2:=eR.1 hc;exact⟨by show(jh y).size<=_; rw[kt]; unfold maxLen; omega,mJ (by omega)⟩)
    have HRES:=aa (show jo q.at0 prev q.cut s e=⟨s.files++[⟨e.path,e.kind,e.mode,e.time,(dl:Int),e.link,ps⟩],((cg q.cut e.data).foldl bE (s.known,s.news)).1,((cg q.cut e.data).foldl bE (s.known,s.news)).2,s.read+1,s.kept⟩ by rw[qn HK.out HNO.out,hps,HDL.out]);have HBT:=aa (show Below base w WT by rw[hWT]; exact HB10.out.grown (aB _ _ _ _) (by omega) (fun i e1=>by cases e1; exact hcb))
    have HS2F:=aa (show s.files.length<=4096 from hfl);have hzW:w.heap.size<=WT.heap.size:=HBT.out.size;clear hWT hps k4 f4;obtain⟨zs,hzs,hzr,hzd⟩:=HTT.out.files.row;obtain⟨xa,xc,hfv,-,-⟩:=ak hzr;have HZS:=aa hzs;have HZD:=aa hzd;have HZR:=aa hzr;have HFV:=aa (show q.fv= .slice xa zs.length xc from hfv);have hzl:zs.length<=4096:=by
     have h1:zs.length=s.files.length:=by have h3:=congrArg List.length hzs; rw[List.length_map]at h3; exact h3
     have h2:=HS2F.out;omega
    obtain⟨W12,hW12⟩: ∃W12:World,W12=WT.drew:=⟨_,rfl⟩;have HB12:=aa (show Below WT.heap.size WT W12 by rw[hW12]; exact(Below.refl _ _).drew);have hzT:=HB12.out.size;have HR12:=aa (show W12.ownsRow base 27 7 (.slice xa zs.length xc) zs.length (cD zs) by rw[<-hfv]; exact aT hzr HB12.out);have HF12:=aa ((HB12.out.block _ (lt_of_block HFB.out)).trans HFB.out);have HC12:=aa ((HB12.out.block _ (lt_of_block HTT.out.col.box)).trans HTT.out.col.box)
    have hne12:(Value.slice xa zs.length xc).ownBlock≠some (w.heap.size+1):=fun e1=>by
     have h1:=HFL.out (w.heap.size+1) (by rw[HFV.out]; exact e1);omega
    have HNE12:=aa hne12;clear hzs hzr hzd hfv hne12;have k1:=ah (k:=1) HC12.out;simp only[cC,cF,List.cons_append,List.nil_append,List.getElem?_toArray,ci,HFV.out]at k1;have S12:=aa (And.intro k1 HF12.out);clear k1;refine cA (fun w'=>w'.cell? ⟨cb,1,none⟩=some (.slice xa zs.length xc)/\w'.heap[w.heap.size+1]? =some (.cells #[.string e.path, .int .i64 e.kind, .int .i64 e.mode, .int .i64 e.time, .int .i64 (dl:Int), .string e.link, .slice ra rn rc] 27 (0,0))) (by kernel_rfl) (by kernel_rfl) ?_
    simp only[List.dropLast_cons_cons,List.dropLast_singleton,List.length_cons,List.length_nil,Nat.reduceAdd,Nat.reduceSub];rw[<-hW12];clear hW12;refine ab 0 rfl (by kernel_rfl) (by kernel_rfl) (by kernel_rfl) (fun _ _ _ h=>h) rfl S12.out (by rintro w' ⟨hw1,hw2⟩; go_simp; rfl) ?_;simp only[Act.put,aD,aE,aF];refine ab 1 rfl (by kernel_rfl) (by kernel_rfl) (by kernel_rfl) (fun _ _ _ h=>h) rfl S12.out (by rintro w' ⟨hw1,hw2⟩; go_simp; rfl) ?_
    simp only[Act.put,aD,aE,aF];refine ab 2 rfl (by kernel_rfl) (by kernel_rfl) (by kernel_rfl) (fun _ _ _ h=>h) rfl S12.out (by rintro w' ⟨hw1,hw2⟩; go_simp; rfl) ?_;simp only[Act.put,aD,aE,aF];refine ab 3 rfl (by kernel_rfl) (by kernel_rfl) (by kernel_rfl) (fun _ _ _ h=>h) rfl S12.out (by rintro w' ⟨hw1,hw2⟩; go_simp; rfl) ?_;simp only[Act.put,aD,aE,aF];refine ab 4 rfl (by kernel_rfl) (by kernel_rfl) (by kernel_rfl) (fun _ _ _ h=>h) rfl S12.out (by rintro w' ⟨hw1,hw2⟩; go_simp; rfl) ?_
    simp only[Act.put,aD,aE,aF];refine ab 5 rfl (by kernel_rfl) (by kernel_rfl) (by kernel_rfl) (fun _ _ _ h=>h) rfl S12.out (by rintro w' ⟨hw1,hw2⟩; go_simp; rfl) ?_;simp only[Act.put,aD,aE,aF];refine ab 6 rfl (by kernel_rfl) (by kernel_rfl) (by kernel_rfl) (fun _ _ _ h=>h) rfl S12.out (by rintro w' ⟨hw1,hw2⟩; go_simp; rfl) ?_;simp only[Act.put,aD,aE,aF];refine ab 7 rfl (by kernel_rfl) (by kernel_rfl) (by kernel_rfl) (fun _ _ _ h=>h) rfl S12.out (by rintro w' ⟨hw1,hw2⟩; have o0:=ah (k:=0) hw2; have o1:=ah (k:=1) hw2; have o2:=ah (k:=2) hw2; have o3:=ah (k:=3) hw2; have o4:=ah (k:=4) hw2; have o5:=ah (k:=5) hw2; have o6:=ah (k:=6) hw2; simp only[List.getElem?_toArray,ci]at o0 o1 o2 o3 o4 o5 o6; clear hw2; go_simp; rfl) ?_
    simp only[Act.put,aD,aE,aF];refine ax 8 rfl (by kernel_rfl) rfl (fun K hK=> ?_);go_wp2_with fail;have hal:=(Below.refl W12.heap.size W12).alloc (Nat.le_refl _) (.cells #[.string e.path, .int .i64 e.kind, .int .i64 e.mode, .int .i64 e.time, .int .i64 (dl:Int), .string e.link, .slice ra rn rc] 27);refine⟨⟨(hal.cell (p:=⟨cb,1,none⟩) (lt_of_block HC12.out)).trans S12.out.1,(hal.block _ (lt_of_block HF12.out)).trans HF12.out⟩, ?_⟩
    refine ax 9 rfl (by kernel_rfl) rfl (fun K hK=> ?_);go_wp2_with (at_builtin; go_must (refine bK Tryz.appFiles rfl _ _ rfl base (.slice xa zs.length xc) zs.length (cD zs) rfl W12 [.string e.path, .int .i64 e.kind, .int .i64 e.mode, .int .i64 e.time, .int .i64 (dl:Int), .string e.link, .slice ra rn rc] _ rfl rfl (gk (f:=⟨e.path,e.kind,e.mode,e.time,(dl:Int),e.link,[]⟩)) HR12.out (by omega) (by omega) ?_); intro vp wc hown3 hg3 _ hpl3; obtain⟨ea,ec,rfl,-,-⟩:=ak hown3)
    have hcb9:(Value.slice xa zs.length xc).ownBlock≠some cb:=fun e1=>by
     obtain⟨cs2,hc2⟩:=aC HR12.out e1;exact absurd (aK HC12.out hc2) (by decide)
    have HCC:=aa ((hg3.block cb (lt_of_block HC12.out) (fun e1=>hcb9 e1.symm)).trans HC12.out);have HFC:=aa ((hg3.block _ (lt_of_block HF12.out) (fun e1=>HNE12.out e1.symm)).trans HF12.out);have HFIN:=aa (HTT.out.file (s':=jo q.at0 prev q.cut s e) (f:=⟨e.path,e.kind,e.mode,e.time,(dl:Int),e.link,ps⟩) (pv:= .slice ra rn rc) (fv':= .slice ea (zs.length+1) ec) HZS.out HZR.out HZD.out HB12.out (aT HPV.out HB12.out) HFOK.out HPOK.out hown3 (by show W12.grownBy wc q.fv.ownBlock; rw[HFV.out]; exact hg3) (by show ∀k,_->q.fv.ownBlock=some k\/_; rw[HFV.out]; exact hpl3) (by rw[HRES.out]) (by rw[HRES.out]) (by rw[HRES.out]) (by rw[HRES.out]) (by rw[HRES.out]) hcb (by omega))
    have hb1:Below base w wc:=(HBT.out.trans (HB12.out.mono (by omega))).grown hg3 (by omega) (fun i e1=>(HR12.out.lt i e1).1);have HBE:=aa (hb1.grown (aB wc cb 1 (.slice ea (zs.length+1) ec)) (by have:=hb1.size; omega) (fun i e1=>by cases e1; exact hcb));have k1:=ah (k:=1) HCC.out;have f1:=aG (k:=1) HCC.out;simp only[cC,cF,List.cons_append,List.nil_append,List.getElem?_toArray,ci,HFV.out]at k1
    have SC:=aa (And.intro k1 HFC.out);clear hown3 hg3 hpl3 hcb9 hb1 hal;refine⟨SC.out, ?_⟩;refine ab 10 rfl (by kernel_rfl) (by kernel_rfl) (by kernel_rfl) (fun _ _ _ h=>h) rfl SC.out (by rintro w' ⟨hw1,hw2⟩; go_simp; rfl) ?_;simp only[Act.put,aD,aE,aF];refine ab 11 rfl (by kernel_rfl) (by kernel_rfl) (by kernel_rfl) (fun _ _ _ h=>h) rfl SC.out (by rintro w' ⟨hw1,hw2⟩; go_simp; rfl) ?_
    simp only[Act.put,aD,aE,aF];refine ab 12 rfl (by kernel_rfl) (by kernel_rfl) (by kernel_rfl) (fun _ _ _ h=>h) rfl SC.out (by rintro w' ⟨hw1,hw2⟩; go_simp; rfl) ?_;simp only[Act.put,aD,aE,aF];refine ab 13 rfl (by kernel_rfl) (by kernel_rfl) (by kernel_rfl) (fun _ _ _ h=>h) rfl SC.out (by rintro w' ⟨hw1,hw2⟩; go_simp; rfl) ?_;simp only[Act.put,aD,aE,aF];refine bh (by kernel_rfl) ?_
    refine cL rfl rfl (fun K hK=> ?_);go_wp2_with fail;go_ret;exact⟨_,_,_,_,rfl,HFIN.out,HBE.out⟩
  ·clear x0 x1 x2 x3 x4 x5 o0 o1 o2 o3 o4 o5 o6 k6;refine aw [some 8,none,some 1] (by kernel_rfl) (by kernel_rfl) (by kernel_rfl) ?_;simp only[bq,List.take_succ_cons,List.take_zero,List.drop_succ_cons,List.drop_zero];rw[<-hW7];clear hW7
   repeat (first | (refine az rfl ?_; simp only[Act.put,aD,aE,aF]) | (refine aI rfl (fun K hK=> ?_); go_simp; refine hK _ ?_; clear hK K))
   refine aH ?_;refine im rfl ?_;simp only[Act.put,aD,aE,aF]
   repeat (first | (refine az rfl ?_; simp only[Act.put,aD,aE,aF]) | (refine aI rfl (fun K hK=> ?_); go_simp; refine hK _ ?_; clear hK K))
   refine aH ?_
   go_upto_region 7 with fail
   obtain⟨w8,hw8⟩: ∃w8:World,w8=W7:=⟨_,rfl⟩;have HB8:=aa (show Below W7.heap.size W7 w8 by rw[hw8]; exact Below.refl _ _);rw[<-hw8];have HNO:=aa (show ∀f,eN prev e.path=some f->fW q.at0 f e=false from fun f hf=>by rw[hfind]at hf; cases hf);clear hw8;have hz8:=HB8.out.size;have HX8:=aa ((HB8.out.block _ (lt_of_block HX7.out)).trans HX7.out);have HY8:=aa ((HB8.out.block _ (lt_of_block HY7.out)).trans HY7.out)
   have HT8:=aa (HT7.out.below HB8.out (by omega));have HE8:=aa (HE7.out.below HB8.out);have HBB8:=aa (HBB.out.trans (HB8.out.mono (by omega)));have HD8:=aa (show aX (· <base) w8 (.slice da dl dcap) e.data from aO.same HD7.out (fun k hk=>HB8.out.block k (by omega)));have hdl2:e.data.length<=1048576:=(lC HV.out).1 HK.out;have x4:=ah (k:=4) HX8.out;simp only[List.getElem?_toArray,ci]at x4
   go_upto_region 8 with(go_at_call 77; refine(uD base cb kb q nv (.slice da dl dcap) s.known s.news e.data w8 HT8.out.col HD8.out hdl2 hc hs HE8.out hcb hkb (by omega) h6 hn).mono ?_; rintro e9 w9 ⟨rv,nv2,rfl,ho9,hc9,hk9⟩; have HP9:=aa ho9; have HC9:=aa hc9; have HK9:=aa hk9; clear ho9 hc9 hk9)
   have hz9:=HK9.out.below.size;obtain⟨ra,rc,rfl,-,-⟩:=ak HP9.out;have HPS:=aa (show(cg q.cut e.data).length=((cg q.cut e.data).map bF).length by rw[List.length_map]);obtain⟨rn,hrn⟩: ∃rn,rn=(cg q.cut e.data).length:=⟨_,rfl⟩;rw[<-hrn]at HP9 ⊢;have HRN:=aa hrn;clear hrn;have HY9:=aa ((HK9.out.same _ (lt_of_block HY8.out) (by omega) (by have:=HH.out.col.known.lt; omega) (fun e1=>by have:=HH.out.nvlt _ e1; omega)).trans HY8.out)
   have HT9:=aa (HT8.out.read (s':= {s with known:=((cg q.cut e.data).foldl bE (s.known,s.news)).1,news:=((cg q.cut e.data).foldl bE (s.known,s.news)).2}) HC9.out HK9.out rfl rfl rfl);have f6:=aG (k:=6) HY9.out;have y6:=ah (k:=6) HY9.out;simp only[List.getElem?_toArray,ci]at y6
   go_upto_region 11 with fail
   obtain⟨W10,hW10⟩: ∃W10,W10=w9.setCell ⟨w.heap.size+1,6,none⟩ (.slice ra rn rc):=⟨_,rfl⟩;rw[<-hW10];have HG10:=aa (show w9.grownBy W10 (some (w.heap.size+1)) by rw[hW10]; exact aB _ _ _ _);have HFB0:=aa (show W10.heap[w.heap.size+1]? =some (.cells #[.string e.path, .int .i64 e.kind, .int .i64 e.mode, .int .i64 e.time, .int .i64 (dl:Int), .string e.link, .slice ra rn rc] 27 (0,0)) by rw[hW10]; simpa using nA (k:=6) HY9.out (.slice ra rn rc))
   have HT10:=aa (HT9.out.other HG10.out HY9.out (fun e1=>by have:=HFL.out _ e1; omega) (by omega) (by omega));have HP10:=aa (show W10.ownsRow base 62 2 (.slice ra rn rc) rn (aV ((cg q.cut e.data).map bF)) by
    have h1:w9.ownsRow base 62 2 (.slice ra rn rc) rn (aV ((cg q.cut e.data).map bF)):=bP HP9.out (by omega);refine bm h1 (fun i hi hv=>HG10.out.block i hi (fun e1=> ?_));have h2:=(HP9.out.lt i hv).1;have h3:=Option.some.inj e1
    omega)
   have HB10:=aa (show Below base w W10 from((HBB8.out.trans HK9.out.below).grown HG10.out (by omega) (fun i e1=>by have:=Option.some.inj e1; omega)));have HC10:=aa HT10.out.col.box;have k4:=ah (k:=4) HC10.out;have f4:=aG (k:=4) HC10.out;simp only[cC,cF,List.cons_append,List.nil_append,List.getElem?_toArray,ci]at k4;have hrd:q.rd<=4096:=by rw[HT8.out.rd]; exact hrl
   clear hW10 y6 f6 x4
   go_upto_region 12 with fail
   obtain⟨WT,hWT⟩: ∃WT,WT=W10.setCell ⟨cb,4,none⟩ (.int .i64 ((q.rd:Int)+1)):=⟨_,rfl⟩;rw[<-hWT];have hz10:W7.heap.size<=W10.heap.size:=by have:=HG10.out.size; omega
   have HTT:=aa (show dj W0 WT base cb kb {q with rd:=q.rd+1} nv2 prev {s with known:=((cg q.cut e.data).foldl bE (s.known,s.news)).1,news:=((cg q.cut e.data).foldl bE (s.known,s.news)).2,read:=s.read+1} by rw[hWT]; exact HT10.out.setq 4 (.int .i64 ((q.rd:Int)+1)) (q':= {q with rd:=q.rd+1}) (s':= {s with known:=((cg q.cut e.data).foldl bE (s.known,s.news)).1,news:=((cg q.cut e.data).foldl bE (s.known,s.news)).2,read:=s.read+1}) (by simp[cC]) rfl rfl rfl rfl rfl (by show q.rd+1=s.read+1; rw[HT8.out.rd]) HT8.out.kp hcb (by omega))
   have hncb:w.heap.size+1≠cb:=by omega
   have HFB:=aa (show WT.heap[w.heap.size+1]? =some (.cells #[.string e.path, .int .i64 e.kind, .int .i64 e.mode, .int .i64 e.time, .int .i64 (dl:Int), .string e.link, .slice ra rn rc] 27 (0,0)) by rw[hWT,Below.heap_setCell _ _ _ _ hncb]; exact HFB0.out);obtain⟨ps,hps⟩: ∃ps,ps=(cg q.cut e.data).map bF:=⟨_,rfl⟩;have HPV:=aa (show WT.ownsRow base 62 2 (.slice ra rn rc) ps.length (aV ps) by
    rw[hps,<-HPS.out,<-HRN.out,hWT];refine bm HP10.out (fun i hi hv=>Below.heap_setCell _ _ _ _ (fun e1=> ?_));obtain⟨cs2,hc2⟩:=aC HP10.out hv;rw[e1]at hc2;exact absurd (aK HC10.out hc2) (by decide))
   have HFOK:=aa (show cQ ⟨e.path,e.kind,e.mode,e.time,(dl:Int),e.link,ps⟩from⟨HOK.out.pth,HOK.out.lnk,HOK.out.knd,HOK.out.mde,HOK.out.tim,mJ (by omega)⟩);have HPOK:=aa (show ∀p∈ps,de p by
    rw[hps];intro p hp;obtain⟨y,hy,rfl⟩:=List.mem_map.1 hp;have h1:=(oh hc e.data y hy).2;have h2:=eR.1 hc;exact⟨by show(jh y).size<=_; rw[kt]; unfold maxLen; omega,mJ (by omega)⟩)
   have HRES:=aa (show jo q.at0 prev q.cut s e=⟨s.files++[⟨e.path,e.kind,e.mode,e.time,(dl:Int),e.link,ps⟩],((cg q.cut e.data).foldl bE (s.known,s.news)).1,((cg q.cut e.data).foldl bE (s.known,s.news)).2,s.read+1,s.kept⟩ by rw[qn HK.out HNO.out,hps,HDL.out]);have HBT:=aa (show Below base w WT by rw[hWT]; exact HB10.out.grown (aB _ _ _ _) (by omega) (fun i e1=>by cases e1; exact hcb))
   have HS2F:=aa (show s.files.length<=4096 from hfl);have hzW:w.heap.size<=WT.heap.size:=HBT.out.size;clear hWT hps k4 f4;obtain⟨zs,hzs,hzr,hzd⟩:=HTT.out.files.row;obtain⟨xa,xc,hfv,-,-⟩:=ak hzr;have HZS:=aa hzs;have HZD:=aa hzd;have HZR:=aa hzr;have HFV:=aa (show q.fv= .slice xa zs.length xc from hfv);have hzl:zs.length<=4096:=by
    have h1:zs.length=s.files.length:=by have h3:=congrArg List.length hzs; rw[List.length_map]at h3; exact h3
    have h2:=HS2F.out;omega
   obtain⟨W12,hW12⟩: ∃W12:World,W12=WT.drew:=⟨_,rfl⟩;have HB12:=aa (show Below WT.heap.size WT W12 by rw[hW12]; exact(Below.refl _ _).drew);have hzT:=HB12.out.size;have HR12:=aa (show W12.ownsRow base 27 7 (.slice xa zs.length xc) zs.length (cD zs) by rw[<-hfv]; exact aT hzr HB12.out);have HF12:=aa ((HB12.out.block _ (lt_of_block HFB.out)).trans HFB.out);have HC12:=aa ((HB12.out.block _ (lt_of_block HTT.out.col.box)).trans HTT.out.col.box)
   have hne12:(Value.slice xa zs.length xc).ownBlock≠some (w.heap.size+1):=fun e1=>by
    have h1:=HFL.out (w.heap.size+1) (by rw[HFV.out]; exact e1);omega
   have HNE12:=aa hne12;clear hzs hzr hzd hfv hne12;have k1:=ah (k:=1) HC12.out;simp only[cC,cF,List.cons_append,List.nil_append,List.getElem?_toArray,ci,HFV.out]at k1;have S12:=aa (And.intro k1 HF12.out);clear k1;refine cA (fun w'=>w'.cell? ⟨cb,1,none⟩=some (.slice xa zs.length xc)/\w'.heap[w.heap.size+1]? =some (.cells #[.string e.path, .int .i64 e.kind, .int .i64 e.mode, .int .i64 e.time, .int .i64 (dl:Int), .string e.link, .slice ra rn rc] 27 (0,0))) (by kernel_rfl) (by kernel_rfl) ?_
   simp only[List.dropLast_cons_cons,List.dropLast_singleton,List.length_cons,List.length_nil,Nat.reduceAdd,Nat.reduceSub];rw[<-hW12];clear hW12;refine ab 0 rfl (by kernel_rfl) (by kernel_rfl) (by kernel_rfl) (fun _ _ _ h=>h) rfl S12.out (by rintro w' ⟨hw1,hw2⟩; go_simp; rfl) ?_;simp only[Act.put,aD,aE,aF];refine ab 1 rfl (by kernel_rfl) (by kernel_rfl) (by kernel_rfl) (fun _ _ _ h=>h) rfl S12.out (by rintro w' ⟨hw1,hw2⟩; go_simp; rfl) ?_
   simp only[Act.put,aD,aE,aF];refine ab 2 rfl (by kernel_rfl) (by kernel_rfl) (by kernel_rfl) (fun _ _ _ h=>h) rfl S12.out (by rintro w' ⟨hw1,hw2⟩; go_simp; rfl) ?_;simp only[Act.put,aD,aE,aF];refine ab 3 rfl (by kernel_rfl) (by kernel_rfl) (by kernel_rfl) (fun _ _ _ h=>h) rfl S12.out (by rintro w' ⟨hw1,hw2⟩; go_simp; rfl) ?_;simp only[Act.put,aD,aE,aF];refine ab 4 rfl (by kernel_rfl) (by kernel_rfl) (by kernel_rfl) (fun _ _ _ h=>h) rfl S12.out (by rintro w' ⟨hw1,hw2⟩; go_simp; rfl) ?_
   simp only[Act.put,aD,aE,aF];refine ab 5 rfl (by kernel_rfl) (by kernel_rfl) (by kernel_rfl) (fun _ _ _ h=>h) rfl S12.out (by rintro w' ⟨hw1,hw2⟩; go_simp; rfl) ?_;simp only[Act.put,aD,aE,aF];refine ab 6 rfl (by kernel_rfl) (by kernel_rfl) (by kernel_rfl) (fun _ _ _ h=>h) rfl S12.out (by rintro w' ⟨hw1,hw2⟩; go_simp; rfl) ?_;simp only[Act.put,aD,aE,aF];refine ab 7 rfl (by kernel_rfl) (by kernel_rfl) (by kernel_rfl) (fun _ _ _ h=>h) rfl S12.out (by rintro w' ⟨hw1,hw2⟩; have o0:=ah (k:=0) hw2; have o1:=ah (k:=1) hw2; have o2:=ah (k:=2) hw2; have o3:=ah (k:=3) hw2; have o4:=ah (k:=4) hw2; have o5:=ah (k:=5) hw2; have o6:=ah (k:=6) hw2; simp only[List.getElem?_toArray,ci]at o0 o1 o2 o3 o4 o5 o6; clear hw2; go_simp; rfl) ?_
   simp only[Act.put,aD,aE,aF];refine ax 8 rfl (by kernel_rfl) rfl (fun K hK=> ?_);go_wp2_with fail;have hal:=(Below.refl W12.heap.size W12).alloc (Nat.le_refl _) (.cells #[.string e.path, .int .i64 e.kind, .int .i64 e.mode, .int .i64 e.time, .int .i64 (dl:Int), .string e.link, .slice ra rn rc] 27);refine⟨⟨(hal.cell (p:=⟨cb,1,none⟩) (lt_of_block HC12.out)).trans S12.out.1,(hal.block _ (lt_of_block HF12.out)).trans HF12.out⟩, ?_⟩
   refine ax 9 rfl (by kernel_rfl) rfl (fun K hK=> ?_);go_wp2_with (at_builtin; go_must (refine bK Tryz.appFiles rfl _ _ rfl base (.slice xa zs.length xc) zs.length (cD zs) rfl W12 [.string e.path, .int .i64 e.kind, .int .i64 e.mode, .int .i64 e.time, .int .i64 (dl:Int), .string e.link, .slice ra rn rc] _ rfl rfl (gk (f:=⟨e.path,e.kind,e.mode,e.time,(dl:Int),e.link,[]⟩)) HR12.out (by omega) (by omega) ?_); intro vp wc hown3 hg3 _ hpl3; obtain⟨ea,ec,rfl,-,-⟩:=ak hown3)
   have hcb9:(Value.slice xa zs.length xc).ownBlock≠some cb:=fun e1=>by
    obtain⟨cs2,hc2⟩:=aC HR12.out e1;exact absurd (aK HC12.out hc2) (by decide)
   have HCC:=aa ((hg3.block cb (lt_of_block HC12.out) (fun e1=>hcb9 e1.symm)).trans HC12.out);have HFC:=aa ((hg3.block _ (lt_of_block HF12.out) (fun e1=>HNE12.out e1.symm)).trans HF12.out);have HFIN:=aa (HTT.out.file (s':=jo q.at0 prev q.cut s e) (f:=⟨e.path,e.kind,e.mode,e.time,(dl:Int),e.link,ps⟩) (pv:= .slice ra rn rc) (fv':= .slice ea (zs.length+1) ec) HZS.out HZR.out HZD.out HB12.out (aT HPV.out HB12.out) HFOK.out HPOK.out hown3 (by show W12.grownBy wc q.fv.ownBlock; rw[HFV.out]; exact hg3) (by show ∀k,_->q.fv.ownBlock=some k\/_; rw[HFV.out]; exact hpl3) (by rw[HRES.out]) (by rw[HRES.out]) (by rw[HRES.out]) (by rw[HRES.out]) (by rw[HRES.out]) hcb (by omega))
   have hb1:Below base w wc:=(HBT.out.trans (HB12.out.mono (by omega))).grown hg3 (by omega) (fun i e1=>(HR12.out.lt i e1).1);have HBE:=aa (hb1.grown (aB wc cb 1 (.slice ea (zs.length+1) ec)) (by have:=hb1.size; omega) (fun i e1=>by cases e1; exact hcb));have k1:=ah (k:=1) HCC.out;have f1:=aG (k:=1) HCC.out;simp only[cC,cF,List.cons_append,List.nil_append,List.getElem?_toArray,ci,HFV.out]at k1
   have SC:=aa (And.intro k1 HFC.out);clear hown3 hg3 hpl3 hcb9 hb1 hal;refine⟨SC.out, ?_⟩;refine ab 10 rfl (by kernel_rfl) (by kernel_rfl) (by kernel_rfl) (fun _ _ _ h=>h) rfl SC.out (by rintro w' ⟨hw1,hw2⟩; go_simp; rfl) ?_;simp only[Act.put,aD,aE,aF];refine ab 11 rfl (by kernel_rfl) (by kernel_rfl) (by kernel_rfl) (fun _ _ _ h=>h) rfl SC.out (by rintro w' ⟨hw1,hw2⟩; go_simp; rfl) ?_
   simp only[Act.put,aD,aE,aF];refine ab 12 rfl (by kernel_rfl) (by kernel_rfl) (by kernel_rfl) (fun _ _ _ h=>h) rfl SC.out (by rintro w' ⟨hw1,hw2⟩; go_simp; rfl) ?_;simp only[Act.put,aD,aE,aF];refine ab 13 rfl (by kernel_rfl) (by kernel_rfl) (by kernel_rfl) (fun _ _ _ h=>h) rfl SC.out (by rintro w' ⟨hw1,hw2⟩; go_simp; rfl) ?_;simp only[Act.put,aD,aE,aF];refine bh (by kernel_rfl) ?_
   refine cL rfl rfl (fun K hK=> ?_);go_wp2_with fail;go_ret;exact⟨_,_,_,_,rfl,HFIN.out,HBE.out⟩
 ·have hk2:(e.kind == 1)=false:=by simp[hk]
  have HK:=aa hk;clear hk;have x1:=ah (k:=1) HX.out;simp only[List.getElem?_toArray,ci]at x1
  go_upto_region 12 with fail
  clear x1;obtain⟨WT,hWT⟩: ∃WT:World,WT=W:=⟨_,rfl⟩;rw[<-hWT];obtain⟨ra,rn,rc,ps,hra,hrn,hrc,hps⟩: ∃(ra:Option Addr) (rn rc:Nat) (ps:List bd),ra=none/\rn=0/\rc=0/\ps=[]:=⟨_,_,_,_,rfl,rfl,rfl,rfl⟩;have HTT:=aa (show dj W0 WT base cb kb q nv prev s by rw[hWT]; exact HT0.out);have HFB:=aa (show WT.heap[w.heap.size+1]? =some (.cells #[.string e.path, .int .i64 e.kind, .int .i64 e.mode, .int .i64 e.time, .int .i64 (dl:Int), .string e.link, .slice ra rn rc] 27 (0,0)) by rw[hWT,hra,hrn,hrc]; exact HY.out)
  have HPV:=aa (show WT.ownsRow base 62 2 (.slice ra rn rc) ps.length (aV ps) by rw[hra,hrn,hrc,hps]; exact World.ownsRow_nil _ _ _ _);have HFOK:=aa (show cQ ⟨e.path,e.kind,e.mode,e.time,(dl:Int),e.link,ps⟩from⟨HOK.out.pth,HOK.out.lnk,HOK.out.knd,HOK.out.mde,HOK.out.tim,mJ (by omega)⟩);have HPOK:=aa (show ∀p∈ps,de p by rw[hps]; simp);have HRES:=aa (show jo q.at0 prev q.cut s e=⟨s.files++[⟨e.path,e.kind,e.mode,e.time,(dl:Int),e.link,ps⟩],s.known,s.news,s.read,s.kept⟩ by rw[yh HK.out,hps,HDL.out])
  have HBT:=aa (show Below base w WT by rw[hWT]; exact HBW.out.mono hbz);have HS2F:=aa (show s.files.length<=4096 from hfl);have hzW:w.heap.size<=WT.heap.size:=HBT.out.size;clear hWT hra hrn hrc hps;obtain⟨zs,hzs,hzr,hzd⟩:=HTT.out.files.row;obtain⟨xa,xc,hfv,-,-⟩:=ak hzr;have HZS:=aa hzs;have HZD:=aa hzd;have HZR:=aa hzr;have HFV:=aa (show q.fv= .slice xa zs.length xc from hfv)
  have hzl:zs.length<=4096:=by
   have h1:zs.length=s.files.length:=by have h3:=congrArg List.length hzs; rw[List.length_map]at h3; exact h3
   have h2:=HS2F.out;omega
  obtain⟨W12,hW12⟩: ∃W12:World,W12=WT.drew:=⟨_,rfl⟩;have HB12:=aa (show Below WT.heap.size WT W12 by rw[hW12]; exact(Below.refl _ _).drew);have hzT:=HB12.out.size;have HR12:=aa (show W12.ownsRow base 27 7 (.slice xa zs.length xc) zs.length (cD zs) by rw[<-hfv]; exact aT hzr HB12.out);have HF12:=aa ((HB12.out.block _ (lt_of_block HFB.out)).trans HFB.out);have HC12:=aa ((HB12.out.block _ (lt_of_block HTT.out.col.box)).trans HTT.out.col.box)
  have hne12:(Value.slice xa zs.length xc).ownBlock≠some (w.heap.size+1):=fun e1=>by
   have h1:=HFL.out (w.heap.size+1) (by rw[HFV.out]; exact e1);omega
  have HNE12:=aa hne12;clear hzs hzr hzd hfv hne12;have k1:=ah (k:=1) HC12.out;simp only[cC,cF,List.cons_append,List.nil_append,List.getElem?_toArray,ci,HFV.out]at k1;have S12:=aa (And.intro k1 HF12.out);clear k1;refine cA (fun w'=>w'.cell? ⟨cb,1,none⟩=some (.slice xa zs.length xc)/\w'.heap[w.heap.size+1]? =some (.cells #[.string e.path, .int .i64 e.kind, .int .i64 e.mode, .int .i64 e.time, .int .i64 (dl:Int), .string e.link, .slice ra rn rc] 27 (0,0))) (by kernel_rfl) (by kernel_rfl) ?_
  simp only[List.dropLast_cons_cons,List.dropLast_singleton,List.length_cons,List.length_nil,Nat.reduceAdd,Nat.reduceSub];rw[<-hW12];clear hW12;refine ab 0 rfl (by kernel_rfl) (by kernel_rfl) (by kernel_rfl) (fun _ _ _ h=>h) rfl S12.out (by rintro w' ⟨hw1,hw2⟩; go_simp; rfl) ?_;simp only[Act.put,aD,aE,aF];refine ab 1 rfl (by kernel_rfl) (by kernel_rfl) (by kernel_rfl) (fun _ _ _ h=>h) rfl S12.out (by rintro w' ⟨hw1,hw2⟩; go_simp; rfl) ?_
  simp only[Act.put,aD,aE,aF];refine ab 2 rfl (by kernel_rfl) (by kernel_rfl) (by kernel_rfl) (fun _ _ _ h=>h) rfl S12.out (by rintro w' ⟨hw1,hw2⟩; go_simp; rfl) ?_;simp only[Act.put,aD,aE,aF];refine ab 3 rfl (by kernel_rfl) (by kernel_rfl) (by kernel_rfl) (fun _ _ _ h=>h) rfl S12.out (by rintro w' ⟨hw1,hw2⟩; go_simp; rfl) ?_;simp only[Act.put,aD,aE,aF];refine ab 4 rfl (by kernel_rfl) (by kernel_rfl) (by kernel_rfl) (fun _ _ _ h=>h) rfl S12.out (by rintro w' ⟨hw1,hw2⟩; go_simp; rfl) ?_
  simp only[Act.put,aD,aE,aF];refine ab 5 rfl (by kernel_rfl) (by kernel_rfl) (by kernel_rfl) (fun _ _ _ h=>h) rfl S12.out (by rintro w' ⟨hw1,hw2⟩; go_simp; rfl) ?_;simp only[Act.put,aD,aE,aF];refine ab 6 rfl (by kernel_rfl) (by kernel_rfl) (by kernel_rfl) (fun _ _ _ h=>h) rfl S12.out (by rintro w' ⟨hw1,hw2⟩; go_simp; rfl) ?_;simp only[Act.put,aD,aE,aF];refine ab 7 rfl (by kernel_rfl) (by kernel_rfl) (by kernel_rfl) (fun _ _ _ h=>h) rfl S12.out (by rintro w' ⟨hw1,hw2⟩; have o0:=ah (k:=0) hw2; have o1:=ah (k:=1) hw2; have o2:=ah (k:=2) hw2; have o3:=ah (k:=3) hw2; have o4:=ah (k:=4) hw2; have o5:=ah (k:=5) hw2; have o6:=ah (k:=6) hw2; simp only[List.getElem?_toArray,ci]at o0 o1 o2 o3 o4 o5 o6; clear hw2; go_simp; rfl) ?_
  simp only[Act.put,aD,aE,aF];refine ax 8 rfl (by kernel_rfl) rfl (fun K hK=> ?_);go_wp2_with fail;have hal:=(Below.refl W12.heap.size W12).alloc (Nat.le_refl _) (.cells #[.string e.path, .int .i64 e.kind, .int .i64 e.mode, .int .i64 e.time, .int .i64 (dl:Int), .string e.link, .slice ra rn rc] 27);refine⟨⟨(hal.cell (p:=⟨cb,1,none⟩) (lt_of_block HC12.out)).trans S12.out.1,(hal.block _ (lt_of_block HF12.out)).trans HF12.out⟩, ?_⟩
  refine ax 9 rfl (by kernel_rfl) rfl (fun K hK=> ?_);go_wp2_with (at_builtin; go_must (refine bK Tryz.appFiles rfl _ _ rfl base (.slice xa zs.length xc) zs.length (cD zs) rfl W12 [.string e.path, .int .i64 e.kind, .int .i64 e.mode, .int .i64 e.time, .int .i64 (dl:Int), .string e.link, .slice ra rn rc] _ rfl rfl (gk (f:=⟨e.path,e.kind,e.mode,e.time,(dl:Int),e.link,[]⟩)) HR12.out (by omega) (by omega) ?_); intro vp wc hown3 hg3 _ hpl3; obtain⟨ea,ec,rfl,-,-⟩:=ak hown3)
  have hcb9:(Value.slice xa zs.length xc).ownBlock≠some cb:=fun e1=>by
   obtain⟨cs2,hc2⟩:=aC HR12.out e1;exact absurd (aK HC12.out hc2) (by decide)
  have HCC:=aa ((hg3.block cb (lt_of_block HC12.out) (fun e1=>hcb9 e1.symm)).trans HC12.out);have HFC:=aa ((hg3.block _ (lt_of_block HF12.out) (fun e1=>HNE12.out e1.symm)).trans HF12.out);have HFIN:=aa (HTT.out.file (s':=jo q.at0 prev q.cut s e) (f:=⟨e.path,e.kind,e.mode,e.time,(dl:Int),e.link,ps⟩) (pv:= .slice ra rn rc) (fv':= .slice ea (zs.length+1) ec) HZS.out HZR.out HZD.out HB12.out (aT HPV.out HB12.out) HFOK.out HPOK.out hown3 (by show W12.grownBy wc q.fv.ownBlock; rw[HFV.out]; exact hg3) (by show ∀k,_->q.fv.ownBlock=some k\/_; rw[HFV.out]; exact hpl3) (by rw[HRES.out]) (by rw[HRES.out]) (by rw[HRES.out]) (by rw[HRES.out]) (by rw[HRES.out]) hcb (by omega))
  have hb1:Below base w wc:=(HBT.out.trans (HB12.out.mono (by omega))).grown hg3 (by omega) (fun i e1=>(HR12.out.lt i e1).1);have HBE:=aa (hb1.grown (aB wc cb 1 (.slice ea (zs.length+1) ec)) (by have:=hb1.size; omega) (fun i e1=>by cases e1; exact hcb));have k1:=ah (k:=1) HCC.out;have f1:=aG (k:=1) HCC.out;simp only[cC,cF,List.cons_append,List.nil_append,List.getElem?_toArray,ci,HFV.out]at k1
  have SC:=aa (And.intro k1 HFC.out);clear hown3 hg3 hpl3 hcb9 hb1 hal;refine⟨SC.out, ?_⟩;refine ab 10 rfl (by kernel_rfl) (by kernel_rfl) (by kernel_rfl) (fun _ _ _ h=>h) rfl SC.out (by rintro w' ⟨hw1,hw2⟩; go_simp; rfl) ?_;simp only[Act.put,aD,aE,aF];refine ab 11 rfl (by kernel_rfl) (by kernel_rfl) (by kernel_rfl) (fun _ _ _ h=>h) rfl SC.out (by rintro w' ⟨hw1,hw2⟩; go_simp; rfl) ?_
  simp only[Act.put,aD,aE,aF];refine ab 12 rfl (by kernel_rfl) (by kernel_rfl) (by kernel_rfl) (fun _ _ _ h=>h) rfl SC.out (by rintro w' ⟨hw1,hw2⟩; go_simp; rfl) ?_;simp only[Act.put,aD,aE,aF];refine ab 13 rfl (by kernel_rfl) (by kernel_rfl) (by kernel_rfl) (fun _ _ _ h=>h) rfl SC.out (by rintro w' ⟨hw1,hw2⟩; go_simp; rfl) ?_;simp only[Act.put,aD,aE,aF];refine bh (by kernel_rfl) ?_
  refine cL rfl rfl (fun K hK=> ?_);go_wp2_with fail;go_ret;exact⟨_,_,_,_,rfl,HFIN.out,HBE.out⟩
end Go.Proofs.YtnjkpcalgoefhaaGreatDoor
namespace Go.Proofs.YtnjkpcalgoefhaaGreatDoor
open Go.RowKit
def et :List UInt8->Nat
 | []=>0
 | b::l=>b.toNat%128+128*et l
def wX (l:List UInt8):Nat:=et l%18446744073709551616
def wj (data:List UInt8) (off:Nat):Nat->Nat->Except Int (Nat×Nat)
 | 0,_=> .error 3
 | f+1,k=>match data[off+k]? with
  | none=> .error 3
  | some b=>if 128<=b.toNat then wj data off f (k+1)
   else if aL (wX ((data.drop off).take (k+1)))=(data.drop off).take (k+1)then .ok (wX ((data.drop off).take (k+1)),off+k+1)else .error 3
theorem sK : ∀l:List UInt8,et l<2^(7*l.length)
 | []=>by simp[et]
 | b::l=>by
  have:=sK l;rw[et,List.length_cons,show 7*(l.length+1)=7*l.length+7 by omega,Nat.pow_add];omega
theorem mI : ∀(l:List UInt8) (b:UInt8),et (l++[b])=et l+b.toNat%128*2^(7*l.length)
 | [],b=>by simp[et]
 | c::l,b=>by
  rw[List.cons_append,et,mI l b,et,List.length_cons,show 7*(l.length+1)=7*l.length+7 by omega,Nat.pow_add,Nat.mul_add];have:128*(b.toNat%128*2^(7*l.length))=b.toNat%128*(2^(7*l.length)*2^7):=by
   rw[Nat.mul_left_comm,Nat.mul_comm 128]
  omega
theorem uY : ∀(f n:Nat),n<2^(7*(f+1))->et (fT f n)=n
 | 0,n,h=>by
  have h1:n<128:=h;rw[fT,et,et,UInt8.toNat_ofNat_of_lt' (by show n<256; omega)]; omega
 | f+1,n,h=>by
  rw[fT]
  split
  ·rw[et,uY f (n/128) (by
    rw[show 7*(f+1+1)=7*(f+1)+7 by omega,Nat.pow_add]at h;exact Nat.div_lt_of_lt_mul (by omega)),UInt8.toNat_ofNat_of_lt' (by show _<256; omega)]
   omega
  ·rw[et,et,UInt8.toNat_ofNat_of_lt' (by show n<256; omega)]; omega
theorem uc : ∀(f n:Nat) (c:UInt8) (l:List UInt8),0<n->n<2^(7*(f+1))->fT f n=l++[c]->c.toNat≠0
 | 0,n,c,l,h0,h,he=>by
  have h1:n<128:=h;rw[fT]at he;have:c=UInt8.ofNat n:=by
   have:=congrArg List.getLast? he
   simpa using this.symm
  rw[this,UInt8.toNat_ofNat_of_lt' (by show n<256; omega)]; omega
 | f+1,n,c,l,h0,h,he=>by
  rw[fT]at he
  split at he
  ·cases l with
   | nil=>
    simp only[List.nil_append,List.cons.injEq]at he;have:=congrArg List.length he.2;have h3:(fT f (n/128)).length≠0:=by cases f<;> (rw[fT]; try split)<;> simp
    simp at this; exact absurd (by simp[this]) h3
   | cons d l=>
    simp only[List.cons_append,List.cons.injEq]at he;exact uc f (n/128) c l (by omega) (by
     rw[show 7*(f+1+1)=7*(f+1)+7 by omega,Nat.pow_add]at h;exact Nat.div_lt_of_lt_mul (by omega)) he.2
  ·have:c=UInt8.ofNat n:=by
    have:=congrArg List.getLast? he
    simpa using this.symm
   rw[this,UInt8.toNat_ofNat_of_lt' (by show n<256; omega)]; omega
theorem xK : ∀(f:Nat) (l:List UInt8) (c:UInt8),(∀b∈l,128<=b.toNat)->c.toNat<128->(l≠[]->c.toNat≠0)->l.length<=f->fT f (et (l++[c]))=l++[c]
 | f,[],c,_,h2,_,_=>by
  have hv:et ([]++[c])=c.toNat:=by simp[et]; omega
  rw[hv];have hc:UInt8.ofNat c.toNat=c:=UInt8.ofNat_toNat
  cases f with
  | zero=>rw[fT,hc]; rfl
  | succ f=>rw[fT,if_neg (by omega),hc]; rfl
 | 0,b::l,c,_,_,_,h4=>by simp at h4
 | f+1,b::l,c,h1,h2,h3,h4=>by
  have hb:=h1 b (by simp);have hb8:=b.toNat_lt;have hr:=xK f l c (fun x hx=>h1 x (by simp[hx])) h2 (fun _=>h3 (by simp)) (by simpa using h4);have hp:0<et (l++[c]):=by
   rw[mI];have hc:=h3 (by simp);have:0<c.toNat%128*2^(7*l.length):=Nat.mul_pos (by omega) (Nat.two_pow_pos _);omega
  rw[List.cons_append,fT,et,if_pos (by omega),show(b.toNat%128+128*et (l++[c]))/128=et (l++[c]) by omega,hr,
   show(b.toNat%128+128*et (l++[c]))%128+128=b.toNat by omega,UInt8.ofNat_toNat]
theorem Bp (m x k:Nat) (h:m<2^k):m ||| (x*2^k)=m+x*2^k:=by
 rw[Nat.or_comm,Nat.mul_comm,<-Nat.two_pow_add_eq_or_of_lt h,Nat.add_comm]
theorem Bn (m:Nat) (b:UInt8) (k:Nat) (hk:k<=9) (h:m<2^(7*k)):qd m b k=(m+b.toNat%128*2^(7*k))%18446744073709551616:=by
 unfold qd;have hb:b.toNat%128<128:=by omega
 generalize b.toNat%128=x at hb
 by_cases h9:k=9
 ·subst h9;have e:x*2^(7*9)%18446744073709551616=x%2*2^(7*9):=by
   simp only[Nat.reduceMul,Nat.reducePow]; omega
  rw[e,Bp _ _ _ h];simp only[Nat.reduceMul,Nat.reducePow]at *;omega
 ·have hp:2^(7*k)*128<=18446744073709551616:=by
   rw[show(128:Nat)=2^7 from rfl,show(18446744073709551616:Nat)=2^64 from rfl,<-Nat.pow_add];exact Nat.pow_le_pow_right (by omega) (by omega)
  have hx:x*2^(7*k)+2^(7*k)<=2^(7*k)*128:=by
   rw[Nat.mul_comm (2^(7*k)),<-Nat.succ_mul]; exact Nat.mul_le_mul_right _ (by omega)
  rw[Nat.mod_eq_of_lt (by omega),Bp _ _ _ h,Nat.mod_eq_of_lt (by omega)]
theorem uj (data:List UInt8) (off:Nat): ∀(f k:Nat),k+f=10->(∀b∈(data.drop off).take k,128<=b.toNat)->off+k<=data.length->
  gY data f k (off+k) (et ((data.drop off).take k))=wj data off f k
 | 0,_,_,_,_=>rfl
 | f+1,k,hk,hp,hle=>by
  rw[gY,wj]
  cases hd:data[off+k]? with
  | none=>rfl
  | some b=>
   have hb8:=b.toNat_lt;have hlt:off+k<data.length:=(List.getElem?_eq_some_iff.1 hd).1;have hlen:((data.drop off).take k).length=k:=by simp; omega
   have htk:(data.drop off).take (k+1)=(data.drop off).take k++[b]:=by
    rw[List.take_add_one,List.getElem?_drop,hd]; rfl
   have hm:=sK ((data.drop off).take k);rw[hlen]at hm;have hs:=mI ((data.drop off).take k) b;rw[hlen,<-htk]at hs;have hnn:=Bn _ b k (by omega) hm;rw[<-hs]at hnn;simp only
   by_cases h128:128<=b.toNat
   ·rw[if_pos h128,if_pos h128]
    by_cases hf:f=0
    ·subst hf; rfl
    ·have hlt2:et ((data.drop off).take (k+1))<18446744073709551616:=by
      have:=sK ((data.drop off).take (k+1));refine Nat.lt_of_lt_of_le this ?_;rw[show(18446744073709551616:Nat)=2^64 from rfl];exact Nat.pow_le_pow_right (by omega) (by simp; omega)
     rw[hnn,Nat.mod_eq_of_lt hlt2];have:=uj data off f (k+1) (by omega) (by
      intro x hx;rw[htk,List.mem_append]at hx
      rcases hx with hx | hx
      ·exact hp x hx
      ·simp at hx; subst hx; exact h128) (by omega)
     exact this
   ·rw[if_neg h128,if_neg h128,hnn];have hval:wX ((data.drop off).take (k+1))=et ((data.drop off).take (k+1))%18446744073709551616:=rfl;have hvl:wX ((data.drop off).take (k+1))<2^(7*(10+1)):=by rw[hval]; exact Nat.lt_trans (Nat.mod_lt _ (by decide)) (by decide)
    by_cases hbad:gX b k=true
    ·rw[if_pos hbad,if_neg];intro he;have h1:=uY 10 _ hvl;rw[show fT 10 _=_ from he]at h1;simp only[gX,Bool.or_eq_true,Bool.and_eq_true,decide_eq_true_eq]at hbad
     rcases hbad with⟨h2,h3⟩ | ⟨h2,h3⟩
     ·have hpos:0<et ((data.drop off).take (k+1))%18446744073709551616:=by
       rcases Nat.eq_zero_or_pos (et ((data.drop off).take (k+1))%18446744073709551616)with h0 | h0
       ·exfalso
        rw[hval,h0]at he;have:=congrArg List.length he;simp[aL,fT]at this;omega
       ·exact h0
      exact uc 10 _ b ((data.drop off).take k) (by rw[hval]; exact hpos) hvl (by rw[<-htk]; exact he) h3
     ·subst h2;rw[hs]at h1;have h5:wX ((data.drop off).take (9+1))<18446744073709551616:=by rw[hval]; exact Nat.mod_lt _ (by decide)
      rw[<-h1]at h5;simp only[Nat.reduceMul,Nat.reducePow]at h5;omega
    ·rw[if_neg hbad];have hbad':gX b k=false:=by simpa using hbad
     simp only[gX,Bool.or_eq_false_iff,Bool.and_eq_false_iff,decide_eq_false_iff_not]at hbad';have hsm:et ((data.drop off).take (k+1))<18446744073709551616:=by
      rw[hs]
      by_cases h9:k=9
      ·subst h9;have: ¬1<b.toNat:=hbad'.2.elim (fun h=>absurd rfl h) id;simp only[Nat.reduceMul,Nat.reducePow]at hm ⊢;omega
      ·have hp:2^(7*k)*128<=18446744073709551616:=by
        rw[show(128:Nat)=2^7 from rfl,show(18446744073709551616:Nat)=2^64 from rfl,<-Nat.pow_add];exact Nat.pow_le_pow_right (by omega) (by omega)
       have hx:b.toNat%128*2^(7*k)+2^(7*k)<=2^(7*k)*128:=by
        rw[Nat.mul_comm (2^(7*k)),<-Nat.succ_mul]; exact Nat.mul_le_mul_right _ (by omega)
       omega
     have hvv:wX ((data.drop off).take (k+1))=et ((data.drop off).take (k+1)):=by rw[hval,Nat.mod_eq_of_lt hsm]
     have henc:aL (wX ((data.drop off).take (k+1)))=(data.drop off).take (k+1):=by
      rw[hvv,htk];refine xK 10 _ b hp (by omega) ?_ (by omega);intro hne;have:0<k:=by
       rcases Nat.eq_zero_or_pos k with h0 | h0
       ·subst h0; simp at hne
       ·exact h0
      rcases hbad'.1 with h | h
      ·exact absurd this h
      ·exact h
     rw[if_pos henc,Nat.mod_eq_of_lt hsm,hvv]
theorem Bl (data:List UInt8) (off:Nat) (h:off<=data.length):fU data off=wj data off 10 0:=by
 have:=uj data off 10 0 rfl (by simp) (by omega)
 simpa [et,fU]using this
theorem jO {α:Type} {z:α} {r:Except Int (α×Nat)} {s:RS} (hne: ∀y,r= .error y-> ¬y=0) (h:(rv z r s).2.err=0):s.err=0/\ ∃x o,r= .ok (x,o)/\(rv z r s).2.off=o/\(rv z r s).1=x:=by
 unfold rv at h ⊢
 by_cases he:s.err=0
 ·rw[if_pos he]at h ⊢
  cases r with
  | error y=>exact absurd h (hne y rfl)
  | ok p=>exact⟨he,p.1,p.2,rfl,rfl,rfl⟩
 ·rw[if_neg he]at h;exact absurd h he
theorem sJ {data:List UInt8} {most:Nat} {s:RS} (h:(pM data most s).2.err=0):s.err=0:=(jO (fun _ h=>me h) h).1
theorem fB {data:List UInt8} {s:RS} (h:(gJ data s).2.err=0):s.err=0:=(jO (fun _ h=>sx h) h).1
theorem DM {data:List UInt8} {s:RS} (h:(Ac data s).2.err=0):s.err=0:=(jO (fun _ h=>lS h) h).1
theorem rV {data:List UInt8} {most:Nat} {s:RS} (h:(vl data most s).2.err=0):s.err=0:=(jO (fun _ h=>nG h) h).1
theorem vI (n:Nat):1<=(aL n).length:=by
 unfold aL fT; split<;> simp
theorem uk {data:List UInt8} {off:Nat} : ∀(f k n o:Nat),wj data off f k= .ok (n,o)-> ∃j,o=off+j/\aL n=(data.drop off).take j
 | 0,_,_,_,h=>by simp[wj]at h
 | f+1,k,n,o,h=>by
  rw[wj]at h
  cases hb:data[off+k]? with
  | none=>rw[hb]at h; simp at h
  | some b=>
   rw[hb]at h;simp only at h
   split at h
   ·exact uk f (k+1) n o h
   ·split at h
    ·rename_i he;simp only[Except.ok.injEq,Prod.mk.injEq]at h;obtain⟨rfl,rfl⟩:=h;exact⟨k+1,by omega,he⟩
    ·simp at h
theorem oP {data:List UInt8} {off n o:Nat} (ho:off<=data.length) (h:fU data off= .ok (n,o)):data.drop off=aL n++data.drop o:=by
 rw[Bl data off ho]at h;obtain⟨j,rfl,h2⟩:=uk 10 0 n o h;rw[h2,<-List.drop_drop,List.take_append_drop]
def Ok (data:List UInt8) (s:RS):Prop:=s.err=0/\s.off<=data.length
theorem mG {data:List UInt8} {s s':RS} {n:Nat} (ho:s.off<=data.length) (h:gJ data s=(n,s')) (he:s'.err=0):Ok data s/\Ok data s'/\n<18446744073709551616/\data.drop s.off=aL n++data.drop s'.off:=by
 have e1:(gJ data s).1=n:=by rw[h]
 have e2:(gJ data s).2=s':=by rw[h]
 obtain⟨h1,x,o,h2,h3,h4⟩:=jO (fun _ h=>sx h) (show(rv 0 (fU data s.off) s).2.err=0 by have:=he; rw[<-e2]at this; exact this);have h5:o=s'.off:=by rw[<-h3]; exact congrArg RS.off e2
 have h6:x=n:=by rw[<-h4]; exact e1
 subst h5 h6;have h7:=mm h2;exact⟨⟨h1,ho⟩,⟨he,h7.2.2⟩,h7.1,oP ho h2⟩
theorem xF {data:List UInt8} {off most n o:Nat} (h:fi data off most= .ok (n,o)):fU data off= .ok (n,o)/\n<=most:=by
 refine⟨?_,(gm h).1⟩;unfold fi at h
 cases hx:fU data off with
 | error y=>rw[hx]at h; simp at h
 | ok p=>
  rw[hx]at h;simp only at h
  split at h
  ·simp at h
  ·simp only[Except.ok.injEq,Prod.mk.injEq]at h ⊢;exact Prod.ext h.1 h.2
theorem AE {data:List UInt8} {s s':RS} {n most:Nat} (ho:s.off<=data.length) (h:vl data most s=(n,s')) (he:s'.err=0):Ok data s/\Ok data s'/\n<=most/\data.drop s.off=aL n++data.drop s'.off:=by
 have e1:(vl data most s).1=n:=by rw[h]
 have e2:(vl data most s).2=s':=by rw[h]
 obtain⟨h1,x,o,h2,h3,h4⟩:=jO (fun _ h=>nG h) (show(rv 0 (fi data s.off most) s).2.err=0 by have:=he; rw[<-e2]at this; exact this);have h5:o=s'.off:=by rw[<-h3]; exact congrArg RS.off e2
 have h6:x=n:=by rw[<-h4]; exact e1
 subst h5 h6;have h7:=gm h2;exact⟨⟨h1,ho⟩,⟨he,h7.2.2⟩,h7.1,oP ho (xF h2).1⟩
theorem uS {data a:List UInt8} {off n o:Nat} (ho:off<=data.length) (h:dH data off n= .ok (a,o)):a.length=n/\o<=data.length/\data.drop off=a++data.drop o:=by
 unfold dH at h
 split at h
 ·simp at h
 ·simp only[Except.ok.injEq,Prod.mk.injEq]at h;obtain⟨rfl,rfl⟩:=h;exact⟨by rw[List.length_take,List.length_drop]; omega,by omega,by rw[<-List.drop_drop,List.take_append_drop]⟩
theorem Ey {data a:List UInt8} {s s':RS} (ho:s.off<=data.length) (h:Ac data s=(a,s')) (he:s'.err=0):Ok data s/\Ok data s'/\a.length=32/\data.drop s.off=a++data.drop s'.off:=by
 have e1:(Ac data s).1=a:=by rw[h]
 have e2:(Ac data s).2=s':=by rw[h]
 obtain⟨h1,x,o,h2,h3,h4⟩:=jO (fun _ h=>lS h) (show(rv [] (dH data s.off 32) s).2.err=0 by have:=he; rw[<-e2]at this; exact this);have h5:o=s'.off:=by rw[<-h3]; exact congrArg RS.off e2
 have h6:x=a:=by rw[<-h4]; exact e1
 subst h5 h6;have h7:=uS ho h2;exact⟨⟨h1,ho⟩,⟨he,h7.2.1⟩,h7.1,h7.2.2⟩
theorem Cg {data a:List UInt8} {s s':RS} {most:Nat} (ho:s.off<=data.length) (h:pM data most s=(a,s')) (he:s'.err=0):Ok data s/\Ok data s'/\data.drop s.off=aL a.length++(a++data.drop s'.off):=by
 have e1:(pM data most s).1=a:=by rw[h]
 have e2:(pM data most s).2=s':=by rw[h]
 obtain⟨h1,x,o,h2,h3,h4⟩:=jO (fun _ h=>me h) (show(rv [] (dy data s.off most) s).2.err=0 by have:=he; rw[<-e2]at this; exact this);have h5:o=s'.off:=by rw[<-h3]; exact congrArg RS.off e2
 have h6:x=a:=by rw[<-h4]; exact e1
 subst h5 h6;unfold dy at h2
 cases hl:fi data s.off most with
 | error y=>rw[hl]at h2; simp at h2
 | ok p=>
  obtain⟨n,q⟩:=p;rw[hl]at h2;simp only at h2;have h6:=gm hl;have h7:=uS h6.2.2 h2;have h8:=oP ho (xF hl).1;exact⟨⟨h1,ho⟩,⟨he,h7.2.1⟩,by rw[h8,h7.2.2,h7.1]⟩
theorem iz {n:Nat} (hn:n<18446744073709551616) (h:0<=lX n):(lX n).toNat=n:=by unfold lX wrap64 at *; omega
def fu (p:bd):List UInt8:=bl p.sum++aL p.size.toNat
def ew (f:al):List UInt8:=aL f.path.size++(bl f.path++(aL f.kind.toNat++(aL f.mode.toNat++(aL f.time.toNat++(aL f.size.toNat++(aL f.link.size++(bl f.link++(aL f.parts.length++f.parts.flatMap fu))))))))
def fS (x:dh):List UInt8:=aL x.tm.toNat++(aL x.files.length++x.files.flatMap ew)
def oX (data:List UInt8) (s:RS):bd×RS:=(⟨⟨(Ac data s).1.toArray⟩,lX (gJ data (Ac data s).2).1⟩,(gJ data (Ac data s).2).2)
def dF (data:List UInt8) (s0:RS):Nat->List bd×RS
 | 0=>([],s0)
 | k+1=>((dF data s0 k).1++[(oX data (dF data s0 k).2).1],(oX data (dF data s0 k).2).2)
def oB (data nm:List UInt8) (kd md td sz:Nat) (lk:List UInt8) (n:Nat) (s:RS):Option (al×RS):=
 if(data.length-s.off)/33<n then none else some (⟨⟨nm.toArray⟩,lX kd,lX md,lX td,lX sz,⟨lk.toArray⟩,(dF data s n).1⟩,(dF data s n).2)
def gO (data:List UInt8) (s:RS):Option (al×RS):=
 oB data (pM data 512 s).1 (gJ data (pM data 512 s).2).1 (gJ data (gJ data (pM data 512 s).2).2).1 (gJ data (gJ data (gJ data (pM data 512 s).2).2).2).1 (gJ data (gJ data (gJ data (gJ data (pM data 512 s).2).2).2).2).1
  (pM data 512 (gJ data (gJ data (gJ data (gJ data (pM data 512 s).2).2).2).2).2).1 (vl data 1048576 (pM data 512 (gJ data (gJ data (gJ data (gJ data (pM data 512 s).2).2).2).2).2).2).1 (vl data 1048576 (pM data 512 (gJ data (gJ data (gJ data (gJ data (pM data 512 s).2).2).2).2).2).2).2
theorem oA {data:List UInt8} {s s1 s2 s3 s4 s5 s6 s7:RS} {nm lk:List UInt8} {kd md td sz n:Nat} (h1:pM data 512 s=(nm,s1)) (h2:gJ data s1=(kd,s2)) (h3:gJ data s2=(md,s3)) (h4:gJ data s3=(td,s4)) (h5:gJ data s4=(sz,s5)) (h6:pM data 512 s5=(lk,s6)) (h7:vl data 1048576 s6=(n,s7)):
  gO data s=oB data nm kd md td sz lk n s7:=by
 unfold gO;simp only[h1,h2,h3,h4,h5,h6,h7]
def dp (data:List UInt8) (s0:RS):Nat->Option (List al×RS)
 | 0=>some ([],s0)
 | k+1=>(dp data s0 k).bind fun p=>(gO data p.2).map fun q=>(p.1++[q.1],q.2)
theorem fI (data:List UInt8) (s0:RS) (k:Nat):dp data s0 (k+1)=(dp data s0 k).bind fun p=>(gO data p.2).map fun q=>(p.1++[q.1],q.2):=rfl
theorem tI {data:List UInt8} {s0:RS} {k:Nat} (h:dp data s0 k=none): ∀n,k<=n->dp data s0 n=none:=by
 intro n hn
 induction n with
 | zero=>
  obtain rfl:k=0:=by omega
  exact h
 | succ n ih=>
  by_cases e:k=n+1
  ·subst e; exact h
  ·rw[fI,ih (by omega)]; rfl
def jx (data:List UInt8):Option dh:=
 (dp data (vl data 4096 (gJ data ⟨0,0,0⟩).2).2 (vl data 4096 (gJ data ⟨0,0,0⟩).2).1).bind fun p=>
  if ou data p.2=0/\di ⟨lX (gJ data ⟨0,0,0⟩).1,p.1⟩=true then some ⟨lX (gJ data ⟨0,0,0⟩).1,p.1⟩else none
theorem iA {p:bd} :cP p=true<->p.sum.size=32/\1<=p.size/\p.size<=32768:=by unfold cP; simp[and_assoc]
theorem tC {p:bd} (h:cP p=true):33<=(fu p).length:=by
 obtain⟨h1,_⟩:=iA.1 h;unfold fu;rw[List.length_append,<-am,h1];have:=vI p.size.toNat
 omega
theorem lB : ∀ {l:List bd},(∀p∈l,cP p=true)->33*l.length<=(l.flatMap fu).length
 | [],_=>by simp
 | p::l,h=>by
  rw[List.flatMap_cons,List.length_append,List.length_cons];have h1:=tC (h p (by simp));have h2:=lB (l:=l) fun q hq=>h q (by simp[hq])
  omega
structure FOk (f : al) : Prop where
 path:f.path.size<=512
 link:f.link.size<=512
 kind:0<=f.kind/\f.kind<9223372036854775808
 mode:0<=f.mode/\f.mode<9223372036854775808
 time:0<=f.time/\f.time<9223372036854775808
 size:0<=f.size/\f.size<9223372036854775808
 parts: ∀p∈f.parts,cP p=true
theorem uU : ∀(l:List bd) (a:Int),0<=a->l.all cP=true->a+32768*(l.length:Int)<=9223372036854775807->0<=l.foldl (fun a p=>wrap64 (a+p.size)) a/\l.foldl (fun a p=>wrap64 (a+p.size)) a<=a+32768*(l.length:Int)
 | [],a,h0,_,_=>by simp; omega
 | p::l,a,h0,ha,h=>by
  rw[List.all_cons,Bool.and_eq_true]at ha;have h4:=iA.1 ha.1;rw[List.length_cons]at h ⊢;rw[List.foldl_cons,rI (by omega) (by omega)];have:=uU l (a+p.size) (by omega) ha.2 (by omega);omega
theorem DR {l:List bd} (h:l.all cP=true) (hl:l.length<=1048576):0<=iP l:=(uU l 0 (by omega) h (by omega)).1
def wfF (f:al):Prop:=(Lit.int .i64 f.kind).wf=true/\(Lit.int .i64 f.mode).wf=true/\(Lit.int .i64 f.time).wf=true/\f.parts.length<=1048576
theorem tG {f:al} (he:bW (eM f)=true) (hs:cj f=true) (hw:wfF f):FOk f:=by
 obtain⟨pa,kd,md,tm,sz,li,ps⟩:=f;have he:bW ⟨pa,kd,md,tm,[],li⟩=true:=he;obtain⟨w1,w2,w3,w4⟩:=hw;have e:IntKind.i64.max=9223372036854775807:=by decide
 simp only[Lit.wf,Bool.and_eq_true,decide_eq_true_eq,e]at w1 w2 w3;have hp:=bY he;have hp2:pa.size<=512:=by
  simp only[bB,Bool.and_eq_true,decide_eq_true_eq]at hp;have:=hp.1.1;rw[am];exact this
 unfold bW gZ dZ at he;simp only[Bool.and_eq_true,decide_eq_true_eq]at he;obtain⟨⟨_,⟨m0,m1⟩,t0⟩,hk⟩:=he;have hkl:(kd=1\/kd=2\/kd=3)/\li.size<=512:=by
  by_cases k1:kd=1
  ·rw[if_pos k1]at hk; simp only[Bool.and_eq_true,decide_eq_true_eq]at hk; exact⟨.inl k1,by omega⟩
  ·rw[if_neg k1]at hk
   by_cases k2:kd=2
   ·rw[if_pos k2]at hk; simp only[Bool.and_eq_true,decide_eq_true_eq]at hk; exact⟨.inr (.inl k2),by omega⟩
   ·rw[if_neg k2]at hk
    by_cases k3:kd=3
    ·rw[if_pos k3]at hk;unfold iQ at hk;simp only[Bool.and_eq_true,decide_eq_true_eq]at hk;exact⟨.inr (.inr k3),by rw[am]; exact hk.2.1.2⟩
    ·rw[if_neg k3]at hk; cases hk
 refine⟨hp2,hkl.2,⟨show 0<=kd by omega,show kd<_ by omega⟩,⟨m0,show md<_ by omega⟩,⟨t0,show tm<_ by omega⟩, ?_, ?_⟩
 ·show 0<=sz/\sz<_
  by_cases k1:kd=1
  ·rw[iR k1]at hs;simp only[Bool.and_eq_true,decide_eq_true_eq]at hs;obtain⟨ha,h1,h2⟩:=hs;have:=DR ha w4;omega
  ·rw[jT k1]at hs;simp only[Bool.and_eq_true,decide_eq_true_eq]at hs;omega
 ·show ∀p∈ps,cP p=true
  by_cases k1:kd=1
  ·rw[iR k1]at hs;simp only[Bool.and_eq_true]at hs;exact List.all_eq_true.1 hs.1
  ·rw[jT k1]at hs;simp only[Bool.and_eq_true,decide_eq_true_eq]at hs;rw[hs.2]; simp
theorem mj {x:dh} (h:di x=true):0<=x.tm/\x.files.length<=4096/\ ∀f∈x.files,bW (eM f)=true/\cj f=true:=by
 unfold di at h;simp only[Bool.and_eq_true,decide_eq_true_eq]at h;have hT:=fd.1 h.2;exact⟨h.1.1.1,h.1.1.2,fun f hf=>⟨hT.val (eM f) (List.mem_map_of_mem hf),List.all_eq_true.1 h.1.2 f hf⟩⟩
theorem qW {data:List UInt8} {s:RS} (h:(oX data s).2.err=0):s.err=0:=DM (fB h)
theorem Br {data:List UInt8} {s s':RS} {p:bd} (ho:s.off<=data.length) (h:oX data s=(p,s')) (he:s'.err=0) (hp:cP p=true):Ok data s/\Ok data s'/\data.drop s.off=fu p++data.drop s'.off:=by
 obtain⟨h1,h2,h3⟩:=iA.1 hp;obtain⟨a,s1,ha⟩: ∃a s1,Ac data s=(a,s1):=⟨_,_,rfl⟩;obtain⟨n,s2,hn⟩: ∃n s2,gJ data s1=(n,s2):=⟨_,_,rfl⟩;unfold oX at h;rw[ha]at h;simp only at h;rw[hn]at h;simp only[Prod.mk.injEq]at h;obtain⟨rfl,rfl⟩:=h;have b1:s1.err=0:=fB (data:=data) (s:=s1) (by rw[hn]; exact he);obtain⟨o1,o2,hlen,d1⟩:=Ey ho ha b1
 obtain⟨_,o3,hb,d2⟩:=mG o2.2 hn he;refine⟨o1,o3, ?_⟩;unfold fu;simp only at h2;rw[d1,d2];simp only;rw[iz hb (by omega),io,List.append_assoc]
theorem kU {data:List UInt8} {s0:RS} : ∀ {k:Nat},(dF data s0 k).2.err=0->s0.err=0
 | 0,h=>h
 | k+1,h=>kU (k:=k) (qW h)
theorem qZ (data:List UInt8) (s0:RS): ∀k,(dF data s0 k).1.length=k
 | 0=>rfl
 | k+1=>by rw[dF]; simp[qZ data s0 k]
theorem qX {data:List UInt8} {s0:RS} (ho:s0.off<=data.length): ∀(k:Nat) (l:List bd) (s:RS),dF data s0 k=(l,s)->s.err=0->(∀p∈l,cP p=true)->Ok data s0/\Ok data s/\data.drop s0.off=l.flatMap fu++data.drop s.off
 | 0,l,s,h,he,_=>by
  simp only[dF,Prod.mk.injEq]at h;obtain⟨rfl,rfl⟩:=h;exact⟨⟨he,ho⟩,⟨he,ho⟩,by simp⟩
 | k+1,l,s,h,he,hv=>by
  obtain⟨l1,s1,h1⟩: ∃l1 s1,dF data s0 k=(l1,s1):=⟨_,_,rfl⟩;obtain⟨p,s2,h2⟩: ∃p s2,oX data s1=(p,s2):=⟨_,_,rfl⟩;rw[dF,h1]at h;simp only at h;rw[h2]at h;simp only[Prod.mk.injEq]at h;obtain⟨rfl,rfl⟩:=h;have b1:s1.err=0:=qW (data:=data) (s:=s1) (by rw[h2]; exact he);obtain⟨q1,q2,d1⟩:=qX ho k l1 s1 h1 b1 (fun x hx=>hv x (by simp[hx]))
  obtain⟨_,q3,d2⟩:=Br q2.2 h2 he (hv p (by simp));exact⟨q1,q3,by rw[d1,d2]; simp⟩
theorem qH {data:List UInt8} {s s':RS} {f:al} (h:gO data s=some (f,s')) (he:s'.err=0):s.err=0:=by
 unfold gO oB at h
 split at h
 ·cases h
 ·simp only[Option.some.injEq,Prod.mk.injEq]at h;rw[<-h.2]at he;exact sJ (fB (fB (fB (fB (sJ (rV (kU he)))))))
theorem AW {data:List UInt8} {s s':RS} {f:al} (ho:s.off<=data.length) (h:gO data s=some (f,s')) (he:s'.err=0) (hv:bW (eM f)=true) (hs:cj f=true):Ok data s/\Ok data s'/\data.drop s.off=ew f++data.drop s'.off:=by
 obtain⟨nm,s1,e1⟩: ∃a b,pM data 512 s=(a,b):=⟨_,_,rfl⟩;obtain⟨kd,s2,e2⟩: ∃a b,gJ data s1=(a,b):=⟨_,_,rfl⟩;obtain⟨md,s3,e3⟩: ∃a b,gJ data s2=(a,b):=⟨_,_,rfl⟩;obtain⟨td,s4,e4⟩: ∃a b,gJ data s3=(a,b):=⟨_,_,rfl⟩;obtain⟨sz,s5,e5⟩: ∃a b,gJ data s4=(a,b):=⟨_,_,rfl⟩;obtain⟨lk,s6,e6⟩: ∃a b,pM data 512 s5=(a,b):=⟨_,_,rfl⟩;obtain⟨n,s7,e7⟩: ∃a b,vl data 1048576 s6=(a,b):=⟨_,_,rfl⟩
 obtain⟨ps,s8,e8⟩: ∃a b,dF data s7 n=(a,b):=⟨_,_,rfl⟩;rw[oA e1 e2 e3 e4 e5 e6 e7]at h;unfold oB at h
 split at h
 ·cases h
 rw[e8]at h;simp only[Option.some.injEq,Prod.mk.injEq]at h;obtain⟨rfl,rfl⟩:=h;have b7:s7.err=0:=kU (data:=data) (k:=n) (by rw[e8]; exact he);have b6:s6.err=0:=rV (data:=data) (s:=s6) (most:=1048576) (by rw[e7]; exact b7);have b5:s5.err=0:=sJ (data:=data) (s:=s5) (most:=512) (by rw[e6]; exact b6);have b4:s4.err=0:=fB (data:=data) (s:=s4) (by rw[e5]; exact b5)
 have b3:s3.err=0:=fB (data:=data) (s:=s3) (by rw[e4]; exact b4);have b2:s2.err=0:=fB (data:=data) (s:=s2) (by rw[e3]; exact b3);have b1:s1.err=0:=fB (data:=data) (s:=s1) (by rw[e2]; exact b2);obtain⟨p1,q1,d1⟩:=Cg ho e1 b1;obtain⟨_,q2,l2,d2⟩:=mG q1.2 e2 b2;obtain⟨_,q3,l3,d3⟩:=mG q2.2 e3 b3;obtain⟨_,q4,l4,d4⟩:=mG q3.2 e4 b4
 obtain⟨_,q5,l5,d5⟩:=mG q4.2 e5 b5;obtain⟨_,q6,d6⟩:=Cg q5.2 e6 b6;obtain⟨_,q7,l7,d7⟩:=AE q6.2 e7 b7;have hn:ps.length=n:=by have:=qZ data s7 n; rw[e8]at this; exact this
 have hok:=tG hv hs ⟨sH _,sH _,sH _,by simp only; omega⟩;obtain⟨_,q8,d8⟩:=qX q7.2 n ps s8 e8 he hok.parts;refine⟨p1,q8, ?_⟩;have g1:0<=lX kd:=hok.kind.1;have g2:0<=lX md:=hok.mode.1;have g3:0<=lX td:=hok.time.1;have g4:0<=lX sz:=hok.size.1;unfold ew;simp only;rw[iz l2 g1,iz l3 g2,iz l4 g3,iz l5 g4,io,am,io,am,io,hn,d1,d2,d3,d4,d5,d6,d7,d8]
 simp only[List.append_assoc]
theorem oC {data:List UInt8} {s0:RS} : ∀ {k:Nat} {l:List al} {s:RS},dp data s0 k=some (l,s)->s.err=0->s0.err=0
 | 0,l,s,h,he=>by
  simp only[dp,Option.some.injEq,Prod.mk.injEq]at h;rw[h.2]; exact he
 | k+1,l,s,h,he=>by
  rw[fI]at h
  cases hk:dp data s0 k with
  | none=>rw[hk]at h; cases h
  | some p=>
   rw[hk,Option.bind_some]at h
   cases hi:gO data p.2 with
   | none=>rw[hi]at h; cases h
   | some q=>
    rw[hi]at h;simp only[Option.map_some,Option.some.injEq,Prod.mk.injEq]at h;exact oC (k:=k) hk (qH hi (by rw[h.2]; exact he))
theorem qI {data:List UInt8} {s0:RS} (ho:s0.off<=data.length): ∀(k:Nat) (l:List al) (s:RS),dp data s0 k=some (l,s)->s.err=0->(∀f∈l,bW (eM f)=true/\cj f=true)->Ok data s0/\Ok data s/\l.length=k/\data.drop s0.off=l.flatMap ew++data.drop s.off
 | 0,l,s,h,he,_=>by
  simp only[dp,Option.some.injEq,Prod.mk.injEq]at h;obtain⟨rfl,rfl⟩:=h;exact⟨⟨he,ho⟩,⟨he,ho⟩,rfl,by simp⟩
 | k+1,l,s,h,he,hv=>by
  rw[fI]at h
  cases hk:dp data s0 k with
  | none=>rw[hk]at h; cases h
  | some p=>
   obtain⟨l1,s1⟩:=p;rw[hk,Option.bind_some]at h;simp only at h
   cases hi:gO data s1 with
   | none=>rw[hi]at h; cases h
   | some q=>
    obtain⟨f,s2⟩:=q;rw[hi]at h;simp only[Option.map_some,Option.some.injEq,Prod.mk.injEq]at h;obtain⟨rfl,rfl⟩:=h;obtain⟨q1,q2,hl,d1⟩:=qI ho k l1 s1 hk (qH hi he) (fun x hx=>hv x (by simp[hx]));have hvf:=hv f (by simp);obtain⟨_,q3,d2⟩:=AW q2.2 hi he hvf.1 hvf.2;exact⟨q1,q3,by simp[hl],by rw[d1,d2]; simp⟩
theorem Da {data:List UInt8} {x:dh} (h:jx data=some x):fS x=data/\di x=true:=by
 obtain⟨tm,s1,e1⟩: ∃a b,gJ data ⟨0,0,0⟩=(a,b):=⟨_,_,rfl⟩;obtain⟨n,s2,e2⟩: ∃a b,vl data 4096 s1=(a,b):=⟨_,_,rfl⟩;unfold jx at h;rw[e1]at h;simp only at h;rw[e2]at h;simp only at h
 cases e3:dp data s2 n with
 | none=>rw[e3]at h; cases h
 | some p=>
  obtain⟨l,s3⟩:=p;rw[e3,Option.bind_some]at h;simp only at h
  split at h
  ·rename_i hc;simp only[Option.some.injEq]at h;subst h;have he:s3.err=0/\data.length<=s3.off:=by
    have:=hc.1;unfold ou at this
    split at this
    ·rename_i h0;refine⟨h0, ?_⟩
     by_cases hlt:s3.off<data.length
     ·rw[if_pos hlt]at this; cases this
     ·omega
    ·rename_i h0; exact absurd this h0
   obtain⟨h1,h2,h3⟩:=mj hc.2;have b2:s2.err=0:=oC e3 he.1;have b1:s1.err=0:=rV (data:=data) (s:=s1) (most:=4096) (by rw[e2]; exact b2);obtain⟨_,q1,l1,d1⟩:=mG (Nat.zero_le _) e1 b1;obtain⟨_,q2,l2,d2⟩:=AE q1.2 e2 b2;obtain⟨_,q3,hl,d3⟩:=qI q2.2 n l s3 e3 he.1 h3;refine⟨?_,hc.2⟩;unfold fS;simp only at h1 ⊢;rw[iz l1 h1,hl]
   have d0:data.drop 0=data:=rfl;rw[<-d0]
   show _=data.drop (RS.off ⟨0,0,0⟩)
   rw[d1,d2,d3,List.drop_eq_nil_of_le he.2,List.append_nil]
  ·cases h
open Go Go.RowKit
theorem Be (rb:Nat) (v:Value) (data:List UInt8) (s:RS) (w:World) (hr:lW w rb v data s):
  Calls Tryz.prog 52 #[.pointer (some ⟨rb,0,none⟩)] w fun e w'=> ∃lf:Nat,lf=data.length-s.off/\lf<=32768/\e= .returned (.int .i64 (lf:Int))/\Below w.heap.size w w':=by
 obtain⟨a,cap,rfl,hc,hcm,-⟩:=aQ.shape hr;unfold maxLen at hcm;have c0:=aQ.c0 hr;have c1:=aQ.c1 hr;have hsm:=aQ.small hr;have hle:=aQ.le hr;clear hr;obtain⟨lf,hlf⟩: ∃lf,lf=data.length-s.off:=⟨_,rfl⟩;have e1:IntKind.i64.wrap ((data.length:Int)-(s.off:Int))=(lf:Int):=by rw[IntWalk.i64_in _ (by omega)]; omega
 have HL:=aa hlf;clear hlf
 go_enter Tryz.func52,Tryz.ntmps52
 go_wp2_with fail
 go_quiet (fail)
 go_wp2_with fail;go_ret;exact⟨lf,HL.out,by have:=HL.out; omega,rfl,bS (Below.refl _ _) _⟩
theorem Ce (n:Nat):IntKind.i64.wrap (n:Int)=lX n:=by unfold lX wrap64; rw[IntKind.wrap_i64]
theorem uq {data:List UInt8} {s0 s s1 s2:RS} {j n:Nat} {l:List bd} {bs:List UInt8} (h:dF data s0 j=(l,s)) (h1:Ac data s=(bs,s1)) (h2:gJ data s1=(n,s2)):dF data s0 (j+1)=(l++[⟨⟨bs.toArray⟩,lX n⟩],s2):=by
 rw[dF,h];simp only;unfold oX;rw[h1];simp only;rw[h2]
theorem tJ {data:List UInt8} {s0 s s':RS} {k:Nat} {l:List al} {f:al} (h:dp data s0 k=some (l,s)) (h1:gO data s=some (f,s')):dp data s0 (k+1)=some (l++[f],s'):=by
 rw[fI,h,Option.bind_some]
 show Option.map _ (gO data s)=_
 rw[h1]
 rfl
theorem tK {data:List UInt8} {s0 s:RS} {k n:Nat} {l:List al} (h:dp data s0 k=some (l,s)) (h1:gO data s=none) (hn:k<n):dp data s0 n=none:=by
 refine tI (k:=k+1) ?_ n (by omega);rw[fI,h,Option.bind_some]
 show Option.map _ (gO data s)=_
 rw[h1]
 rfl
theorem vM {data nm lk:List UInt8} {kd md td sz n:Nat} {s s':RS} {ps:List bd} (h: ¬(data.length-s.off)/33<n) (hp:dF data s n=(ps,s')):oB data nm kd md td sz lk n s=some (⟨⟨nm.toArray⟩,lX kd,lX md,lX td,lX sz,⟨lk.toArray⟩,ps⟩,s'):=by
 unfold oB;rw[if_neg h,hp]
theorem vL {data nm lk:List UInt8} {kd md td sz n:Nat} {s:RS} (h:(data.length-s.off)/33<n):oB data nm kd md td sz lk n s=none:=if_pos h
theorem yo {data:List UInt8} {s1 s2:RS} {tm n:Nat} (h1:gJ data ⟨0,0,0⟩=(tm,s1)) (h2:vl data 4096 s1=(n,s2)) (h3:dp data s2 n=none):jx data=none:=by
 unfold jx;simp only[h1,h2,h3]
 rfl
theorem yp {data:List UInt8} {s1 s2 s3:RS} {tm n:Nat} {l:List al} (h1:gJ data ⟨0,0,0⟩=(tm,s1)) (h2:vl data 4096 s1=(n,s2)) (h3:dp data s2 n=some (l,s3)):jx data=if ou data s3=0/\di ⟨lX tm,l⟩=true then some ⟨lX tm,l⟩else none:=by
 unfold jx;simp only[h1,h2,h3]
 rfl
structure gp (B rb xb : Nat) (W w1 wr : World) (dv fv : Value) (data : List UInt8) (s : RS) (tm : Int) (l : List al) : Prop where
 rd:lW wr rb dv data s
 rd1: ∃s0,lW w1 rb dv data s0
 box:wr.heap[xb]? =some (.cells #[.int .i64 tm,fv] 24 (0,0))
 res:wr.heap[B]? =some (.cells #[.int .i64 0, .slice none 0 0] 24 (0,0))
 own:bH wr (xb+1) fv l
 below:Below B W wr
 lo:B<rb
 hi:w1.heap.size<=xb
 hb:B<=W.heap.size
theorem gp.next {B rb xb ib:Nat} {W w1 wr wc w':World} {dv fv fv' pv:Value} {data:List UInt8} {s s':RS} {tm:Int} {l:List al} {f:al} {zs:List jn} {cs:Array Value} (h:gp B rb xb W w1 wr dv fv data s tm l) (hm:dI rb ib wr wc dv data s' cs)
  (hz:zs.map Prod.snd=l) (hr:wr.ownsRow (xb+1) 27 7 fv zs.length (cD zs)) (hd: ∀z∈zs,wr.ownsRow (xb+1) 62 2 z.1 z.2.parts.length (aV z.2.parts)/\cQ z.2/\ ∀p∈z.2.parts,de p)
  (hp:wc.ownsRow (xb+1) 62 2 pv f.parts.length (aV f.parts)) (hok:cQ f) (hpk: ∀p∈f.parts,de p) (hown:w'.ownsRow (xb+1) 27 7 fv' (zs.length+1) (cD zs++bQ pv f)) (hg:wc.grownBy w' fv.ownBlock) (hpl: ∀k,fv'.ownBlock=some k->fv.ownBlock=some k\/wc.heap.size<=k):
  gp B rb xb W w1 (w'.setCell ⟨xb,1,none⟩ fv') dv fv' data s' tm (l++[f]):=by
 have hlt:=hm.lt;have hgs:=hm.grown.size;have hxb:=lt_of_block h.box;have hlo:=h.lo;have hhi:=h.hi;have hbb:=h.hb;have hbz:=h.below.size;obtain⟨s0,h0⟩:=h.rd1;have hlt1:=aQ.lt h0;have hfo: ∀k,fv.ownBlock=some k->xb+1<=k/\k<wr.heap.size:=fun k hk=>hr.lt k hk
 have hfx:fv'.ownBlock≠some xb:=fun e=>by
  rcases hpl xb e with e | e
  ·have:=hfo xb e; omega
  ·omega
 have hoth: ∀k,k≠xb->(w'.setCell ⟨xb,1,none⟩ fv').heap[k]? =w'.heap[k]? :=fun k hk=>Below.heap_setCell _ _ _ _ hk
 have hlow: ∀k,k<wc.heap.size->k<=xb->w'.heap[k]? =wc.heap[k]? :=fun k hk hx=>hg.block k hk (fun e=>by have:=hfo k e.symm; omega)
 have hbx:wc.heap[xb]? =some (.cells #[.int .i64 tm,fv] 24 (0,0)):=(hm.grown.block xb hxb (by simp; omega)).trans h.box;have hrdb:wr.heap[rb]? =_:=(show aQ wr rb dv data s.off s.last s.err from h.rd).box;have hpart: ∀(u:Value) (q:List bd),wc.ownsRow (xb+1) 62 2 u q.length (aV q)->(w'.setCell ⟨xb,1,none⟩ fv').ownsRow (xb+1) 62 2 u q.length (aV q):=by
  intro u q hu;refine bm hu (fun i hi hv=> ?_);obtain⟨cs,hc⟩:=aC hu hv;have hi1:=(hu.lt i hv).1;rw[hoth i (by omega)];refine hg.block i hi (fun e=> ?_);obtain⟨cs2,hc2⟩:=aC hr e.symm;have hc3:=(hm.grown.block i (lt_of_block hc2) (by simp; omega)).trans hc2;exact absurd (aK hc hc3) (by decide)
 have hold: ∀(u:Value) (q:List bd),wr.ownsRow (xb+1) 62 2 u q.length (aV q)->wc.ownsRow (xb+1) 62 2 u q.length (aV q):=fun u q hu=>bm hu (fun i hi hv=>hm.grown.block i hi (fun e=>by
  have:=(hu.lt i hv).1
  cases e
  omega))
 have hbel:Below B W wc:=h.below.grown hm.grown (by omega) (fun k e=>by cases e; omega);have hbe2:Below B W w':=hbel.grown hg (by omega) (fun k e=>by have:=hfo k e; omega);refine⟨?_,h.rd1, ?_, ?_,⟨zs++[(pv,f)],by rw[List.map_append,hz]; rfl, ?_,fun z hzm=> ?_⟩,hbe2.grown (aB w' xb 1 fv') (by have:=hg.size; omega) (fun k e=>by cases e; omega),hlo,hhi,hbb⟩
 ·exact aQ.keep h0 hm.rd (fun k hk=>(hoth k (by omega)).trans (hlow k (by omega) (by omega)))
 ·rw[heap_setCell_same _ _ _ _ _ _ ((hlow xb (by omega) (Nat.le_refl _)).trans hbx)]; rfl
 ·rw[hoth B (by omega),hlow B (by omega) (by omega),hm.grown.block B (by omega) (by simp; omega)]; exact h.res
 ·rw[List.length_append,List.length_singleton,jB];exact hown.kept (aB _ _ _ _) (.inr (fun e=>hfx e))
 ·rcases List.mem_append.1 hzm with hzm | hzm
  ·exact⟨hpart _ _ (hold _ _ (hd z hzm).1),(hd z hzm).2⟩
  ·rw[List.mem_singleton]at hzm;subst hzm;exact⟨hpart _ _ hp,hok,hpk⟩
theorem gp.call {B rb xb:Nat} {W w1 wr w':World} {dv fv:Value} {data:List UInt8} {s s':RS} {tm:Int} {l:List al} (h:gp B rb xb W w1 wr dv fv data s tm l) (h1:lW w' rb dv data s') (hg:wr.grownBy w' (some rb)):gp B rb xb W w1 w' dv fv data s' tm l:=by
 have h2:=lt_of_block h.box;have h3:=lt_of_block h.res;have h4:=h.hb;have h5:=h.lo;have h6:=h.hi;have h7:=h.below.size;obtain⟨s0,h0⟩:=h.rd1;have hlt1:=aQ.lt h0;exact⟨h1,h.rd1,(hg.block _ h2 (by simp; omega)).trans h.box,(hg.block _ h3 (by simp; omega)).trans h.res,h.own.same (fun k cs t hk hB hc ht=>hg.block k hk (by simp; omega)),h.below.grown hg (by omega) (fun k e=>by cases e; omega),h5,h6,h4⟩
theorem gp.into {B rb xb:Nat} {W w1 wr w':World} {dv fv:Value} {data:List UInt8} {s:RS} {tm:Int} {l:List al} (h:gp B rb xb W w1 wr dv fv data s tm l) (hb:Below wr.heap.size wr w'):gp B rb xb W w1 w' dv fv data s tm l:=by
 have h1:=h.below.size;have h2:=lt_of_block h.box;have h3:=lt_of_block h.res;have h4:=h.hb;exact⟨aQ.below h.rd hb,h.rd1,(hb.block _ h2).trans h.box,(hb.block _ h3).trans h.res,h.own.below hb,h.below.grown (bT hb none) (by omega) (fun k e=>by cases e),h.lo,h.hi,h.hb⟩
section
variable {w : World} {b : Nat} {a0 a1 x0 x1 : Value}
theorem CM {a:Act} {e7:Value} (h:w.heap[b]? =some (.cells #[x0,x1] 24 (0,0)))
  (h10:a.tmps[2]? =some (.pointer (some ⟨b,0,none⟩))) (h11:a.tmps[3]? =some e7):(results Tryz.f26 a.tmps).run Tryz.prog w= .ok (.tuple #[.agg #[x0,x1],e7]) w:=by
 have m0:=ah (k:=0) h;have m1:=ah (k:=1) h;simp only[eB]at m0 m1;simp[results,Tryz.results26,go_sem,h10,h11,m0,m1]
theorem nE {a:Act} {e7:Value} {Q:Ending->World->Prop} (h:w.heap[b]? =some (.cells #[a0,a1] 24 (0,0)))
  (h10:a.tmps[2]? =some (.pointer (some ⟨b,0,none⟩))) (h11:a.tmps[3]? =some e7) (hd:a.defers=[])
  (hQ:Q (.returned (.tuple #[.agg #[x0,x1],e7])) ((w.setCell ⟨b,0,none⟩ x0).setCell ⟨b,1,none⟩ x1)):
  bodyPost Tryz.prog Tryz.f26 Q Exit.ret a ((w.setCell ⟨b,0,none⟩ x0).setCell ⟨b,1,none⟩ x1):=
 bodyPost_ret (CM (by have h2:=heap_setCell_same _ b 1 _ _ x1 (heap_setCell_same _ b 0 _ _ x0 h); simpa using h2) h10 h11) hd hQ
theorem rQ {B:Nat} {u:World} (hb:Below B u w) (hB:B<=b) (hz:B<=w.heap.size):Below B u ((w.setCell ⟨b,0,none⟩ x0).setCell ⟨b,1,none⟩ x1):=by
 have hk: ∀(i:Nat),(some b)=some i->B<=i:=fun i e=>by cases e; exact hB
 have h1:=hb.grown (aB w b 0 x0) hz hk;exact h1.grown (aB _ b 1 x1) (Nat.le_trans hz (aB w b 0 x0).size) hk
end
def nM (data:List UInt8) (w:World) (e:Ending) (w':World):Prop:=Below w.heap.size w w'/\match jx data with
 | none=>e= .returned (.tuple #[.agg #[.int .i64 0, .slice none 0 0], .int .i64 3])
 | some x=> ∃fv,e= .returned (.tuple #[gd fv x.tm, .int .i64 0])/\aZ (w.heap.size<= ·) w' fv x.files
theorem jy {data:List UInt8} {w w':World} (h:jx data=none) (hb:Below w.heap.size w w'):nM data w (.returned (.tuple #[.agg #[.int .i64 0, .slice none 0 0], .int .i64 3])) w':=by
 unfold nM;rw[h];exact⟨hb,rfl⟩
theorem tq {data:List UInt8} {w w':World} {x:dh} {fv:Value} (h:jx data=some x) (hb:Below w.heap.size w w') (hf:aZ (w.heap.size<= ·) w' fv x.files):nM data w (.returned (.tuple #[.agg #[.int .i64 x.tm,fv], .int .i64 0])) w':=by
 unfold nM;rw[h];exact⟨hb,fv,rfl,hf⟩
end Go.Proofs.YtnjkpcalgoefhaaGreatDoor
namespace Go.Proofs.YtnjkpcalgoefhaaGreatDoor
open Go.RowKit
theorem grownBy.refl (w:World) (r:Option Nat):w.grownBy w r:=⟨rfl,rfl,rfl,Nat.le_refl _,fun _ _ _=>rfl⟩
theorem grownBy.trans {a b c:World} {r:Option Nat} (h:a.grownBy b r) (k:b.grownBy c r):a.grownBy c r:=
 ⟨k.os.trans h.os,k.tape.trans h.tape,k.output.trans h.output,Nat.le_trans h.size k.size,fun i hi hr=>(k.block i (Nat.lt_of_lt_of_le hi h.size) hr).trans (h.block i hi hr)⟩
theorem grownBy.setCell (w:World) (a:Addr) (u:Value):w.grownBy (w.setCell a u) (some a.block):=
 ⟨rfl,rfl,rfl,by simp[World.setCell],fun k _ hr=>Below.heap_setCell _ _ _ _ (fun e=>hr (by rw[e]))⟩
theorem grownBy.of_below {w w':World} {r:Option Nat} (h:Below w.heap.size w w'):w.grownBy w' r:=⟨h.os,h.tape,h.output,h.size,fun k hk _=>h.block k hk⟩
theorem grownBy.below {B:Nat} {w0 w w':World} {b:Nat} (hb:Below B w0 w) (h:w.grownBy w' (some b)) (h1:B<=b) (h2:B<=w.heap.size):Below B w0 w':=
 hb.grown h h2 (fun k hk=>by cases hk; exact h1)
def bD (w:World) (sb:Nat) (rs:List Int):Prop:=
 ∃v,w.heap[sb]? =some (.cells #[v] 200 (0,0))/\aO (· <sb) w 1 v rs.length (rs.map (Value.int .i32))
theorem bD.lt {w:World} {sb:Nat} {rs:List Int} (h:bD w sb rs):sb<w.heap.size:=by
 obtain⟨v,h1,_⟩:=h;exact(Array.getElem?_eq_some_iff.1 h1).1
theorem ac {w:World} {b j:Nat} {cs:Array Value} {t:TypeId} {fz:Nat×Nat} (h:w.heap[b]? =some (.cells cs t fz)):w.cell? ⟨b,j,none⟩=cs[j]? :=by simp[World.cell?,h]
theorem aj {w:World} {b j:Nat} {cs:Array Value} {t:TypeId} (h:w.heap[b]? =some (.cells cs t (0,0))):w.frozen? ⟨b,j,none⟩=false:=by simp[World.frozen?,h]
theorem bD.open {w:World} {sb:Nat} {rs:List Int} (h:bD w sb rs):
  ∃a cap,w.cell? ⟨sb,0,none⟩=some (.slice a rs.length cap)/\w.frozen? ⟨sb,0,none⟩=false/\rs.length<=cap/\cap<=maxLen/\(∀r t,rs=r::t-> ∃b o,a=some ⟨b,o,none⟩/\w.cell? ⟨b,o,none⟩=some (.int .i32 r)/\
   bD (w.setCell ⟨sb,0,none⟩ (.slice (some (if cap=1 then⟨b,o,none⟩else⟨b,o+1,none⟩)) t.length (cap-1))) sb t):=by
 obtain⟨v,h1,hl,a,cap,rfl,hn,hm,h0⟩:=h;refine⟨a,cap,by rw[ac h1]; simp,aj h1,hn,hm, ?_⟩;rintro r t rfl
 rcases h0 with h0 | ⟨b,o,rfl,hb,hc⟩
 ·simp at h0
 ·refine⟨b,o,rfl,by have:=hc 0 (.int .i32 r) (by simp); simpa using this, ?_⟩;have hlt:sb<w.heap.size:=(Array.getElem?_eq_some_iff.1 h1).1;refine⟨.slice (some (if cap=1 then⟨b,o,none⟩else⟨b,o+1,none⟩)) t.length (cap-1), ?_,by simp,_,_,rfl,by simp at hn; omega,by omega, ?_⟩
  ·simp only[World.setCell,Array.getElem?_modify,if_true,h1]
   rfl
  ·by_cases h1c:cap=1
   ·left; simp at hn; omega
   ·right
    refine⟨b,o+1,by rw[if_neg h1c],hb,fun j u hj=> ?_⟩;rw[World.cell?_of_block (w:=w) (a:=⟨b,o+1+j,none⟩) (Below.heap_setCell _ _ _ _ (by simp; omega))];have:=hc (j+1) u (by simpa using hj);rw[show o+1+j=o+(j+1) by omega]; exact this
theorem bD.grown {w w':World} {sb:Nat} {rs:List Int} (h:bD w sb rs) (hb:Below w.heap.size w w'):bD w' sb rs:=by
 have hlt:=h.lt;obtain⟨v,h1,h2⟩:=h;exact⟨v,by rw[hb.block sb hlt]; exact h1,h2.below (by omega) hb⟩
def iC (sb:Nat) (v:Value) (rs:List Int) (w:World) (e:Ending) (w':World):Prop:=e= .returned v/\bD w' sb rs/\w.grownBy w' (some sb)
theorem pB (sb:Nat) (w:World) (h:bD w sb []):Calls Tryz.prog 191 #[.pointer (some ⟨sb,0,none⟩)] w (iC sb (.tuple #[.int .i32 0, .bool false]) [] w):=by
 obtain⟨a,cap,hc,_,_,_,_⟩:=h.open;have H:=aa h;clear h;simp only[List.length_nil]at hc
 go_enter Tryz.func191,Tryz.ntmps191
 go_wp2
 go_ret2
 exact⟨rfl,H.out,grownBy.refl _ _⟩
theorem fp (sb:Nat) (r:Int) (t:List Int) (w:World) (h:bD w sb (r::t)):Calls Tryz.prog 191 #[.pointer (some ⟨sb,0,none⟩)] w (iC sb (.tuple #[.int .i32 r, .bool true]) t w):=by
 obtain⟨a,cap,hc,hf,hn,hm,hx⟩:=h.open;obtain⟨b,o,rfl,hr,hs⟩:=hx r t rfl;have HS:=aa hs;clear h hx hs;unfold maxLen at hm;simp only[List.length_cons]at hc hn;obtain⟨n,hnn⟩: ∃n,n=t.length:=⟨_,rfl⟩;rw[<-hnn]at hc hn;have HN:=aa hnn;clear hnn
 by_cases h1:cap=1
 ·subst h1;obtain rfl:n=0:=by omega
  go_enter Tryz.func191,Tryz.ntmps191
  go_wp2
  go_ret2
  refine⟨rfl, ?_,grownBy.setCell _ _ _⟩;have:=HS.out;simp only[if_true,<-HN.out]at this;exact this
 ·have h2:(cap == 1)=false:=by simpa using h1
  go_enter Tryz.func191,Tryz.ntmps191
  go_wp2
  go_ret2
  refine⟨rfl, ?_,grownBy.setCell _ _ _⟩;have:=HS.out;rw[if_neg h1,<-HN.out]at this;exact this
theorem DK (sb:Nat) (rs:List Int) (c:Int) (w:World) (h:bD w sb rs) (hne:rs.head? ≠some c):Calls Tryz.prog 202 #[.pointer (some ⟨sb,0,none⟩), .int .i32 c] w (iC sb (.bool false) rs w):=by
 obtain⟨a,cap,hc,hf,hn,hm,hx⟩:=h.open;have H:=aa h;clear h
 cases rs with
 | nil=>
  clear hx hne;simp only[List.length_nil]at hc
  go_enter Tryz.func202,Tryz.ntmps202
  go_wp2
  go_ret;exact⟨rfl,H.out,grownBy.refl _ _⟩
 | cons r t=>
  obtain⟨b,o,rfl,hr,-⟩:=hx r t rfl;clear hx;have h1:(r != c)=true:=by rw[bne_iff_ne]; intro e; exact hne (by rw[e]; rfl)
  simp only[List.length_cons]at hc hn;obtain⟨n,hnn⟩: ∃n,n=t.length:=⟨_,rfl⟩;rw[<-hnn]at hc hn;clear hnn hne;unfold maxLen at hm
  go_enter Tryz.func202,Tryz.ntmps202
  go_wp2
  go_ret;exact⟨rfl,H.out,grownBy.refl _ _⟩
theorem BT (sb:Nat) (t:List Int) (c:Int) (w:World) (h:bD w sb (c::t)):Calls Tryz.prog 202 #[.pointer (some ⟨sb,0,none⟩), .int .i32 c] w (iC sb (.bool true) t w):=by
 obtain⟨a,cap,hc,hf,hn,hm,hx⟩:=h.open;obtain⟨b,o,rfl,hr,hs⟩:=hx c t rfl;have HS:=aa hs;clear h hx hs;unfold maxLen at hm;simp only[List.length_cons]at hc hn;obtain⟨n,hnn⟩: ∃n,n=t.length:=⟨_,rfl⟩;rw[<-hnn]at hc hn;have HN:=aa hnn;clear hnn
 by_cases h1:cap=1
 ·subst h1;obtain rfl:n=0:=by omega
  go_enter Tryz.func202,Tryz.ntmps202
  go_wp2
  go_ret;refine⟨rfl, ?_,grownBy.setCell _ _ _⟩;have:=HS.out;simp only[if_true,<-HN.out]at this;exact this
 ·have h2:(cap == 1)=false:=by simpa using h1
  go_enter Tryz.func202,Tryz.ntmps202
  go_wp2
  go_ret;refine⟨rfl, ?_,grownBy.setCell _ _ _⟩;have:=HS.out;rw[if_neg h1,<-HN.out]at this;exact this
theorem oo (sb:Nat) (rs:List Int) (r:Int) (t:List Int) (w:World) (h:bD w sb rs) (he:iY rs=some (r,t)):Calls Tryz.prog 203 #[.pointer (some ⟨sb,0,none⟩)] w (iC sb (.tuple #[.int .i32 r, .bool true]) t w):=by
 cases rs with
 | nil=>simp[iY]at he
 | cons c l=>
  have H:=aa h;clear h;rw[iY]at he
  by_cases h92:c=92
  ·rw[if_pos h92]at he;subst h92
   cases l with
   | nil=>simp[lE]at he
   | cons q u=>
    simp only[lE,Option.some.injEq,Prod.mk.injEq]at he;obtain⟨rfl,rfl⟩:=he
    go_enter Tryz.func203,Tryz.ntmps203
    go_wp2_with fail;refine(fp sb 92 _ w H.out).mono ?_;rintro e w1 ⟨rfl,h1,hg1⟩;have H1:=aa h1;have G1:=aa hg1;clear h1 hg1;go_wp2_with fail;refine(fp sb q u w1 H1.out).mono ?_;rintro e w2 ⟨rfl,h2,hg2⟩;have H2:=aa h2;have G2:=aa hg2;clear h2 hg2;go_wp2_with fail
    go_ret2
    exact⟨rfl,H2.out,grownBy.trans G1.out G2.out⟩
  ·rw[if_neg h92]at he
   split at he
   ·simp at he
   ·rename_i hno;simp only[Option.some.injEq,Prod.mk.injEq]at he;obtain⟨rfl,rfl⟩:=he;have e1:(c == 92)=false:=by simpa using h92
    have e2:(c == 93)=false:=by simp; omega
    have e3:(c == 94)=false:=by simp; omega
    have e4:(c == 45)=false:=by simp; omega
    clear hno h92
    go_enter Tryz.func203,Tryz.ntmps203
    go_wp2_with fail;refine(fp sb c _ w H.out).mono ?_;rintro e w1 ⟨rfl,h1,hg1⟩;have H1:=aa h1;have G1:=aa hg1;clear h1 hg1;go_wp2_with fail
    go_ret2
    exact⟨rfl,H1.out,G1.out⟩
theorem mQ (sb:Nat) (rs:List Int) (w:World) (h:bD w sb rs) (he:iY rs=none):Calls Tryz.prog 203 #[.pointer (some ⟨sb,0,none⟩)] w (fun e w'=> ∃rs',iC sb (.tuple #[.int .i32 0, .bool false]) rs' w e w'):=by
 have H:=aa h;clear h
 cases rs with
 | nil=>
  go_enter Tryz.func203,Tryz.ntmps203
  go_wp2_with fail;refine(pB sb w H.out).mono ?_;rintro e w1 ⟨rfl,h1,hg1⟩;have H1:=aa h1;have G1:=aa hg1;clear h1 hg1;go_wp2_with fail
  go_ret2
  exact⟨_,rfl,H1.out,G1.out⟩
 | cons c l=>
  rw[iY]at he
  by_cases h92:c=92
  ·rw[if_pos h92]at he;subst h92
   cases l with
   | nil=>
    clear he
    go_enter Tryz.func203,Tryz.ntmps203
    go_wp2_with fail;refine(fp sb 92 _ w H.out).mono ?_;rintro e w1 ⟨rfl,h1,hg1⟩;have H1:=aa h1;have G1:=aa hg1;clear h1 hg1;go_wp2_with fail;refine(pB sb w1 H1.out).mono ?_;rintro e w2 ⟨rfl,h2,hg2⟩;have H2:=aa h2;have G2:=aa hg2;clear h2 hg2;go_wp2_with fail
    go_ret2
    exact⟨_,rfl,H2.out,grownBy.trans G1.out G2.out⟩
   | cons q u=>simp[lE]at he
  ·rw[if_neg h92]at he
   split at he
   ·rename_i hyes;have e1:(c == 92)=false:=by simpa using h92
    clear he h92
    rcases hyes with rfl | rfl | rfl
    all_goals
     go_enter Tryz.func203,Tryz.ntmps203
     go_wp2_with fail;refine(fp sb _ _ w H.out).mono ?_;rintro e w1 ⟨rfl,h1,hg1⟩;have H1:=aa h1;have G1:=aa hg1;clear h1 hg1;go_wp2_with fail
     go_ret2
     exact⟨_,rfl,H1.out,G1.out⟩
   ·simp at he
theorem py (sb:Nat) (rs:List Int) (c:Int) (w:World) (h:bD w sb rs):Calls Tryz.prog 202 #[.pointer (some ⟨sb,0,none⟩), .int .i32 c] w (fun e w'=> ∃b rs',b=decide (rs.head? =some c)/\rs'=(if b then rs.tail else rs)/\iC sb (.bool b) rs' w e w'):=by
 by_cases hc:rs.head? =some c
 ·cases rs with
  | nil=>simp at hc
  | cons r t=>
   simp at hc; subst hc;exact(BT sb t r w h).mono fun e w' hr=>⟨true,t,by simp,by simp,hr⟩
 ·exact(DK sb rs c w h hc).mono fun e w' hr=>⟨false,rs,by simp[hc],by simp,hr⟩
def nJ (sb:Nat) (w:World):Nat:=match w.cell? ⟨sb,0,none⟩with | some (.slice _ n _)=>n | _=>0
theorem bD.len {w:World} {sb:Nat} {rs:List Int} (h:bD w sb rs):nJ sb w=rs.length:=by
 obtain⟨a,cap,hc,_⟩:=h.open;simp[nJ,hc]
def kB (rs:List (Int×Int)):List Value:=rs.flatMap fun x=>[.int .i32 x.1, .int .i32 x.2]
def em (S:Nat->Prop) (w:World) (v:Value) (rs:List (Int×Int)):Prop:=aO S w 2 v rs.length (kB rs)
theorem Tryz.appRanges :cJ Tryz.prog 206 237 2 8:=cJ.mk' (z:= .agg #[.int .i32 0, .int .i32 0]) Tryz.underlying206 (by kernel_rfl) rfl (by decide) (by decide)
structure fO (w : World) (sb rb tb : Nat) (neg : Bool) (rest : List Int) (acc : List (Int × Int)) (v : Value) (wr : World) : Prop where
 scan:bD wr sb rest
 res:wr.heap[rb]? =some (.cells #[.bool false, .bool false, .bool false, .slice none 0 0] 208 (0,0))
 box:wr.heap[tb]? =some (.cells #[.bool false, .bool false, .bool neg,v] 208 (0,0))
 own:wr.ownsRow (tb+1) 237 2 v acc.length (kB acc)
 nil:acc=[]->v= .slice none 0 0
 grow:w.grownBy wr (some sb)
 lt:sb<rb/\w.heap.size<=rb/\rb<tb/\tb<wr.heap.size
theorem fO.scanned {w:World} {sb rb tb:Nat} {neg:Bool} {rest rest':List Int} {acc:List (Int×Int)} {v:Value} {wr w1:World} (h:fO w sb rb tb neg rest acc v wr) (hs:bD w1 sb rest') (hg:wr.grownBy w1 (some sb)):fO w sb rb tb neg rest' acc v w1:=by
 obtain⟨_,hr,hb,ho,hn,hgr,h1,h2,h3,h4⟩:=h;refine⟨hs, ?_, ?_, ?_,hn,grownBy.trans hgr hg,h1,h2,h3,Nat.lt_of_lt_of_le h4 hg.size⟩
 ·rw[hg.block rb (by omega) (by simp; omega)]; exact hr
 ·rw[hg.block tb h4 (by simp; omega)]; exact hb
 ·refine ho.kept hg ?_
  cases hv:v.ownBlock with
  | none=>exact .inl rfl
  | some k=>right; have:=(ho.lt k hv).1; simp; omega
theorem fO.added {w:World} {sb rb tb:Nat} {neg:Bool} {rest:List Int} {acc:List (Int×Int)} {v v':Value} {wr w1:World} {lo hi:Int} (h:fO w sb rb tb neg rest acc v wr)
  (ho:w1.ownsRow (tb+1) 237 2 v' (acc.length+1) (kB acc++[.int .i32 lo, .int .i32 hi])) (hg:wr.grownBy w1 v.ownBlock):fO w sb rb tb neg rest (acc++[(lo,hi)]) v' (w1.setCell ⟨tb,3,none⟩ v')/\w1.cell? ⟨tb,3,none⟩=some v/\w1.frozen? ⟨tb,3,none⟩=false:=by
 have hI:=h;obtain⟨⟨sv,hs1,hs2⟩,hr,hb,ho0,hn,hgr,h1,h2,h3,h4⟩:=h;have hne: ∀k,k<tb+1->k<wr.heap.size->w1.heap[k]? =wr.heap[k]? :=fun k hk hk2=>hg.block k hk2 (fun e=>by have:=(ho0.lt k e.symm).1; omega)
 have htb:w1.heap[tb]? =some (.cells #[.bool false, .bool false, .bool neg,v] 208 (0,0)):=by rw[hne tb (by omega) h4]; exact hb
 refine⟨⟨⟨sv, ?_, ?_⟩, ?_, ?_, ?_,by simp, ?_,h1,h2,h3, ?_⟩,by rw[ac htb]; simp,aj htb⟩
 ·rw[Below.heap_setCell _ _ _ _ (by simp; omega),hne sb (by omega) (by omega)]; exact hs1
 ·refine hs2.same (fun k hk=> ?_);rw[Below.heap_setCell _ _ _ _ (by simp; omega),hne k (by omega) (by omega)]
 ·rw[Below.heap_setCell _ _ _ _ (by simp; omega),hne rb (by omega) (by omega)]; exact hr
 ·simp only[World.setCell,Array.getElem?_modify,if_true,htb]; rfl
 ·have:=ownsRow_setCell_below ho (a:=⟨tb,3,none⟩) (by simp) v'
  simpa [kB]using this
 ·refine⟨hg.os.trans hgr.os,hg.tape.trans hgr.tape,hg.output.trans hgr.output,by have:=hg.size; have:=hgr.size; simp[World.setCell]; omega,fun k hk hr2=> ?_⟩;rw[Below.heap_setCell _ _ _ _ (by simp; omega),hne k (by omega) (by have:=hgr.size; omega)];exact hgr.block k hk hr2
 ·have:=hg.size; simp[World.setCell]; omega
theorem gF {w:World} {sb:Nat} {rs:List Int} (h:bD w sb rs) (o:Obj):bD (w.alloc o) sb rs:=h.grown ((Below.refl _ _).alloc (Nat.le_refl _) _)
theorem fO.start {w w1:World} {sb:Nat} {t:List Int} {neg:Bool} (hsb:sb<w.heap.size) (hs:bD w1 sb t) (hg:(w.alloc (.cells #[.bool false, .bool false, .bool false, .slice none 0 0] 208)).grownBy w1 (some sb)):
  fO w sb w.heap.size w1.heap.size neg t [] (.slice none 0 0) (w1.alloc (.cells #[.bool false, .bool false, .bool neg, .slice none 0 0] 208)):=by
 have h1:=hg.size;simp at h1;refine⟨gF hs _, ?_,heap_alloc_new _ _,World.ownsRow_nil _ _ _ _,fun _=>rfl, ?_,hsb,Nat.le_refl _,by omega,by simp⟩
 ·rw[Below.heap_alloc _ _ _ (by omega),hg.block _ (by simp) (by simp; omega)];exact heap_alloc_new _ _
 ·refine⟨hg.os,hg.tape,hg.output,by simp; omega,fun k hk hr=> ?_⟩;rw[Below.heap_alloc _ _ _ (by omega),hg.block k (by simp; omega) hr];exact Below.heap_alloc _ _ _ hk
def DW (sb:Nat) (it:bC) (u:List Int) (w:World) (e:Ending) (w':World):Prop:=
 ∃v,e= .returned (.tuple #[.agg #[.bool it.star, .bool it.any, .bool it.neg,v], .bool true])/\em (w.heap.size<= ·) w' v it.ranges/\bD w' sb u/\w.grownBy w' (some sb)
def Eg (sb:Nat) (w:World) (e:Ending) (w':World):Prop:=
 ∃b u,e= .returned (.tuple #[.agg #[.bool false, .bool false, .bool b, .slice none 0 0], .bool false])/\bD w' sb u/\w.grownBy w' (some sb)
def vm (sb:Nat) (o:Option (bC×List Int)) (w:World) (e:Ending) (w':World):Prop:=
 match o with
 | some (it,u)=>DW sb it u w e w'
 | none=>Eg sb w e w'
theorem jP {w:World} {b:Nat} {x0 x1 x2 x3:Value} {T:TypeId} (h:w.heap[b]? =some (.cells #[x0,x1,x2,x3] T (0,0))) (a0 a1 a2 a3:Value):
  ((((w.setCell ⟨b,0,none⟩ a0).setCell ⟨b,1,none⟩ a1).setCell ⟨b,2,none⟩ a2).setCell ⟨b,3,none⟩ a3).heap[b]? =some (.cells #[a0,a1,a2,a3] T (0,0))/\
  w.grownBy ((((w.setCell ⟨b,0,none⟩ a0).setCell ⟨b,1,none⟩ a1).setCell ⟨b,2,none⟩ a2).setCell ⟨b,3,none⟩ a3) (some b):=by
 refine⟨?_,grownBy.trans (grownBy.trans (grownBy.trans (grownBy.setCell w ⟨b,0,none⟩ a0) (grownBy.setCell _ ⟨b,1,none⟩ a1)) (grownBy.setCell _ ⟨b,2,none⟩ a2)) (grownBy.setCell _ ⟨b,3,none⟩ a3)⟩;simp only[World.setCell,Array.getElem?_modify,if_true,h,Option.map_some]
 rfl
theorem vO {w w':World} {r:Option Nat} (h:w.grownBy w' r):w.grownBy w'.drew r:=⟨h.os,h.tape,h.output,h.size,h.block⟩
theorem oc {sb:Nat} {w w1 w2 W:World} {neg:Bool} {rest:List Int} {acc:List (Int×Int)} {v:Value} {t:List Int} (HCL:lm t=none) (HI:fO w sb w.heap.size w1.heap.size neg rest acc v w2) (hg:w2.grownBy W (some w.heap.size)):
  vm sb (lm t) w (.returned (.tuple #[.agg #[.bool false, .bool false, .bool false, .slice none 0 0], .bool false])) W:=by
 obtain⟨hsc,hr,hb,ho,hn,hgr,h1,h2,h3,h4⟩:=HI;have hsW:bD W sb rest:=by
  obtain⟨sv,hs1,hs2⟩:=hsc;exact⟨sv,by rw[hg.block sb (by omega) (by simp; omega)]; exact hs1,hs2.same (fun k hk=>hg.block k (by omega) (by simp; omega))⟩
 have hgW:w.grownBy W (some sb):=⟨hg.os.trans hgr.os,hg.tape.trans hgr.tape,hg.output.trans hgr.output,Nat.le_trans hgr.size hg.size,fun k hk hk2=>(hg.block k (by have:=hgr.size; omega) (by simp; omega)).trans (hgr.block k hk hk2)⟩;rw[HCL];exact⟨false,rest,rfl,hsW,hgW⟩
theorem CJ {sb:Nat} {w w1 w2 W:World} {neg:Bool} {rest:List Int} {acc:List (Int×Int)} {v:Value} {t t':List Int} (HCL:lm t=match cR (t'.length+1) t' []with | none=>none | some (rs,u)=>if rs=[]then none else some (⟨false,false,neg,rs⟩,u))
  (HC:cR (t'.length+1) t' []=some (acc,rest)) (HI:fO w sb w.heap.size w1.heap.size neg rest acc v w2) (hg:w2.grownBy W (some w.heap.size)):
  vm sb (lm t) w (.returned (.tuple #[.agg #[.bool false, .bool false, .bool neg,v], .bool (decide (0<acc.length))])) W:=by
 obtain⟨hsc,hr,hb,ho,hn,hgr,h1,h2,h3,h4⟩:=HI;have hsW:bD W sb rest:=by
  obtain⟨sv,hs1,hs2⟩:=hsc;exact⟨sv,by rw[hg.block sb (by omega) (by simp; omega)]; exact hs1,hs2.same (fun k hk=>hg.block k (by omega) (by simp; omega))⟩
 have hgW:w.grownBy W (some sb):=⟨hg.os.trans hgr.os,hg.tape.trans hgr.tape,hg.output.trans hgr.output,Nat.le_trans hgr.size hg.size,fun k hk hk2=>(hg.block k (by have:=hgr.size; omega) (by simp; omega)).trans (hgr.block k hk hk2)⟩;rw[HCL,HC];simp only
 split
 ·rename_i hnil;subst hnil;have:=hn rfl;subst this;exact⟨neg,rest,rfl,hsW,hgW⟩
 ·rename_i hnil;have hpos:0<acc.length:=List.length_pos_iff.2 hnil;refine⟨v,by simp[hpos], ?_,hsW,hgW⟩;refine((bi ho).same (w':=W) (fun k hk=>hg.block k (ho.lt k hk.2).2 (by simp; omega))).weak (fun k hk=>by omega)
theorem qr (sb:Nat) (t:List Int) (w:World) (h:bD w sb t) (ht:t.length<1099511627775):Calls Tryz.prog 192 #[.pointer (some ⟨sb,0,none⟩)] w (vm sb (lm t) w):=by
 have hlt:=h.lt;have H:=aa h;clear h
 go_enter Tryz.func192,Tryz.ntmps192
 go_wp2_with fail;refine(py sb t 94 _ (gF H.out _)).mono ?_;rintro e w1 ⟨neg,t',hneg,ht',rfl,h1,hg1⟩;have HI0:=aa (fO.start (neg:=neg) hlt h1 hg1);have hcls:lm t=match cR (t'.length+1) t' []with | none=>none | some (rs,u)=>if rs=[]then none else some (⟨false,false,neg,rs⟩,u):=by
  subst hneg ht'; rfl
 have hl':t'.length<=t.length:=by
  subst ht'; split
  ·rw[List.length_tail]; omega
  ·exact Nat.le_refl _
 have HCL:=aa hcls;clear h1 hg1 hneg ht' hcls;go_wp2_with fail
 go_loopw [3] (fun _ wr=> ∃(rest:List Int) (acc:List (Int×Int)) (v:Value) (f:Nat),fO w sb w.heap.size w1.heap.size neg rest acc v wr/\rest.length<f/\acc.length+rest.length<=t.length/\cR (t'.length+1) t' []=cR f rest acc) (fun _ wr=>nJ sb wr)
 case atStart=>exact⟨t',[],_,_,HI0.out,Nat.lt_succ_self _,by simp; omega,rfl⟩
 case round=>
  obtain⟨rest,acc,v,f,hI,hf,hal,hc⟩:=hrel;have HI:=aa hI;have HC:=aa hc;clear hI hc;go_wp2_with fail;refine(py sb rest 93 wr HI.out.scan).mono ?_;rintro e w2 ⟨b2,rest2,hb2,hr2,rfl,h2,hg2⟩;have HI2:=aa (HI.out.scanned h2 hg2);clear h2 hg2
  cases b2 with
  | true=>
   obtain⟨a4,c4,hv,hn4,hm4⟩:=ak HI2.out.own;subst hv;have hres:=HI2.out.res;have hbox:=HI2.out.box;have k0:w2.cell? ⟨w1.heap.size,0,none⟩=some (.bool false):=by rw[ac hbox]; rfl
   have k1:w2.cell? ⟨w1.heap.size,1,none⟩=some (.bool false):=by rw[ac hbox]; rfl
   have k2:w2.cell? ⟨w1.heap.size,2,none⟩=some (.bool neg):=by rw[ac hbox]; rfl
   have k3:w2.cell? ⟨w1.heap.size,3,none⟩=some (.slice a4 acc.length c4):=by rw[ac hbox]; rfl
   have r0:w2.cell? ⟨w.heap.size,0,none⟩=some (.bool false):=by rw[ac hres]; rfl
   have r1:w2.cell? ⟨w.heap.size,1,none⟩=some (.bool false):=by rw[ac hres]; rfl
   have r2:w2.cell? ⟨w.heap.size,2,none⟩=some (.bool false):=by rw[ac hres]; rfl
   have r3:w2.cell? ⟨w.heap.size,3,none⟩=some (.slice none 0 0):=by rw[ac hres]; rfl
   have f0:w2.frozen? ⟨w.heap.size,0,none⟩=false:=aj hres;have f1:w2.frozen? ⟨w.heap.size,1,none⟩=false:=aj hres;have f2:w2.frozen? ⟨w.heap.size,2,none⟩=false:=aj hres;have f3:w2.frozen? ⟨w.heap.size,3,none⟩=false:=aj hres;have hne: ¬w1.heap.size=w.heap.size:=by have:=HI2.out.lt; omega
   have HR:=aa hres;have hr93:rest.head? =some 93:=by simpa using hb2.symm
   have hcs:cR (t'.length+1) t' []=some (acc,rest2):=by
    obtain⟨f',rfl⟩: ∃f',f=f'+1:=⟨f-1,by omega⟩;rw[HC.out,cR,if_pos hr93,hr2]; rfl
   have HCS:=aa hcs;clear hres hbox hr2 hb2 hr93 hcs;go_wp2_with fail
   go_region
   go_wp2_with fail;obtain⟨W,hW⟩: ∃W,W=((((w2.setCell ⟨w.heap.size,0,none⟩ (.bool false)).setCell ⟨w.heap.size,1,none⟩ (.bool false)).setCell ⟨w.heap.size,2,none⟩ (.bool neg)).setCell ⟨w.heap.size,3,none⟩ (.slice a4 acc.length c4)):=⟨_,rfl⟩;rw[<-hW];have h4:=jP HR.out (.bool false) (.bool false) (.bool neg) (.slice a4 acc.length c4);rw[<-hW]at h4;obtain⟨h41,h42⟩:=h4;have m0:W.cell? ⟨w.heap.size,0,none⟩=some (.bool false):=by rw[ac h41]; rfl
   have m1:W.cell? ⟨w.heap.size,1,none⟩=some (.bool false):=by rw[ac h41]; rfl
   have m2:W.cell? ⟨w.heap.size,2,none⟩=some (.bool neg):=by rw[ac h41]; rfl
   have m3:W.cell? ⟨w.heap.size,3,none⟩=some (.slice a4 acc.length c4):=by rw[ac h41]; rfl
   clear hW;refine bodyPost_ret (v:= .tuple #[.agg #[.bool false, .bool false, .bool neg, .slice a4 acc.length c4], .bool (decide (0<acc.length))]) (by simp[results,Tryz.results192,go_sem,m0,m1,m2,m3]) rfl ?_;exact CJ HCL.out HCS.out HI2.out (vO h42)
  | false=>
   have hr93: ¬rest.head? =some 93:=by simpa using hb2.symm
   have hr2':rest2=rest:=by simpa using hr2
   subst hr2';clear hr2 hb2;obtain⟨f',rfl⟩: ∃f',f=f'+1:=⟨f-1,by omega⟩;have HN93:=aa hr93;clear hr93;have HRES:=aa HI2.out.res;go_wp2_with fail
   cases he:iY rest2 with
   | none=>
    have hfail:lm t=none:=by rw[HCL.out,HC.out,cR,if_neg HN93.out,he]
    have HF:=aa hfail;have HEl:=aa he;clear hfail he;refine(mQ sb rest2 w2 HI2.out.scan HEl.out).mono ?_;rintro e w3 ⟨rest3,rfl,h3,hg3⟩;have HI3:=aa (HI2.out.scanned h3 hg3);clear h3 hg3;have hres:=HI3.out.res;have r0:w3.cell? ⟨w.heap.size,0,none⟩=some (.bool false):=by rw[ac hres]; rfl
    have r1:w3.cell? ⟨w.heap.size,1,none⟩=some (.bool false):=by rw[ac hres]; rfl
    have r2:w3.cell? ⟨w.heap.size,2,none⟩=some (.bool false):=by rw[ac hres]; rfl
    have r3:w3.cell? ⟨w.heap.size,3,none⟩=some (.slice none 0 0):=by rw[ac hres]; rfl
    have f0:w3.frozen? ⟨w.heap.size,0,none⟩=false:=aj hres;have f1:w3.frozen? ⟨w.heap.size,1,none⟩=false:=aj hres;have f2:w3.frozen? ⟨w.heap.size,2,none⟩=false:=aj hres;have f3:w3.frozen? ⟨w.heap.size,3,none⟩=false:=aj hres;have HR:=aa hres;clear hres;go_wp2_with fail;obtain⟨W,hW⟩: ∃W,W=((((w3.setCell ⟨w.heap.size,0,none⟩ (.bool false)).setCell ⟨w.heap.size,1,none⟩ (.bool false)).setCell ⟨w.heap.size,2,none⟩ (.bool false)).setCell ⟨w.heap.size,3,none⟩ (.slice none 0 0)):=⟨_,rfl⟩
    rw[<-hW];have h4:=jP HR.out (.bool false) (.bool false) (.bool false) (.slice none 0 0);rw[<-hW]at h4;obtain⟨h41,h42⟩:=h4;have m0:W.cell? ⟨w.heap.size,0,none⟩=some (.bool false):=by rw[ac h41]; rfl
    have m1:W.cell? ⟨w.heap.size,1,none⟩=some (.bool false):=by rw[ac h41]; rfl
    have m2:W.cell? ⟨w.heap.size,2,none⟩=some (.bool false):=by rw[ac h41]; rfl
    have m3:W.cell? ⟨w.heap.size,3,none⟩=some (.slice none 0 0):=by rw[ac h41]; rfl
    clear hW;refine bodyPost_ret (v:= .tuple #[.agg #[.bool false, .bool false, .bool false, .slice none 0 0], .bool false]) (by simp[results,Tryz.results192,go_sem,m0,m1,m2,m3]) rfl ?_;exact oc HF.out HI3.out h42
   | some p=>
    obtain⟨lo,t1⟩:=p;have hl1:=jZ he;have HEl:=aa he;clear he;refine(oo sb rest2 lo t1 w2 HI2.out.scan HEl.out).mono ?_;rintro e w3 ⟨rfl,h3,hg3⟩;have HI3:=aa (HI2.out.scanned h3 hg3);clear h3 hg3;go_wp2_with fail;refine(py sb t1 45 w3 HI3.out.scan).mono ?_;rintro e w4 ⟨b4,t4,hb4,hr4,rfl,h4,hg4⟩;have HI4:=aa (HI3.out.scanned h4 hg4);clear h4 hg4
    cases b4 with
    | false=>
     have hr45: ¬t1.head? =some 45:=by simpa using hb4.symm
     have hr4':t4=t1:=by simpa using hr4
     subst hr4';have hcs:cR (t'.length+1) t' []=cR f' t4 (acc++[(lo,lo)]):=by rw[HC.out,cR,if_neg HN93.out,HEl.out]; simp only; rw[if_neg hr45]
     have HCS:=aa hcs;clear hr4 hb4 hr45 hcs;have hbox:=HI4.out.box;have k3:w4.cell? ⟨w1.heap.size,3,none⟩=some v:=by rw[ac hbox]; rfl
     have HBX:=aa hbox;clear hbox;go_wp2_with (at_builtin; go_must (refine dd Tryz.appRanges rfl _ _ rfl (w1.heap.size+1) v acc.length (kB acc) rfl w4 [.int .i32 lo, .int .i32 lo] _ rfl rfl (by simp; first | rfl | exact⟨rfl,rfl⟩) HI4.out.own (by omega) (by have:=HI4.out.lt; omega) ?_); intro v' w5 hown5 hgrow5 _; obtain⟨a5,c5,rfl,-,-⟩:=ak hown5; obtain⟨hI5,hc5,hf5⟩:=HI4.out.added hown5 hgrow5; have HI5:=aa hI5; clear hI5 hown5 hgrow5)
     go_wp2_with fail
     go_roundw
     case rel=>exact⟨t4,acc++[(lo,lo)],_,f',HI5.out,by omega,by simp; omega,HCS.out⟩
     case measure=>
      rw[HI5.out.scan.len,HI.out.scan.len];omega
    | true=>
     have hr45:t1.head? =some 45:=by simpa using hb4.symm
     have hr4':t4=t1.tail:=by simpa using hr4
     subst hr4';have hl4:t1.tail.length+1<=t1.length:=by
      cases t1 with
      | nil=>simp at hr45
      | cons=>simp
     have HR45:=aa hr45;clear hr4 hb4 hr45;go_wp2_with fail
     cases he6:iY t1.tail with
     | none=>
      have hfail:lm t=none:=by rw[HCL.out,HC.out,cR,if_neg HN93.out,HEl.out]; simp only; rw[if_pos HR45.out,he6]
      have HF:=aa hfail;have HE6:=aa he6;clear hfail he6;refine(mQ sb _ w4 HI4.out.scan HE6.out).mono ?_;rintro e w6 ⟨rest6,rfl,h6,hg6⟩;have HI6:=aa (HI4.out.scanned h6 hg6);clear h6 hg6;have hres:=HI6.out.res;have r0:w6.cell? ⟨w.heap.size,0,none⟩=some (.bool false):=by rw[ac hres]; rfl
      have r1:w6.cell? ⟨w.heap.size,1,none⟩=some (.bool false):=by rw[ac hres]; rfl
      have r2:w6.cell? ⟨w.heap.size,2,none⟩=some (.bool false):=by rw[ac hres]; rfl
      have r3:w6.cell? ⟨w.heap.size,3,none⟩=some (.slice none 0 0):=by rw[ac hres]; rfl
      have f0:w6.frozen? ⟨w.heap.size,0,none⟩=false:=aj hres;have f1:w6.frozen? ⟨w.heap.size,1,none⟩=false:=aj hres;have f2:w6.frozen? ⟨w.heap.size,2,none⟩=false:=aj hres;have f3:w6.frozen? ⟨w.heap.size,3,none⟩=false:=aj hres;have HR:=aa hres;clear hres;go_wp2_with fail;obtain⟨W,hW⟩: ∃W,W=((((w6.setCell ⟨w.heap.size,0,none⟩ (.bool false)).setCell ⟨w.heap.size,1,none⟩ (.bool false)).setCell ⟨w.heap.size,2,none⟩ (.bool false)).setCell ⟨w.heap.size,3,none⟩ (.slice none 0 0)):=⟨_,rfl⟩
      rw[<-hW];have h4:=jP HR.out (.bool false) (.bool false) (.bool false) (.slice none 0 0);rw[<-hW]at h4;obtain⟨h41,h42⟩:=h4;have m0:W.cell? ⟨w.heap.size,0,none⟩=some (.bool false):=by rw[ac h41]; rfl
      have m1:W.cell? ⟨w.heap.size,1,none⟩=some (.bool false):=by rw[ac h41]; rfl
      have m2:W.cell? ⟨w.heap.size,2,none⟩=some (.bool false):=by rw[ac h41]; rfl
      have m3:W.cell? ⟨w.heap.size,3,none⟩=some (.slice none 0 0):=by rw[ac h41]; rfl
      clear hW;refine bodyPost_ret (v:= .tuple #[.agg #[.bool false, .bool false, .bool false, .slice none 0 0], .bool false]) (by simp[results,Tryz.results192,go_sem,m0,m1,m2,m3]) rfl ?_;exact oc HF.out HI6.out h42
     | some p=>
      obtain⟨hi,u⟩:=p;have hl6:=jZ he6;have HE6:=aa he6;clear he6;refine(oo sb _ hi u w4 HI4.out.scan HE6.out).mono ?_;rintro e w6 ⟨rfl,h6,hg6⟩;have HI6:=aa (HI4.out.scanned h6 hg6);clear h6 hg6
      by_cases hlo:hi<lo
      ·have hfail:lm t=none:=by rw[HCL.out,HC.out,cR,if_neg HN93.out,HEl.out]; simp only; rw[if_pos HR45.out,HE6.out]; simp only; rw[if_pos hlo]
       have HF:=aa hfail;clear hfail;have hres:=HI6.out.res;have r0:w6.cell? ⟨w.heap.size,0,none⟩=some (.bool false):=by rw[ac hres]; rfl
       have r1:w6.cell? ⟨w.heap.size,1,none⟩=some (.bool false):=by rw[ac hres]; rfl
       have r2:w6.cell? ⟨w.heap.size,2,none⟩=some (.bool false):=by rw[ac hres]; rfl
       have r3:w6.cell? ⟨w.heap.size,3,none⟩=some (.slice none 0 0):=by rw[ac hres]; rfl
       have f0:w6.frozen? ⟨w.heap.size,0,none⟩=false:=aj hres;have f1:w6.frozen? ⟨w.heap.size,1,none⟩=false:=aj hres;have f2:w6.frozen? ⟨w.heap.size,2,none⟩=false:=aj hres;have f3:w6.frozen? ⟨w.heap.size,3,none⟩=false:=aj hres;have HR:=aa hres;clear hres;go_wp2_with fail;obtain⟨W,hW⟩: ∃W,W=((((w6.setCell ⟨w.heap.size,0,none⟩ (.bool false)).setCell ⟨w.heap.size,1,none⟩ (.bool false)).setCell ⟨w.heap.size,2,none⟩ (.bool false)).setCell ⟨w.heap.size,3,none⟩ (.slice none 0 0)):=⟨_,rfl⟩
       rw[<-hW];have h4:=jP HR.out (.bool false) (.bool false) (.bool false) (.slice none 0 0);rw[<-hW]at h4;obtain⟨h41,h42⟩:=h4;have m0:W.cell? ⟨w.heap.size,0,none⟩=some (.bool false):=by rw[ac h41]; rfl
       have m1:W.cell? ⟨w.heap.size,1,none⟩=some (.bool false):=by rw[ac h41]; rfl
       have m2:W.cell? ⟨w.heap.size,2,none⟩=some (.bool false):=by rw[ac h41]; rfl
       have m3:W.cell? ⟨w.heap.size,3,none⟩=some (.slice none 0 0):=by rw[ac h41]; rfl
       clear hW;refine bodyPost_ret (v:= .tuple #[.agg #[.bool false, .bool false, .bool false, .slice none 0 0], .bool false]) (by simp[results,Tryz.results192,go_sem,m0,m1,m2,m3]) rfl ?_;exact oc HF.out HI6.out h42
      ·have hcs:cR (t'.length+1) t' []=cR f' u (acc++[(lo,hi)]):=by rw[HC.out,cR,if_neg HN93.out,HEl.out]; simp only; rw[if_pos HR45.out,HE6.out]; simp only; rw[if_neg hlo]
       have HCS:=aa hcs;clear hcs;have hbox:=HI6.out.box;have k3:w6.cell? ⟨w1.heap.size,3,none⟩=some v:=by rw[ac hbox]; rfl
       have HBX:=aa hbox;clear hbox;go_wp2_with (at_builtin; go_must (refine dd Tryz.appRanges rfl _ _ rfl (w1.heap.size+1) v acc.length (kB acc) rfl w6 [.int .i32 lo, .int .i32 hi] _ rfl rfl (by simp; first | rfl | exact⟨rfl,rfl⟩) HI6.out.own (by omega) (by have:=HI6.out.lt; omega) ?_); intro v' w5 hown5 hgrow5 _; obtain⟨a5,c5,rfl,-,-⟩:=ak hown5; obtain⟨hI5,hc5,hf5⟩:=HI6.out.added hown5 hgrow5; have HI5:=aa hI5; clear hI5 hown5 hgrow5)
       go_wp2_with fail
       go_roundw
       case rel=>exact⟨u,acc++[(lo,hi)],_,f',HI5.out,by omega,by simp; omega,HCS.out⟩
       case measure=>
        rw[HI5.out.scan.len,HI.out.scan.len];omega
structure gr (w : World) (sb : Nat) (rest : List Int) (wr : World) : Prop where
 scan:bD wr sb rest
 res:wr.heap[w.heap.size]? =some (.cells #[.bool false, .bool false, .bool false, .slice none 0 0] 208 (0,0))
 grow:w.grownBy wr (some sb)
 lt:sb<w.heap.size/\w.heap.size<wr.heap.size
theorem gr.start {w:World} {sb:Nat} {t:List Int} (hs:bD w sb t):gr w sb t (w.alloc (.cells #[.bool false, .bool false, .bool false, .slice none 0 0] 208)):=
 ⟨gF hs _,heap_alloc_new _ _,World.grownBy_alloc _ _ _,hs.lt,by simp⟩
theorem gr.scanned {w:World} {sb:Nat} {rest rest':List Int} {wr w1:World} (h:gr w sb rest wr) (hs:bD w1 sb rest') (hg:wr.grownBy w1 (some sb)):gr w sb rest' w1:=by
 obtain⟨_,hr,hgr,h1,h2⟩:=h;refine⟨hs, ?_,grownBy.trans hgr hg,h1,Nat.lt_of_lt_of_le h2 hg.size⟩;rw[hg.block _ h2 (by simp; omega)]; exact hr
theorem gr.alloc {w:World} {sb:Nat} {rest:List Int} {wr:World} (h:gr w sb rest wr) (o:Obj):gr w sb rest (wr.alloc o):=
 h.scanned (gF h.scan _) (World.grownBy_alloc _ _ _)
theorem gr.done {w:World} {sb:Nat} {rest:List Int} {wr W:World} (h:gr w sb rest wr) (hg:wr.grownBy W (some w.heap.size)):bD W sb rest/\w.grownBy W (some sb):=by
 obtain⟨⟨sv,hs1,hs2⟩,hr,hgr,h1,h2⟩:=h;refine⟨⟨sv,by rw[hg.block sb (by omega) (by simp; omega)]; exact hs1,hs2.same (fun k hk=>hg.block k (by omega) (by simp; omega))⟩, ?_⟩;exact⟨hg.os.trans hgr.os,hg.tape.trans hgr.tape,hg.output.trans hgr.output,Nat.le_trans hgr.size hg.size,fun k hk hk2=>(hg.block k (by have:=hgr.size; omega) (by simp; omega)).trans (hgr.block k hk hk2)⟩
def Ct (sb:Nat) (w:World) (e:Ending) (w':World):Prop:=
 ∃a b c x n cp u,e= .returned (.tuple #[.agg #[.bool a, .bool b, .bool c, .slice x n cp], .bool false])/\bD w' sb u/\w.grownBy w' (some sb)
def Cu (sb:Nat) (o:Option (bC×List Int)) (w:World) (e:Ending) (w':World):Prop:=
 match o with
 | some (it,u)=>DW sb it u w e w'
 | none=>Ct sb w e w'
theorem kV {w W:World} {B:Nat} {r:Int} {cap:Nat} (hb:B<=w.heap.size) (hc:1<=cap/\cap<=maxLen) (h:W.heap[w.heap.size]? =(w.alloc (.cells #[.int .i32 r, .int .i32 r] 237)).heap[w.heap.size]?):em (B<= ·) W (.slice (some ⟨w.heap.size,0,none⟩) 1 cap) [(r,r)]:=by
 rw[heap_alloc_new]at h;refine⟨rfl,_,cap,rfl,hc.1,hc.2, .inr ⟨w.heap.size,0,rfl,hb,fun j u hj=> ?_⟩⟩;rw[Nat.zero_add,ac h]
 simpa [kB]using hj
theorem tX (sb:Nat) (r:Int) (t:List Int) (w:World) (h:bD w sb (r::t)) (ht:t.length<1099511627775):Calls Tryz.prog 170 #[.pointer (some ⟨sb,0,none⟩)] w (Cu sb (eY (r::t)) w):=by
 have hlt:=h.lt;have H0:=aa (gr.start h);clear h
 go_enter Tryz.func170,Tryz.ntmps170
 go_wp2_with fail;refine(fp sb r t _ H0.out.scan).mono ?_;rintro e w1 ⟨rfl,h1,hg1⟩;have HI1:=aa (H0.out.scanned h1 hg1);clear h1 hg1 H0
 by_cases h42:r=42
 ·have hi:eY (r::t)=some (Ef,t):=by rw[eY,if_pos h42]
  rw[hi];subst h42;have hres:=HI1.out.res;have r0:w1.cell? ⟨w.heap.size,0,none⟩=some (.bool false):=by rw[ac hres]; rfl
  have r1:w1.cell? ⟨w.heap.size,1,none⟩=some (.bool false):=by rw[ac hres]; rfl
  have r2:w1.cell? ⟨w.heap.size,2,none⟩=some (.bool false):=by rw[ac hres]; rfl
  have r3:w1.cell? ⟨w.heap.size,3,none⟩=some (.slice none 0 0):=by rw[ac hres]; rfl
  have f0:w1.frozen? ⟨w.heap.size,0,none⟩=false:=aj hres;have f1:w1.frozen? ⟨w.heap.size,1,none⟩=false:=aj hres;have f2:w1.frozen? ⟨w.heap.size,2,none⟩=false:=aj hres;have f3:w1.frozen? ⟨w.heap.size,3,none⟩=false:=aj hres;have HR:=aa hres;clear hres;go_wp2_with fail;obtain⟨W,hW⟩: ∃W,W=((((w1.setCell ⟨w.heap.size,0,none⟩ (.bool true)).setCell ⟨w.heap.size,1,none⟩ (.bool false)).setCell ⟨w.heap.size,2,none⟩ (.bool false)).setCell ⟨w.heap.size,3,none⟩ (.slice none 0 0)):=⟨_,rfl⟩
  rw[<-hW];have h4:=jP HR.out (.bool true) (.bool false) (.bool false) (.slice none 0 0);rw[<-hW]at h4;obtain⟨h41,h42⟩:=h4;have m0:W.cell? ⟨w.heap.size,0,none⟩=some (.bool true):=by rw[ac h41]; rfl
  have m1:W.cell? ⟨w.heap.size,1,none⟩=some (.bool false):=by rw[ac h41]; rfl
  have m2:W.cell? ⟨w.heap.size,2,none⟩=some (.bool false):=by rw[ac h41]; rfl
  have m3:W.cell? ⟨w.heap.size,3,none⟩=some (.slice none 0 0):=by rw[ac h41]; rfl
  clear hW;refine bodyPost_ret (v:= .tuple #[.agg #[.bool true, .bool false, .bool false, .slice none 0 0], .bool true]) (by simp[results,Tryz.results170,go_sem,m0,m1,m2,m3]) rfl ?_;obtain⟨hs,hg⟩:=HI1.out.done h42;exact⟨_,rfl,aO.nil _ _ _,hs,hg⟩
 ·have e42:(r == 42)=false:=by simpa using h42
  by_cases h63:r=63
  ·have hi:eY (r::t)=some (EJ,t):=by rw[eY,if_neg h42,if_pos h63]
   rw[hi];subst h63;clear h42;have hres:=HI1.out.res;have r0:w1.cell? ⟨w.heap.size,0,none⟩=some (.bool false):=by rw[ac hres]; rfl
   have r1:w1.cell? ⟨w.heap.size,1,none⟩=some (.bool false):=by rw[ac hres]; rfl
   have r2:w1.cell? ⟨w.heap.size,2,none⟩=some (.bool false):=by rw[ac hres]; rfl
   have r3:w1.cell? ⟨w.heap.size,3,none⟩=some (.slice none 0 0):=by rw[ac hres]; rfl
   have f0:w1.frozen? ⟨w.heap.size,0,none⟩=false:=aj hres;have f1:w1.frozen? ⟨w.heap.size,1,none⟩=false:=aj hres;have f2:w1.frozen? ⟨w.heap.size,2,none⟩=false:=aj hres;have f3:w1.frozen? ⟨w.heap.size,3,none⟩=false:=aj hres;have HR:=aa hres;clear hres;go_wp2_with fail;obtain⟨W,hW⟩: ∃W,W=((((w1.setCell ⟨w.heap.size,0,none⟩ (.bool false)).setCell ⟨w.heap.size,1,none⟩ (.bool true)).setCell ⟨w.heap.size,2,none⟩ (.bool false)).setCell ⟨w.heap.size,3,none⟩ (.slice none 0 0)):=⟨_,rfl⟩
   rw[<-hW];have h4:=jP HR.out (.bool false) (.bool true) (.bool false) (.slice none 0 0);rw[<-hW]at h4;obtain⟨h41,h42⟩:=h4;have m0:W.cell? ⟨w.heap.size,0,none⟩=some (.bool false):=by rw[ac h41]; rfl
   have m1:W.cell? ⟨w.heap.size,1,none⟩=some (.bool true):=by rw[ac h41]; rfl
   have m2:W.cell? ⟨w.heap.size,2,none⟩=some (.bool false):=by rw[ac h41]; rfl
   have m3:W.cell? ⟨w.heap.size,3,none⟩=some (.slice none 0 0):=by rw[ac h41]; rfl
   clear hW;refine bodyPost_ret (v:= .tuple #[.agg #[.bool false, .bool true, .bool false, .slice none 0 0], .bool true]) (by simp[results,Tryz.results170,go_sem,m0,m1,m2,m3]) rfl ?_;obtain⟨hs,hg⟩:=HI1.out.done h42;exact⟨_,rfl,aO.nil _ _ _,hs,hg⟩
  ·have e63:(r == 63)=false:=by simpa using h63
   by_cases h91:r=91
   ·have hi:eY (r::t)=lm t:=by rw[eY,if_neg h42,if_neg h63,if_pos h91]
    have HIi:=aa hi;subst h91;clear h42 h63 hi;go_wp2_with fail
    cases hc:lm t with
    | none=>
     have HCl:=aa hc;clear hc;refine(qr sb t w1 HI1.out.scan ht).mono ?_;rw[HCl.out];rintro e w2 ⟨bn,u,rfl,hs2,hg2⟩;have HI2:=aa (HI1.out.scanned hs2 hg2);clear hs2 hg2;have hres:=HI2.out.res;have r0:w2.cell? ⟨w.heap.size,0,none⟩=some (.bool false):=by rw[ac hres]; rfl
     have r1:w2.cell? ⟨w.heap.size,1,none⟩=some (.bool false):=by rw[ac hres]; rfl
     have r2:w2.cell? ⟨w.heap.size,2,none⟩=some (.bool false):=by rw[ac hres]; rfl
     have r3:w2.cell? ⟨w.heap.size,3,none⟩=some (.slice none 0 0):=by rw[ac hres]; rfl
     have f0:w2.frozen? ⟨w.heap.size,0,none⟩=false:=aj hres;have f1:w2.frozen? ⟨w.heap.size,1,none⟩=false:=aj hres;have f2:w2.frozen? ⟨w.heap.size,2,none⟩=false:=aj hres;have f3:w2.frozen? ⟨w.heap.size,3,none⟩=false:=aj hres;have HR:=aa hres;clear hres;go_wp2_with fail;obtain⟨W,hW⟩: ∃W,W=((((w2.setCell ⟨w.heap.size,0,none⟩ (.bool false)).setCell ⟨w.heap.size,1,none⟩ (.bool false)).setCell ⟨w.heap.size,2,none⟩ (.bool bn)).setCell ⟨w.heap.size,3,none⟩ (.slice none 0 0)):=⟨_,rfl⟩
     rw[<-hW];have h4:=jP HR.out (.bool false) (.bool false) (.bool bn) (.slice none 0 0);rw[<-hW]at h4;obtain⟨h41,h42⟩:=h4;have m0:W.cell? ⟨w.heap.size,0,none⟩=some (.bool false):=by rw[ac h41]; rfl
     have m1:W.cell? ⟨w.heap.size,1,none⟩=some (.bool false):=by rw[ac h41]; rfl
     have m2:W.cell? ⟨w.heap.size,2,none⟩=some (.bool bn):=by rw[ac h41]; rfl
     have m3:W.cell? ⟨w.heap.size,3,none⟩=some (.slice none 0 0):=by rw[ac h41]; rfl
     clear hW;refine bodyPost_ret (v:= .tuple #[.agg #[.bool false, .bool false, .bool bn, .slice none 0 0], .bool false]) (by simp[results,Tryz.results170,go_sem,m0,m1,m2,m3]) rfl ?_;obtain⟨hs,hg⟩:=HI2.out.done h42;rw[HIi.out,HCl.out];exact⟨_,_,_,_,_,_,_,rfl,hs,hg⟩
    | some p=>
     obtain⟨it,u⟩:=p;have HCl:=aa hc;clear hc;refine(qr sb t w1 HI1.out.scan ht).mono ?_;rw[HCl.out];rintro e w2 ⟨v,rfl,hr2,hs2,hg2⟩;obtain⟨_,av,cv,rfl,_⟩:=id hr2;have HR2:=aa hr2;have HI2:=aa (HI1.out.scanned hs2 hg2);clear hs2 hg2 hr2;have hres:=HI2.out.res;have r0:w2.cell? ⟨w.heap.size,0,none⟩=some (.bool false):=by rw[ac hres]; rfl
     have r1:w2.cell? ⟨w.heap.size,1,none⟩=some (.bool false):=by rw[ac hres]; rfl
     have r2:w2.cell? ⟨w.heap.size,2,none⟩=some (.bool false):=by rw[ac hres]; rfl
     have r3:w2.cell? ⟨w.heap.size,3,none⟩=some (.slice none 0 0):=by rw[ac hres]; rfl
     have f0:w2.frozen? ⟨w.heap.size,0,none⟩=false:=aj hres;have f1:w2.frozen? ⟨w.heap.size,1,none⟩=false:=aj hres;have f2:w2.frozen? ⟨w.heap.size,2,none⟩=false:=aj hres;have f3:w2.frozen? ⟨w.heap.size,3,none⟩=false:=aj hres;have HR:=aa hres;clear hres;go_wp2_with fail;obtain⟨W,hW⟩: ∃W,W=((((w2.setCell ⟨w.heap.size,0,none⟩ (.bool it.star)).setCell ⟨w.heap.size,1,none⟩ (.bool it.any)).setCell ⟨w.heap.size,2,none⟩ (.bool it.neg)).setCell ⟨w.heap.size,3,none⟩ (.slice av it.ranges.length cv)):=⟨_,rfl⟩
     rw[<-hW];have h4:=jP HR.out (.bool it.star) (.bool it.any) (.bool it.neg) (.slice av it.ranges.length cv);rw[<-hW]at h4;obtain⟨h41,h42⟩:=h4;have m0:W.cell? ⟨w.heap.size,0,none⟩=some (.bool it.star):=by rw[ac h41]; rfl
     have m1:W.cell? ⟨w.heap.size,1,none⟩=some (.bool it.any):=by rw[ac h41]; rfl
     have m2:W.cell? ⟨w.heap.size,2,none⟩=some (.bool it.neg):=by rw[ac h41]; rfl
     have m3:W.cell? ⟨w.heap.size,3,none⟩=some (.slice av it.ranges.length cv):=by rw[ac h41]; rfl
     clear hW;refine bodyPost_ret (v:= .tuple #[.agg #[.bool it.star, .bool it.any, .bool it.neg, .slice av it.ranges.length cv], .bool true]) (by simp[results,Tryz.results170,go_sem,m0,m1,m2,m3]) rfl ?_;obtain⟨hs,hg⟩:=HI2.out.done h42;rw[HIi.out,HCl.out];have hb1:=HI1.out.lt;refine⟨_,rfl, ?_,hs,hg⟩;have h5:=HR2.out.mono (T:=fun k=>w1.heap.size<=k/\k<w2.heap.size) (fun k h1 h2=>⟨h2,h1⟩) (by omega)
     exact(h5.same (w':=W) (fun k hk=>h42.block k hk.2 (by simp; omega))).weak (fun k hk=>by omega)
   ·have e91:(r == 91)=false:=by simpa using h91
    by_cases h92:r=92
    ·subst h92;clear h42 h63 h91;go_wp2_with fail
     cases t with
     | nil=>
      have hi:eY [92]=none:=rfl;have HIi:=aa hi;clear hi;refine(pB sb w1 HI1.out.scan).mono ?_;rintro e w2 ⟨rfl,h2,hg2⟩;have HI3:=aa (HI1.out.scanned h2 hg2);clear h2 hg2;have HI2:=aa (HI3.out.alloc (.cells #[.int .i32 0, .int .i32 0] 237));have hres:=HI2.out.res;have r0:(w2.alloc (.cells #[.int .i32 0, .int .i32 0] 237)).cell? ⟨w.heap.size,0,none⟩=some (.bool false):=by rw[ac hres]; rfl
      have r1:(w2.alloc (.cells #[.int .i32 0, .int .i32 0] 237)).cell? ⟨w.heap.size,1,none⟩=some (.bool false):=by rw[ac hres]; rfl
      have r2:(w2.alloc (.cells #[.int .i32 0, .int .i32 0] 237)).cell? ⟨w.heap.size,2,none⟩=some (.bool false):=by rw[ac hres]; rfl
      have r3:(w2.alloc (.cells #[.int .i32 0, .int .i32 0] 237)).cell? ⟨w.heap.size,3,none⟩=some (.slice none 0 0):=by rw[ac hres]; rfl
      have f0:(w2.alloc (.cells #[.int .i32 0, .int .i32 0] 237)).frozen? ⟨w.heap.size,0,none⟩=false:=aj hres;have f1:(w2.alloc (.cells #[.int .i32 0, .int .i32 0] 237)).frozen? ⟨w.heap.size,1,none⟩=false:=aj hres;have f2:(w2.alloc (.cells #[.int .i32 0, .int .i32 0] 237)).frozen? ⟨w.heap.size,2,none⟩=false:=aj hres;have f3:(w2.alloc (.cells #[.int .i32 0, .int .i32 0] 237)).frozen? ⟨w.heap.size,3,none⟩=false:=aj hres
      have HR:=aa hres;clear hres;go_wp2_with fail;obtain⟨W,hW⟩: ∃W,W=(((((w2.alloc (.cells #[.int .i32 0, .int .i32 0] 237)).setCell ⟨w.heap.size,0,none⟩ (.bool false)).setCell ⟨w.heap.size,1,none⟩ (.bool false)).setCell ⟨w.heap.size,2,none⟩ (.bool false)).setCell ⟨w.heap.size,3,none⟩ (.slice (some ⟨w2.heap.size,0,none⟩) 1 1)):=⟨_,rfl⟩;rw[<-hW];have h4:=jP HR.out (.bool false) (.bool false) (.bool false) (.slice (some ⟨w2.heap.size,0,none⟩) 1 1)
      rw[<-hW]at h4;obtain⟨h41,h42⟩:=h4;have m0:W.cell? ⟨w.heap.size,0,none⟩=some (.bool false):=by rw[ac h41]; rfl
      have m1:W.cell? ⟨w.heap.size,1,none⟩=some (.bool false):=by rw[ac h41]; rfl
      have m2:W.cell? ⟨w.heap.size,2,none⟩=some (.bool false):=by rw[ac h41]; rfl
      have m3:W.cell? ⟨w.heap.size,3,none⟩=some (.slice (some ⟨w2.heap.size,0,none⟩) 1 1):=by rw[ac h41]; rfl
      clear hW;refine bodyPost_ret (v:= .tuple #[.agg #[.bool false, .bool false, .bool false, .slice (some ⟨w2.heap.size,0,none⟩) 1 1], .bool false]) (by simp[results,Tryz.results170,go_sem,m0,m1,m2,m3]) rfl ?_;obtain⟨hs,hg⟩:=HI2.out.done h42;rw[HIi.out];have hb2:=HI2.out.lt;have hb1:=HI3.out.lt;have hrg:=kV (W:=W) (B:=w.heap.size) (r:=0) (cap:=1) (w:=w2) (by omega) ⟨Nat.le_refl _,by unfold maxLen; omega⟩ (h42.block _ (by simp) (by simp; omega))
      first | exact⟨_,rfl,hrg,hs,hg⟩ | exact⟨_,_,_,_,_,_,_,rfl,hs,hg⟩
     | cons q u=>
      have hi:eY (92::q::u)=some (Dg q,u):=rfl;have HIi:=aa hi;clear hi;refine(fp sb q u w1 HI1.out.scan).mono ?_;rintro e w2 ⟨rfl,h2,hg2⟩;have HI3:=aa (HI1.out.scanned h2 hg2);clear h2 hg2;have HI2:=aa (HI3.out.alloc (.cells #[.int .i32 q, .int .i32 q] 237));have hres:=HI2.out.res;have r0:(w2.alloc (.cells #[.int .i32 q, .int .i32 q] 237)).cell? ⟨w.heap.size,0,none⟩=some (.bool false):=by rw[ac hres]; rfl
      have r1:(w2.alloc (.cells #[.int .i32 q, .int .i32 q] 237)).cell? ⟨w.heap.size,1,none⟩=some (.bool false):=by rw[ac hres]; rfl
      have r2:(w2.alloc (.cells #[.int .i32 q, .int .i32 q] 237)).cell? ⟨w.heap.size,2,none⟩=some (.bool false):=by rw[ac hres]; rfl
      have r3:(w2.alloc (.cells #[.int .i32 q, .int .i32 q] 237)).cell? ⟨w.heap.size,3,none⟩=some (.slice none 0 0):=by rw[ac hres]; rfl
      have f0:(w2.alloc (.cells #[.int .i32 q, .int .i32 q] 237)).frozen? ⟨w.heap.size,0,none⟩=false:=aj hres;have f1:(w2.alloc (.cells #[.int .i32 q, .int .i32 q] 237)).frozen? ⟨w.heap.size,1,none⟩=false:=aj hres;have f2:(w2.alloc (.cells #[.int .i32 q, .int .i32 q] 237)).frozen? ⟨w.heap.size,2,none⟩=false:=aj hres;have f3:(w2.alloc (.cells #[.int .i32 q, .int .i32 q] 237)).frozen? ⟨w.heap.size,3,none⟩=false:=aj hres
      have HR:=aa hres;clear hres;go_wp2_with fail;obtain⟨W,hW⟩: ∃W,W=(((((w2.alloc (.cells #[.int .i32 q, .int .i32 q] 237)).setCell ⟨w.heap.size,0,none⟩ (.bool false)).setCell ⟨w.heap.size,1,none⟩ (.bool false)).setCell ⟨w.heap.size,2,none⟩ (.bool false)).setCell ⟨w.heap.size,3,none⟩ (.slice (some ⟨w2.heap.size,0,none⟩) 1 1)):=⟨_,rfl⟩;rw[<-hW];have h4:=jP HR.out (.bool false) (.bool false) (.bool false) (.slice (some ⟨w2.heap.size,0,none⟩) 1 1)
      rw[<-hW]at h4;obtain⟨h41,h42⟩:=h4;have m0:W.cell? ⟨w.heap.size,0,none⟩=some (.bool false):=by rw[ac h41]; rfl
      have m1:W.cell? ⟨w.heap.size,1,none⟩=some (.bool false):=by rw[ac h41]; rfl
      have m2:W.cell? ⟨w.heap.size,2,none⟩=some (.bool false):=by rw[ac h41]; rfl
      have m3:W.cell? ⟨w.heap.size,3,none⟩=some (.slice (some ⟨w2.heap.size,0,none⟩) 1 1):=by rw[ac h41]; rfl
      clear hW;refine bodyPost_ret (v:= .tuple #[.agg #[.bool false, .bool false, .bool false, .slice (some ⟨w2.heap.size,0,none⟩) 1 1], .bool true]) (by simp[results,Tryz.results170,go_sem,m0,m1,m2,m3]) rfl ?_;obtain⟨hs,hg⟩:=HI2.out.done h42;rw[HIi.out];have hb2:=HI2.out.lt;have hb1:=HI3.out.lt;have hrg:=kV (W:=W) (B:=w.heap.size) (r:=q) (cap:=1) (w:=w2) (by omega) ⟨Nat.le_refl _,by unfold maxLen; omega⟩ (h42.block _ (by simp) (by simp; omega))
      first | exact⟨_,rfl,hrg,hs,hg⟩ | exact⟨_,_,_,_,_,_,_,rfl,hs,hg⟩
    ·have e92:(r == 92)=false:=by simpa using h92
     have hi:eY (r::t)=some (Dg r,t):=by rw[eY,if_neg h42,if_neg h63,if_neg h91,if_neg h92]
     have HIi:=aa hi;clear h42 h63 h91 h92 hi;have HI2:=aa (HI1.out.alloc (.cells #[.int .i32 r, .int .i32 r] 237));have hres:=HI2.out.res;have r0:(w1.alloc (.cells #[.int .i32 r, .int .i32 r] 237)).cell? ⟨w.heap.size,0,none⟩=some (.bool false):=by rw[ac hres]; rfl
     have r1:(w1.alloc (.cells #[.int .i32 r, .int .i32 r] 237)).cell? ⟨w.heap.size,1,none⟩=some (.bool false):=by rw[ac hres]; rfl
     have r2:(w1.alloc (.cells #[.int .i32 r, .int .i32 r] 237)).cell? ⟨w.heap.size,2,none⟩=some (.bool false):=by rw[ac hres]; rfl
     have r3:(w1.alloc (.cells #[.int .i32 r, .int .i32 r] 237)).cell? ⟨w.heap.size,3,none⟩=some (.slice none 0 0):=by rw[ac hres]; rfl
     have f0:(w1.alloc (.cells #[.int .i32 r, .int .i32 r] 237)).frozen? ⟨w.heap.size,0,none⟩=false:=aj hres;have f1:(w1.alloc (.cells #[.int .i32 r, .int .i32 r] 237)).frozen? ⟨w.heap.size,1,none⟩=false:=aj hres;have f2:(w1.alloc (.cells #[.int .i32 r, .int .i32 r] 237)).frozen? ⟨w.heap.size,2,none⟩=false:=aj hres;have f3:(w1.alloc (.cells #[.int .i32 r, .int .i32 r] 237)).frozen? ⟨w.heap.size,3,none⟩=false:=aj hres
     have HR:=aa hres;clear hres;go_wp2_with fail;obtain⟨W,hW⟩: ∃W,W=(((((w1.alloc (.cells #[.int .i32 r, .int .i32 r] 237)).setCell ⟨w.heap.size,0,none⟩ (.bool false)).setCell ⟨w.heap.size,1,none⟩ (.bool false)).setCell ⟨w.heap.size,2,none⟩ (.bool false)).setCell ⟨w.heap.size,3,none⟩ (.slice (some ⟨w1.heap.size,0,none⟩) 1 1)):=⟨_,rfl⟩;rw[<-hW];have h4:=jP HR.out (.bool false) (.bool false) (.bool false) (.slice (some ⟨w1.heap.size,0,none⟩) 1 1)
     rw[<-hW]at h4;obtain⟨h41,h42⟩:=h4;have m0:W.cell? ⟨w.heap.size,0,none⟩=some (.bool false):=by rw[ac h41]; rfl
     have m1:W.cell? ⟨w.heap.size,1,none⟩=some (.bool false):=by rw[ac h41]; rfl
     have m2:W.cell? ⟨w.heap.size,2,none⟩=some (.bool false):=by rw[ac h41]; rfl
     have m3:W.cell? ⟨w.heap.size,3,none⟩=some (.slice (some ⟨w1.heap.size,0,none⟩) 1 1):=by rw[ac h41]; rfl
     clear hW;refine bodyPost_ret (v:= .tuple #[.agg #[.bool false, .bool false, .bool false, .slice (some ⟨w1.heap.size,0,none⟩) 1 1], .bool true]) (by simp[results,Tryz.results170,go_sem,m0,m1,m2,m3]) rfl ?_;obtain⟨hs,hg⟩:=HI2.out.done h42;rw[HIi.out];have hb2:=HI2.out.lt;have hb1:=HI1.out.lt;have hrg:=kV (W:=W) (B:=w.heap.size) (r:=r) (cap:=1) (w:=w1) (by omega) ⟨Nat.le_refl _,by unfold maxLen; omega⟩ (h42.block _ (by simp) (by simp; omega))
     first | exact⟨_,rfl,hrg,hs,hg⟩ | exact⟨_,_,_,_,_,_,_,rfl,hs,hg⟩
def il (S:Nat->Prop) (w:World) (c:List Value) (it:bC):Prop:= ∃v,c=[.bool it.star, .bool it.any, .bool it.neg,v]/\em S w v it.ranges
theorem il.len {S:Nat->Prop} {w:World} (c:List Value) (it:bC) (h:il S w c it):c.length=4:=by obtain⟨v,rfl,_⟩:=h; rfl
def cN (S:Nat->Prop) (w:World) (v:Value) (its:List bC):Prop:=aY S w 4 (il S w) v its
theorem il.move {S T:Nat->Prop} {w w':World} {c:List Value} {it:bC} (h:il S w c it) (hs: ∀k,k<w.heap.size->S k->T k/\w'.heap[k]? =w.heap[k]?):il T w' c it:=by
 obtain⟨v,rfl,hr⟩:=h;refine⟨v,rfl, ?_⟩;have h1:=aO.mono (T:=fun k=>T k/\w'.heap[k]? =w.heap[k]?) hr hs (by omega);exact(h1.same (w':=w') (fun k hk=>hk.2)).weak (fun k hk=>hk.1)
theorem cN.move {S T:Nat->Prop} {w w':World} {v:Value} {its:List bC} (h:cN S w v its) (hs: ∀k,k<w.heap.size->S k->T k/\w'.heap[k]? =w.heap[k]?):cN T w' v its:=by
 obtain⟨cells,h1,h2⟩:=h;have h3:=aO.mono (T:=fun k=>T k/\w'.heap[k]? =w.heap[k]?) h1 hs (by omega);exact⟨cells,(h3.same (w':=w') (fun k hk=>hk.2)).weak (fun k hk=>hk.1),h2.mono fun c x _ hc=>hc.move hs⟩
theorem Tryz.appItems :cJ Tryz.prog 182 208 4 32:=cJ.mk' (z:= .agg #[.bool false, .bool false, .bool false, .slice none 0 0]) Tryz.underlying182 (by kernel_rfl) rfl (by decide) (by decide)
structure gS (w : World) (sb : Nat) (rest : List Int) (its : List bC) (v : Value) (wr : World) : Prop where
 scan:bD wr sb rest
 own: ∃cells,wr.ownsRow w.heap.size 208 4 v its.length cells/\bo (il (fun k=>w.heap.size<=k/\some k≠v.ownBlock) wr) cells its
 grow:w.grownBy wr (some sb)
 lt:sb<w.heap.size
theorem gS.scanned {w:World} {sb:Nat} {rest rest':List Int} {its:List bC} {v:Value} {wr w1:World} (h:gS w sb rest its v wr) (hs:bD w1 sb rest') (hg:wr.grownBy w1 (some sb)):gS w sb rest' its v w1:=by
 obtain⟨_,⟨cells,ho,hr⟩,hgr,hl⟩:=h;refine⟨hs,⟨cells,ho.kept hg ?_,hr.mono fun c x _ hc=>hc.move fun k hk h2=>⟨h2,hg.block k hk (by simp; omega)⟩⟩,grownBy.trans hgr hg,hl⟩
 cases hv:v.ownBlock with
 | none=>exact .inl rfl
 | some k=>right; have:=(ho.lt k hv).1; simp; omega
theorem gS.alloc {w:World} {sb:Nat} {rest:List Int} {its:List bC} {v:Value} {wr:World} (h:gS w sb rest its v wr) (o:Obj):gS w sb rest its v (wr.alloc o):=
 h.scanned (gF h.scan _) (World.grownBy_alloc _ _ _)
theorem gS.added {w:World} {sb:Nat} {rest:List Int} {its:List bC} {v v' rv:Value} {wr w1:World} {it:bC} {cells:List Value} (h:gS w sb rest its v wr)
  (hcells:wr.ownsRow w.heap.size 208 4 v its.length cells/\bo (il (fun k=>w.heap.size<=k/\some k≠v.ownBlock) wr) cells its)
  (hrv:em (fun k=>w.heap.size<=k/\some k≠v.ownBlock) wr rv it.ranges)
  (ho:w1.ownsRow w.heap.size 208 4 v' (its.length+1) (cells++[.bool it.star, .bool it.any, .bool it.neg,rv])) (hg:wr.grownBy w1 v.ownBlock) (hnew: ∀k,v'.ownBlock=some k->v.ownBlock=some k\/wr.heap.size<=k):gS w sb rest (its++[it]) v' w1:=by
 obtain⟨⟨sv,hs1,hs2⟩,_,hgr,hl⟩:=h;obtain⟨ho0,hr0⟩:=hcells;have hsz:=hgr.size;have hmove: ∀k,k<wr.heap.size->(w.heap.size<=k/\some k≠v.ownBlock)->(w.heap.size<=k/\some k≠v'.ownBlock)/\w1.heap[k]? =wr.heap[k]? :=by
  intro k hk ⟨h1,h2⟩;refine⟨⟨h1,fun e=> ?_⟩,hg.block k hk h2⟩
  rcases hnew k e.symm with h3 | h3
  ·exact h2 h3.symm
  ·omega
 have hold: ∀k,k<w.heap.size->w1.heap[k]? =wr.heap[k]? :=fun k hk=>hg.block k (by omega) (fun e=>by have:=(ho0.lt k e.symm).1; omega)
 refine⟨⟨sv,by rw[hold sb hl]; exact hs1,hs2.same fun k hk=>hold k (by omega)⟩,⟨_,by simpa using ho, ?_⟩, ?_,hl⟩
 ·refine bo.snoc (hr0.mono fun c x _ hc=>hc.move hmove) ?_;exact il.move (w:=wr) ⟨rv,rfl,hrv⟩ hmove
 ·exact⟨hg.os.trans hgr.os,hg.tape.trans hgr.tape,hg.output.trans hgr.output,by have:=hg.size; omega,fun k hk hk2=>(hold k hk).trans (hgr.block k hk hk2)⟩
def Cv (sb:Nat) (its:List bC) (w:World) (e:Ending) (w':World):Prop:=
 ∃v,e= .returned (.tuple #[v, .bool true])/\cN (w.heap.size<= ·) w' v its/\w.grownBy w' (some sb)
def Ai (sb:Nat) (o:Option (List bC)) (w:World) (e:Ending) (w':World):Prop:=
 match o with
 | some its=>Cv sb its w e w'
 | none=>e= .returned (.tuple #[.slice none 0 0, .bool false])/\w.grownBy w' (some sb)
theorem qQ (sb:Nat) (rs:List Int) (w:World) (h:bD w sb rs) (ht:rs.length<1099511627775):Calls Tryz.prog 139 #[.pointer (some ⟨sb,0,none⟩)] w (Ai sb (eO rs) w):=by
 have hlt:=h.lt;have H0:=aa h;clear h
 go_enter Tryz.func139,Tryz.ntmps139
 go_wp2_with fail
 go_loopw [4] (fun v wr=> ∃(rest:List Int) (its:List bC),gS w sb rest its v wr/\its.length+rest.length<=rs.length/\eO rs=(eO rest).map (its++ ·)) (fun _ wr=>nJ sb wr)
 case atStart=>exact⟨rs,[],⟨H0.out,⟨[],World.ownsRow_nil _ _ _ _,rfl⟩,grownBy.refl _ _,hlt⟩,by simp,by cases eO rs<;> simp⟩
 case round=>
  obtain⟨rest,its,hI,hal,hc⟩:=hrel;have HI:=aa hI;have HC:=aa hc;clear hc;obtain⟨a,cap,k0,-⟩:=hI.scan.open;clear hI
  cases rest with
  | nil=>
   simp only[List.length_nil]at k0;go_wp2_with fail
   go_ret2
   have hnil:eO rs=some its:=by rw[HC.out]; simp[eO,gC]
   rw[hnil];obtain⟨cells,ho,hr⟩:=HI.out.own;refine⟨u4,rfl,⟨cells,(bi ho).weak (fun k hk=>hk.1),hr.mono fun c x _ hc=>hc.move fun k _ hk=>⟨hk.1,rfl⟩⟩,HI.out.grow⟩
  | cons r t=>
   simp only[List.length_cons]at k0 hal;have ht':t.length<1099511627775:=by omega
   obtain⟨n,hn⟩: ∃n,n=t.length:=⟨_,rfl⟩;rw[<-hn]at k0;have HN:=aa hn;clear hn;go_wp2_with fail
   cases hi:eY (r::t)with
   | none=>
    have HIt:=aa hi;clear hi;refine(tX sb r t wr HI.out.scan ht').mono ?_;rw[HIt.out];rintro e w1 ⟨b0,b1,b2,x,nx,cx,u,rfl,hs1,hg1⟩;have HI1:=aa (HI.out.scanned hs1 hg1);clear hs1 hg1;go_wp2_with fail
    go_ret2
    rw[HC.out,vX (by simp) HIt.out];exact⟨rfl,grownBy.trans HI1.out.grow (World.grownBy_alloc _ _ _)⟩
   | some p=>
    obtain⟨it,u⟩:=p;have hl1:=kg hi;simp only[List.length_cons]at hl1;have HIt:=aa hi;clear hi;refine(tX sb r t wr HI.out.scan ht').mono ?_;rw[HIt.out];rintro e w1 ⟨rv,rfl,hrv,hs1,hg1⟩;obtain⟨_,av,cv,rfl,_⟩:=id hrv;have HI1:=aa ((HI.out.scanned hs1 hg1).alloc (.cells #[.bool it.star, .bool it.any, .bool it.neg, .slice av it.ranges.length cv] 208));have hrv2:em (fun k=>w.heap.size<=k/\some k≠u4.ownBlock) (w1.alloc (.cells #[.bool it.star, .bool it.any, .bool it.neg, .slice av it.ranges.length cv] 208)) (.slice av it.ranges.length cv) it.ranges:=by
     have hsz:=HI.out.grow.size;obtain⟨cells,ho,-⟩:=HI.out.own;have h5:=aO.weak (T:=fun k=>w.heap.size<=k/\some k≠u4.ownBlock) hrv (fun k hk=>⟨by omega,fun e=>by have:=(ho.lt k e.symm).2; omega⟩);exact h5.below (by omega) ((Below.refl _ _).alloc (Nat.le_refl _) _)
    have HRV:=aa hrv2;clear hs1 hg1 hrv hrv2;obtain⟨cells,hcells⟩:=HI1.out.own;have HCE:=aa hcells;clear hcells;go_wp2_with (at_builtin; go_must (refine bK Tryz.appItems rfl _ _ rfl w.heap.size u4 its.length cells rfl (w1.alloc (.cells #[.bool it.star, .bool it.any, .bool it.neg, .slice av it.ranges.length cv] 208)) [.bool it.star, .bool it.any, .bool it.neg, .slice av it.ranges.length cv] _ (by simp; rfl) rfl (by simp; exact⟨rfl,rfl,rfl,rfl⟩) HCE.out.1 (by omega) (by have:=HI1.out.grow.size; omega) ?_); intro v' w5 hown5 hgrow5 _ hnew5; have HI5:=aa (HI1.out.added HCE.out HRV.out hown5 hgrow5 hnew5); clear hown5 hgrow5 hnew5)
    go_roundw
    case rel=>
     refine⟨u,its++[it],HI5.out,by simp; omega, ?_⟩;rw[HC.out,tY (by simp) HIt.out]
     cases eO u<;> simp
    case measure=>
     rw[HI5.out.scan.len,HI.out.scan.len]
     simp; omega
def fD (S:Nat->Prop) (w:World) (c:List Value) (cm:aP):Prop:= ∃v,c=[.bool cm.dbl,v]/\cN S w v cm.items
theorem fD.len {S:Nat->Prop} {w:World} (c:List Value) (cm:aP) (h:fD S w c cm):c.length=2:=by obtain⟨v,rfl,_⟩:=h; rfl
def dw (S:Nat->Prop) (w:World) (v:Value) (cs:List aP):Prop:=aY S w 2 (fD S w) v cs
theorem fD.move {S T:Nat->Prop} {w w':World} {c:List Value} {cm:aP} (h:fD S w c cm) (hs: ∀k,k<w.heap.size->S k->T k/\w'.heap[k]? =w.heap[k]?):fD T w' c cm:=by
 obtain⟨v,rfl,hr⟩:=h;exact⟨v,rfl,hr.move hs⟩
theorem dw.move {S T:Nat->Prop} {w w':World} {v:Value} {cs:List aP} (h:dw S w v cs) (hs: ∀k,k<w.heap.size->S k->T k/\w'.heap[k]? =w.heap[k]?):dw T w' v cs:=by
 obtain⟨cells,h1,h2⟩:=h;have h3:=aO.mono (T:=fun k=>T k/\w'.heap[k]? =w.heap[k]?) h1 hs (by omega);exact⟨cells,(h3.same (w':=w') (fun k hk=>hk.2)).weak (fun k hk=>hk.1),h2.mono fun c x _ hc=>hc.move hs⟩
def kI (z:List Value) (n:Nat):List Value:=(List.replicate n z).flatten
theorem eD (z:List Value) (n:Nat):kI z (n+1)=z++kI z n:=by simp[kI,List.replicate_succ]
theorem rK (z:List Value) (n:Nat):(kI z n).length=n*z.length:=by simp[kI]
theorem rJ (z:List Value): ∀(n j:Nat),j<n*z.length->(kI z n)[j]? =z[j%z.length]?
 | 0,j,h=>by omega
 | n+1,j,h=>by
  rw[eD]
  by_cases hj:j<z.length
  ·rw[List.getElem?_append_left hj,Nat.mod_eq_of_lt hj]
  ·have h2:j-z.length<n*z.length:=by rw[Nat.add_mul]at h; omega
   rw[List.getElem?_append_right (by omega),rJ z n _ h2,Nat.mod_eq_sub_mod (a:=j) (by omega)]
def made (z:List Value) (n:Nat):Array Value:=(kI z n).toArray
theorem Dh (z:List Value) (n:Nat) (hz:0<z.length):madeCells z.toArray (n*z.length)=made z n:=by
 apply Array.ext
 ·simp[madeCells,made,rK]
 ·intro j h1 h2;simp[madeCells]at h1;have:=rJ z n j h1;have hm:j%z.length<z.length:=Nat.mod_lt _ hz;simp only[madeCells,Array.getElem_map,Array.getElem_range,List.size_toArray];rw[getElem!_pos _ _ (by simpa using hm)];simp only[made,List.getElem_toArray];rw[List.getElem?_eq_getElem (by rw[rK]; exact h1),List.getElem?_eq_getElem hm]at this;exact(Option.some.inj this).symm
theorem lN {P:Program} {t e:TypeId} {sz bytes:Nat} {z:Value} (n:Nat) (zl:List Value) (ht:P.underlying t=some (.slice e)) (hi:(P.info? e).map (fun i=>(i.zero,i.size,i.bytes))=some (some z,sz,bytes)) (hz:z.cells=zl.toArray) (hl:zl.length=sz) (hp:0<sz) (hb:bytes<=128) (hn:n<=1099511627775) (w:World):
  (Instr.makeSlice t (.int .i64 (n:Int)) (.int .i64 (n:Int))).run P w= .ok (.slice (some ⟨w.heap.size,0,none⟩) n n) (w.alloc (.cells (made zl n) e)):=by
 obtain⟨i,h1,h2,h3,h4⟩:=info_parts hi;subst h3 h4;have hby:i.bytes*n<=128*1099511627775:=Nat.mul_le_mul hb hn;have hby2:(i.bytes:Int)*(n:Int)<=281474976710656:=by rw[<-Int.natCast_mul]; omega
 have:=run_make (P:=P) w t e i z ht h1 h2 .i64 .i64 (n:Int) (n:Int) (by omega) (by omega) hby2 (by omega);rw[this,hz];simp only[Int.toNat_natCast];rw[show i.size=zl.length by omega,Dh zl n (by omega)]
structure fP (w : World) (cb n k : Nat) (cs : List aP) (wr : World) : Prop where
 box: ∃done,bo (fD (cb< ·) wr) done cs/\wr.heap[cb]? =some (.cells (done++kI [.bool false, .slice none 0 0] (n-k)).toArray 184 (0,0))
 below:Below cb w wr
 lt:cb<wr.heap.size
 len:cs.length=k
theorem fP.grown {w:World} {cb n k:Nat} {cs:List aP} {wr w':World} (h:fP w cb n k cs wr) (hb:Below wr.heap.size wr w'):fP w cb n k cs w':=by
 obtain⟨⟨done,hr,hbx⟩,hbl,hlt,hl⟩:=h;exact⟨⟨done,hr.mono fun c x _ hc=>hc.move fun k hk h2=>⟨h2,hb.block k hk⟩,by rw[hb.block cb hlt]; exact hbx⟩,hbl.trans (hb.mono (by omega)),Nat.lt_of_lt_of_le hlt hb.size,hl⟩
theorem fP.cells {w:World} {cb n k:Nat} {cs:List aP} {wr:World} (h:fP w cb n k cs wr) (hk:k<n):wr.cell? ⟨cb,k*2,none⟩=some (.bool false)/\wr.cell? ⟨cb,k*2+1,none⟩=some (.slice none 0 0)/\(∀j,wr.frozen? ⟨cb,j,none⟩=false):=by
 obtain⟨⟨done,hr,hbx⟩,hbl,hlt,hl⟩:=h;have hdl:=hr.len fD.len;obtain⟨m,hm⟩: ∃m,n-k=m+1:=⟨n-k-1,by omega⟩;rw[hm,eD]at hbx;refine⟨?_, ?_,fun j=>aj hbx⟩
 ·rw[ac hbx,List.getElem?_toArray,List.getElem?_append_right (by omega),show k*2-done.length=0 by omega]; rfl
 ·rw[ac hbx,List.getElem?_toArray,List.getElem?_append_right (by omega),show k*2+1-done.length=1 by omega]; rfl
theorem DC (done:List Value) (a b x:Value) (rest:List Value) (i:Nat) (h:i=done.length):(done++a::b::rest).set i x=done++x::b::rest:=by
 subst h; simp
theorem BQ (done:List Value) (a b x:Value) (rest:List Value) (i:Nat) (h:i=done.length+1):(done++a::b::rest).set i x=done++a::x::rest:=by
 subst h; simp
theorem fP.double {w:World} {cb n k:Nat} {cs:List aP} {wr:World} (h:fP w cb n k cs wr) (hk:k<n):fP w cb n (k+1) (cs++[⟨true,[]⟩]) (wr.setCell ⟨cb,k*2,none⟩ (.bool true)):=by
 obtain⟨⟨done,hr,hbx⟩,hbl,hlt,hl⟩:=h;have hdl:=hr.len fD.len;obtain⟨m,hm⟩: ∃m,n-k=m+1:=⟨n-k-1,by omega⟩;rw[hm,eD]at hbx;refine⟨⟨done++[.bool true, .slice none 0 0], ?_, ?_⟩,hbl.setCell (by simp) _,by simp[World.setCell]; exact hlt,by simp[hl]⟩
 ·refine bo.snoc (hr.mono fun c x _ hc=>hc.move fun j hj h2=>⟨h2,Below.heap_setCell _ _ _ _ (by simp; omega)⟩) ?_;exact⟨_,rfl,aY.nil⟩
 ·simp only[World.setCell,Array.getElem?_modify,if_true,hbx,Option.map_some];rw[show n-(k+1)=m by omega];simp only[List.setIfInBounds_toArray,Option.some.injEq,Obj.cells.injEq,and_true];rw[List.cons_append,List.cons_append,List.nil_append,DC done _ _ _ _ (k*2) (by omega)];simp
theorem fP.items {w:World} {cb n k:Nat} {cs:List aP} {its:List bC} {wr:World} {v:Value} (h:fP w cb n k cs wr) (hk:k<n) (hv:cN (cb< ·) wr v its):fP w cb n (k+1) (cs++[⟨false,its⟩]) (wr.setCell ⟨cb,k*2+1,none⟩ v):=by
 obtain⟨⟨done,hr,hbx⟩,hbl,hlt,hl⟩:=h;have hdl:=hr.len fD.len;obtain⟨m,hm⟩: ∃m,n-k=m+1:=⟨n-k-1,by omega⟩;rw[hm,eD]at hbx;refine⟨⟨done++[.bool false,v], ?_, ?_⟩,hbl.setCell (by simp) _,by simp[World.setCell]; exact hlt,by simp[hl]⟩
 ·refine bo.snoc (hr.mono fun c x _ hc=>hc.move fun j hj h2=>⟨h2,Below.heap_setCell _ _ _ _ (by simp; omega)⟩) ?_;exact⟨_,rfl,hv.move fun j hj h2=>⟨h2,Below.heap_setCell _ _ _ _ (by simp; omega)⟩⟩
 ·simp only[World.setCell,Array.getElem?_modify,if_true,hbx,Option.map_some];rw[show n-(k+1)=m by omega];simp only[List.setIfInBounds_toArray,Option.some.injEq,Obj.cells.injEq,and_true];rw[List.cons_append,List.cons_append,List.nil_append,BQ done _ _ _ _ (k*2+1) (by omega)];simp
theorem mO : ∀(ps:List (List UInt8)) (p:List UInt8),cE (ps++[p])=match cE ps with | none=>none | some cs=>match iV p with | none=>none | some c=>some (cs++[c])
 | [],p=>by simp only[List.nil_append,cE]; cases iV p<;> simp
 | q::ps,p=>by
  simp only[List.cons_append,cE];rw[mO ps p]
  cases iV q<;> simp
  cases cE ps<;> simp
  cases iV p<;> simp
theorem iX (ps qs:List (List UInt8)) (h:cE ps=none):cE (ps++qs)=none:=by
 induction ps with
 | nil=>simp[cE]at h
 | cons p ps ih=>
  simp only[List.cons_append,cE]at h ⊢
  cases hp:iV p with
  | none=>rfl
  | some c=>
   rw[hp]at h;simp only at h
   cases hps:cE ps with
   | none=>simp[ih hps]
   | some cs=>rw[hps]at h; simp at h
theorem rj {P:Program} {src dst e:TypeId} (s:ByteArray) (hs:P.underlying src=some .string) (hd:P.underlying dst=some (.slice e)) (he:P.underlying e=some (.int .i32)) (hl:s.size<=70368744177664) (w:World):
  (convert src dst (.string s)).run P w= .ok (.slice (some ⟨w.heap.size,0,none⟩) (bg (bl s)).length (grownCap w (bg (bl s)).length 0 e))
   (w.drew.alloc (.cells (((bg (bl s)).map (Value.int .i32))++List.replicate (grownCap w (bg (bl s)).length 0 e-(bg (bl s)).length) (Value.int .i32 0)).toArray e)):=by
 have e1:=wE s;have h46:(Conv.runesFrom s s.size 0 #[]).size<=70368744177664:=by rw[e1]; simp; have:=er s.data.toList; rw[<-Lib.size_eq]at this; omega
 have:=run_runes_of_string (P:=P) w src dst e s hs hd he h46;rw[this,e1];simp[xu]
 congr 2
 apply Array.ext'
 simp
theorem BM {w:World} {x:ByteArray} {cap:Nat} (hc:(bg (bl x)).length<=cap) (hm:cap<=maxLen) (zs:List Value):
  bD ((w.alloc (.cells (((bg (bl x)).map (Value.int .i32))++zs).toArray 21)).alloc (.cells #[.slice (some ⟨w.heap.size,0,none⟩) (bg (bl x)).length cap] 200)).drew (w.heap.size+1) (bg (bl x)):=by
 refine⟨_, ?_,by simp,_,cap,rfl,hc,hm, .inr ⟨w.heap.size,0,rfl,by omega,fun j u hj=> ?_⟩⟩
 ·have:=heap_alloc_new (w.alloc (.cells (((bg (bl x)).map (Value.int .i32))++zs).toArray 21)) (.cells #[.slice (some ⟨w.heap.size,0,none⟩) (bg (bl x)).length cap] 200);rw[show(w.alloc (.cells (((bg (bl x)).map (Value.int .i32))++zs).toArray 21)).heap.size=w.heap.size+1 by simp]at this;exact this
 ·have h1:=heap_alloc_new w (.cells (((bg (bl x)).map (Value.int .i32))++zs).toArray 21);have h2:((w.alloc (.cells (((bg (bl x)).map (Value.int .i32))++zs).toArray 21)).alloc (.cells #[.slice (some ⟨w.heap.size,0,none⟩) (bg (bl x)).length cap] 200)).drew.heap[w.heap.size]? =some (.cells (((bg (bl x)).map (Value.int .i32))++zs).toArray 21 (0,0)):=by
   rw[<-h1]; exact Below.heap_alloc _ _ _ (by simp)
  rw[Nat.zero_add,ac h2,List.getElem?_toArray,List.getElem?_append_left]
  ·exact hj
  ·exact(List.getElem?_eq_some_iff.1 hj).1
theorem qo {w:World} {o p:Obj} :Below w.heap.size w ((w.alloc o).alloc p).drew:=(((Below.refl _ _).alloc (Nat.le_refl _) _).alloc (by simp) _).drew
def EG (cs:List aP) (w:World) (e:Ending) (w':World):Prop:= ∃v,e= .returned (.tuple #[v, .bool true])/\dw (w.heap.size<= ·) w' v cs/\Below w.heap.size w w'
def vo (o:Option (List aP)) (w:World) (e:Ending) (w':World):Prop:=
 match o with
 | some cs=>EG cs w e w'
 | none=>e= .returned (.tuple #[.slice none 0 0, .bool false])/\Below w.heap.size w w'
theorem dR (s:ByteArray) (w:World) (he:jl w) (hs:s.size<=9223372036854775807):Calls Tryz.prog 113 #[.string s] w (vo (iw (bl s)) w):=by
 have HE:=aa he;clear he
 by_cases h5:s.size<=512
 ·cases htx:kG (bl s)
  ·have HT:=aa htx;clear htx
   go_enter Tryz.func113,Tryz.ntmps113
   go_wp2_with fail;refine(kS s w HE.out hs).mono ?_;rintro e w1 ⟨rfl,hb1⟩;rw[HT.out];have HB1:=aa hb1;clear hb1;go_wp2_with fail
   go_ret2
   have:iw (bl s)=none:=by unfold iw; rw[if_pos (.inr HT.out)]
   rw[this];exact⟨rfl,HB1.out⟩
  ·have HT:=aa htx;clear htx
   go_enter Tryz.func113,Tryz.ntmps113
   go_wp2_with fail;refine(kS s w HE.out hs).mono ?_;rintro e w1 ⟨rfl,hb1⟩;rw[HT.out];have HB1:=aa hb1;clear hb1;go_wp2_with fail;refine(mA s 47 w1 (HE.out.below HB1.out) (by omega)).mono ?_;rintro e w' ⟨xs,hx,rfl,rfl⟩;have hxl:xs.length<=513:=by
    have h1:(aA 47 (bl s)).length=xs.length:=by rw[<-hx]; simp
    have h2:=dE 47 (bl s);rw[<-am]at h2;omega
   have HX:=aa hx;clear hx
   by_cases h16:xs.length<=16
   ·have hpat:iw (bl s)=cE (xs.map bl):=by
     unfold iw;rw[if_neg (by rw[<-am,HT.out]; simp; omega),<-HX.out,if_neg (by simp; omega)]
    have HP:=aa hpat
    clear hpat
    have hmk:=lN (P:=Tryz.prog) (t:=147) (e:=184) (z:= .agg #[.bool false, .slice none 0 0]) xs.length [.bool false, .slice none 0 0] Tryz.underlying147 (bytes:=32) (sz:=2) (by kernel_rfl) rfl rfl (by omega) (by omega) (by omega);have hxl1:((xs.map Value.string).toArray.size)=xs.length:=by simp
    go_wp2_with fail;clear hmk
    go_loopw [29] (fun i wr=> ∃(k:Nat) (cs:List aP),k<=xs.length/\i= .int .i64 k/\fP (w1.alloc (.cells (xs.map Value.string).toArray 9)) (w1.heap.size+1) xs.length k cs wr/\cE ((xs.map bl).take k)=some cs) (fun i _=>xs.length-(intOf i).toNat)
    case atStart=>
     refine⟨0,[],Nat.zero_le _,rfl,⟨⟨[],rfl, ?_⟩,(Below.refl _ _).alloc (by simp) _,by simp,rfl⟩,by simp[cE]⟩;have:=heap_alloc_new (w1.alloc (.cells (xs.map Value.string).toArray 9)) (.cells (made [.bool false, .slice none 0 0] xs.length) 184)
     simpa [made]using this
    case round=>
     obtain⟨k,cs,hk,rfl,hI,hc⟩:=hrel;have HI:=aa hI;have HC:=aa hc;clear hc
     by_cases hlt:k<xs.length
     ·obtain⟨x,hx⟩: ∃x,xs[k]? =some x:=⟨xs[k],by simp[hlt]⟩;have hcell:wr.cell? ⟨w1.heap.size,k,none⟩=some (.string x):=(hI.below.cell (p:=⟨w1.heap.size,k,none⟩) (by simp)).trans (lL (sr hx));have hxs:x.size<=512:=by have:=ko HX.out hx; omega
      obtain⟨c0,c1,cf⟩:=hI.cells hlt;have cf0:=cf (k*2);have cf1:=cf (k*2+1);have HK:=aa hx;clear hx hI cf;have hsn:cE ((xs.map bl).take (k+1))=match iV (bl x)with | none=>none | some c=>some (cs++[c]):=by
       have e1:(xs.map bl).take (k+1)=(xs.map bl).take k++[bl x]:=by
        rw[List.take_add_one]; simp[HK.out]
       rw[e1,mO,HC.out]
      have HSN:=aa hsn;clear hsn
      by_cases h2:bl x=[42,42]
      ·have e2:(x.toList == [42,42])=true:=by rw[bA,h2]; rfl
       have H2:=aa h2;clear h2;go_wp2_with fail
       go_roundw
       case rel=>exact⟨k+1,cs++[⟨true,[]⟩],by omega,by go_num,HI.out.double hlt,by rw[HSN.out,H2.out]; rfl⟩
       case measure=>simp[intOf]; omega
      ·have e2:(x.toList == [42,42])=false:=by rw[bA]; simpa using h2
       have H2:=aa h2;clear h2;have hcv:=fun w=>rj (P:=Tryz.prog) (src:=9) (dst:=198) (e:=21) x Tryz.underlying9 Tryz.underlying198 Tryz.underlying21 (by omega) w
       have hrl:=er (bl x);rw[<-am]at hrl;have hcg:=grownCap_ge wr (bg (bl x)).length 0 21;have hcm:=grownCap_le_maxLen wr (bg (bl x)).length 0 21 (by unfold maxLen; omega);have HSC:=aa (BM (w:=wr) hcg hcm (List.replicate (grownCap wr (bg (bl x)).length 0 21-(bg (bl x)).length) (Value.int .i32 0)));clear hcg hcm;go_wp2_with fail;clear hcv
       cases hit:eO (bg (bl x))with
       | none=>
        have HIt:=aa hit;clear hit;refine(qQ _ _ _ HSC.out (by omega)).mono ?_;rw[HIt.out];rintro e w3 ⟨rfl,hg3⟩;have hb3:Below wr.heap.size wr w3:=grownBy.below qo hg3 (by omega) (by simp; omega);have HI3:=aa (HI.out.grown hb3);clear hg3 hb3;go_wp2_with fail
        go_ret2
        have hnone:cE ((xs.map bl).take (k+1))=none:=by rw[HSN.out,iV,if_neg H2.out,HIt.out]
        have:iw (bl s)=none:=by
         rw[HP.out,<-List.take_append_drop (k+1) (xs.map bl)];exact iX _ _ hnone
        rw[this];exact⟨rfl,ag (ag HB1.out ((Below.refl _ _).alloc (Nat.le_refl _) _)) (by simpa using HI3.out.below)⟩
       | some its=>
        have HIt:=aa hit;clear hit;refine(qQ _ _ _ HSC.out (by omega)).mono ?_;rw[HIt.out];rintro e w3 ⟨v,rfl,hv3,hg3⟩;have hb3:Below wr.heap.size wr w3:=grownBy.below qo hg3 (by omega) (by simp; omega);have HI3:=aa (HI.out.grown hb3);have hcblt:=HI.out.lt;have HV3:=aa (cN.move (T:=(w1.heap.size+1< ·)) (w':=w3) hv3 (fun j hj h2=>⟨by simp at h2; omega,rfl⟩))
        obtain⟨av,cv,rfl,hnv,hmv,-⟩:=hv3.shape il.len;clear hg3 hb3 hv3;obtain⟨d0,d1,df⟩:=HI3.out.cells hlt;have df1:=df (k*2+1);clear df c0 c1 cf0 cf1 hcell
        by_cases hn0:its.length=0
        ·have e0:((its.length:Int) == 0)=true:=by simpa using hn0
         have hnil:its=[]:=List.eq_nil_of_length_eq_zero hn0;have HN:=aa hnil;clear hnil hn0;go_wp2_with fail
         go_ret2
         have hnone:cE ((xs.map bl).take (k+1))=none:=by rw[HSN.out,iV,if_neg H2.out,HIt.out,HN.out]; rfl
         have:iw (bl s)=none:=by
          rw[HP.out,<-List.take_append_drop (k+1) (xs.map bl)];exact iX _ _ hnone
         rw[this];exact⟨rfl,ag (ag HB1.out ((Below.refl _ _).alloc (Nat.le_refl _) _)) (by simpa using HI3.out.below)⟩
        ·have e0:((its.length:Int) == 0)=false:=by simpa using hn0
         have hnil:its≠[]:=fun e=>hn0 (by rw[e]; rfl)
         have HN:=aa hnil;clear hnil hn0;go_wp2_with fail
         go_roundw
         case rel=>exact⟨k+1,cs++[⟨false,its⟩],by omega,by go_num,HI3.out.items hlt HV3.out,by rw[HSN.out,iV,if_neg H2.out,HIt.out]; simp[HN.out]⟩
         case measure=>simp[intOf]; omega
     ·obtain rfl:k=xs.length:=by omega
      clear hI;go_wp2_with fail
      go_ret2
      have:iw (bl s)=some cs:=by
       rw[HP.out,<-HC.out,List.take_of_length_le (by simp)]
      rw[this];obtain⟨⟨done,hr,hbx⟩,hbl,hlt2,hl⟩:=HI.out;have hsz1:=HB1.out.size;refine⟨.slice (some ⟨w1.heap.size+1,0,none⟩) cs.length cs.length,by rw[hl]; rfl,⟨done,⟨by rw[hr.len fD.len],_,_,rfl,Nat.le_refl _,by rw[hl]; unfold maxLen; omega, .inr ⟨w1.heap.size+1,0,rfl,by omega,fun j u hj=> ?_⟩⟩,hr.mono fun c x _ hc=>hc.move fun j _ hj=>⟨by omega,rfl⟩⟩,ag (ag HB1.out ((Below.refl _ _).alloc (Nat.le_refl _) _)) (by simpa using hbl)⟩
      rw[Nat.zero_add,ac hbx,List.getElem?_toArray,List.getElem?_append_left (List.getElem?_eq_some_iff.1 hj).1];exact hj
   ·go_wp2_with fail
    go_ret2
    have:iw (bl s)=none:=by
     unfold iw;rw[if_neg (by rw[<-am,HT.out]; simp; omega),<-HX.out,if_pos (by simp; omega)]
    rw[this];exact⟨rfl,ag HB1.out ((Below.refl _ _).alloc (Nat.le_refl _) _)⟩
 ·go_enter Tryz.func113,Tryz.ntmps113
  go_wp2_with fail
  go_ret2
  have:iw (bl s)=none:=by unfold iw; rw[if_pos (.inl (by rw[<-am]; omega))]
  rw[this];exact⟨rfl,Below.refl _ _⟩
theorem mU (lo hi r:Int) (pb:Nat) (w:World) (hr:w.cell? ⟨pb,0,none⟩=some (.int .i32 r)):
  Calls Tryz.prog 173 #[.agg #[.int .i32 lo, .int .i32 hi], .pointer (some ⟨pb,0,none⟩)] w fun e w'=>e= .returned (.bool (Ab r (lo,hi)))/\Below w.heap.size w w':=by
 have hlt:=ay hr;simp only at hlt;have hne: ¬pb=w.heap.size:=by omega
 by_cases h1:lo<=r
 ·go_enter Tryz.func173,Tryz.ntmps173
  go_wp2
  go_ret;refine⟨au ?_,(Below.refl _ _).alloc (Nat.le_refl _) _⟩;simp[Ab,h1]
 ·have e1:decide (lo<=r)=false:=by simpa using h1
  go_enter Tryz.func173,Tryz.ntmps173
  go_wp2
  go_ret;refine⟨au ?_,(Below.refl _ _).alloc (Nat.le_refl _) _⟩;simp[Ab]; omega
def pU (r:Int):List (Int×Int)->Nat->Int
 | [],_=> -1
 | x::t,k=>if Ab r x then(k:Int)else pU r t (k+1)
theorem tT (r:Int): ∀(rs:List (Int×Int)) (k:Nat),decide (0<=pU r rs k)=rs.any (Ab r)
 | [],_=>by simp[pU]
 | x::t,k=>by
  unfold pU
  by_cases h:Ab r x=true
  ·simp[h]
  ·have h':Ab r x=false:=by simpa using h
   rw[if_neg h,tT r t (k+1)]; simp[h']
theorem qL : ∀ {rs:List (Int×Int)} {k:Nat} {x:Int×Int},rs[k]? =some x->(kB rs)[k*2]? =some (.int .i32 x.1)/\(kB rs)[k*2+1]? =some (.int .i32 x.2)
 | [],k,x,h=>by simp at h
 | y::rs,0,x,h=>by simp at h; subst h; exact⟨rfl,rfl⟩
 | y::rs,k+1,x,h=>by
  have:=qL (rs:=rs) (k:=k) (x:=x) (by simpa using h);rw[show(k+1)*2=k*2+1+1 by omega];simp only[kB,List.flatMap_cons,List.cons_append,List.nil_append,List.getElem?_cons_succ];exact this
theorem qO {r:Int} {rs:List (Int×Int)} {k:Nat} {x:Int×Int} (h:rs[k]? =some x):pU r (rs.drop k) k=if Ab r x then(k:Int)else pU r (rs.drop (k+1)) (k+1):=by
 obtain⟨hk,rfl⟩:=List.getElem?_eq_some_iff.1 h;rw[List.drop_eq_getElem_cons hk,pU]
theorem pW (S:Nat->Prop) (rs:List (Int×Int)) (r:Int) (pb:Nat) (v:Value) (w:World) (hv:em S w v rs) (hr:w.cell? ⟨pb,0,none⟩=some (.int .i32 r)):
  Calls Tryz.prog 193 #[v, .func (.func 173) #[] #[.pointer (some ⟨pb,0,none⟩)]] w fun e w'=>e= .returned (.int .i64 (pU r rs 0))/\Below w.heap.size w w':=by
 obtain⟨hl,a,cap,rfl,hn,hm,h0⟩:=hv;have H0:=aa h0;have HR:=aa hr;clear h0 hl hr;unfold maxLen at hm
 go_enter Tryz.func193,Tryz.ntmps193
 go_wp2_with fail
 go_loopw [8] (fun i wr=> ∃k:Nat,k<=rs.length/\i= .int .i64 k/\Below w.heap.size w wr/\pU r rs 0=pU r (rs.drop k) k) (fun i _=>rs.length-(intOf i).toNat)
 case atStart=>exact⟨0,Nat.zero_le _,rfl,Below.refl _ _,rfl⟩
 case round=>
  obtain⟨k,hk,rfl,hb,hc⟩:=hrel;have HB:=aa hb;have HC:=aa hc;clear hb hc
  by_cases hlt:k<rs.length
  ·obtain⟨⟨lo,hi⟩,hx⟩: ∃x,rs[k]? =some x:=⟨rs[k],by simp[hlt]⟩;obtain⟨b,o,rfl,-,hcl⟩:=H0.out.resolve_left (by omega);obtain⟨g1,g2⟩:=qL hx;have q1:=hcl _ _ g1;have q2:=hcl _ _ g2;have c1:wr.cell? ⟨b,o+k*2,none⟩=some (.int .i32 lo):=(HB.out.cell (p:=⟨b,o+k*2,none⟩) (ay q1)).trans q1;have c2:wr.cell? ⟨b,o+k*2+1,none⟩=some (.int .i32 hi):=by
    have:=(HB.out.cell (p:=⟨b,o+(k*2+1),none⟩) (ay q2)).trans q2;rw[show o+k*2+1=o+(k*2+1) by omega]; exact this
   have hr2:wr.cell? ⟨pb,0,none⟩=some (.int .i32 r):=(HB.out.cell (p:=⟨pb,0,none⟩) (ay HR.out)).trans HR.out;have HR2:=aa hr2;have HX:=aa hx;clear hcl g1 g2 q1 q2 hr2 hx
   cases hin:Ab r (lo,hi)
   ·have HIN:=aa hin;clear hin;go_wp2_with (go_at_call 173; refine(mU lo hi r pb _ HR2.out).mono ?_; rintro e w1 ⟨rfl,hb1⟩; rw[HIN.out]; have HB1:=aa hb1; clear hb1)
    go_roundw
    case rel=>exact⟨k+1,by omega,by go_num,ag HB.out HB1.out,by rw[HC.out,qO HX.out,HIN.out]; rfl⟩
    case measure=>simp[intOf]; omega
   ·have HIN:=aa hin;clear hin;go_wp2_with (go_at_call 173; refine(mU lo hi r pb _ HR2.out).mono ?_; rintro e w1 ⟨rfl,hb1⟩; rw[HIN.out]; have HB1:=aa hb1; clear hb1);go_ret;exact⟨bp (by rw[HC.out,qO HX.out,HIN.out]; rfl),ag HB.out HB1.out⟩
  ·go_wp2_with fail;go_ret;exact⟨bp (by rw[HC.out,List.drop_eq_nil_of_le (by omega)]; rfl),HB.out⟩
theorem mg (S:Nat->Prop) (rs:List (Int×Int)) (r:Int) (pb:Nat) (v:Value) (w:World) (hv:em S w v rs) (hr:w.cell? ⟨pb,0,none⟩=some (.int .i32 r)):
  Calls Tryz.prog 172 #[v, .func (.func 173) #[] #[.pointer (some ⟨pb,0,none⟩)]] w fun e w'=>e= .returned (.bool (rs.any (Ab r)))/\Below w.heap.size w w':=by
 have HV:=aa hv;have HR:=aa hr;clear hv hr
 go_enter Tryz.func172,Tryz.ntmps172
 go_wp2_with fail;refine(pW S rs r pb v w HV.out HR.out).mono ?_;rintro e w1 ⟨rfl,hb1⟩;have HB:=aa hb1;clear hb1;go_wp2_with fail;go_ret;exact⟨au (tT r rs 0),HB.out⟩
theorem ja (S:Nat->Prop) (it:bC) (r:Int) (v:Value) (w:World) (hv:em S w v it.ranges):
  Calls Tryz.prog 143 #[.agg #[.bool it.star, .bool it.any, .bool it.neg,v], .int .i32 r] w fun e w'=>e= .returned (.bool (dX it r))/\Below w.heap.size w w':=by
 obtain⟨a,cap,rfl⟩: ∃a cap,v= .slice a it.ranges.length cap:=by obtain⟨_,a,cap,h,_⟩:=hv; exact⟨a,cap,h⟩
 have HV:=aa hv;clear hv
 cases hany:it.any
 ·have HA:=aa hany;clear hany;have hbl:Below w.heap.size w ((w.alloc (.cells #[.bool it.star, .bool false, .bool it.neg, .slice a it.ranges.length cap] 208)).alloc (.cells #[.int .i32 r] 21)):=((Below.refl _ _).alloc (Nat.le_refl _) _).alloc (by simp) _;have HBL:=aa hbl;clear hbl
  go_enter Tryz.func143,Tryz.ntmps143
  go_wp2_with fail;refine(mg S it.ranges r (w.heap.size+1) _ _ (aO.below HV.out (by omega) HBL.out) (by simp)).mono ?_;rintro e w1 ⟨rfl,hb1⟩;have hc2:w1.cell? ⟨w.heap.size,2,none⟩=some (.bool it.neg):=by
   rw[hb1.cell (p:=⟨w.heap.size,2,none⟩) (by simp; omega)]; simp
  have HB:=aa hb1;clear hb1;go_wp2_with fail;go_ret;refine⟨au ?_,ag HBL.out HB.out⟩;unfold dX;rw[HA.out]
  cases it.ranges.any (Ab r)<;> cases it.neg<;> rfl
 ·have HA:=aa hany;clear hany
  go_enter Tryz.func143,Tryz.ntmps143
  go_wp2_with fail;go_ret;refine⟨au ?_,((Below.refl _ _).alloc (Nat.le_refl _) _).alloc (by simp) _⟩;simp[dX,HA.out]
theorem lF (it:bC) (v:Value) (w:World):Calls Tryz.prog 142 #[.agg #[.bool it.star, .bool it.any, .bool it.neg,v]] w fun e w'=>e= .returned (.bool it.star)/\Below w.heap.size w w':=by
 go_enter Tryz.func142,Tryz.ntmps142
 go_wp2
 go_ret;exact⟨rfl,(Below.refl _ _).alloc (Nat.le_refl _) _⟩
theorem mN (c:aP) (v:Value) (w:World):Calls Tryz.prog 115 #[.agg #[.bool c.dbl,v]] w fun e w'=>e= .returned (.bool c.dbl)/\Below w.heap.size w w':=by
 go_enter Tryz.func115,Tryz.ntmps115
 go_wp2
 go_ret;exact⟨rfl,(Below.refl _ _).alloc (Nat.le_refl _) _⟩
end Go.Proofs.YtnjkpcalgoefhaaGreatDoor
