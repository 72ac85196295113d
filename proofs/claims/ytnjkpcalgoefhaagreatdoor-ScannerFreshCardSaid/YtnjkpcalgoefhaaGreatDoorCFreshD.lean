/- Texts of this proof, one after the other: ScnO, PatA, PatB, PatC, PatD, PatE, PatF, DivA, DivB, DivC, DivD. -/
import Derived.Test.YtnjkpcalgoefhaaGreatDoorCFreshC
set_option maxRecDepth 100000
set_option maxHeartbeats 8000000
namespace Go.Proofs.YtnjkpcalgoefhaaGreatDoor
open Go Go.RowKit Go.Maps
theorem Tryz.appFiles :cX Tryz.prog 22 27 7 88:=cX.mk' (z:=mM) Tryz.underlying22 (by kernel_rfl) rfl (by decide) (by decide)
theorem ix {a:Option Addr} {n c:Nat} {f:au} : ∀u∈cu (.slice a n c) f,u.oneCell'=true:=by
 intro u hu;simp only[cu,List.mem_cons,List.not_mem_nil,or_false]at hu
 rcases hu with rfl | rfl | rfl | rfl | rfl | rfl | rfl<;> rfl
theorem cE.hitA {S:Nat->Prop} {W w:World} {mb:Nat} {fs:List au} (h:cE S W w mb fs) {p:ByteArray} (hp:p.size<=maxLen) {f:au} (hf:dx fs p=some f):
  ∃v,ay S W v f.parts/\cS f/\ ∀w':World,w'.heap[mb]? =w.heap[mb]? ->(Instr.lookup 90 (.map (some mb)) (.string p) true).run Tryz.prog w'= .ok (.tuple #[dV v f, .bool true]) w':=by
 obtain⟨xs,rfl,h2,h3⟩:=h;obtain⟨v,hv,rfl⟩:=nB hf;refine⟨v,(h3 _ hv).1,(h3 _ hv).2,fun w' hw=> ?_⟩;have:=(h2.same hw).is.hit cz oJ (cG hp) (val:=dV v f) (List.mem_map.2 ⟨(v,f),hv,rfl⟩) true
 simpa using this
theorem cD.nvlt {W0 w:World} {base cb kb:Nat} {q:fI} {nv:Value} {prev:List au} {s:iH} (h:cD W0 w base cb kb q nv prev s): ∀i,nv.ownBlock=some i->i<w.heap.size:=fun i hi=>by
 obtain⟨ys,_,h3,_⟩:=h.col.news;exact(h3.lt i hi).2
theorem ky {n:Nat} (h:n<=9223372036854775807):(Lit.int .i64 (n:Int)).wf=true:=by
 have e1:IntKind.i64.max=9223372036854775807:=by decide
 have e2:IntKind.i64.min= -9223372036854775808:=by decide
 simp only[Lit.wf,Bool.and_eq_true,decide_eq_true_eq,e1,e2];omega
theorem tT {tm:Int} {prev:List au} {c:cR} {s:iH} {e:aX} (hk: ¬e.kind=1):gG tm prev c s e=⟨s.files++[⟨e.path,e.kind,e.mode,e.time,(e.data.length:Int),e.link,[]⟩],s.known,s.news,s.read,s.kept⟩:=by
 unfold gG;rw[if_neg hk];have hp:cV tm prev c e=[]:=by unfold cV; rw[if_neg hk]
 have h2:dw tm prev c e=⟨e.path,e.kind,e.mode,e.time,(e.data.length:Int),e.link,[]⟩:=congrArg (fun ps=>(⟨e.path,e.kind,e.mode,e.time,(e.data.length:Int),e.link,ps⟩:au)) hp;rw[h2]
theorem tS {tm:Int} {prev:List au} {c:cR} {s:iH} {e:aX} {g:au} (hk:e.kind=1) (hf:dx prev e.path=some g) (ht:eG tm g e=true):gG tm prev c s e=⟨s.files++[⟨e.path,e.kind,e.mode,e.time,(e.data.length:Int),e.link,g.parts⟩],s.known,s.news,s.read,s.kept+1⟩:=by
 have htr:jS tm prev e=true:=by unfold jS; rw[hf]; simp[hk,ht]
 have hp:cV tm prev c e=g.parts:=by unfold cV; rw[if_pos hk,hf]; simp[ht]
 have h2:dw tm prev c e=⟨e.path,e.kind,e.mode,e.time,(e.data.length:Int),e.link,g.parts⟩:=congrArg (fun ps=>(⟨e.path,e.kind,e.mode,e.time,(e.data.length:Int),e.link,ps⟩:au)) hp;unfold gG;rw[if_pos hk,if_pos htr,h2]
theorem nj {tm:Int} {prev:List au} {c:cR} {s:iH} {e:aX} (hk:e.kind=1) (hf: ∀g,dx prev e.path=some g->eG tm g e=false):gG tm prev c s e=⟨s.files++[⟨e.path,e.kind,e.mode,e.time,(e.data.length:Int),e.link,(bF c e.data).map bd⟩],((bF c e.data).foldl bo (s.known,s.news)).1,((bF c e.data).foldl bo (s.known,s.news)).2,s.read+1,s.kept⟩:=by
 have htr:jS tm prev e=false:=by
  unfold jS
  cases h:dx prev e.path with
  | none=>simp
  | some g=>simp[hf g h]
 have hp:cV tm prev c e=(bF c e.data).map bd:=by
  refine mh ?_;unfold lm;rw[htr]; simp[hk]
 have h2:dw tm prev c e=⟨e.path,e.kind,e.mode,e.time,(e.data.length:Int),e.link,(bF c e.data).map bd⟩:=congrArg (fun ps=>(⟨e.path,e.kind,e.mode,e.time,(e.data.length:Int),e.link,ps⟩:au)) hp;unfold gG;rw[if_pos hk,htr,h2];simp
def zT (W0:World) (base cb kb:Nat) (q:fI) (prev:List au) (s':iH) (w:World) (e:Ending) (w':World):Prop:=
 ∃fv' nv' rd' kp',e= .returned (.int .i64 0)/\cD W0 w' base cb kb {q with fv:=fv',rd:=rd',kp:=kp'} nv' prev s'/\Below base w w'
theorem mF (S:Nat->Prop) (tm:Int) (f:au) (pv dv:Value) (e:aX) (b:Bool) (w:World) (hf:cS f) (hp:ay S w pv f.parts) (hd:bP S w dv e.data) (he:jl e) (h:eG tm f e=b):
  Calls Tryz.prog 15 #[.int .i64 tm,dV pv f,pH dv e] w fun x w'=>x= .returned (.bool b)/\Below w.heap.size w w':=by
 rw[<-h]; exact qE S tm f pv dv e w hf hp hd he
theorem ve (W0:World) (base cb kb:Nat) (q:fI) (nv dv:Value) (prev:List au) (s:iH) (e:aX) (w:World) (h:cD W0 w base cb kb q nv prev s) (hd:bP (· <base) w dv e.data) (hok:jl e) (hv:dC e=true) (hc:dA q.cut=true) (hs:q.cut.seed<18446744073709551616) (he:gB w)
  (hcb:base<=cb) (hkb:base<=kb) (hbz:base<=w.heap.size) (h6:6<=base) (hn:s.news.length<10000000000) (hfl:s.files.length<=4096) (hrl:s.read<=4096) (hkl:s.kept<=4096) (hpl: ∀f∈prev,f.parts.length<=1048576):
  Calls Tryz.prog 41 #[.pointer (some ⟨cb,0,none⟩),pH dv e] w (zT W0 base cb kb q prev (gG q.at0 prev q.cut s e) w):=by
 obtain⟨_,da,dcap,rfl,hdc,hdm,-⟩:=id hd;unfold maxLen at hdm;have HH:=aa h;have HD:=aa hd;have HE:=aa he;have HOK:=aa hok;have HV:=aa hv;have HPL:=aa hpl;have hcl:=lt_of_block h.col.box;obtain⟨zs,hzs,hzr,hzd⟩:=h.files.row;have HFL:=aa (show ∀i,q.fv.ownBlock=some i->i<w.heap.size from fun i hi=>(hzr.lt i hi).2);clear h hd he hok hv hpl hzs hzr hzd;obtain⟨dl,hdl⟩: ∃dl,dl=e.data.length:=⟨_,rfl⟩
 rw[<-hdl]at hdc HD ⊢;have HDL:=aa hdl;clear hdl;obtain⟨W,hW⟩: ∃W,W=(w.alloc (.cells #[.string e.path, .int .i64 e.kind, .int .i64 e.mode, .int .i64 e.time, .slice da dl dcap, .string e.link] 30)).alloc (.cells #[.string e.path, .int .i64 e.kind, .int .i64 e.mode, .int .i64 e.time, .int .i64 (dl:Int), .string e.link, .slice none 0 0] 27):=⟨_,rfl⟩;have HBW:=aa (show Below w.heap.size w W by rw[hW]; exact((Below.refl _ _).alloc (Nat.le_refl _) _).alloc (by simp) _)
 have HX:=aa (show W.heap[w.heap.size]? =some (.cells #[.string e.path, .int .i64 e.kind, .int .i64 e.mode, .int .i64 e.time, .slice da dl dcap, .string e.link] 30 (0,0)) by rw[hW]; exact jY (heap_alloc_new w _) _);have HY:=aa (show W.heap[w.heap.size+1]? =some (.cells #[.string e.path, .int .i64 e.kind, .int .i64 e.mode, .int .i64 e.time, .int .i64 (dl:Int), .string e.link, .slice none 0 0] 27 (0,0)) by rw[hW]; exact heap_alloc2_new w _ _)
 have HSZ:=aa (show W.heap.size=w.heap.size+2 by rw[hW]; simp);unfold pH
 go_enter Tryz.func41,Tryz.ntmps41
 go_upto_region 2 with fail
 change Code.wp _ _ _ _ ((w.alloc (.cells #[.string e.path, .int .i64 e.kind, .int .i64 e.mode, .int .i64 e.time, .slice da dl dcap, .string e.link] 30)).alloc (.cells #[.string e.path, .int .i64 e.kind, .int .i64 e.mode, .int .i64 e.time, .int .i64 (dl:Int), .string e.link, .slice none 0 0] 27))
 rw[<-hW];clear hW;have HT0:=aa (HH.out.below HBW.out hbz);have HE0:=aa (HE.out.below HBW.out)
 by_cases hk:e.kind=1
 ·have hk2:(e.kind == 1)=true:=by simp[hk]
  have HK:=aa hk;clear hk;have x1:=af (k:=1) HX.out;simp only[List.getElem?_toArray,cw]at x1
  go_upto_region 3 with fail
  obtain⟨g,fa,fl,fc,ob,hlk,hcase⟩: ∃(g:au) (fa:Option Addr) (fl fc:Nat) (ob:Bool),(∀w':World,w'.heap[q.mb]? =W.heap[q.mb]? ->(Instr.lookup 90 (.map (some q.mb)) (.string e.path) true).run Tryz.prog w'= .ok (.tuple #[.agg #[.string g.path, .int .i64 g.kind, .int .i64 g.mode, .int .i64 g.time, .int .i64 g.size, .string g.link, .slice fa fl fc], .bool ob]) w')/\
    ((ob=true/\dx prev e.path=some g/\ay (· <base) W (.slice fa fl fc) g.parts/\cS g)\/(ob=false/\dx prev e.path=none)):=by
   cases hf:dx prev e.path with
   | some f=>
    obtain⟨fpv,hfp,hfo,hlk⟩:=HT0.out.before.hitA HOK.out.pth hf;obtain⟨fa,fc,rfl,-,-,-⟩:=aT.shape hfp dH.len;exact⟨f,fa,_,fc,true,hlk, .inl ⟨rfl,rfl,hfp.old HT0.out.old,hfo⟩⟩
   | none=>exact⟨⟨⟨#[]⟩,0,0,0,0,⟨#[]⟩,[]⟩,none,0,0,false,fun w' hw=>(HT0.out.before.same hw).miss HOK.out.pth hf, .inr ⟨rfl,rfl⟩⟩
  have HCASE:=aa hcase;obtain⟨W5,hW5⟩: ∃W5:World,W5=W.drew:=⟨_,rfl⟩;have HB5:=aa (show Below W.heap.size W W5 by rw[hW5]; exact(Below.refl _ _).drew);have HX5:=aa ((HB5.out.block _ (lt_of_block HX.out)).trans HX.out);have HY5:=aa ((HB5.out.block _ (lt_of_block HY.out)).trans HY.out);have HT5:=aa (HT0.out.below HB5.out (by have:=HSZ.out; omega));have HBX5:=aa HT5.out.col.box
  have k7:=af (k:=7) HBX5.out;have x0:=af (k:=0) HX5.out;simp only[bN,bR,List.cons_append,List.nil_append,List.getElem?_toArray,cw]at x0 k7;have HS5:=aa (show W5.cell? ⟨cb,7,none⟩=some (.map (some q.mb))/\W5.cell? ⟨w.heap.size,0,none⟩=some (.string e.path)/\(Instr.lookup 90 (.map (some q.mb)) (.string e.path) true).run Tryz.prog W5= .ok (.tuple #[.agg #[.string g.path, .int .i64 g.kind, .int .i64 g.mode, .int .i64 g.time, .int .i64 g.size, .string g.link, .slice fa fl fc], .bool ob]) W5 from⟨k7,x0,hlk W5 (by rw[hW5]; rfl)⟩)
  have hal:=(Below.refl W5.heap.size W5).alloc (Nat.le_refl _) (.cells #[.string ⟨#[]⟩, .int .i64 0, .int .i64 0, .int .i64 0, .int .i64 0, .string ⟨#[]⟩, .slice none 0 0] 27);have HSA:=aa (show(W5.alloc (.cells #[.string ⟨#[]⟩, .int .i64 0, .int .i64 0, .int .i64 0, .int .i64 0, .string ⟨#[]⟩, .slice none 0 0] 27)).cell? ⟨cb,7,none⟩=some (.map (some q.mb))/\(W5.alloc (.cells #[.string ⟨#[]⟩, .int .i64 0, .int .i64 0, .int .i64 0, .int .i64 0, .string ⟨#[]⟩, .slice none 0 0] 27)).cell? ⟨w.heap.size,0,none⟩=some (.string e.path)/\(Instr.lookup 90 (.map (some q.mb)) (.string e.path) true).run Tryz.prog (W5.alloc (.cells #[.string ⟨#[]⟩, .int .i64 0, .int .i64 0, .int .i64 0, .int .i64 0, .string ⟨#[]⟩, .slice none 0 0] 27))= .ok (.tuple #[.agg #[.string g.path, .int .i64 g.kind, .int .i64 g.mode, .int .i64 g.time, .int .i64 g.size, .string g.link, .slice fa fl fc], .bool ob]) (W5.alloc (.cells #[.string ⟨#[]⟩, .int .i64 0, .int .i64 0, .int .i64 0, .int .i64 0, .string ⟨#[]⟩, .slice none 0 0] 27))from
   ⟨(hal.cell (p:=⟨cb,7,none⟩) (lt_of_block HBX5.out)).trans HS5.out.1,(hal.cell (p:=⟨w.heap.size,0,none⟩) (lt_of_block HX5.out)).trans HS5.out.2.1,hlk _ ((hal.block _ (Nat.lt_of_lt_of_le HT0.out.before.lt HB5.out.size)).trans (HB5.out.block _ HT0.out.before.lt))⟩)
  obtain⟨W6,hW6⟩: ∃W6,W6=W5.alloc (.cells #[.string g.path, .int .i64 g.kind, .int .i64 g.mode, .int .i64 g.time, .int .i64 g.size, .string g.link, .slice fa fl fc] 27):=⟨_,rfl⟩;have HB6:=aa (show Below W5.heap.size W5 W6 by rw[hW6]; exact(Below.refl _ _).alloc (Nat.le_refl _) _);have HO6:=aa (show W6.heap[W5.heap.size]? =some (.cells #[.string g.path, .int .i64 g.kind, .int .i64 g.mode, .int .i64 g.time, .int .i64 g.size, .string g.link, .slice fa fl fc] 27 (0,0)) by rw[hW6]; exact heap_alloc_new W5 _)
  have HZ6:=aa (show W6.heap.size=W5.heap.size+1 by rw[hW6]; simp);have HS6:=aa (show W6.cell? ⟨cb,7,none⟩=some (.map (some q.mb))/\W6.cell? ⟨w.heap.size,0,none⟩=some (.string e.path)/\(Instr.lookup 90 (.map (some q.mb)) (.string e.path) true).run Tryz.prog W6= .ok (.tuple #[.agg #[.string g.path, .int .i64 g.kind, .int .i64 g.mode, .int .i64 g.time, .int .i64 g.size, .string g.link, .slice fa fl fc], .bool ob]) W6 from
   ⟨(HB6.out.cell (p:=⟨cb,7,none⟩) (lt_of_block HBX5.out)).trans HS5.out.1,(HB6.out.cell (p:=⟨w.heap.size,0,none⟩) (lt_of_block HX5.out)).trans HS5.out.2.1,hlk _ ((HB6.out.block _ (Nat.lt_of_lt_of_le HT0.out.before.lt HB5.out.size)).trans (HB5.out.block _ HT0.out.before.lt))⟩)
  clear hlk hcase k7 x0 x1 hal;refine fR (fun w'=>w'.cell? ⟨cb,7,none⟩=some (.map (some q.mb))/\w'.cell? ⟨w.heap.size,0,none⟩=some (.string e.path)/\(Instr.lookup 90 (.map (some q.mb)) (.string e.path) true).run Tryz.prog w'= .ok (.tuple #[.agg #[.string g.path, .int .i64 g.kind, .int .i64 g.mode, .int .i64 g.time, .int .i64 g.size, .string g.link, .slice fa fl fc], .bool ob]) w') (by kernel_rfl) ?_
  rw[<-hW5];clear hW5;refine ac 0 rfl (by kernel_rfl) (by kernel_rfl) (by kernel_rfl) (fun _ _ _ h=>h) rfl HS5.out (by rintro w' ⟨hw1,hw2,hw3⟩; go_simp; rfl) ?_;simp only[Act.put,aD,aE,aF];refine ac 1 rfl (by kernel_rfl) (by kernel_rfl) (by kernel_rfl) (fun _ _ _ h=>h) rfl HS5.out (by rintro w' ⟨hw1,hw2,hw3⟩; go_simp; rfl) ?_;simp only[Act.put,aD,aE,aF];refine ac 2 rfl (by kernel_rfl) (by kernel_rfl) (by kernel_rfl) (fun _ _ _ h=>h) rfl HS5.out (by rintro w' ⟨hw1,hw2,hw3⟩; go_simp; rfl) ?_
  simp only[Act.put,aD,aE,aF];refine ac 3 rfl (by kernel_rfl) (by kernel_rfl) (by kernel_rfl) (fun _ _ _ h=>h) rfl HS5.out (by rintro w' ⟨hw1,hw2,hw3⟩; go_simp; rfl) ?_;simp only[Act.put,aD,aE,aF];refine ac 4 rfl (by kernel_rfl) (by kernel_rfl) (by kernel_rfl) (fun _ _ _ h=>h) rfl HS5.out (by rintro w' ⟨hw1,hw2,hw3⟩; go_simp; rfl) ?_;simp only[Act.put,aD,aE,aF]
  refine ac 5 rfl (by kernel_rfl) (by kernel_rfl) (by kernel_rfl) (fun _ _ _ h=>h) rfl HS5.out (by rintro w' ⟨hw1,hw2,hw3⟩; go_simp; rfl) ?_;simp only[Act.put,aD,aE,aF];refine ac 6 rfl (by kernel_rfl) (by kernel_rfl) (by kernel_rfl) (fun _ _ _ h=>h) rfl HS5.out (by rintro w' ⟨hw1,hw2,hw3⟩; go_simp; rfl) ?_;simp only[Act.put,aD,aE,aF];refine ac 7 rfl (by kernel_rfl) (by kernel_rfl) (by kernel_rfl) (fun _ _ _ h=>h) rfl HS5.out (by rintro w' ⟨hw1,hw2,hw3⟩; go_simp; rfl) ?_
  simp only[Act.put,aD,aE,aF];refine ac 8 rfl (by kernel_rfl) (by kernel_rfl) (by kernel_rfl) (fun _ _ _ h=>h) rfl HS5.out (by rintro w' ⟨hw1,hw2,hw3⟩; go_simp; rfl) ?_;simp only[Act.put,aD,aE,aF];refine ac 9 rfl (by kernel_rfl) (by kernel_rfl) (by kernel_rfl) (fun _ _ _ h=>h) rfl HS5.out (by rintro w' ⟨hw1,hw2,hw3⟩; go_simp; rfl) ?_;simp only[Act.put,aD,aE,aF]
  refine bc 10 rfl (by kernel_rfl) rfl (fun K hK=> ?_);go_wp2_with fail;refine⟨HSA.out, ?_⟩;refine bc 11 rfl (by kernel_rfl) rfl (fun K hK=> ?_);go_wp2_with fail;rw[<-hW6];clear hW6;refine⟨HS6.out, ?_⟩;refine ac 12 rfl (by kernel_rfl) (by kernel_rfl) (by kernel_rfl) (fun _ _ _ h=>h) rfl HS6.out (by rintro w' ⟨hw1,hw2,hw3⟩; go_simp; rfl) ?_;simp only[Act.put,aD,aE,aF]
  refine bO (by kernel_rfl) ?_
  go_upto_region 4 with fail
  obtain⟨W7,hW7⟩: ∃W7:World,W7=W6.drew:=⟨_,rfl⟩;have HB7:=aa (show Below W6.heap.size W6 W7 by rw[hW7]; exact(Below.refl _ _).drew);have hz5:=HB5.out.size;have hz7:=HB7.out.size;have hq7:w.heap.size+2<=W7.heap.size:=by have:=HZ6.out; have:=HSZ.out; omega
  have HBA:=aa (show Below W.heap.size W W7 from ag (ag HB5.out HB6.out) HB7.out);have HBB:=aa (show Below base w W7 from(ag HBW.out HBA.out).mono hbz);have HX7:=aa ((HBA.out.block _ (lt_of_block HX.out)).trans HX.out);have HY7:=aa ((HBA.out.block _ (lt_of_block HY.out)).trans HY.out);have HO7:=aa ((HB7.out.block _ (lt_of_block HO6.out)).trans HO6.out);have HT7:=aa (HT0.out.below HBA.out (by have:=HSZ.out; omega))
  have HE7:=aa (HE0.out.below HBA.out);have HD7:=aa (show bP (· <base) W7 (.slice da dl dcap) e.data from aB.same HD.out (fun k hk=>HBB.out.block k hk));have HBX7:=aa HT7.out.col.box;have HW7:=aa hW7;have x0:=af (k:=0) HX7.out;have x1:=af (k:=1) HX7.out;have x2:=af (k:=2) HX7.out;have x3:=af (k:=3) HX7.out;have x4:=af (k:=4) HX7.out;have x5:=af (k:=5) HX7.out
  simp only[List.getElem?_toArray,cw]at x0 x1 x2 x3 x4 x5;have o0:=af (k:=0) HO7.out;have o1:=af (k:=1) HO7.out;have o2:=af (k:=2) HO7.out;have o3:=af (k:=3) HO7.out;have o4:=af (k:=4) HO7.out;have o5:=af (k:=5) HO7.out;have o6:=af (k:=6) HO7.out;simp only[List.getElem?_toArray,cw]at o0 o1 o2 o3 o4 o5 o6;have k6:=af (k:=6) HBX7.out;simp only[bN,bR,List.cons_append,List.nil_append,List.getElem?_toArray,cw]at k6
  rcases HCASE.out with⟨rfl,hfind,hparts,hfo⟩ | ⟨rfl,hfind⟩
  ·have HP7:=aa (hparts.old (HBA.out.mono (by have:=HSZ.out; omega)));have HFO:=aa hfo;have HFIND:=aa hfind;clear hfind hparts hfo
   cases htr:eG q.at0 g e with
   | true=>
    have HTR:=aa htr;clear htr;refine ak [some 8,none,some 1] (by kernel_rfl) (by kernel_rfl) (by kernel_rfl) ?_;simp only[bb,List.take_succ_cons,List.take_zero,List.drop_succ_cons,List.drop_zero];rw[<-hW7];clear hW7
    repeat (first | (refine am rfl ?_; simp only[Act.put,aD,aE,aF]) | (refine aA rfl (fun K hK=> ?_); go_simp; refine hK _ ?_; clear hK K))
    refine az ?_;clear x0 x1 x2 x3 x4 x5 o0 o1 o2 o3 o4 o5 o6 k6;refine bt rfl (fun K hK=> ?_);go_wp2_with (go_at_call 15; refine(mF (· <base) q.at0 g (.slice fa fl fc) (.slice da dl dcap) e true W7 HFO.out HP7.out HD7.out HOK.out HTR.out).mono ?_; rintro e8 w8 ⟨rfl,hb8⟩; have HB8:=aa hb8; clear hb8)
    repeat (first | (refine am rfl ?_; simp only[Act.put,aD,aE,aF]) | (refine aA rfl (fun K hK=> ?_); go_simp; refine hK _ ?_; clear hK K))
    refine az ?_
    go_upto_region 5 with fail
    have hz8:=HB8.out.size;have HY8:=aa ((HB8.out.block _ (lt_of_block HY7.out)).trans HY7.out);have HO8:=aa ((HB8.out.block _ (lt_of_block HO7.out)).trans HO7.out);have HT8:=aa (HT7.out.below HB8.out (by have:=HSZ.out; omega));have HP8:=aa (ay.below HP7.out HB8.out);have hgl:g.parts.length<=1048576:=HPL.out g (fP HFIND.out).1;have o6:=af (k:=6) HO8.out;simp only[List.getElem?_toArray,cw]at o6
    go_upto_region 6 with(go_at_call 76; refine(lE (· <base) (.slice fa fl fc) g.parts w8 HP8.out hgl).mono ?_; rintro e9 w9 ⟨rv,rfl,ho9,hb9⟩; have HB9:=aa hb9; have hz9:=hb9.size; obtain⟨ra,rc,rfl,-,-⟩:=aj ho9; have HP9:=aa ho9; have HY9:=aa ((hb9.block _ (lt_of_block HY8.out)).trans HY8.out); have y6:=af (k:=6) HY9.out; have f6:=aI (k:=6) HY9.out; simp only[List.getElem?_toArray,cw]at y6; clear ho9 hb9)
    obtain⟨rn,hrn⟩: ∃rn,rn=g.parts.length:=⟨_,rfl⟩;rw[<-hrn];have HRN:=aa hrn;clear hrn;obtain⟨W10,hW10⟩: ∃W10,W10=w9.setCell ⟨w.heap.size+1,6,none⟩ (.slice ra rn rc):=⟨_,rfl⟩;rw[<-hW10];have HG10:=aa (show w9.grownBy W10 (some (w.heap.size+1)) by rw[hW10]; exact be _ _ _ _);have HFB0:=aa (show W10.heap[w.heap.size+1]? =some (.cells #[.string e.path, .int .i64 e.kind, .int .i64 e.mode, .int .i64 e.time, .int .i64 (dl:Int), .string e.link, .slice ra rn rc] 27 (0,0)) by rw[hW10]; simpa using mw (k:=6) HY9.out (.slice ra rn rc))
    have HT10:=aa ((HT8.out.below HB9.out (by have:=HSZ.out; omega)).other HG10.out HY9.out (fun e1=>by have:=HFL.out _ e1; omega) (by omega) (by have:=HSZ.out; omega));have HP10:=aa (show W10.ownsRow base 62 2 (.slice ra rn rc) g.parts.length (bh g.parts) by
     rw[HRN.out];have h1:w9.ownsRow base 62 2 (.slice ra g.parts.length rc) g.parts.length (bh g.parts):=bK HP9.out (by have:=HSZ.out; omega);refine bC h1 (fun i hi hv=>HG10.out.block i hi (fun e1=> ?_));have h2:=(HP9.out.lt i hv).1;have h3:=Option.some.inj e1;have:=HSZ.out
     omega)
    have HB10:=aa (show Below base w W10 from(((HBB.out.trans (HB8.out.mono (by have:=HSZ.out; omega))).trans (HB9.out.mono (by have:=HSZ.out; omega))).grown HG10.out (by have:=HSZ.out; omega) (fun i e1=>by have:=Option.some.inj e1; omega)));have HC10:=aa HT10.out.col.box;have k5:=af (k:=5) HC10.out;have f5:=aI (k:=5) HC10.out;simp only[bN,bR,List.cons_append,List.nil_append,List.getElem?_toArray,cw]at k5
    have hkp:q.kp<=4096:=by rw[HT10.out.kp]; exact hkl
    clear hW10 o6 y6 f6
    go_upto_region 12 with fail
    obtain⟨WT,hWT⟩: ∃WT,WT=W10.setCell ⟨cb,5,none⟩ (.int .i64 ((q.kp:Int)+1)):=⟨_,rfl⟩;rw[<-hWT];have hz10:W7.heap.size<=W10.heap.size:=by have:=HG10.out.size; omega
    have HTT:=aa (show cD W0 WT base cb kb {q with kp:=q.kp+1} nv prev {s with kept:=s.kept+1} by rw[hWT]; exact HT10.out.setq 5 (.int .i64 ((q.kp:Int)+1)) (q':= {q with kp:=q.kp+1}) (s':= {s with kept:=s.kept+1}) (by simp[bN]) rfl rfl rfl rfl rfl HT10.out.rd (by show q.kp+1=s.kept+1; rw[HT10.out.kp]) hcb (by omega));have hncb:w.heap.size+1≠cb:=by omega
    have HFB:=aa (show WT.heap[w.heap.size+1]? =some (.cells #[.string e.path, .int .i64 e.kind, .int .i64 e.mode, .int .i64 e.time, .int .i64 (dl:Int), .string e.link, .slice ra rn rc] 27 (0,0)) by rw[hWT,Below.heap_setCell _ _ _ _ hncb]; exact HFB0.out);obtain⟨ps,hps⟩: ∃ps,ps=g.parts:=⟨_,rfl⟩;have HPV:=aa (show WT.ownsRow base 62 2 (.slice ra rn rc) ps.length (bh ps) by
     rw[hps,hWT];refine bC HP10.out (fun i hi hv=>Below.heap_setCell _ _ _ _ (fun e1=> ?_));obtain⟨cs2,hc2⟩:=aH HP10.out hv;rw[e1]at hc2;exact absurd (aK HC10.out hc2) (by decide))
    have HFOK:=aa (show cS ⟨e.path,e.kind,e.mode,e.time,(dl:Int),e.link,ps⟩from⟨HOK.out.pth,HOK.out.lnk,HOK.out.knd,HOK.out.mde,HOK.out.tim,ky (by omega)⟩);have HPOK:=aa (show ∀p∈ps,dE p by rw[hps]; exact xi HP8.out);have HRES:=aa (show gG q.at0 prev q.cut s e=⟨s.files++[⟨e.path,e.kind,e.mode,e.time,(dl:Int),e.link,ps⟩],s.known,s.news,s.read,s.kept+1⟩ by rw[tS HK.out HFIND.out HTR.out,hps,HDL.out])
    have HBT:=aa (show Below base w WT by rw[hWT]; exact HB10.out.grown (be _ _ _ _) (by omega) (fun i e1=>by cases e1; exact hcb));have HS2F:=aa (show s.files.length<=4096 from hfl);have hzW:w.heap.size<=WT.heap.size:=HBT.out.size;clear hWT hps k5 f5;obtain⟨zs,hzs,hzr,hzd⟩:=HTT.out.files.row;obtain⟨xa,xc,hfv,-,-⟩:=aj hzr;have HZS:=aa hzs;have HZD:=aa hzd
    have HZR:=aa hzr;have HFV:=aa (show q.fv= .slice xa zs.length xc from hfv);have hzl:zs.length<=4096:=by
     have h1:zs.length=s.files.length:=by have h3:=congrArg List.length hzs; rw[List.length_map]at h3; exact h3
     have h2:=HS2F.out;omega
    obtain⟨W12,hW12⟩: ∃W12:World,W12=WT.drew:=⟨_,rfl⟩;have HB12:=aa (show Below WT.heap.size WT W12 by rw[hW12]; exact(Below.refl _ _).drew);have hzT:=HB12.out.size;have HR12:=aa (show W12.ownsRow base 27 7 (.slice xa zs.length xc) zs.length (cU zs) by rw[<-hfv]; exact aW hzr HB12.out);have HF12:=aa ((HB12.out.block _ (lt_of_block HFB.out)).trans HFB.out);have HC12:=aa ((HB12.out.block _ (lt_of_block HTT.out.col.box)).trans HTT.out.col.box)
    have hne12:(Value.slice xa zs.length xc).ownBlock≠some (w.heap.size+1):=fun e1=>by
     have h1:=HFL.out (w.heap.size+1) (by rw[HFV.out]; exact e1);omega
    have HNE12:=aa hne12;clear hzs hzr hzd hfv hne12;have k1:=af (k:=1) HC12.out;simp only[bN,bR,List.cons_append,List.nil_append,List.getElem?_toArray,cw,HFV.out]at k1;have S12:=aa (And.intro k1 HF12.out);clear k1;refine cN (fun w'=>w'.cell? ⟨cb,1,none⟩=some (.slice xa zs.length xc)/\w'.heap[w.heap.size+1]? =some (.cells #[.string e.path, .int .i64 e.kind, .int .i64 e.mode, .int .i64 e.time, .int .i64 (dl:Int), .string e.link, .slice ra rn rc] 27 (0,0))) (by kernel_rfl) (by kernel_rfl) ?_
    simp only[List.dropLast_cons_cons,List.dropLast_singleton,List.length_cons,List.length_nil,Nat.reduceAdd,Nat.reduceSub];rw[<-hW12];clear hW12;refine ac 0 rfl (by kernel_rfl) (by kernel_rfl) (by kernel_rfl) (fun _ _ _ h=>h) rfl S12.out (by rintro w' ⟨hw1,hw2⟩; go_simp; rfl) ?_;simp only[Act.put,aD,aE,aF];refine ac 1 rfl (by kernel_rfl) (by kernel_rfl) (by kernel_rfl) (fun _ _ _ h=>h) rfl S12.out (by rintro w' ⟨hw1,hw2⟩; go_simp; rfl) ?_
    simp only[Act.put,aD,aE,aF];refine ac 2 rfl (by kernel_rfl) (by kernel_rfl) (by kernel_rfl) (fun _ _ _ h=>h) rfl S12.out (by rintro w' ⟨hw1,hw2⟩; go_simp; rfl) ?_;simp only[Act.put,aD,aE,aF];refine ac 3 rfl (by kernel_rfl) (by kernel_rfl) (by kernel_rfl) (fun _ _ _ h=>h) rfl S12.out (by rintro w' ⟨hw1,hw2⟩; go_simp; rfl) ?_;simp only[Act.put,aD,aE,aF];refine ac 4 rfl (by kernel_rfl) (by kernel_rfl) (by kernel_rfl) (fun _ _ _ h=>h) rfl S12.out (by rintro w' ⟨hw1,hw2⟩; go_simp; rfl) ?_
    simp only[Act.put,aD,aE,aF];refine ac 5 rfl (by kernel_rfl) (by kernel_rfl) (by kernel_rfl) (fun _ _ _ h=>h) rfl S12.out (by rintro w' ⟨hw1,hw2⟩; go_simp; rfl) ?_;simp only[Act.put,aD,aE,aF];refine ac 6 rfl (by kernel_rfl) (by kernel_rfl) (by kernel_rfl) (fun _ _ _ h=>h) rfl S12.out (by rintro w' ⟨hw1,hw2⟩; go_simp; rfl) ?_;simp only[Act.put,aD,aE,aF];refine ac 7 rfl (by kernel_rfl) (by kernel_rfl) (by kernel_rfl) (fun _ _ _ h=>h) rfl S12.out (by rintro w' ⟨hw1,hw2⟩; have o0:=af (k:=0) hw2; have o1:=af (k:=1) hw2; have o2:=af (k:=2) hw2; have o3:=af (k:=3) hw2; have o4:=af (k:=4) hw2; have o5:=af (k:=5) hw2; have o6:=af (k:=6) hw2; simp only[List.getElem?_toArray,cw]at o0 o1 o2 o3 o4 o5 o6; clear hw2; go_simp; rfl) ?_
    simp only[Act.put,aD,aE,aF];refine bc 8 rfl (by kernel_rfl) rfl (fun K hK=> ?_);go_wp2_with fail;have hal:=(Below.refl W12.heap.size W12).alloc (Nat.le_refl _) (.cells #[.string e.path, .int .i64 e.kind, .int .i64 e.mode, .int .i64 e.time, .int .i64 (dl:Int), .string e.link, .slice ra rn rc] 27);refine⟨⟨(hal.cell (p:=⟨cb,1,none⟩) (lt_of_block HC12.out)).trans S12.out.1,(hal.block _ (lt_of_block HF12.out)).trans HF12.out⟩, ?_⟩
    refine bc 9 rfl (by kernel_rfl) rfl (fun K hK=> ?_);go_wp2_with (at_builtin; go_must (refine aS Tryz.appFiles rfl _ _ rfl base (.slice xa zs.length xc) zs.length (cU zs) rfl W12 [.string e.path, .int .i64 e.kind, .int .i64 e.mode, .int .i64 e.time, .int .i64 (dl:Int), .string e.link, .slice ra rn rc] _ rfl rfl (ix (f:=⟨e.path,e.kind,e.mode,e.time,(dl:Int),e.link,[]⟩)) HR12.out (by omega) (by omega) ?_); intro vp wc hown3 hg3 _ hpl3; obtain⟨ea,ec,rfl,-,-⟩:=aj hown3)
    have hcb9:(Value.slice xa zs.length xc).ownBlock≠some cb:=fun e1=>by
     obtain⟨cs2,hc2⟩:=aH HR12.out e1;exact absurd (aK HC12.out hc2) (by decide)
    have HCC:=aa ((hg3.block cb (lt_of_block HC12.out) (fun e1=>hcb9 e1.symm)).trans HC12.out);have HFC:=aa ((hg3.block _ (lt_of_block HF12.out) (fun e1=>HNE12.out e1.symm)).trans HF12.out);have HFIN:=aa (HTT.out.file (s':=gG q.at0 prev q.cut s e) (f:=⟨e.path,e.kind,e.mode,e.time,(dl:Int),e.link,ps⟩) (pv:= .slice ra rn rc) (fv':= .slice ea (zs.length+1) ec) HZS.out HZR.out HZD.out HB12.out (aW HPV.out HB12.out) HFOK.out HPOK.out hown3 (by show W12.grownBy wc q.fv.ownBlock; rw[HFV.out]; exact hg3) (by show ∀k,_->q.fv.ownBlock=some k\/_; rw[HFV.out]; exact hpl3) (by rw[HRES.out]) (by rw[HRES.out]) (by rw[HRES.out]) (by rw[HRES.out]) (by rw[HRES.out]) hcb (by omega))
    have hb1:Below base w wc:=(HBT.out.trans (HB12.out.mono (by omega))).grown hg3 (by omega) (fun i e1=>(HR12.out.lt i e1).1);have HBE:=aa (hb1.grown (be wc cb 1 (.slice ea (zs.length+1) ec)) (by have:=hb1.size; omega) (fun i e1=>by cases e1; exact hcb));have k1:=af (k:=1) HCC.out;have f1:=aI (k:=1) HCC.out;simp only[bN,bR,List.cons_append,List.nil_append,List.getElem?_toArray,cw,HFV.out]at k1
    have SC:=aa (And.intro k1 HFC.out);clear hown3 hg3 hpl3 hcb9 hb1 hal;refine⟨SC.out, ?_⟩;refine ac 10 rfl (by kernel_rfl) (by kernel_rfl) (by kernel_rfl) (fun _ _ _ h=>h) rfl SC.out (by rintro w' ⟨hw1,hw2⟩; go_simp; rfl) ?_;simp only[Act.put,aD,aE,aF];refine ac 11 rfl (by kernel_rfl) (by kernel_rfl) (by kernel_rfl) (fun _ _ _ h=>h) rfl SC.out (by rintro w' ⟨hw1,hw2⟩; go_simp; rfl) ?_
    simp only[Act.put,aD,aE,aF];refine ac 12 rfl (by kernel_rfl) (by kernel_rfl) (by kernel_rfl) (fun _ _ _ h=>h) rfl SC.out (by rintro w' ⟨hw1,hw2⟩; go_simp; rfl) ?_;simp only[Act.put,aD,aE,aF];refine ac 13 rfl (by kernel_rfl) (by kernel_rfl) (by kernel_rfl) (fun _ _ _ h=>h) rfl SC.out (by rintro w' ⟨hw1,hw2⟩; go_simp; rfl) ?_;simp only[Act.put,aD,aE,aF];refine bO (by kernel_rfl) ?_
    refine cZ rfl rfl (fun K hK=> ?_);go_wp2_with fail;go_ret;exact⟨_,_,_,_,rfl,HFIN.out,HBE.out⟩
   | false=>
    have HTR:=aa htr;clear htr;refine ak [some 8,none,some 1] (by kernel_rfl) (by kernel_rfl) (by kernel_rfl) ?_;simp only[bb,List.take_succ_cons,List.take_zero,List.drop_succ_cons,List.drop_zero];rw[<-hW7];clear hW7
    repeat (first | (refine am rfl ?_; simp only[Act.put,aD,aE,aF]) | (refine aA rfl (fun K hK=> ?_); go_simp; refine hK _ ?_; clear hK K))
    refine az ?_;clear x0 x1 x2 x3 x4 x5 o0 o1 o2 o3 o4 o5 o6 k6;refine bt rfl (fun K hK=> ?_);go_wp2_with (go_at_call 15; refine(mF (· <base) q.at0 g (.slice fa fl fc) (.slice da dl dcap) e false W7 HFO.out HP7.out HD7.out HOK.out HTR.out).mono ?_; rintro e8 w8 ⟨rfl,hb8⟩; have HB8:=aa hb8; clear hb8)
    repeat (first | (refine am rfl ?_; simp only[Act.put,aD,aE,aF]) | (refine aA rfl (fun K hK=> ?_); go_simp; refine hK _ ?_; clear hK K))
    refine az ?_
    go_upto_region 7 with fail
    have HNO:=aa (show ∀f,dx prev e.path=some f->eG q.at0 f e=false from fun f hf=>by
     have h1:=HFIND.out;rw[hf]at h1
     cases h1
     exact HTR.out)
    have hz8:=HB8.out.size;have HX8:=aa ((HB8.out.block _ (lt_of_block HX7.out)).trans HX7.out);have HY8:=aa ((HB8.out.block _ (lt_of_block HY7.out)).trans HY7.out);have HT8:=aa (HT7.out.below HB8.out (by omega));have HE8:=aa (HE7.out.below HB8.out);have HBB8:=aa (HBB.out.trans (HB8.out.mono (by omega)));have HD8:=aa (show aR (· <base) w8 (.slice da dl dcap) e.data from aB.same HD7.out (fun k hk=>HB8.out.block k (by omega)))
    have hdl2:e.data.length<=1048576:=(eZ HV.out).1 HK.out;have x4:=af (k:=4) HX8.out;simp only[List.getElem?_toArray,cw]at x4
    go_upto_region 8 with(go_at_call 77; refine(qp base cb kb q nv (.slice da dl dcap) s.known s.news e.data w8 HT8.out.col HD8.out hdl2 hc hs HE8.out hcb hkb (by omega) h6 hn).mono ?_; rintro e9 w9 ⟨rv,nv2,rfl,ho9,hc9,hk9⟩; have HP9:=aa ho9; have HC9:=aa hc9; have HK9:=aa hk9; clear ho9 hc9 hk9)
    have hz9:=HK9.out.below.size;obtain⟨ra,rc,rfl,-,-⟩:=aj HP9.out;have HPS:=aa (show(bF q.cut e.data).length=((bF q.cut e.data).map bd).length by rw[List.length_map]);obtain⟨rn,hrn⟩: ∃rn,rn=(bF q.cut e.data).length:=⟨_,rfl⟩;rw[<-hrn]at HP9 ⊢;have HRN:=aa hrn;clear hrn;have HY9:=aa ((HK9.out.same _ (lt_of_block HY8.out) (by omega) (by have:=HH.out.col.known.lt; omega) (fun e1=>by have:=HH.out.nvlt _ e1; omega)).trans HY8.out)
    have HT9:=aa (HT8.out.read (s':= {s with known:=((bF q.cut e.data).foldl bo (s.known,s.news)).1,news:=((bF q.cut e.data).foldl bo (s.known,s.news)).2}) HC9.out HK9.out rfl rfl rfl);have f6:=aI (k:=6) HY9.out;have y6:=af (k:=6) HY9.out;simp only[List.getElem?_toArray,cw]at y6
    go_upto_region 11 with fail
    obtain⟨W10,hW10⟩: ∃W10,W10=w9.setCell ⟨w.heap.size+1,6,none⟩ (.slice ra rn rc):=⟨_,rfl⟩;rw[<-hW10];have HG10:=aa (show w9.grownBy W10 (some (w.heap.size+1)) by rw[hW10]; exact be _ _ _ _);have HFB0:=aa (show W10.heap[w.heap.size+1]? =some (.cells #[.string e.path, .int .i64 e.kind, .int .i64 e.mode, .int .i64 e.time, .int .i64 (dl:Int), .string e.link, .slice ra rn rc] 27 (0,0)) by rw[hW10]; simpa using mw (k:=6) HY9.out (.slice ra rn rc))
    have HT10:=aa (HT9.out.other HG10.out HY9.out (fun e1=>by have:=HFL.out _ e1; omega) (by omega) (by omega));have HP10:=aa (show W10.ownsRow base 62 2 (.slice ra rn rc) rn (bh ((bF q.cut e.data).map bd)) by
     have h1:w9.ownsRow base 62 2 (.slice ra rn rc) rn (bh ((bF q.cut e.data).map bd)):=bK HP9.out (by omega);refine bC h1 (fun i hi hv=>HG10.out.block i hi (fun e1=> ?_));have h2:=(HP9.out.lt i hv).1;have h3:=Option.some.inj e1
     omega)
    have HB10:=aa (show Below base w W10 from((HBB8.out.trans HK9.out.below).grown HG10.out (by omega) (fun i e1=>by have:=Option.some.inj e1; omega)));have HC10:=aa HT10.out.col.box;have k4:=af (k:=4) HC10.out;have f4:=aI (k:=4) HC10.out;simp only[bN,bR,List.cons_append,List.nil_append,List.getElem?_toArray,cw]at k4;have hrd:q.rd<=4096:=by rw[HT8.out.rd]; exact hrl
    clear hW10 y6 f6 x4
    go_upto_region 12 with fail
    obtain⟨WT,hWT⟩: ∃WT,WT=W10.setCell ⟨cb,4,none⟩ (.int .i64 ((q.rd:Int)+1)):=⟨_,rfl⟩;rw[<-hWT];have hz10:W7.heap.size<=W10.heap.size:=by have:=HG10.out.size; omega
    have HTT:=aa (show cD W0 WT base cb kb {q with rd:=q.rd+1} nv2 prev {s with known:=((bF q.cut e.data).foldl bo (s.known,s.news)).1,news:=((bF q.cut e.data).foldl bo (s.known,s.news)).2,read:=s.read+1} by rw[hWT]; exact HT10.out.setq 4 (.int .i64 ((q.rd:Int)+1)) (q':= {q with rd:=q.rd+1}) (s':= {s with known:=((bF q.cut e.data).foldl bo (s.known,s.news)).1,news:=((bF q.cut e.data).foldl bo (s.known,s.news)).2,read:=s.read+1}) (by simp[bN]) rfl rfl rfl rfl rfl (by show q.rd+1=s.read+1; rw[HT8.out.rd]) HT8.out.kp hcb (by omega))
    have hncb:w.heap.size+1≠cb:=by omega
    have HFB:=aa (show WT.heap[w.heap.size+1]? =some (.cells #[.string e.path, .int .i64 e.kind, .int .i64 e.mode, .int .i64 e.time, .int .i64 (dl:Int), .string e.link, .slice ra rn rc] 27 (0,0)) by rw[hWT,Below.heap_setCell _ _ _ _ hncb]; exact HFB0.out);obtain⟨ps,hps⟩: ∃ps,ps=(bF q.cut e.data).map bd:=⟨_,rfl⟩;have HPV:=aa (show WT.ownsRow base 62 2 (.slice ra rn rc) ps.length (bh ps) by
     rw[hps,<-HPS.out,<-HRN.out,hWT];refine bC HP10.out (fun i hi hv=>Below.heap_setCell _ _ _ _ (fun e1=> ?_));obtain⟨cs2,hc2⟩:=aH HP10.out hv;rw[e1]at hc2;exact absurd (aK HC10.out hc2) (by decide))
    have HFOK:=aa (show cS ⟨e.path,e.kind,e.mode,e.time,(dl:Int),e.link,ps⟩from⟨HOK.out.pth,HOK.out.lnk,HOK.out.knd,HOK.out.mde,HOK.out.tim,ky (by omega)⟩);have HPOK:=aa (show ∀p∈ps,dE p by
     rw[hps];intro p hp;obtain⟨y,hy,rfl⟩:=List.mem_map.1 hp;have h1:=(kf hc e.data y hy).2;have h2:=dB.1 hc;exact⟨by show(gC y).size<=_; rw[iE]; unfold maxLen; omega,ky (by omega)⟩)
    have HRES:=aa (show gG q.at0 prev q.cut s e=⟨s.files++[⟨e.path,e.kind,e.mode,e.time,(dl:Int),e.link,ps⟩],((bF q.cut e.data).foldl bo (s.known,s.news)).1,((bF q.cut e.data).foldl bo (s.known,s.news)).2,s.read+1,s.kept⟩ by rw[nj HK.out HNO.out,hps,HDL.out]);have HBT:=aa (show Below base w WT by rw[hWT]; exact HB10.out.grown (be _ _ _ _) (by omega) (fun i e1=>by cases e1; exact hcb))
    have HS2F:=aa (show s.files.length<=4096 from hfl);have hzW:w.heap.size<=WT.heap.size:=HBT.out.size;clear hWT hps k4 f4;obtain⟨zs,hzs,hzr,hzd⟩:=HTT.out.files.row;obtain⟨xa,xc,hfv,-,-⟩:=aj hzr;have HZS:=aa hzs;have HZD:=aa hzd;have HZR:=aa hzr;have HFV:=aa (show q.fv= .slice xa zs.length xc from hfv);have hzl:zs.length<=4096:=by
     have h1:zs.length=s.files.length:=by have h3:=congrArg List.length hzs; rw[List.length_map]at h3; exact h3
     have h2:=HS2F.out;omega
    obtain⟨W12,hW12⟩: ∃W12:World,W12=WT.drew:=⟨_,rfl⟩;have HB12:=aa (show Below WT.heap.size WT W12 by rw[hW12]; exact(Below.refl _ _).drew);have hzT:=HB12.out.size;have HR12:=aa (show W12.ownsRow base 27 7 (.slice xa zs.length xc) zs.length (cU zs) by rw[<-hfv]; exact aW hzr HB12.out);have HF12:=aa ((HB12.out.block _ (lt_of_block HFB.out)).trans HFB.out);have HC12:=aa ((HB12.out.block _ (lt_of_block HTT.out.col.box)).trans HTT.out.col.box)
    have hne12:(Value.slice xa zs.length xc).ownBlock≠some (w.heap.size+1):=fun e1=>by
     have h1:=HFL.out (w.heap.size+1) (by rw[HFV.out]; exact e1);omega
    have HNE12:=aa hne12;clear hzs hzr hzd hfv hne12;have k1:=af (k:=1) HC12.out;simp only[bN,bR,List.cons_append,List.nil_append,List.getElem?_toArray,cw,HFV.out]at k1;have S12:=aa (And.intro k1 HF12.out);clear k1;refine cN (fun w'=>w'.cell? ⟨cb,1,none⟩=some (.slice xa zs.length xc)/\w'.heap[w.heap.size+1]? =some (.cells #[.string e.path, .int .i64 e.kind, .int .i64 e.mode, .int .i64 e.time, .int .i64 (dl:Int), .string e.link, .slice ra rn rc] 27 (0,0))) (by kernel_rfl) (by kernel_rfl) ?_
    simp only[List.dropLast_cons_cons,List.dropLast_singleton,List.length_cons,List.length_nil,Nat.reduceAdd,Nat.reduceSub];rw[<-hW12];clear hW12;refine ac 0 rfl (by kernel_rfl) (by kernel_rfl) (by kernel_rfl) (fun _ _ _ h=>h) rfl S12.out (by rintro w' ⟨hw1,hw2⟩; go_simp; rfl) ?_;simp only[Act.put,aD,aE,aF];refine ac 1 rfl (by kernel_rfl) (by kernel_rfl) (by kernel_rfl) (fun _ _ _ h=>h) rfl S12.out (by rintro w' ⟨hw1,hw2⟩; go_simp; rfl) ?_
    simp only[Act.put,aD,aE,aF];refine ac 2 rfl (by kernel_rfl) (by kernel_rfl) (by kernel_rfl) (fun _ _ _ h=>h) rfl S12.out (by rintro w' ⟨hw1,hw2⟩; go_simp; rfl) ?_;simp only[Act.put,aD,aE,aF];refine ac 3 rfl (by kernel_rfl) (by kernel_rfl) (by kernel_rfl) (fun _ _ _ h=>h) rfl S12.out (by rintro w' ⟨hw1,hw2⟩; go_simp; rfl) ?_;simp only[Act.put,aD,aE,aF];refine ac 4 rfl (by kernel_rfl) (by kernel_rfl) (by kernel_rfl) (fun _ _ _ h=>h) rfl S12.out (by rintro w' ⟨hw1,hw2⟩; go_simp; rfl) ?_
    simp only[Act.put,aD,aE,aF];refine ac 5 rfl (by kernel_rfl) (by kernel_rfl) (by kernel_rfl) (fun _ _ _ h=>h) rfl S12.out (by rintro w' ⟨hw1,hw2⟩; go_simp; rfl) ?_;simp only[Act.put,aD,aE,aF];refine ac 6 rfl (by kernel_rfl) (by kernel_rfl) (by kernel_rfl) (fun _ _ _ h=>h) rfl S12.out (by rintro w' ⟨hw1,hw2⟩; go_simp; rfl) ?_;simp only[Act.put,aD,aE,aF];refine ac 7 rfl (by kernel_rfl) (by kernel_rfl) (by kernel_rfl) (fun _ _ _ h=>h) rfl S12.out (by rintro w' ⟨hw1,hw2⟩; have o0:=af (k:=0) hw2; have o1:=af (k:=1) hw2; have o2:=af (k:=2) hw2; have o3:=af (k:=3) hw2; have o4:=af (k:=4) hw2; have o5:=af (k:=5) hw2; have o6:=af (k:=6) hw2; simp only[List.getElem?_toArray,cw]at o0 o1 o2 o3 o4 o5 o6; clear hw2; go_simp; rfl) ?_
    simp only[Act.put,aD,aE,aF];refine bc 8 rfl (by kernel_rfl) rfl (fun K hK=> ?_);go_wp2_with fail;have hal:=(Below.refl W12.heap.size W12).alloc (Nat.le_refl _) (.cells #[.string e.path, .int .i64 e.kind, .int .i64 e.mode, .int .i64 e.time, .int .i64 (dl:Int), .string e.link, .slice ra rn rc] 27);refine⟨⟨(hal.cell (p:=⟨cb,1,none⟩) (lt_of_block HC12.out)).trans S12.out.1,(hal.block _ (lt_of_block HF12.out)).trans HF12.out⟩, ?_⟩
    refine bc 9 rfl (by kernel_rfl) rfl (fun K hK=> ?_);go_wp2_with (at_builtin; go_must (refine aS Tryz.appFiles rfl _ _ rfl base (.slice xa zs.length xc) zs.length (cU zs) rfl W12 [.string e.path, .int .i64 e.kind, .int .i64 e.mode, .int .i64 e.time, .int .i64 (dl:Int), .string e.link, .slice ra rn rc] _ rfl rfl (ix (f:=⟨e.path,e.kind,e.mode,e.time,(dl:Int),e.link,[]⟩)) HR12.out (by omega) (by omega) ?_); intro vp wc hown3 hg3 _ hpl3; obtain⟨ea,ec,rfl,-,-⟩:=aj hown3)
    have hcb9:(Value.slice xa zs.length xc).ownBlock≠some cb:=fun e1=>by
     obtain⟨cs2,hc2⟩:=aH HR12.out e1;exact absurd (aK HC12.out hc2) (by decide)
    have HCC:=aa ((hg3.block cb (lt_of_block HC12.out) (fun e1=>hcb9 e1.symm)).trans HC12.out);have HFC:=aa ((hg3.block _ (lt_of_block HF12.out) (fun e1=>HNE12.out e1.symm)).trans HF12.out);have HFIN:=aa (HTT.out.file (s':=gG q.at0 prev q.cut s e) (f:=⟨e.path,e.kind,e.mode,e.time,(dl:Int),e.link,ps⟩) (pv:= .slice ra rn rc) (fv':= .slice ea (zs.length+1) ec) HZS.out HZR.out HZD.out HB12.out (aW HPV.out HB12.out) HFOK.out HPOK.out hown3 (by show W12.grownBy wc q.fv.ownBlock; rw[HFV.out]; exact hg3) (by show ∀k,_->q.fv.ownBlock=some k\/_; rw[HFV.out]; exact hpl3) (by rw[HRES.out]) (by rw[HRES.out]) (by rw[HRES.out]) (by rw[HRES.out]) (by rw[HRES.out]) hcb (by omega))
    have hb1:Below base w wc:=(HBT.out.trans (HB12.out.mono (by omega))).grown hg3 (by omega) (fun i e1=>(HR12.out.lt i e1).1);have HBE:=aa (hb1.grown (be wc cb 1 (.slice ea (zs.length+1) ec)) (by have:=hb1.size; omega) (fun i e1=>by cases e1; exact hcb));have k1:=af (k:=1) HCC.out;have f1:=aI (k:=1) HCC.out;simp only[bN,bR,List.cons_append,List.nil_append,List.getElem?_toArray,cw,HFV.out]at k1
    have SC:=aa (And.intro k1 HFC.out);clear hown3 hg3 hpl3 hcb9 hb1 hal;refine⟨SC.out, ?_⟩;refine ac 10 rfl (by kernel_rfl) (by kernel_rfl) (by kernel_rfl) (fun _ _ _ h=>h) rfl SC.out (by rintro w' ⟨hw1,hw2⟩; go_simp; rfl) ?_;simp only[Act.put,aD,aE,aF];refine ac 11 rfl (by kernel_rfl) (by kernel_rfl) (by kernel_rfl) (fun _ _ _ h=>h) rfl SC.out (by rintro w' ⟨hw1,hw2⟩; go_simp; rfl) ?_
    simp only[Act.put,aD,aE,aF];refine ac 12 rfl (by kernel_rfl) (by kernel_rfl) (by kernel_rfl) (fun _ _ _ h=>h) rfl SC.out (by rintro w' ⟨hw1,hw2⟩; go_simp; rfl) ?_;simp only[Act.put,aD,aE,aF];refine ac 13 rfl (by kernel_rfl) (by kernel_rfl) (by kernel_rfl) (fun _ _ _ h=>h) rfl SC.out (by rintro w' ⟨hw1,hw2⟩; go_simp; rfl) ?_;simp only[Act.put,aD,aE,aF];refine bO (by kernel_rfl) ?_
    refine cZ rfl rfl (fun K hK=> ?_);go_wp2_with fail;go_ret;exact⟨_,_,_,_,rfl,HFIN.out,HBE.out⟩
  ·clear x0 x1 x2 x3 x4 x5 o0 o1 o2 o3 o4 o5 o6 k6;refine ak [some 8,none,some 1] (by kernel_rfl) (by kernel_rfl) (by kernel_rfl) ?_;simp only[bb,List.take_succ_cons,List.take_zero,List.drop_succ_cons,List.drop_zero];rw[<-hW7];clear hW7
   repeat (first | (refine am rfl ?_; simp only[Act.put,aD,aE,aF]) | (refine aA rfl (fun K hK=> ?_); go_simp; refine hK _ ?_; clear hK K))
   refine az ?_;refine jp rfl ?_;simp only[Act.put,aD,aE,aF]
   repeat (first | (refine am rfl ?_; simp only[Act.put,aD,aE,aF]) | (refine aA rfl (fun K hK=> ?_); go_simp; refine hK _ ?_; clear hK K))
   refine az ?_
   go_upto_region 7 with fail
   obtain⟨w8,hw8⟩: ∃w8:World,w8=W7:=⟨_,rfl⟩;have HB8:=aa (show Below W7.heap.size W7 w8 by rw[hw8]; exact Below.refl _ _);rw[<-hw8];have HNO:=aa (show ∀f,dx prev e.path=some f->eG q.at0 f e=false from fun f hf=>by rw[hfind]at hf; cases hf);clear hw8;have hz8:=HB8.out.size;have HX8:=aa ((HB8.out.block _ (lt_of_block HX7.out)).trans HX7.out);have HY8:=aa ((HB8.out.block _ (lt_of_block HY7.out)).trans HY7.out)
   have HT8:=aa (HT7.out.below HB8.out (by omega));have HE8:=aa (HE7.out.below HB8.out);have HBB8:=aa (HBB.out.trans (HB8.out.mono (by omega)));have HD8:=aa (show aR (· <base) w8 (.slice da dl dcap) e.data from aB.same HD7.out (fun k hk=>HB8.out.block k (by omega)));have hdl2:e.data.length<=1048576:=(eZ HV.out).1 HK.out;have x4:=af (k:=4) HX8.out;simp only[List.getElem?_toArray,cw]at x4
   go_upto_region 8 with(go_at_call 77; refine(qp base cb kb q nv (.slice da dl dcap) s.known s.news e.data w8 HT8.out.col HD8.out hdl2 hc hs HE8.out hcb hkb (by omega) h6 hn).mono ?_; rintro e9 w9 ⟨rv,nv2,rfl,ho9,hc9,hk9⟩; have HP9:=aa ho9; have HC9:=aa hc9; have HK9:=aa hk9; clear ho9 hc9 hk9)
   have hz9:=HK9.out.below.size;obtain⟨ra,rc,rfl,-,-⟩:=aj HP9.out;have HPS:=aa (show(bF q.cut e.data).length=((bF q.cut e.data).map bd).length by rw[List.length_map]);obtain⟨rn,hrn⟩: ∃rn,rn=(bF q.cut e.data).length:=⟨_,rfl⟩;rw[<-hrn]at HP9 ⊢;have HRN:=aa hrn;clear hrn;have HY9:=aa ((HK9.out.same _ (lt_of_block HY8.out) (by omega) (by have:=HH.out.col.known.lt; omega) (fun e1=>by have:=HH.out.nvlt _ e1; omega)).trans HY8.out)
   have HT9:=aa (HT8.out.read (s':= {s with known:=((bF q.cut e.data).foldl bo (s.known,s.news)).1,news:=((bF q.cut e.data).foldl bo (s.known,s.news)).2}) HC9.out HK9.out rfl rfl rfl);have f6:=aI (k:=6) HY9.out;have y6:=af (k:=6) HY9.out;simp only[List.getElem?_toArray,cw]at y6
   go_upto_region 11 with fail
   obtain⟨W10,hW10⟩: ∃W10,W10=w9.setCell ⟨w.heap.size+1,6,none⟩ (.slice ra rn rc):=⟨_,rfl⟩;rw[<-hW10];have HG10:=aa (show w9.grownBy W10 (some (w.heap.size+1)) by rw[hW10]; exact be _ _ _ _);have HFB0:=aa (show W10.heap[w.heap.size+1]? =some (.cells #[.string e.path, .int .i64 e.kind, .int .i64 e.mode, .int .i64 e.time, .int .i64 (dl:Int), .string e.link, .slice ra rn rc] 27 (0,0)) by rw[hW10]; simpa using mw (k:=6) HY9.out (.slice ra rn rc))
   have HT10:=aa (HT9.out.other HG10.out HY9.out (fun e1=>by have:=HFL.out _ e1; omega) (by omega) (by omega));have HP10:=aa (show W10.ownsRow base 62 2 (.slice ra rn rc) rn (bh ((bF q.cut e.data).map bd)) by
    have h1:w9.ownsRow base 62 2 (.slice ra rn rc) rn (bh ((bF q.cut e.data).map bd)):=bK HP9.out (by omega);refine bC h1 (fun i hi hv=>HG10.out.block i hi (fun e1=> ?_));have h2:=(HP9.out.lt i hv).1;have h3:=Option.some.inj e1
    omega)
   have HB10:=aa (show Below base w W10 from((HBB8.out.trans HK9.out.below).grown HG10.out (by omega) (fun i e1=>by have:=Option.some.inj e1; omega)));have HC10:=aa HT10.out.col.box;have k4:=af (k:=4) HC10.out;have f4:=aI (k:=4) HC10.out;simp only[bN,bR,List.cons_append,List.nil_append,List.getElem?_toArray,cw]at k4;have hrd:q.rd<=4096:=by rw[HT8.out.rd]; exact hrl
   clear hW10 y6 f6 x4
   go_upto_region 12 with fail
   obtain⟨WT,hWT⟩: ∃WT,WT=W10.setCell ⟨cb,4,none⟩ (.int .i64 ((q.rd:Int)+1)):=⟨_,rfl⟩;rw[<-hWT];have hz10:W7.heap.size<=W10.heap.size:=by have:=HG10.out.size; omega
   have HTT:=aa (show cD W0 WT base cb kb {q with rd:=q.rd+1} nv2 prev {s with known:=((bF q.cut e.data).foldl bo (s.known,s.news)).1,news:=((bF q.cut e.data).foldl bo (s.known,s.news)).2,read:=s.read+1} by rw[hWT]; exact HT10.out.setq 4 (.int .i64 ((q.rd:Int)+1)) (q':= {q with rd:=q.rd+1}) (s':= {s with known:=((bF q.cut e.data).foldl bo (s.known,s.news)).1,news:=((bF q.cut e.data).foldl bo (s.known,s.news)).2,read:=s.read+1}) (by simp[bN]) rfl rfl rfl rfl rfl (by show q.rd+1=s.read+1; rw[HT8.out.rd]) HT8.out.kp hcb (by omega))
   have hncb:w.heap.size+1≠cb:=by omega
   have HFB:=aa (show WT.heap[w.heap.size+1]? =some (.cells #[.string e.path, .int .i64 e.kind, .int .i64 e.mode, .int .i64 e.time, .int .i64 (dl:Int), .string e.link, .slice ra rn rc] 27 (0,0)) by rw[hWT,Below.heap_setCell _ _ _ _ hncb]; exact HFB0.out);obtain⟨ps,hps⟩: ∃ps,ps=(bF q.cut e.data).map bd:=⟨_,rfl⟩;have HPV:=aa (show WT.ownsRow base 62 2 (.slice ra rn rc) ps.length (bh ps) by
    rw[hps,<-HPS.out,<-HRN.out,hWT];refine bC HP10.out (fun i hi hv=>Below.heap_setCell _ _ _ _ (fun e1=> ?_));obtain⟨cs2,hc2⟩:=aH HP10.out hv;rw[e1]at hc2;exact absurd (aK HC10.out hc2) (by decide))
   have HFOK:=aa (show cS ⟨e.path,e.kind,e.mode,e.time,(dl:Int),e.link,ps⟩from⟨HOK.out.pth,HOK.out.lnk,HOK.out.knd,HOK.out.mde,HOK.out.tim,ky (by omega)⟩);have HPOK:=aa (show ∀p∈ps,dE p by
    rw[hps];intro p hp;obtain⟨y,hy,rfl⟩:=List.mem_map.1 hp;have h1:=(kf hc e.data y hy).2;have h2:=dB.1 hc;exact⟨by show(gC y).size<=_; rw[iE]; unfold maxLen; omega,ky (by omega)⟩)
   have HRES:=aa (show gG q.at0 prev q.cut s e=⟨s.files++[⟨e.path,e.kind,e.mode,e.time,(dl:Int),e.link,ps⟩],((bF q.cut e.data).foldl bo (s.known,s.news)).1,((bF q.cut e.data).foldl bo (s.known,s.news)).2,s.read+1,s.kept⟩ by rw[nj HK.out HNO.out,hps,HDL.out]);have HBT:=aa (show Below base w WT by rw[hWT]; exact HB10.out.grown (be _ _ _ _) (by omega) (fun i e1=>by cases e1; exact hcb))
   have HS2F:=aa (show s.files.length<=4096 from hfl);have hzW:w.heap.size<=WT.heap.size:=HBT.out.size;clear hWT hps k4 f4;obtain⟨zs,hzs,hzr,hzd⟩:=HTT.out.files.row;obtain⟨xa,xc,hfv,-,-⟩:=aj hzr;have HZS:=aa hzs;have HZD:=aa hzd;have HZR:=aa hzr;have HFV:=aa (show q.fv= .slice xa zs.length xc from hfv);have hzl:zs.length<=4096:=by
    have h1:zs.length=s.files.length:=by have h3:=congrArg List.length hzs; rw[List.length_map]at h3; exact h3
    have h2:=HS2F.out;omega
   obtain⟨W12,hW12⟩: ∃W12:World,W12=WT.drew:=⟨_,rfl⟩;have HB12:=aa (show Below WT.heap.size WT W12 by rw[hW12]; exact(Below.refl _ _).drew);have hzT:=HB12.out.size;have HR12:=aa (show W12.ownsRow base 27 7 (.slice xa zs.length xc) zs.length (cU zs) by rw[<-hfv]; exact aW hzr HB12.out);have HF12:=aa ((HB12.out.block _ (lt_of_block HFB.out)).trans HFB.out);have HC12:=aa ((HB12.out.block _ (lt_of_block HTT.out.col.box)).trans HTT.out.col.box)
   have hne12:(Value.slice xa zs.length xc).ownBlock≠some (w.heap.size+1):=fun e1=>by
    have h1:=HFL.out (w.heap.size+1) (by rw[HFV.out]; exact e1);omega
   have HNE12:=aa hne12;clear hzs hzr hzd hfv hne12;have k1:=af (k:=1) HC12.out;simp only[bN,bR,List.cons_append,List.nil_append,List.getElem?_toArray,cw,HFV.out]at k1;have S12:=aa (And.intro k1 HF12.out);clear k1;refine cN (fun w'=>w'.cell? ⟨cb,1,none⟩=some (.slice xa zs.length xc)/\w'.heap[w.heap.size+1]? =some (.cells #[.string e.path, .int .i64 e.kind, .int .i64 e.mode, .int .i64 e.time, .int .i64 (dl:Int), .string e.link, .slice ra rn rc] 27 (0,0))) (by kernel_rfl) (by kernel_rfl) ?_
   simp only[List.dropLast_cons_cons,List.dropLast_singleton,List.length_cons,List.length_nil,Nat.reduceAdd,Nat.reduceSub];rw[<-hW12];clear hW12;refine ac 0 rfl (by kernel_rfl) (by kernel_rfl) (by kernel_rfl) (fun _ _ _ h=>h) rfl S12.out (by rintro w' ⟨hw1,hw2⟩; go_simp; rfl) ?_;simp only[Act.put,aD,aE,aF];refine ac 1 rfl (by kernel_rfl) (by kernel_rfl) (by kernel_rfl) (fun _ _ _ h=>h) rfl S12.out (by rintro w' ⟨hw1,hw2⟩; go_simp; rfl) ?_
   simp only[Act.put,aD,aE,aF];refine ac 2 rfl (by kernel_rfl) (by kernel_rfl) (by kernel_rfl) (fun _ _ _ h=>h) rfl S12.out (by rintro w' ⟨hw1,hw2⟩; go_simp; rfl) ?_;simp only[Act.put,aD,aE,aF];refine ac 3 rfl (by kernel_rfl) (by kernel_rfl) (by kernel_rfl) (fun _ _ _ h=>h) rfl S12.out (by rintro w' ⟨hw1,hw2⟩; go_simp; rfl) ?_;simp only[Act.put,aD,aE,aF];refine ac 4 rfl (by kernel_rfl) (by kernel_rfl) (by kernel_rfl) (fun _ _ _ h=>h) rfl S12.out (by rintro w' ⟨hw1,hw2⟩; go_simp; rfl) ?_
   simp only[Act.put,aD,aE,aF];refine ac 5 rfl (by kernel_rfl) (by kernel_rfl) (by kernel_rfl) (fun _ _ _ h=>h) rfl S12.out (by rintro w' ⟨hw1,hw2⟩; go_simp; rfl) ?_;simp only[Act.put,aD,aE,aF];refine ac 6 rfl (by kernel_rfl) (by kernel_rfl) (by kernel_rfl) (fun _ _ _ h=>h) rfl S12.out (by rintro w' ⟨hw1,hw2⟩; go_simp; rfl) ?_;simp only[Act.put,aD,aE,aF];refine ac 7 rfl (by kernel_rfl) (by kernel_rfl) (by kernel_rfl) (fun _ _ _ h=>h) rfl S12.out (by rintro w' ⟨hw1,hw2⟩; have o0:=af (k:=0) hw2; have o1:=af (k:=1) hw2; have o2:=af (k:=2) hw2; have o3:=af (k:=3) hw2; have o4:=af (k:=4) hw2; have o5:=af (k:=5) hw2; have o6:=af (k:=6) hw2; simp only[List.getElem?_toArray,cw]at o0 o1 o2 o3 o4 o5 o6; clear hw2; go_simp; rfl) ?_
   simp only[Act.put,aD,aE,aF];refine bc 8 rfl (by kernel_rfl) rfl (fun K hK=> ?_);go_wp2_with fail;have hal:=(Below.refl W12.heap.size W12).alloc (Nat.le_refl _) (.cells #[.string e.path, .int .i64 e.kind, .int .i64 e.mode, .int .i64 e.time, .int .i64 (dl:Int), .string e.link, .slice ra rn rc] 27);refine⟨⟨(hal.cell (p:=⟨cb,1,none⟩) (lt_of_block HC12.out)).trans S12.out.1,(hal.block _ (lt_of_block HF12.out)).trans HF12.out⟩, ?_⟩
   refine bc 9 rfl (by kernel_rfl) rfl (fun K hK=> ?_);go_wp2_with (at_builtin; go_must (refine aS Tryz.appFiles rfl _ _ rfl base (.slice xa zs.length xc) zs.length (cU zs) rfl W12 [.string e.path, .int .i64 e.kind, .int .i64 e.mode, .int .i64 e.time, .int .i64 (dl:Int), .string e.link, .slice ra rn rc] _ rfl rfl (ix (f:=⟨e.path,e.kind,e.mode,e.time,(dl:Int),e.link,[]⟩)) HR12.out (by omega) (by omega) ?_); intro vp wc hown3 hg3 _ hpl3; obtain⟨ea,ec,rfl,-,-⟩:=aj hown3)
   have hcb9:(Value.slice xa zs.length xc).ownBlock≠some cb:=fun e1=>by
    obtain⟨cs2,hc2⟩:=aH HR12.out e1;exact absurd (aK HC12.out hc2) (by decide)
   have HCC:=aa ((hg3.block cb (lt_of_block HC12.out) (fun e1=>hcb9 e1.symm)).trans HC12.out);have HFC:=aa ((hg3.block _ (lt_of_block HF12.out) (fun e1=>HNE12.out e1.symm)).trans HF12.out);have HFIN:=aa (HTT.out.file (s':=gG q.at0 prev q.cut s e) (f:=⟨e.path,e.kind,e.mode,e.time,(dl:Int),e.link,ps⟩) (pv:= .slice ra rn rc) (fv':= .slice ea (zs.length+1) ec) HZS.out HZR.out HZD.out HB12.out (aW HPV.out HB12.out) HFOK.out HPOK.out hown3 (by show W12.grownBy wc q.fv.ownBlock; rw[HFV.out]; exact hg3) (by show ∀k,_->q.fv.ownBlock=some k\/_; rw[HFV.out]; exact hpl3) (by rw[HRES.out]) (by rw[HRES.out]) (by rw[HRES.out]) (by rw[HRES.out]) (by rw[HRES.out]) hcb (by omega))
   have hb1:Below base w wc:=(HBT.out.trans (HB12.out.mono (by omega))).grown hg3 (by omega) (fun i e1=>(HR12.out.lt i e1).1);have HBE:=aa (hb1.grown (be wc cb 1 (.slice ea (zs.length+1) ec)) (by have:=hb1.size; omega) (fun i e1=>by cases e1; exact hcb));have k1:=af (k:=1) HCC.out;have f1:=aI (k:=1) HCC.out;simp only[bN,bR,List.cons_append,List.nil_append,List.getElem?_toArray,cw,HFV.out]at k1
   have SC:=aa (And.intro k1 HFC.out);clear hown3 hg3 hpl3 hcb9 hb1 hal;refine⟨SC.out, ?_⟩;refine ac 10 rfl (by kernel_rfl) (by kernel_rfl) (by kernel_rfl) (fun _ _ _ h=>h) rfl SC.out (by rintro w' ⟨hw1,hw2⟩; go_simp; rfl) ?_;simp only[Act.put,aD,aE,aF];refine ac 11 rfl (by kernel_rfl) (by kernel_rfl) (by kernel_rfl) (fun _ _ _ h=>h) rfl SC.out (by rintro w' ⟨hw1,hw2⟩; go_simp; rfl) ?_
   simp only[Act.put,aD,aE,aF];refine ac 12 rfl (by kernel_rfl) (by kernel_rfl) (by kernel_rfl) (fun _ _ _ h=>h) rfl SC.out (by rintro w' ⟨hw1,hw2⟩; go_simp; rfl) ?_;simp only[Act.put,aD,aE,aF];refine ac 13 rfl (by kernel_rfl) (by kernel_rfl) (by kernel_rfl) (fun _ _ _ h=>h) rfl SC.out (by rintro w' ⟨hw1,hw2⟩; go_simp; rfl) ?_;simp only[Act.put,aD,aE,aF];refine bO (by kernel_rfl) ?_
   refine cZ rfl rfl (fun K hK=> ?_);go_wp2_with fail;go_ret;exact⟨_,_,_,_,rfl,HFIN.out,HBE.out⟩
 ·have hk2:(e.kind == 1)=false:=by simp[hk]
  have HK:=aa hk;clear hk;have x1:=af (k:=1) HX.out;simp only[List.getElem?_toArray,cw]at x1
  go_upto_region 12 with fail
  clear x1;obtain⟨WT,hWT⟩: ∃WT:World,WT=W:=⟨_,rfl⟩;rw[<-hWT];obtain⟨ra,rn,rc,ps,hra,hrn,hrc,hps⟩: ∃(ra:Option Addr) (rn rc:Nat) (ps:List bq),ra=none/\rn=0/\rc=0/\ps=[]:=⟨_,_,_,_,rfl,rfl,rfl,rfl⟩;have HTT:=aa (show cD W0 WT base cb kb q nv prev s by rw[hWT]; exact HT0.out);have HFB:=aa (show WT.heap[w.heap.size+1]? =some (.cells #[.string e.path, .int .i64 e.kind, .int .i64 e.mode, .int .i64 e.time, .int .i64 (dl:Int), .string e.link, .slice ra rn rc] 27 (0,0)) by rw[hWT,hra,hrn,hrc]; exact HY.out)
  have HPV:=aa (show WT.ownsRow base 62 2 (.slice ra rn rc) ps.length (bh ps) by rw[hra,hrn,hrc,hps]; exact World.ownsRow_nil _ _ _ _);have HFOK:=aa (show cS ⟨e.path,e.kind,e.mode,e.time,(dl:Int),e.link,ps⟩from⟨HOK.out.pth,HOK.out.lnk,HOK.out.knd,HOK.out.mde,HOK.out.tim,ky (by omega)⟩);have HPOK:=aa (show ∀p∈ps,dE p by rw[hps]; simp);have HRES:=aa (show gG q.at0 prev q.cut s e=⟨s.files++[⟨e.path,e.kind,e.mode,e.time,(dl:Int),e.link,ps⟩],s.known,s.news,s.read,s.kept⟩ by rw[tT HK.out,hps,HDL.out])
  have HBT:=aa (show Below base w WT by rw[hWT]; exact HBW.out.mono hbz);have HS2F:=aa (show s.files.length<=4096 from hfl);have hzW:w.heap.size<=WT.heap.size:=HBT.out.size;clear hWT hra hrn hrc hps;obtain⟨zs,hzs,hzr,hzd⟩:=HTT.out.files.row;obtain⟨xa,xc,hfv,-,-⟩:=aj hzr;have HZS:=aa hzs;have HZD:=aa hzd;have HZR:=aa hzr;have HFV:=aa (show q.fv= .slice xa zs.length xc from hfv)
  have hzl:zs.length<=4096:=by
   have h1:zs.length=s.files.length:=by have h3:=congrArg List.length hzs; rw[List.length_map]at h3; exact h3
   have h2:=HS2F.out;omega
  obtain⟨W12,hW12⟩: ∃W12:World,W12=WT.drew:=⟨_,rfl⟩;have HB12:=aa (show Below WT.heap.size WT W12 by rw[hW12]; exact(Below.refl _ _).drew);have hzT:=HB12.out.size;have HR12:=aa (show W12.ownsRow base 27 7 (.slice xa zs.length xc) zs.length (cU zs) by rw[<-hfv]; exact aW hzr HB12.out);have HF12:=aa ((HB12.out.block _ (lt_of_block HFB.out)).trans HFB.out);have HC12:=aa ((HB12.out.block _ (lt_of_block HTT.out.col.box)).trans HTT.out.col.box)
  have hne12:(Value.slice xa zs.length xc).ownBlock≠some (w.heap.size+1):=fun e1=>by
   have h1:=HFL.out (w.heap.size+1) (by rw[HFV.out]; exact e1);omega
  have HNE12:=aa hne12;clear hzs hzr hzd hfv hne12;have k1:=af (k:=1) HC12.out;simp only[bN,bR,List.cons_append,List.nil_append,List.getElem?_toArray,cw,HFV.out]at k1;have S12:=aa (And.intro k1 HF12.out);clear k1;refine cN (fun w'=>w'.cell? ⟨cb,1,none⟩=some (.slice xa zs.length xc)/\w'.heap[w.heap.size+1]? =some (.cells #[.string e.path, .int .i64 e.kind, .int .i64 e.mode, .int .i64 e.time, .int .i64 (dl:Int), .string e.link, .slice ra rn rc] 27 (0,0))) (by kernel_rfl) (by kernel_rfl) ?_
  simp only[List.dropLast_cons_cons,List.dropLast_singleton,List.length_cons,List.length_nil,Nat.reduceAdd,Nat.reduceSub];rw[<-hW12];clear hW12;refine ac 0 rfl (by kernel_rfl) (by kernel_rfl) (by kernel_rfl) (fun _ _ _ h=>h) rfl S12.out (by rintro w' ⟨hw1,hw2⟩; go_simp; rfl) ?_;simp only[Act.put,aD,aE,aF];refine ac 1 rfl (by kernel_rfl) (by kernel_rfl) (by kernel_rfl) (fun _ _ _ h=>h) rfl S12.out (by rintro w' ⟨hw1,hw2⟩; go_simp; rfl) ?_
  simp only[Act.put,aD,aE,aF];refine ac 2 rfl (by kernel_rfl) (by kernel_rfl) (by kernel_rfl) (fun _ _ _ h=>h) rfl S12.out (by rintro w' ⟨hw1,hw2⟩; go_simp; rfl) ?_;simp only[Act.put,aD,aE,aF];refine ac 3 rfl (by kernel_rfl) (by kernel_rfl) (by kernel_rfl) (fun _ _ _ h=>h) rfl S12.out (by rintro w' ⟨hw1,hw2⟩; go_simp; rfl) ?_;simp only[Act.put,aD,aE,aF];refine ac 4 rfl (by kernel_rfl) (by kernel_rfl) (by kernel_rfl) (fun _ _ _ h=>h) rfl S12.out (by rintro w' ⟨hw1,hw2⟩; go_simp; rfl) ?_
  simp only[Act.put,aD,aE,aF];refine ac 5 rfl (by kernel_rfl) (by kernel_rfl) (by kernel_rfl) (fun _ _ _ h=>h) rfl S12.out (by rintro w' ⟨hw1,hw2⟩; go_simp; rfl) ?_;simp only[Act.put,aD,aE,aF];refine ac 6 rfl (by kernel_rfl) (by kernel_rfl) (by kernel_rfl) (fun _ _ _ h=>h) rfl S12.out (by rintro w' ⟨hw1,hw2⟩; go_simp; rfl) ?_;simp only[Act.put,aD,aE,aF];refine ac 7 rfl (by kernel_rfl) (by kernel_rfl) (by kernel_rfl) (fun _ _ _ h=>h) rfl S12.out (by rintro w' ⟨hw1,hw2⟩; have o0:=af (k:=0) hw2; have o1:=af (k:=1) hw2; have o2:=af (k:=2) hw2; have o3:=af (k:=3) hw2; have o4:=af (k:=4) hw2; have o5:=af (k:=5) hw2; have o6:=af (k:=6) hw2; simp only[List.getElem?_toArray,cw]at o0 o1 o2 o3 o4 o5 o6; clear hw2; go_simp; rfl) ?_
  simp only[Act.put,aD,aE,aF];refine bc 8 rfl (by kernel_rfl) rfl (fun K hK=> ?_);go_wp2_with fail;have hal:=(Below.refl W12.heap.size W12).alloc (Nat.le_refl _) (.cells #[.string e.path, .int .i64 e.kind, .int .i64 e.mode, .int .i64 e.time, .int .i64 (dl:Int), .string e.link, .slice ra rn rc] 27);refine⟨⟨(hal.cell (p:=⟨cb,1,none⟩) (lt_of_block HC12.out)).trans S12.out.1,(hal.block _ (lt_of_block HF12.out)).trans HF12.out⟩, ?_⟩
  refine bc 9 rfl (by kernel_rfl) rfl (fun K hK=> ?_);go_wp2_with (at_builtin; go_must (refine aS Tryz.appFiles rfl _ _ rfl base (.slice xa zs.length xc) zs.length (cU zs) rfl W12 [.string e.path, .int .i64 e.kind, .int .i64 e.mode, .int .i64 e.time, .int .i64 (dl:Int), .string e.link, .slice ra rn rc] _ rfl rfl (ix (f:=⟨e.path,e.kind,e.mode,e.time,(dl:Int),e.link,[]⟩)) HR12.out (by omega) (by omega) ?_); intro vp wc hown3 hg3 _ hpl3; obtain⟨ea,ec,rfl,-,-⟩:=aj hown3)
  have hcb9:(Value.slice xa zs.length xc).ownBlock≠some cb:=fun e1=>by
   obtain⟨cs2,hc2⟩:=aH HR12.out e1;exact absurd (aK HC12.out hc2) (by decide)
  have HCC:=aa ((hg3.block cb (lt_of_block HC12.out) (fun e1=>hcb9 e1.symm)).trans HC12.out);have HFC:=aa ((hg3.block _ (lt_of_block HF12.out) (fun e1=>HNE12.out e1.symm)).trans HF12.out);have HFIN:=aa (HTT.out.file (s':=gG q.at0 prev q.cut s e) (f:=⟨e.path,e.kind,e.mode,e.time,(dl:Int),e.link,ps⟩) (pv:= .slice ra rn rc) (fv':= .slice ea (zs.length+1) ec) HZS.out HZR.out HZD.out HB12.out (aW HPV.out HB12.out) HFOK.out HPOK.out hown3 (by show W12.grownBy wc q.fv.ownBlock; rw[HFV.out]; exact hg3) (by show ∀k,_->q.fv.ownBlock=some k\/_; rw[HFV.out]; exact hpl3) (by rw[HRES.out]) (by rw[HRES.out]) (by rw[HRES.out]) (by rw[HRES.out]) (by rw[HRES.out]) hcb (by omega))
  have hb1:Below base w wc:=(HBT.out.trans (HB12.out.mono (by omega))).grown hg3 (by omega) (fun i e1=>(HR12.out.lt i e1).1);have HBE:=aa (hb1.grown (be wc cb 1 (.slice ea (zs.length+1) ec)) (by have:=hb1.size; omega) (fun i e1=>by cases e1; exact hcb));have k1:=af (k:=1) HCC.out;have f1:=aI (k:=1) HCC.out;simp only[bN,bR,List.cons_append,List.nil_append,List.getElem?_toArray,cw,HFV.out]at k1
  have SC:=aa (And.intro k1 HFC.out);clear hown3 hg3 hpl3 hcb9 hb1 hal;refine⟨SC.out, ?_⟩;refine ac 10 rfl (by kernel_rfl) (by kernel_rfl) (by kernel_rfl) (fun _ _ _ h=>h) rfl SC.out (by rintro w' ⟨hw1,hw2⟩; go_simp; rfl) ?_;simp only[Act.put,aD,aE,aF];refine ac 11 rfl (by kernel_rfl) (by kernel_rfl) (by kernel_rfl) (fun _ _ _ h=>h) rfl SC.out (by rintro w' ⟨hw1,hw2⟩; go_simp; rfl) ?_
  simp only[Act.put,aD,aE,aF];refine ac 12 rfl (by kernel_rfl) (by kernel_rfl) (by kernel_rfl) (fun _ _ _ h=>h) rfl SC.out (by rintro w' ⟨hw1,hw2⟩; go_simp; rfl) ?_;simp only[Act.put,aD,aE,aF];refine ac 13 rfl (by kernel_rfl) (by kernel_rfl) (by kernel_rfl) (fun _ _ _ h=>h) rfl SC.out (by rintro w' ⟨hw1,hw2⟩; go_simp; rfl) ?_;simp only[Act.put,aD,aE,aF];refine bO (by kernel_rfl) ?_
  refine cZ rfl rfl (fun K hK=> ?_);go_wp2_with fail;go_ret;exact⟨_,_,_,_,rfl,HFIN.out,HBE.out⟩
end Go.Proofs.YtnjkpcalgoefhaaGreatDoor
namespace Go.Proofs.YtnjkpcalgoefhaaGreatDoor
open Go.RowKit
theorem grownBy.refl (w:World) (r:Option Nat):w.grownBy w r:=⟨rfl,rfl,rfl,Nat.le_refl _,fun _ _ _=>rfl⟩
theorem grownBy.trans {a b c:World} {r:Option Nat} (h:a.grownBy b r) (k:b.grownBy c r):a.grownBy c r:=
 ⟨k.os.trans h.os,k.tape.trans h.tape,k.output.trans h.output,Nat.le_trans h.size k.size,fun i hi hr=>(k.block i (Nat.lt_of_lt_of_le hi h.size) hr).trans (h.block i hi hr)⟩
theorem grownBy.setCell (w:World) (a:Addr) (u:Value):w.grownBy (w.setCell a u) (some a.block):=
 ⟨rfl,rfl,rfl,by simp[World.setCell],fun k _ hr=>Below.heap_setCell _ _ _ _ (fun e=>hr (by rw[e]))⟩
theorem grownBy.of_below {w w':World} {r:Option Nat} (h:Below w.heap.size w w'):w.grownBy w' r:=⟨h.os,h.tape,h.output,h.size,fun k hk _=>h.block k hk⟩
theorem grownBy.below {B:Nat} {w0 w w':World} {b:Nat} (hb:Below B w0 w) (h:w.grownBy w' (some b)) (h1:B<=b) (h2:B<=w.heap.size):Below B w0 w':=
 hb.grown h h2 (fun k hk=>by cases hk; exact h1)
def bm (w:World) (sb:Nat) (rs:List Int):Prop:=
 ∃v,w.heap[sb]? =some (.cells #[v] 200 (0,0))/\aB (· <sb) w 1 v rs.length (rs.map (Value.int .i32))
theorem bm.lt {w:World} {sb:Nat} {rs:List Int} (h:bm w sb rs):sb<w.heap.size:=by
 obtain⟨v,h1,_⟩:=h;exact(Array.getElem?_eq_some_iff.1 h1).1
theorem ab {w:World} {b j:Nat} {cs:Array Value} {t:TypeId} {fz:Nat×Nat} (h:w.heap[b]? =some (.cells cs t fz)):w.cell? ⟨b,j,none⟩=cs[j]? :=by simp[World.cell?,h]
theorem ah {w:World} {b j:Nat} {cs:Array Value} {t:TypeId} (h:w.heap[b]? =some (.cells cs t (0,0))):w.frozen? ⟨b,j,none⟩=false:=by simp[World.frozen?,h]
theorem bm.open {w:World} {sb:Nat} {rs:List Int} (h:bm w sb rs):
  ∃a cap,w.cell? ⟨sb,0,none⟩=some (.slice a rs.length cap)/\w.frozen? ⟨sb,0,none⟩=false/\rs.length<=cap/\cap<=maxLen/\(∀r t,rs=r::t-> ∃b o,a=some ⟨b,o,none⟩/\w.cell? ⟨b,o,none⟩=some (.int .i32 r)/\
   bm (w.setCell ⟨sb,0,none⟩ (.slice (some (if cap=1 then⟨b,o,none⟩else⟨b,o+1,none⟩)) t.length (cap-1))) sb t):=by
 obtain⟨v,h1,hl,a,cap,rfl,hn,hm,h0⟩:=h;refine⟨a,cap,by rw[ab h1]; simp,ah h1,hn,hm, ?_⟩;rintro r t rfl
 rcases h0 with h0 | ⟨b,o,rfl,hb,hc⟩
 ·simp at h0
 ·refine⟨b,o,rfl,by have:=hc 0 (.int .i32 r) (by simp); simpa using this, ?_⟩;have hlt:sb<w.heap.size:=(Array.getElem?_eq_some_iff.1 h1).1;refine⟨.slice (some (if cap=1 then⟨b,o,none⟩else⟨b,o+1,none⟩)) t.length (cap-1), ?_,by simp,_,_,rfl,by simp at hn; omega,by omega, ?_⟩
  ·simp only[World.setCell,Array.getElem?_modify,if_true,h1]
   rfl
  ·by_cases h1c:cap=1
   ·left; simp at hn; omega
   ·right
    refine⟨b,o+1,by rw[if_neg h1c],hb,fun j u hj=> ?_⟩;rw[World.cell?_of_block (w:=w) (a:=⟨b,o+1+j,none⟩) (Below.heap_setCell _ _ _ _ (by simp; omega))];have:=hc (j+1) u (by simpa using hj);rw[show o+1+j=o+(j+1) by omega]; exact this
theorem bm.grown {w w':World} {sb:Nat} {rs:List Int} (h:bm w sb rs) (hb:Below w.heap.size w w'):bm w' sb rs:=by
 have hlt:=h.lt;obtain⟨v,h1,h2⟩:=h;exact⟨v,by rw[hb.block sb hlt]; exact h1,h2.below (by omega) hb⟩
def gc (sb:Nat) (v:Value) (rs:List Int) (w:World) (e:Ending) (w':World):Prop:=e= .returned v/\bm w' sb rs/\w.grownBy w' (some sb)
theorem mB (sb:Nat) (w:World) (h:bm w sb []):Calls Tryz.prog 191 #[.pointer (some ⟨sb,0,none⟩)] w (gc sb (.tuple #[.int .i32 0, .bool false]) [] w):=by
 obtain⟨a,cap,hc,_,_,_,_⟩:=h.open;have H:=aa h;clear h;simp only[List.length_nil]at hc
 go_enter Tryz.func191,Tryz.ntmps191
 go_wp2
 go_ret2
 exact⟨rfl,H.out,grownBy.refl _ _⟩
theorem el (sb:Nat) (r:Int) (t:List Int) (w:World) (h:bm w sb (r::t)):Calls Tryz.prog 191 #[.pointer (some ⟨sb,0,none⟩)] w (gc sb (.tuple #[.int .i32 r, .bool true]) t w):=by
 obtain⟨a,cap,hc,hf,hn,hm,hx⟩:=h.open;obtain⟨b,o,rfl,hr,hs⟩:=hx r t rfl;have HS:=aa hs;clear h hx hs;unfold maxLen at hm;simp only[List.length_cons]at hc hn;obtain⟨n,hnn⟩: ∃n,n=t.length:=⟨_,rfl⟩;rw[<-hnn]at hc hn;have HN:=aa hnn;clear hnn
 by_cases h1:cap=1
 ·subst h1;obtain rfl:n=0:=by omega
  go_enter Tryz.func191,Tryz.ntmps191
  go_wp2
  go_ret2
  refine⟨rfl, ?_,grownBy.setCell _ _ _⟩;have:=HS.out;simp only[if_true,<-HN.out]at this;exact this
 ·have h2:(cap == 1)=false:=by simpa using h1
  go_enter Tryz.func191,Tryz.ntmps191
  go_wp2
  go_ret2
  refine⟨rfl, ?_,grownBy.setCell _ _ _⟩;have:=HS.out;rw[if_neg h1,<-HN.out]at this;exact this
theorem ze (sb:Nat) (rs:List Int) (c:Int) (w:World) (h:bm w sb rs) (hne:rs.head? ≠some c):Calls Tryz.prog 202 #[.pointer (some ⟨sb,0,none⟩), .int .i32 c] w (gc sb (.bool false) rs w):=by
 obtain⟨a,cap,hc,hf,hn,hm,hx⟩:=h.open;have H:=aa h;clear h
 cases rs with
 | nil=>
  clear hx hne;simp only[List.length_nil]at hc
  go_enter Tryz.func202,Tryz.ntmps202
  go_wp2
  go_ret;exact⟨rfl,H.out,grownBy.refl _ _⟩
 | cons r t=>
  obtain⟨b,o,rfl,hr,-⟩:=hx r t rfl;clear hx;have h1:(r != c)=true:=by rw[bne_iff_ne]; intro e; exact hne (by rw[e]; rfl)
  simp only[List.length_cons]at hc hn;obtain⟨n,hnn⟩: ∃n,n=t.length:=⟨_,rfl⟩;rw[<-hnn]at hc hn;clear hnn hne;unfold maxLen at hm
  go_enter Tryz.func202,Tryz.ntmps202
  go_wp2
  go_ret;exact⟨rfl,H.out,grownBy.refl _ _⟩
theorem xH (sb:Nat) (t:List Int) (c:Int) (w:World) (h:bm w sb (c::t)):Calls Tryz.prog 202 #[.pointer (some ⟨sb,0,none⟩), .int .i32 c] w (gc sb (.bool true) t w):=by
 obtain⟨a,cap,hc,hf,hn,hm,hx⟩:=h.open;obtain⟨b,o,rfl,hr,hs⟩:=hx c t rfl;have HS:=aa hs;clear h hx hs;unfold maxLen at hm;simp only[List.length_cons]at hc hn;obtain⟨n,hnn⟩: ∃n,n=t.length:=⟨_,rfl⟩;rw[<-hnn]at hc hn;have HN:=aa hnn;clear hnn
 by_cases h1:cap=1
 ·subst h1;obtain rfl:n=0:=by omega
  go_enter Tryz.func202,Tryz.ntmps202
  go_wp2
  go_ret;refine⟨rfl, ?_,grownBy.setCell _ _ _⟩;have:=HS.out;simp only[if_true,<-HN.out]at this;exact this
 ·have h2:(cap == 1)=false:=by simpa using h1
  go_enter Tryz.func202,Tryz.ntmps202
  go_wp2
  go_ret;refine⟨rfl, ?_,grownBy.setCell _ _ _⟩;have:=HS.out;rw[if_neg h1,<-HN.out]at this;exact this
theorem lL (sb:Nat) (rs:List Int) (r:Int) (t:List Int) (w:World) (h:bm w sb rs) (he:gv rs=some (r,t)):Calls Tryz.prog 203 #[.pointer (some ⟨sb,0,none⟩)] w (gc sb (.tuple #[.int .i32 r, .bool true]) t w):=by
 cases rs with
 | nil=>simp[gv]at he
 | cons c l=>
  have H:=aa h;clear h;rw[gv]at he
  by_cases h92:c=92
  ·rw[if_pos h92]at he;subst h92
   cases l with
   | nil=>simp[jD]at he
   | cons q u=>
    simp only[jD,Option.some.injEq,Prod.mk.injEq]at he;obtain⟨rfl,rfl⟩:=he
    go_enter Tryz.func203,Tryz.ntmps203
    go_wp2_with fail;refine(el sb 92 _ w H.out).mono ?_;rintro e w1 ⟨rfl,h1,hg1⟩;have H1:=aa h1;have G1:=aa hg1;clear h1 hg1;go_wp2_with fail;refine(el sb q u w1 H1.out).mono ?_;rintro e w2 ⟨rfl,h2,hg2⟩;have H2:=aa h2;have G2:=aa hg2;clear h2 hg2;go_wp2_with fail
    go_ret2
    exact⟨rfl,H2.out,grownBy.trans G1.out G2.out⟩
  ·rw[if_neg h92]at he
   split at he
   ·simp at he
   ·rename_i hno;simp only[Option.some.injEq,Prod.mk.injEq]at he;obtain⟨rfl,rfl⟩:=he;have e1:(c == 92)=false:=by simpa using h92
    have e2:(c == 93)=false:=by simp; omega
    have e3:(c == 94)=false:=by simp; omega
    have e4:(c == 45)=false:=by simp; omega
    clear hno h92
    go_enter Tryz.func203,Tryz.ntmps203
    go_wp2_with fail;refine(el sb c _ w H.out).mono ?_;rintro e w1 ⟨rfl,h1,hg1⟩;have H1:=aa h1;have G1:=aa hg1;clear h1 hg1;go_wp2_with fail
    go_ret2
    exact⟨rfl,H1.out,G1.out⟩
theorem kE (sb:Nat) (rs:List Int) (w:World) (h:bm w sb rs) (he:gv rs=none):Calls Tryz.prog 203 #[.pointer (some ⟨sb,0,none⟩)] w (fun e w'=> ∃rs',gc sb (.tuple #[.int .i32 0, .bool false]) rs' w e w'):=by
 have H:=aa h;clear h
 cases rs with
 | nil=>
  go_enter Tryz.func203,Tryz.ntmps203
  go_wp2_with fail;refine(mB sb w H.out).mono ?_;rintro e w1 ⟨rfl,h1,hg1⟩;have H1:=aa h1;have G1:=aa hg1;clear h1 hg1;go_wp2_with fail
  go_ret2
  exact⟨_,rfl,H1.out,G1.out⟩
 | cons c l=>
  rw[gv]at he
  by_cases h92:c=92
  ·rw[if_pos h92]at he;subst h92
   cases l with
   | nil=>
    clear he
    go_enter Tryz.func203,Tryz.ntmps203
    go_wp2_with fail;refine(el sb 92 _ w H.out).mono ?_;rintro e w1 ⟨rfl,h1,hg1⟩;have H1:=aa h1;have G1:=aa hg1;clear h1 hg1;go_wp2_with fail;refine(mB sb w1 H1.out).mono ?_;rintro e w2 ⟨rfl,h2,hg2⟩;have H2:=aa h2;have G2:=aa hg2;clear h2 hg2;go_wp2_with fail
    go_ret2
    exact⟨_,rfl,H2.out,grownBy.trans G1.out G2.out⟩
   | cons q u=>simp[jD]at he
  ·rw[if_neg h92]at he
   split at he
   ·rename_i hyes;have e1:(c == 92)=false:=by simpa using h92
    clear he h92
    rcases hyes with rfl | rfl | rfl
    all_goals
     go_enter Tryz.func203,Tryz.ntmps203
     go_wp2_with fail;refine(el sb _ _ w H.out).mono ?_;rintro e w1 ⟨rfl,h1,hg1⟩;have H1:=aa h1;have G1:=aa hg1;clear h1 hg1;go_wp2_with fail
     go_ret2
     exact⟨_,rfl,H1.out,G1.out⟩
   ·simp at he
theorem mz (sb:Nat) (rs:List Int) (c:Int) (w:World) (h:bm w sb rs):Calls Tryz.prog 202 #[.pointer (some ⟨sb,0,none⟩), .int .i32 c] w (fun e w'=> ∃b rs',b=decide (rs.head? =some c)/\rs'=(if b then rs.tail else rs)/\gc sb (.bool b) rs' w e w'):=by
 by_cases hc:rs.head? =some c
 ·cases rs with
  | nil=>simp at hc
  | cons r t=>
   simp at hc; subst hc;exact(xH sb t r w h).mono fun e w' hr=>⟨true,t,by simp,by simp,hr⟩
 ·exact(ze sb rs c w h hc).mono fun e w' hr=>⟨false,rs,by simp[hc],by simp,hr⟩
def lp (sb:Nat) (w:World):Nat:=match w.cell? ⟨sb,0,none⟩with | some (.slice _ n _)=>n | _=>0
theorem bm.len {w:World} {sb:Nat} {rs:List Int} (h:bm w sb rs):lp sb w=rs.length:=by
 obtain⟨a,cap,hc,_⟩:=h.open;simp[lp,hc]
def iN (rs:List (Int×Int)):List Value:=rs.flatMap fun x=>[.int .i32 x.1, .int .i32 x.2]
def du (S:Nat->Prop) (w:World) (v:Value) (rs:List (Int×Int)):Prop:=aB S w 2 v rs.length (iN rs)
theorem Tryz.appRanges :cX Tryz.prog 206 237 2 8:=cX.mk' (z:= .agg #[.int .i32 0, .int .i32 0]) Tryz.underlying206 (by kernel_rfl) rfl (by decide) (by decide)
structure eD (w : World) (sb rb tb : Nat) (neg : Bool) (rest : List Int) (acc : List (Int × Int)) (v : Value) (wr : World) : Prop where
 scan:bm wr sb rest
 res:wr.heap[rb]? =some (.cells #[.bool false, .bool false, .bool false, .slice none 0 0] 208 (0,0))
 box:wr.heap[tb]? =some (.cells #[.bool false, .bool false, .bool neg,v] 208 (0,0))
 own:wr.ownsRow (tb+1) 237 2 v acc.length (iN acc)
 nil:acc=[]->v= .slice none 0 0
 grow:w.grownBy wr (some sb)
 lt:sb<rb/\w.heap.size<=rb/\rb<tb/\tb<wr.heap.size
theorem eD.scanned {w:World} {sb rb tb:Nat} {neg:Bool} {rest rest':List Int} {acc:List (Int×Int)} {v:Value} {wr w1:World} (h:eD w sb rb tb neg rest acc v wr) (hs:bm w1 sb rest') (hg:wr.grownBy w1 (some sb)):eD w sb rb tb neg rest' acc v w1:=by
 obtain⟨_,hr,hb,ho,hn,hgr,h1,h2,h3,h4⟩:=h;refine⟨hs, ?_, ?_, ?_,hn,grownBy.trans hgr hg,h1,h2,h3,Nat.lt_of_lt_of_le h4 hg.size⟩
 ·rw[hg.block rb (by omega) (by simp; omega)]; exact hr
 ·rw[hg.block tb h4 (by simp; omega)]; exact hb
 ·refine ho.kept hg ?_
  cases hv:v.ownBlock with
  | none=>exact .inl rfl
  | some k=>right; have:=(ho.lt k hv).1; simp; omega
theorem eD.added {w:World} {sb rb tb:Nat} {neg:Bool} {rest:List Int} {acc:List (Int×Int)} {v v':Value} {wr w1:World} {lo hi:Int} (h:eD w sb rb tb neg rest acc v wr)
  (ho:w1.ownsRow (tb+1) 237 2 v' (acc.length+1) (iN acc++[.int .i32 lo, .int .i32 hi])) (hg:wr.grownBy w1 v.ownBlock):eD w sb rb tb neg rest (acc++[(lo,hi)]) v' (w1.setCell ⟨tb,3,none⟩ v')/\w1.cell? ⟨tb,3,none⟩=some v/\w1.frozen? ⟨tb,3,none⟩=false:=by
 have hI:=h;obtain⟨⟨sv,hs1,hs2⟩,hr,hb,ho0,hn,hgr,h1,h2,h3,h4⟩:=h;have hne: ∀k,k<tb+1->k<wr.heap.size->w1.heap[k]? =wr.heap[k]? :=fun k hk hk2=>hg.block k hk2 (fun e=>by have:=(ho0.lt k e.symm).1; omega)
 have htb:w1.heap[tb]? =some (.cells #[.bool false, .bool false, .bool neg,v] 208 (0,0)):=by rw[hne tb (by omega) h4]; exact hb
 refine⟨⟨⟨sv, ?_, ?_⟩, ?_, ?_, ?_,by simp, ?_,h1,h2,h3, ?_⟩,by rw[ab htb]; simp,ah htb⟩
 ·rw[Below.heap_setCell _ _ _ _ (by simp; omega),hne sb (by omega) (by omega)]; exact hs1
 ·refine hs2.same (fun k hk=> ?_);rw[Below.heap_setCell _ _ _ _ (by simp; omega),hne k (by omega) (by omega)]
 ·rw[Below.heap_setCell _ _ _ _ (by simp; omega),hne rb (by omega) (by omega)]; exact hr
 ·simp only[World.setCell,Array.getElem?_modify,if_true,htb]; rfl
 ·have:=ownsRow_setCell_below ho (a:=⟨tb,3,none⟩) (by simp) v'
  simpa [iN]using this
 ·refine⟨hg.os.trans hgr.os,hg.tape.trans hgr.tape,hg.output.trans hgr.output,by have:=hg.size; have:=hgr.size; simp[World.setCell]; omega,fun k hk hr2=> ?_⟩;rw[Below.heap_setCell _ _ _ _ (by simp; omega),hne k (by omega) (by have:=hgr.size; omega)];exact hgr.block k hk hr2
 ·have:=hg.size; simp[World.setCell]; omega
theorem fh {w:World} {sb:Nat} {rs:List Int} (h:bm w sb rs) (o:Obj):bm (w.alloc o) sb rs:=h.grown ((Below.refl _ _).alloc (Nat.le_refl _) _)
theorem eD.start {w w1:World} {sb:Nat} {t:List Int} {neg:Bool} (hsb:sb<w.heap.size) (hs:bm w1 sb t) (hg:(w.alloc (.cells #[.bool false, .bool false, .bool false, .slice none 0 0] 208)).grownBy w1 (some sb)):
  eD w sb w.heap.size w1.heap.size neg t [] (.slice none 0 0) (w1.alloc (.cells #[.bool false, .bool false, .bool neg, .slice none 0 0] 208)):=by
 have h1:=hg.size;simp at h1;refine⟨fh hs _, ?_,heap_alloc_new _ _,World.ownsRow_nil _ _ _ _,fun _=>rfl, ?_,hsb,Nat.le_refl _,by omega,by simp⟩
 ·rw[Below.heap_alloc _ _ _ (by omega),hg.block _ (by simp) (by simp; omega)];exact heap_alloc_new _ _
 ·refine⟨hg.os,hg.tape,hg.output,by simp; omega,fun k hk hr=> ?_⟩;rw[Below.heap_alloc _ _ _ (by omega),hg.block k (by simp; omega) hr];exact Below.heap_alloc _ _ _ hk
def zm (sb:Nat) (it:bi) (u:List Int) (w:World) (e:Ending) (w':World):Prop:=
 ∃v,e= .returned (.tuple #[.agg #[.bool it.star, .bool it.any, .bool it.neg,v], .bool true])/\du (w.heap.size<= ·) w' v it.ranges/\bm w' sb u/\w.grownBy w' (some sb)
def zx (sb:Nat) (w:World) (e:Ending) (w':World):Prop:=
 ∃b u,e= .returned (.tuple #[.agg #[.bool false, .bool false, .bool b, .slice none 0 0], .bool false])/\bm w' sb u/\w.grownBy w' (some sb)
def qQ (sb:Nat) (o:Option (bi×List Int)) (w:World) (e:Ending) (w':World):Prop:=
 match o with
 | some (it,u)=>zm sb it u w e w'
 | none=>zx sb w e w'
theorem ib {w:World} {b:Nat} {x0 x1 x2 x3:Value} {T:TypeId} (h:w.heap[b]? =some (.cells #[x0,x1,x2,x3] T (0,0))) (a0 a1 a2 a3:Value):
  ((((w.setCell ⟨b,0,none⟩ a0).setCell ⟨b,1,none⟩ a1).setCell ⟨b,2,none⟩ a2).setCell ⟨b,3,none⟩ a3).heap[b]? =some (.cells #[a0,a1,a2,a3] T (0,0))/\
  w.grownBy ((((w.setCell ⟨b,0,none⟩ a0).setCell ⟨b,1,none⟩ a1).setCell ⟨b,2,none⟩ a2).setCell ⟨b,3,none⟩ a3) (some b):=by
 refine⟨?_,grownBy.trans (grownBy.trans (grownBy.trans (grownBy.setCell w ⟨b,0,none⟩ a0) (grownBy.setCell _ ⟨b,1,none⟩ a1)) (grownBy.setCell _ ⟨b,2,none⟩ a2)) (grownBy.setCell _ ⟨b,3,none⟩ a3)⟩;simp only[World.setCell,Array.getElem?_modify,if_true,h,Option.map_some]
 rfl
theorem rq {w w':World} {r:Option Nat} (h:w.grownBy w' r):w.grownBy w'.drew r:=⟨h.os,h.tape,h.output,h.size,h.block⟩
theorem lF {sb:Nat} {w w1 w2 W:World} {neg:Bool} {rest:List Int} {acc:List (Int×Int)} {v:Value} {t:List Int} (HCL:js t=none) (HI:eD w sb w.heap.size w1.heap.size neg rest acc v w2) (hg:w2.grownBy W (some w.heap.size)):
  qQ sb (js t) w (.returned (.tuple #[.agg #[.bool false, .bool false, .bool false, .slice none 0 0], .bool false])) W:=by
 obtain⟨hsc,hr,hb,ho,hn,hgr,h1,h2,h3,h4⟩:=HI;have hsW:bm W sb rest:=by
  obtain⟨sv,hs1,hs2⟩:=hsc;exact⟨sv,by rw[hg.block sb (by omega) (by simp; omega)]; exact hs1,hs2.same (fun k hk=>hg.block k (by omega) (by simp; omega))⟩
 have hgW:w.grownBy W (some sb):=⟨hg.os.trans hgr.os,hg.tape.trans hgr.tape,hg.output.trans hgr.output,Nat.le_trans hgr.size hg.size,fun k hk hk2=>(hg.block k (by have:=hgr.size; omega) (by simp; omega)).trans (hgr.block k hk hk2)⟩;rw[HCL];exact⟨false,rest,rfl,hsW,hgW⟩
theorem yr {sb:Nat} {w w1 w2 W:World} {neg:Bool} {rest:List Int} {acc:List (Int×Int)} {v:Value} {t t':List Int} (HCL:js t=match cl (t'.length+1) t' []with | none=>none | some (rs,u)=>if rs=[]then none else some (⟨false,false,neg,rs⟩,u))
  (HC:cl (t'.length+1) t' []=some (acc,rest)) (HI:eD w sb w.heap.size w1.heap.size neg rest acc v w2) (hg:w2.grownBy W (some w.heap.size)):
  qQ sb (js t) w (.returned (.tuple #[.agg #[.bool false, .bool false, .bool neg,v], .bool (decide (0<acc.length))])) W:=by
 obtain⟨hsc,hr,hb,ho,hn,hgr,h1,h2,h3,h4⟩:=HI;have hsW:bm W sb rest:=by
  obtain⟨sv,hs1,hs2⟩:=hsc;exact⟨sv,by rw[hg.block sb (by omega) (by simp; omega)]; exact hs1,hs2.same (fun k hk=>hg.block k (by omega) (by simp; omega))⟩
 have hgW:w.grownBy W (some sb):=⟨hg.os.trans hgr.os,hg.tape.trans hgr.tape,hg.output.trans hgr.output,Nat.le_trans hgr.size hg.size,fun k hk hk2=>(hg.block k (by have:=hgr.size; omega) (by simp; omega)).trans (hgr.block k hk hk2)⟩;rw[HCL,HC];simp only
 split
 ·rename_i hnil;subst hnil;have:=hn rfl;subst this;exact⟨neg,rest,rfl,hsW,hgW⟩
 ·rename_i hnil;have hpos:0<acc.length:=List.length_pos_iff.2 hnil;refine⟨v,by simp[hpos], ?_,hsW,hgW⟩;refine((bu ho).same (w':=W) (fun k hk=>hg.block k (ho.lt k hk.2).2 (by simp; omega))).weak (fun k hk=>by omega)
theorem no (sb:Nat) (t:List Int) (w:World) (h:bm w sb t) (ht:t.length<1099511627775):Calls Tryz.prog 192 #[.pointer (some ⟨sb,0,none⟩)] w (qQ sb (js t) w):=by
 have hlt:=h.lt;have H:=aa h;clear h
 go_enter Tryz.func192,Tryz.ntmps192
 go_wp2_with fail;refine(mz sb t 94 _ (fh H.out _)).mono ?_;rintro e w1 ⟨neg,t',hneg,ht',rfl,h1,hg1⟩;have HI0:=aa (eD.start (neg:=neg) hlt h1 hg1);have hcls:js t=match cl (t'.length+1) t' []with | none=>none | some (rs,u)=>if rs=[]then none else some (⟨false,false,neg,rs⟩,u):=by
  subst hneg ht'; rfl
 have hl':t'.length<=t.length:=by
  subst ht'; split
  ·rw[List.length_tail]; omega
  ·exact Nat.le_refl _
 have HCL:=aa hcls;clear h1 hg1 hneg ht' hcls;go_wp2_with fail
 go_loopw [3] (fun _ wr=> ∃(rest:List Int) (acc:List (Int×Int)) (v:Value) (f:Nat),eD w sb w.heap.size w1.heap.size neg rest acc v wr/\rest.length<f/\acc.length+rest.length<=t.length/\cl (t'.length+1) t' []=cl f rest acc) (fun _ wr=>lp sb wr)
 case atStart=>exact⟨t',[],_,_,HI0.out,Nat.lt_succ_self _,by simp; omega,rfl⟩
 case round=>
  obtain⟨rest,acc,v,f,hI,hf,hal,hc⟩:=hrel;have HI:=aa hI;have HC:=aa hc;clear hI hc;go_wp2_with fail;refine(mz sb rest 93 wr HI.out.scan).mono ?_;rintro e w2 ⟨b2,rest2,hb2,hr2,rfl,h2,hg2⟩;have HI2:=aa (HI.out.scanned h2 hg2);clear h2 hg2
  cases b2 with
  | true=>
   obtain⟨a4,c4,hv,hn4,hm4⟩:=aj HI2.out.own;subst hv;have hres:=HI2.out.res;have hbox:=HI2.out.box;have k0:w2.cell? ⟨w1.heap.size,0,none⟩=some (.bool false):=by rw[ab hbox]; rfl
   have k1:w2.cell? ⟨w1.heap.size,1,none⟩=some (.bool false):=by rw[ab hbox]; rfl
   have k2:w2.cell? ⟨w1.heap.size,2,none⟩=some (.bool neg):=by rw[ab hbox]; rfl
   have k3:w2.cell? ⟨w1.heap.size,3,none⟩=some (.slice a4 acc.length c4):=by rw[ab hbox]; rfl
   have r0:w2.cell? ⟨w.heap.size,0,none⟩=some (.bool false):=by rw[ab hres]; rfl
   have r1:w2.cell? ⟨w.heap.size,1,none⟩=some (.bool false):=by rw[ab hres]; rfl
   have r2:w2.cell? ⟨w.heap.size,2,none⟩=some (.bool false):=by rw[ab hres]; rfl
   have r3:w2.cell? ⟨w.heap.size,3,none⟩=some (.slice none 0 0):=by rw[ab hres]; rfl
   have f0:w2.frozen? ⟨w.heap.size,0,none⟩=false:=ah hres;have f1:w2.frozen? ⟨w.heap.size,1,none⟩=false:=ah hres;have f2:w2.frozen? ⟨w.heap.size,2,none⟩=false:=ah hres;have f3:w2.frozen? ⟨w.heap.size,3,none⟩=false:=ah hres;have hne: ¬w1.heap.size=w.heap.size:=by have:=HI2.out.lt; omega
   have HR:=aa hres;have hr93:rest.head? =some 93:=by simpa using hb2.symm
   have hcs:cl (t'.length+1) t' []=some (acc,rest2):=by
    obtain⟨f',rfl⟩: ∃f',f=f'+1:=⟨f-1,by omega⟩;rw[HC.out,cl,if_pos hr93,hr2]; rfl
   have HCS:=aa hcs;clear hres hbox hr2 hb2 hr93 hcs;go_wp2_with fail
   go_region
   go_wp2_with fail;obtain⟨W,hW⟩: ∃W,W=((((w2.setCell ⟨w.heap.size,0,none⟩ (.bool false)).setCell ⟨w.heap.size,1,none⟩ (.bool false)).setCell ⟨w.heap.size,2,none⟩ (.bool neg)).setCell ⟨w.heap.size,3,none⟩ (.slice a4 acc.length c4)):=⟨_,rfl⟩;rw[<-hW];have h4:=ib HR.out (.bool false) (.bool false) (.bool neg) (.slice a4 acc.length c4);rw[<-hW]at h4;obtain⟨h41,h42⟩:=h4;have m0:W.cell? ⟨w.heap.size,0,none⟩=some (.bool false):=by rw[ab h41]; rfl
   have m1:W.cell? ⟨w.heap.size,1,none⟩=some (.bool false):=by rw[ab h41]; rfl
   have m2:W.cell? ⟨w.heap.size,2,none⟩=some (.bool neg):=by rw[ab h41]; rfl
   have m3:W.cell? ⟨w.heap.size,3,none⟩=some (.slice a4 acc.length c4):=by rw[ab h41]; rfl
   clear hW;refine bodyPost_ret (v:= .tuple #[.agg #[.bool false, .bool false, .bool neg, .slice a4 acc.length c4], .bool (decide (0<acc.length))]) (by simp[results,Tryz.results192,go_sem,m0,m1,m2,m3]) rfl ?_;exact yr HCL.out HCS.out HI2.out (rq h42)
  | false=>
   have hr93: ¬rest.head? =some 93:=by simpa using hb2.symm
   have hr2':rest2=rest:=by simpa using hr2
   subst hr2';clear hr2 hb2;obtain⟨f',rfl⟩: ∃f',f=f'+1:=⟨f-1,by omega⟩;have HN93:=aa hr93;clear hr93;have HRES:=aa HI2.out.res;go_wp2_with fail
   cases he:gv rest2 with
   | none=>
    have hfail:js t=none:=by rw[HCL.out,HC.out,cl,if_neg HN93.out,he]
    have HF:=aa hfail;have HEl:=aa he;clear hfail he;refine(kE sb rest2 w2 HI2.out.scan HEl.out).mono ?_;rintro e w3 ⟨rest3,rfl,h3,hg3⟩;have HI3:=aa (HI2.out.scanned h3 hg3);clear h3 hg3;have hres:=HI3.out.res;have r0:w3.cell? ⟨w.heap.size,0,none⟩=some (.bool false):=by rw[ab hres]; rfl
    have r1:w3.cell? ⟨w.heap.size,1,none⟩=some (.bool false):=by rw[ab hres]; rfl
    have r2:w3.cell? ⟨w.heap.size,2,none⟩=some (.bool false):=by rw[ab hres]; rfl
    have r3:w3.cell? ⟨w.heap.size,3,none⟩=some (.slice none 0 0):=by rw[ab hres]; rfl
    have f0:w3.frozen? ⟨w.heap.size,0,none⟩=false:=ah hres;have f1:w3.frozen? ⟨w.heap.size,1,none⟩=false:=ah hres;have f2:w3.frozen? ⟨w.heap.size,2,none⟩=false:=ah hres;have f3:w3.frozen? ⟨w.heap.size,3,none⟩=false:=ah hres;have HR:=aa hres;clear hres;go_wp2_with fail;obtain⟨W,hW⟩: ∃W,W=((((w3.setCell ⟨w.heap.size,0,none⟩ (.bool false)).setCell ⟨w.heap.size,1,none⟩ (.bool false)).setCell ⟨w.heap.size,2,none⟩ (.bool false)).setCell ⟨w.heap.size,3,none⟩ (.slice none 0 0)):=⟨_,rfl⟩
    rw[<-hW];have h4:=ib HR.out (.bool false) (.bool false) (.bool false) (.slice none 0 0);rw[<-hW]at h4;obtain⟨h41,h42⟩:=h4;have m0:W.cell? ⟨w.heap.size,0,none⟩=some (.bool false):=by rw[ab h41]; rfl
    have m1:W.cell? ⟨w.heap.size,1,none⟩=some (.bool false):=by rw[ab h41]; rfl
    have m2:W.cell? ⟨w.heap.size,2,none⟩=some (.bool false):=by rw[ab h41]; rfl
    have m3:W.cell? ⟨w.heap.size,3,none⟩=some (.slice none 0 0):=by rw[ab h41]; rfl
    clear hW;refine bodyPost_ret (v:= .tuple #[.agg #[.bool false, .bool false, .bool false, .slice none 0 0], .bool false]) (by simp[results,Tryz.results192,go_sem,m0,m1,m2,m3]) rfl ?_;exact lF HF.out HI3.out h42
   | some p=>
    obtain⟨lo,t1⟩:=p;have hl1:=iv he;have HEl:=aa he;clear he;refine(lL sb rest2 lo t1 w2 HI2.out.scan HEl.out).mono ?_;rintro e w3 ⟨rfl,h3,hg3⟩;have HI3:=aa (HI2.out.scanned h3 hg3);clear h3 hg3;go_wp2_with fail;refine(mz sb t1 45 w3 HI3.out.scan).mono ?_;rintro e w4 ⟨b4,t4,hb4,hr4,rfl,h4,hg4⟩;have HI4:=aa (HI3.out.scanned h4 hg4);clear h4 hg4
    cases b4 with
    | false=>
     have hr45: ¬t1.head? =some 45:=by simpa using hb4.symm
     have hr4':t4=t1:=by simpa using hr4
     subst hr4';have hcs:cl (t'.length+1) t' []=cl f' t4 (acc++[(lo,lo)]):=by rw[HC.out,cl,if_neg HN93.out,HEl.out]; simp only; rw[if_neg hr45]
     have HCS:=aa hcs;clear hr4 hb4 hr45 hcs;have hbox:=HI4.out.box;have k3:w4.cell? ⟨w1.heap.size,3,none⟩=some v:=by rw[ab hbox]; rfl
     have HBX:=aa hbox;clear hbox;go_wp2_with (at_builtin; go_must (refine im Tryz.appRanges rfl _ _ rfl (w1.heap.size+1) v acc.length (iN acc) rfl w4 [.int .i32 lo, .int .i32 lo] _ rfl rfl (by simp; first | rfl | exact⟨rfl,rfl⟩) HI4.out.own (by omega) (by have:=HI4.out.lt; omega) ?_); intro v' w5 hown5 hgrow5 _; obtain⟨a5,c5,rfl,-,-⟩:=aj hown5; obtain⟨hI5,hc5,hf5⟩:=HI4.out.added hown5 hgrow5; have HI5:=aa hI5; clear hI5 hown5 hgrow5)
     go_wp2_with fail
     go_roundw
     case rel=>exact⟨t4,acc++[(lo,lo)],_,f',HI5.out,by omega,by simp; omega,HCS.out⟩
     case measure=>
      rw[HI5.out.scan.len,HI.out.scan.len];omega
    | true=>
     have hr45:t1.head? =some 45:=by simpa using hb4.symm
     have hr4':t4=t1.tail:=by simpa using hr4
     subst hr4';have hl4:t1.tail.length+1<=t1.length:=by
      cases t1 with
      | nil=>simp at hr45
      | cons=>simp
     have HR45:=aa hr45;clear hr4 hb4 hr45;go_wp2_with fail
     cases he6:gv t1.tail with
     | none=>
      have hfail:js t=none:=by rw[HCL.out,HC.out,cl,if_neg HN93.out,HEl.out]; simp only; rw[if_pos HR45.out,he6]
      have HF:=aa hfail;have HE6:=aa he6;clear hfail he6;refine(kE sb _ w4 HI4.out.scan HE6.out).mono ?_;rintro e w6 ⟨rest6,rfl,h6,hg6⟩;have HI6:=aa (HI4.out.scanned h6 hg6);clear h6 hg6;have hres:=HI6.out.res;have r0:w6.cell? ⟨w.heap.size,0,none⟩=some (.bool false):=by rw[ab hres]; rfl
      have r1:w6.cell? ⟨w.heap.size,1,none⟩=some (.bool false):=by rw[ab hres]; rfl
      have r2:w6.cell? ⟨w.heap.size,2,none⟩=some (.bool false):=by rw[ab hres]; rfl
      have r3:w6.cell? ⟨w.heap.size,3,none⟩=some (.slice none 0 0):=by rw[ab hres]; rfl
      have f0:w6.frozen? ⟨w.heap.size,0,none⟩=false:=ah hres;have f1:w6.frozen? ⟨w.heap.size,1,none⟩=false:=ah hres;have f2:w6.frozen? ⟨w.heap.size,2,none⟩=false:=ah hres;have f3:w6.frozen? ⟨w.heap.size,3,none⟩=false:=ah hres;have HR:=aa hres;clear hres;go_wp2_with fail;obtain⟨W,hW⟩: ∃W,W=((((w6.setCell ⟨w.heap.size,0,none⟩ (.bool false)).setCell ⟨w.heap.size,1,none⟩ (.bool false)).setCell ⟨w.heap.size,2,none⟩ (.bool false)).setCell ⟨w.heap.size,3,none⟩ (.slice none 0 0)):=⟨_,rfl⟩
      rw[<-hW];have h4:=ib HR.out (.bool false) (.bool false) (.bool false) (.slice none 0 0);rw[<-hW]at h4;obtain⟨h41,h42⟩:=h4;have m0:W.cell? ⟨w.heap.size,0,none⟩=some (.bool false):=by rw[ab h41]; rfl
      have m1:W.cell? ⟨w.heap.size,1,none⟩=some (.bool false):=by rw[ab h41]; rfl
      have m2:W.cell? ⟨w.heap.size,2,none⟩=some (.bool false):=by rw[ab h41]; rfl
      have m3:W.cell? ⟨w.heap.size,3,none⟩=some (.slice none 0 0):=by rw[ab h41]; rfl
      clear hW;refine bodyPost_ret (v:= .tuple #[.agg #[.bool false, .bool false, .bool false, .slice none 0 0], .bool false]) (by simp[results,Tryz.results192,go_sem,m0,m1,m2,m3]) rfl ?_;exact lF HF.out HI6.out h42
     | some p=>
      obtain⟨hi,u⟩:=p;have hl6:=iv he6;have HE6:=aa he6;clear he6;refine(lL sb _ hi u w4 HI4.out.scan HE6.out).mono ?_;rintro e w6 ⟨rfl,h6,hg6⟩;have HI6:=aa (HI4.out.scanned h6 hg6);clear h6 hg6
      by_cases hlo:hi<lo
      ·have hfail:js t=none:=by rw[HCL.out,HC.out,cl,if_neg HN93.out,HEl.out]; simp only; rw[if_pos HR45.out,HE6.out]; simp only; rw[if_pos hlo]
       have HF:=aa hfail;clear hfail;have hres:=HI6.out.res;have r0:w6.cell? ⟨w.heap.size,0,none⟩=some (.bool false):=by rw[ab hres]; rfl
       have r1:w6.cell? ⟨w.heap.size,1,none⟩=some (.bool false):=by rw[ab hres]; rfl
       have r2:w6.cell? ⟨w.heap.size,2,none⟩=some (.bool false):=by rw[ab hres]; rfl
       have r3:w6.cell? ⟨w.heap.size,3,none⟩=some (.slice none 0 0):=by rw[ab hres]; rfl
       have f0:w6.frozen? ⟨w.heap.size,0,none⟩=false:=ah hres;have f1:w6.frozen? ⟨w.heap.size,1,none⟩=false:=ah hres;have f2:w6.frozen? ⟨w.heap.size,2,none⟩=false:=ah hres;have f3:w6.frozen? ⟨w.heap.size,3,none⟩=false:=ah hres;have HR:=aa hres;clear hres;go_wp2_with fail;obtain⟨W,hW⟩: ∃W,W=((((w6.setCell ⟨w.heap.size,0,none⟩ (.bool false)).setCell ⟨w.heap.size,1,none⟩ (.bool false)).setCell ⟨w.heap.size,2,none⟩ (.bool false)).setCell ⟨w.heap.size,3,none⟩ (.slice none 0 0)):=⟨_,rfl⟩
       rw[<-hW];have h4:=ib HR.out (.bool false) (.bool false) (.bool false) (.slice none 0 0);rw[<-hW]at h4;obtain⟨h41,h42⟩:=h4;have m0:W.cell? ⟨w.heap.size,0,none⟩=some (.bool false):=by rw[ab h41]; rfl
       have m1:W.cell? ⟨w.heap.size,1,none⟩=some (.bool false):=by rw[ab h41]; rfl
       have m2:W.cell? ⟨w.heap.size,2,none⟩=some (.bool false):=by rw[ab h41]; rfl
       have m3:W.cell? ⟨w.heap.size,3,none⟩=some (.slice none 0 0):=by rw[ab h41]; rfl
       clear hW;refine bodyPost_ret (v:= .tuple #[.agg #[.bool false, .bool false, .bool false, .slice none 0 0], .bool false]) (by simp[results,Tryz.results192,go_sem,m0,m1,m2,m3]) rfl ?_;exact lF HF.out HI6.out h42
      ·have hcs:cl (t'.length+1) t' []=cl f' u (acc++[(lo,hi)]):=by rw[HC.out,cl,if_neg HN93.out,HEl.out]; simp only; rw[if_pos HR45.out,HE6.out]; simp only; rw[if_neg hlo]
       have HCS:=aa hcs;clear hcs;have hbox:=HI6.out.box;have k3:w6.cell? ⟨w1.heap.size,3,none⟩=some v:=by rw[ab hbox]; rfl
       have HBX:=aa hbox;clear hbox;go_wp2_with (at_builtin; go_must (refine im Tryz.appRanges rfl _ _ rfl (w1.heap.size+1) v acc.length (iN acc) rfl w6 [.int .i32 lo, .int .i32 hi] _ rfl rfl (by simp; first | rfl | exact⟨rfl,rfl⟩) HI6.out.own (by omega) (by have:=HI6.out.lt; omega) ?_); intro v' w5 hown5 hgrow5 _; obtain⟨a5,c5,rfl,-,-⟩:=aj hown5; obtain⟨hI5,hc5,hf5⟩:=HI6.out.added hown5 hgrow5; have HI5:=aa hI5; clear hI5 hown5 hgrow5)
       go_wp2_with fail
       go_roundw
       case rel=>exact⟨u,acc++[(lo,hi)],_,f',HI5.out,by omega,by simp; omega,HCS.out⟩
       case measure=>
        rw[HI5.out.scan.len,HI.out.scan.len];omega
structure eR (w : World) (sb : Nat) (rest : List Int) (wr : World) : Prop where
 scan:bm wr sb rest
 res:wr.heap[w.heap.size]? =some (.cells #[.bool false, .bool false, .bool false, .slice none 0 0] 208 (0,0))
 grow:w.grownBy wr (some sb)
 lt:sb<w.heap.size/\w.heap.size<wr.heap.size
theorem eR.start {w:World} {sb:Nat} {t:List Int} (hs:bm w sb t):eR w sb t (w.alloc (.cells #[.bool false, .bool false, .bool false, .slice none 0 0] 208)):=
 ⟨fh hs _,heap_alloc_new _ _,World.grownBy_alloc _ _ _,hs.lt,by simp⟩
theorem eR.scanned {w:World} {sb:Nat} {rest rest':List Int} {wr w1:World} (h:eR w sb rest wr) (hs:bm w1 sb rest') (hg:wr.grownBy w1 (some sb)):eR w sb rest' w1:=by
 obtain⟨_,hr,hgr,h1,h2⟩:=h;refine⟨hs, ?_,grownBy.trans hgr hg,h1,Nat.lt_of_lt_of_le h2 hg.size⟩;rw[hg.block _ h2 (by simp; omega)]; exact hr
theorem eR.alloc {w:World} {sb:Nat} {rest:List Int} {wr:World} (h:eR w sb rest wr) (o:Obj):eR w sb rest (wr.alloc o):=
 h.scanned (fh h.scan _) (World.grownBy_alloc _ _ _)
theorem eR.done {w:World} {sb:Nat} {rest:List Int} {wr W:World} (h:eR w sb rest wr) (hg:wr.grownBy W (some w.heap.size)):bm W sb rest/\w.grownBy W (some sb):=by
 obtain⟨⟨sv,hs1,hs2⟩,hr,hgr,h1,h2⟩:=h;refine⟨⟨sv,by rw[hg.block sb (by omega) (by simp; omega)]; exact hs1,hs2.same (fun k hk=>hg.block k (by omega) (by simp; omega))⟩, ?_⟩;exact⟨hg.os.trans hgr.os,hg.tape.trans hgr.tape,hg.output.trans hgr.output,Nat.le_trans hgr.size hg.size,fun k hk hk2=>(hg.block k (by have:=hgr.size; omega) (by simp; omega)).trans (hgr.block k hk hk2)⟩
def xZ (sb:Nat) (w:World) (e:Ending) (w':World):Prop:=
 ∃a b c x n cp u,e= .returned (.tuple #[.agg #[.bool a, .bool b, .bool c, .slice x n cp], .bool false])/\bm w' sb u/\w.grownBy w' (some sb)
def yb (sb:Nat) (o:Option (bi×List Int)) (w:World) (e:Ending) (w':World):Prop:=
 match o with
 | some (it,u)=>zm sb it u w e w'
 | none=>xZ sb w e w'
theorem je {w W:World} {B:Nat} {r:Int} {cap:Nat} (hb:B<=w.heap.size) (hc:1<=cap/\cap<=maxLen) (h:W.heap[w.heap.size]? =(w.alloc (.cells #[.int .i32 r, .int .i32 r] 237)).heap[w.heap.size]?):du (B<= ·) W (.slice (some ⟨w.heap.size,0,none⟩) 1 cap) [(r,r)]:=by
 rw[heap_alloc_new]at h;refine⟨rfl,_,cap,rfl,hc.1,hc.2, .inr ⟨w.heap.size,0,rfl,hb,fun j u hj=> ?_⟩⟩;rw[Nat.zero_add,ab h]
 simpa [iN]using hj
theorem pZ (sb:Nat) (r:Int) (t:List Int) (w:World) (h:bm w sb (r::t)) (ht:t.length<1099511627775):Calls Tryz.prog 170 #[.pointer (some ⟨sb,0,none⟩)] w (yb sb (dX (r::t)) w):=by
 have hlt:=h.lt;have H0:=aa (eR.start h);clear h
 go_enter Tryz.func170,Tryz.ntmps170
 go_wp2_with fail;refine(el sb r t _ H0.out.scan).mono ?_;rintro e w1 ⟨rfl,h1,hg1⟩;have HI1:=aa (H0.out.scanned h1 hg1);clear h1 hg1 H0
 by_cases h42:r=42
 ·have hi:dX (r::t)=some (zv,t):=by rw[dX,if_pos h42]
  rw[hi];subst h42;have hres:=HI1.out.res;have r0:w1.cell? ⟨w.heap.size,0,none⟩=some (.bool false):=by rw[ab hres]; rfl
  have r1:w1.cell? ⟨w.heap.size,1,none⟩=some (.bool false):=by rw[ab hres]; rfl
  have r2:w1.cell? ⟨w.heap.size,2,none⟩=some (.bool false):=by rw[ab hres]; rfl
  have r3:w1.cell? ⟨w.heap.size,3,none⟩=some (.slice none 0 0):=by rw[ab hres]; rfl
  have f0:w1.frozen? ⟨w.heap.size,0,none⟩=false:=ah hres;have f1:w1.frozen? ⟨w.heap.size,1,none⟩=false:=ah hres;have f2:w1.frozen? ⟨w.heap.size,2,none⟩=false:=ah hres;have f3:w1.frozen? ⟨w.heap.size,3,none⟩=false:=ah hres;have HR:=aa hres;clear hres;go_wp2_with fail;obtain⟨W,hW⟩: ∃W,W=((((w1.setCell ⟨w.heap.size,0,none⟩ (.bool true)).setCell ⟨w.heap.size,1,none⟩ (.bool false)).setCell ⟨w.heap.size,2,none⟩ (.bool false)).setCell ⟨w.heap.size,3,none⟩ (.slice none 0 0)):=⟨_,rfl⟩
  rw[<-hW];have h4:=ib HR.out (.bool true) (.bool false) (.bool false) (.slice none 0 0);rw[<-hW]at h4;obtain⟨h41,h42⟩:=h4;have m0:W.cell? ⟨w.heap.size,0,none⟩=some (.bool true):=by rw[ab h41]; rfl
  have m1:W.cell? ⟨w.heap.size,1,none⟩=some (.bool false):=by rw[ab h41]; rfl
  have m2:W.cell? ⟨w.heap.size,2,none⟩=some (.bool false):=by rw[ab h41]; rfl
  have m3:W.cell? ⟨w.heap.size,3,none⟩=some (.slice none 0 0):=by rw[ab h41]; rfl
  clear hW;refine bodyPost_ret (v:= .tuple #[.agg #[.bool true, .bool false, .bool false, .slice none 0 0], .bool true]) (by simp[results,Tryz.results170,go_sem,m0,m1,m2,m3]) rfl ?_;obtain⟨hs,hg⟩:=HI1.out.done h42;exact⟨_,rfl,aB.nil _ _ _,hs,hg⟩
 ·have e42:(r == 42)=false:=by simpa using h42
  by_cases h63:r=63
  ·have hi:dX (r::t)=some (zV,t):=by rw[dX,if_neg h42,if_pos h63]
   rw[hi];subst h63;clear h42;have hres:=HI1.out.res;have r0:w1.cell? ⟨w.heap.size,0,none⟩=some (.bool false):=by rw[ab hres]; rfl
   have r1:w1.cell? ⟨w.heap.size,1,none⟩=some (.bool false):=by rw[ab hres]; rfl
   have r2:w1.cell? ⟨w.heap.size,2,none⟩=some (.bool false):=by rw[ab hres]; rfl
   have r3:w1.cell? ⟨w.heap.size,3,none⟩=some (.slice none 0 0):=by rw[ab hres]; rfl
   have f0:w1.frozen? ⟨w.heap.size,0,none⟩=false:=ah hres;have f1:w1.frozen? ⟨w.heap.size,1,none⟩=false:=ah hres;have f2:w1.frozen? ⟨w.heap.size,2,none⟩=false:=ah hres;have f3:w1.frozen? ⟨w.heap.size,3,none⟩=false:=ah hres;have HR:=aa hres;clear hres;go_wp2_with fail;obtain⟨W,hW⟩: ∃W,W=((((w1.setCell ⟨w.heap.size,0,none⟩ (.bool false)).setCell ⟨w.heap.size,1,none⟩ (.bool true)).setCell ⟨w.heap.size,2,none⟩ (.bool false)).setCell ⟨w.heap.size,3,none⟩ (.slice none 0 0)):=⟨_,rfl⟩
   rw[<-hW];have h4:=ib HR.out (.bool false) (.bool true) (.bool false) (.slice none 0 0);rw[<-hW]at h4;obtain⟨h41,h42⟩:=h4;have m0:W.cell? ⟨w.heap.size,0,none⟩=some (.bool false):=by rw[ab h41]; rfl
   have m1:W.cell? ⟨w.heap.size,1,none⟩=some (.bool true):=by rw[ab h41]; rfl
   have m2:W.cell? ⟨w.heap.size,2,none⟩=some (.bool false):=by rw[ab h41]; rfl
   have m3:W.cell? ⟨w.heap.size,3,none⟩=some (.slice none 0 0):=by rw[ab h41]; rfl
   clear hW;refine bodyPost_ret (v:= .tuple #[.agg #[.bool false, .bool true, .bool false, .slice none 0 0], .bool true]) (by simp[results,Tryz.results170,go_sem,m0,m1,m2,m3]) rfl ?_;obtain⟨hs,hg⟩:=HI1.out.done h42;exact⟨_,rfl,aB.nil _ _ _,hs,hg⟩
  ·have e63:(r == 63)=false:=by simpa using h63
   by_cases h91:r=91
   ·have hi:dX (r::t)=js t:=by rw[dX,if_neg h42,if_neg h63,if_pos h91]
    have HIi:=aa hi;subst h91;clear h42 h63 hi;go_wp2_with fail
    cases hc:js t with
    | none=>
     have HCl:=aa hc;clear hc;refine(no sb t w1 HI1.out.scan ht).mono ?_;rw[HCl.out];rintro e w2 ⟨bn,u,rfl,hs2,hg2⟩;have HI2:=aa (HI1.out.scanned hs2 hg2);clear hs2 hg2;have hres:=HI2.out.res;have r0:w2.cell? ⟨w.heap.size,0,none⟩=some (.bool false):=by rw[ab hres]; rfl
     have r1:w2.cell? ⟨w.heap.size,1,none⟩=some (.bool false):=by rw[ab hres]; rfl
     have r2:w2.cell? ⟨w.heap.size,2,none⟩=some (.bool false):=by rw[ab hres]; rfl
     have r3:w2.cell? ⟨w.heap.size,3,none⟩=some (.slice none 0 0):=by rw[ab hres]; rfl
     have f0:w2.frozen? ⟨w.heap.size,0,none⟩=false:=ah hres;have f1:w2.frozen? ⟨w.heap.size,1,none⟩=false:=ah hres;have f2:w2.frozen? ⟨w.heap.size,2,none⟩=false:=ah hres;have f3:w2.frozen? ⟨w.heap.size,3,none⟩=false:=ah hres;have HR:=aa hres;clear hres;go_wp2_with fail;obtain⟨W,hW⟩: ∃W,W=((((w2.setCell ⟨w.heap.size,0,none⟩ (.bool false)).setCell ⟨w.heap.size,1,none⟩ (.bool false)).setCell ⟨w.heap.size,2,none⟩ (.bool bn)).setCell ⟨w.heap.size,3,none⟩ (.slice none 0 0)):=⟨_,rfl⟩
     rw[<-hW];have h4:=ib HR.out (.bool false) (.bool false) (.bool bn) (.slice none 0 0);rw[<-hW]at h4;obtain⟨h41,h42⟩:=h4;have m0:W.cell? ⟨w.heap.size,0,none⟩=some (.bool false):=by rw[ab h41]; rfl
     have m1:W.cell? ⟨w.heap.size,1,none⟩=some (.bool false):=by rw[ab h41]; rfl
     have m2:W.cell? ⟨w.heap.size,2,none⟩=some (.bool bn):=by rw[ab h41]; rfl
     have m3:W.cell? ⟨w.heap.size,3,none⟩=some (.slice none 0 0):=by rw[ab h41]; rfl
     clear hW;refine bodyPost_ret (v:= .tuple #[.agg #[.bool false, .bool false, .bool bn, .slice none 0 0], .bool false]) (by simp[results,Tryz.results170,go_sem,m0,m1,m2,m3]) rfl ?_;obtain⟨hs,hg⟩:=HI2.out.done h42;rw[HIi.out,HCl.out];exact⟨_,_,_,_,_,_,_,rfl,hs,hg⟩
    | some p=>
     obtain⟨it,u⟩:=p;have HCl:=aa hc;clear hc;refine(no sb t w1 HI1.out.scan ht).mono ?_;rw[HCl.out];rintro e w2 ⟨v,rfl,hr2,hs2,hg2⟩;obtain⟨_,av,cv,rfl,_⟩:=id hr2;have HR2:=aa hr2;have HI2:=aa (HI1.out.scanned hs2 hg2);clear hs2 hg2 hr2;have hres:=HI2.out.res;have r0:w2.cell? ⟨w.heap.size,0,none⟩=some (.bool false):=by rw[ab hres]; rfl
     have r1:w2.cell? ⟨w.heap.size,1,none⟩=some (.bool false):=by rw[ab hres]; rfl
     have r2:w2.cell? ⟨w.heap.size,2,none⟩=some (.bool false):=by rw[ab hres]; rfl
     have r3:w2.cell? ⟨w.heap.size,3,none⟩=some (.slice none 0 0):=by rw[ab hres]; rfl
     have f0:w2.frozen? ⟨w.heap.size,0,none⟩=false:=ah hres;have f1:w2.frozen? ⟨w.heap.size,1,none⟩=false:=ah hres;have f2:w2.frozen? ⟨w.heap.size,2,none⟩=false:=ah hres;have f3:w2.frozen? ⟨w.heap.size,3,none⟩=false:=ah hres;have HR:=aa hres;clear hres;go_wp2_with fail;obtain⟨W,hW⟩: ∃W,W=((((w2.setCell ⟨w.heap.size,0,none⟩ (.bool it.star)).setCell ⟨w.heap.size,1,none⟩ (.bool it.any)).setCell ⟨w.heap.size,2,none⟩ (.bool it.neg)).setCell ⟨w.heap.size,3,none⟩ (.slice av it.ranges.length cv)):=⟨_,rfl⟩
     rw[<-hW];have h4:=ib HR.out (.bool it.star) (.bool it.any) (.bool it.neg) (.slice av it.ranges.length cv);rw[<-hW]at h4;obtain⟨h41,h42⟩:=h4;have m0:W.cell? ⟨w.heap.size,0,none⟩=some (.bool it.star):=by rw[ab h41]; rfl
     have m1:W.cell? ⟨w.heap.size,1,none⟩=some (.bool it.any):=by rw[ab h41]; rfl
     have m2:W.cell? ⟨w.heap.size,2,none⟩=some (.bool it.neg):=by rw[ab h41]; rfl
     have m3:W.cell? ⟨w.heap.size,3,none⟩=some (.slice av it.ranges.length cv):=by rw[ab h41]; rfl
     clear hW;refine bodyPost_ret (v:= .tuple #[.agg #[.bool it.star, .bool it.any, .bool it.neg, .slice av it.ranges.length cv], .bool true]) (by simp[results,Tryz.results170,go_sem,m0,m1,m2,m3]) rfl ?_;obtain⟨hs,hg⟩:=HI2.out.done h42;rw[HIi.out,HCl.out];have hb1:=HI1.out.lt;refine⟨_,rfl, ?_,hs,hg⟩;have h5:=HR2.out.mono (T:=fun k=>w1.heap.size<=k/\k<w2.heap.size) (fun k h1 h2=>⟨h2,h1⟩) (by omega)
     exact(h5.same (w':=W) (fun k hk=>h42.block k hk.2 (by simp; omega))).weak (fun k hk=>by omega)
   ·have e91:(r == 91)=false:=by simpa using h91
    by_cases h92:r=92
    ·subst h92;clear h42 h63 h91;go_wp2_with fail
     cases t with
     | nil=>
      have hi:dX [92]=none:=rfl;have HIi:=aa hi;clear hi;refine(mB sb w1 HI1.out.scan).mono ?_;rintro e w2 ⟨rfl,h2,hg2⟩;have HI3:=aa (HI1.out.scanned h2 hg2);clear h2 hg2;have HI2:=aa (HI3.out.alloc (.cells #[.int .i32 0, .int .i32 0] 237));have hres:=HI2.out.res;have r0:(w2.alloc (.cells #[.int .i32 0, .int .i32 0] 237)).cell? ⟨w.heap.size,0,none⟩=some (.bool false):=by rw[ab hres]; rfl
      have r1:(w2.alloc (.cells #[.int .i32 0, .int .i32 0] 237)).cell? ⟨w.heap.size,1,none⟩=some (.bool false):=by rw[ab hres]; rfl
      have r2:(w2.alloc (.cells #[.int .i32 0, .int .i32 0] 237)).cell? ⟨w.heap.size,2,none⟩=some (.bool false):=by rw[ab hres]; rfl
      have r3:(w2.alloc (.cells #[.int .i32 0, .int .i32 0] 237)).cell? ⟨w.heap.size,3,none⟩=some (.slice none 0 0):=by rw[ab hres]; rfl
      have f0:(w2.alloc (.cells #[.int .i32 0, .int .i32 0] 237)).frozen? ⟨w.heap.size,0,none⟩=false:=ah hres;have f1:(w2.alloc (.cells #[.int .i32 0, .int .i32 0] 237)).frozen? ⟨w.heap.size,1,none⟩=false:=ah hres;have f2:(w2.alloc (.cells #[.int .i32 0, .int .i32 0] 237)).frozen? ⟨w.heap.size,2,none⟩=false:=ah hres;have f3:(w2.alloc (.cells #[.int .i32 0, .int .i32 0] 237)).frozen? ⟨w.heap.size,3,none⟩=false:=ah hres
      have HR:=aa hres;clear hres;go_wp2_with fail;obtain⟨W,hW⟩: ∃W,W=(((((w2.alloc (.cells #[.int .i32 0, .int .i32 0] 237)).setCell ⟨w.heap.size,0,none⟩ (.bool false)).setCell ⟨w.heap.size,1,none⟩ (.bool false)).setCell ⟨w.heap.size,2,none⟩ (.bool false)).setCell ⟨w.heap.size,3,none⟩ (.slice (some ⟨w2.heap.size,0,none⟩) 1 1)):=⟨_,rfl⟩;rw[<-hW];have h4:=ib HR.out (.bool false) (.bool false) (.bool false) (.slice (some ⟨w2.heap.size,0,none⟩) 1 1)
      rw[<-hW]at h4;obtain⟨h41,h42⟩:=h4;have m0:W.cell? ⟨w.heap.size,0,none⟩=some (.bool false):=by rw[ab h41]; rfl
      have m1:W.cell? ⟨w.heap.size,1,none⟩=some (.bool false):=by rw[ab h41]; rfl
      have m2:W.cell? ⟨w.heap.size,2,none⟩=some (.bool false):=by rw[ab h41]; rfl
      have m3:W.cell? ⟨w.heap.size,3,none⟩=some (.slice (some ⟨w2.heap.size,0,none⟩) 1 1):=by rw[ab h41]; rfl
      clear hW;refine bodyPost_ret (v:= .tuple #[.agg #[.bool false, .bool false, .bool false, .slice (some ⟨w2.heap.size,0,none⟩) 1 1], .bool false]) (by simp[results,Tryz.results170,go_sem,m0,m1,m2,m3]) rfl ?_;obtain⟨hs,hg⟩:=HI2.out.done h42;rw[HIi.out];have hb2:=HI2.out.lt;have hb1:=HI3.out.lt;have hrg:=je (W:=W) (B:=w.heap.size) (r:=0) (cap:=1) (w:=w2) (by omega) ⟨Nat.le_refl _,by unfold maxLen; omega⟩ (h42.block _ (by simp) (by simp; omega))
      first | exact⟨_,rfl,hrg,hs,hg⟩ | exact⟨_,_,_,_,_,_,_,rfl,hs,hg⟩
     | cons q u=>
      have hi:dX (92::q::u)=some (yJ q,u):=rfl;have HIi:=aa hi;clear hi;refine(el sb q u w1 HI1.out.scan).mono ?_;rintro e w2 ⟨rfl,h2,hg2⟩;have HI3:=aa (HI1.out.scanned h2 hg2);clear h2 hg2;have HI2:=aa (HI3.out.alloc (.cells #[.int .i32 q, .int .i32 q] 237));have hres:=HI2.out.res;have r0:(w2.alloc (.cells #[.int .i32 q, .int .i32 q] 237)).cell? ⟨w.heap.size,0,none⟩=some (.bool false):=by rw[ab hres]; rfl
      have r1:(w2.alloc (.cells #[.int .i32 q, .int .i32 q] 237)).cell? ⟨w.heap.size,1,none⟩=some (.bool false):=by rw[ab hres]; rfl
      have r2:(w2.alloc (.cells #[.int .i32 q, .int .i32 q] 237)).cell? ⟨w.heap.size,2,none⟩=some (.bool false):=by rw[ab hres]; rfl
      have r3:(w2.alloc (.cells #[.int .i32 q, .int .i32 q] 237)).cell? ⟨w.heap.size,3,none⟩=some (.slice none 0 0):=by rw[ab hres]; rfl
      have f0:(w2.alloc (.cells #[.int .i32 q, .int .i32 q] 237)).frozen? ⟨w.heap.size,0,none⟩=false:=ah hres;have f1:(w2.alloc (.cells #[.int .i32 q, .int .i32 q] 237)).frozen? ⟨w.heap.size,1,none⟩=false:=ah hres;have f2:(w2.alloc (.cells #[.int .i32 q, .int .i32 q] 237)).frozen? ⟨w.heap.size,2,none⟩=false:=ah hres;have f3:(w2.alloc (.cells #[.int .i32 q, .int .i32 q] 237)).frozen? ⟨w.heap.size,3,none⟩=false:=ah hres
      have HR:=aa hres;clear hres;go_wp2_with fail;obtain⟨W,hW⟩: ∃W,W=(((((w2.alloc (.cells #[.int .i32 q, .int .i32 q] 237)).setCell ⟨w.heap.size,0,none⟩ (.bool false)).setCell ⟨w.heap.size,1,none⟩ (.bool false)).setCell ⟨w.heap.size,2,none⟩ (.bool false)).setCell ⟨w.heap.size,3,none⟩ (.slice (some ⟨w2.heap.size,0,none⟩) 1 1)):=⟨_,rfl⟩;rw[<-hW];have h4:=ib HR.out (.bool false) (.bool false) (.bool false) (.slice (some ⟨w2.heap.size,0,none⟩) 1 1)
      rw[<-hW]at h4;obtain⟨h41,h42⟩:=h4;have m0:W.cell? ⟨w.heap.size,0,none⟩=some (.bool false):=by rw[ab h41]; rfl
      have m1:W.cell? ⟨w.heap.size,1,none⟩=some (.bool false):=by rw[ab h41]; rfl
      have m2:W.cell? ⟨w.heap.size,2,none⟩=some (.bool false):=by rw[ab h41]; rfl
      have m3:W.cell? ⟨w.heap.size,3,none⟩=some (.slice (some ⟨w2.heap.size,0,none⟩) 1 1):=by rw[ab h41]; rfl
      clear hW;refine bodyPost_ret (v:= .tuple #[.agg #[.bool false, .bool false, .bool false, .slice (some ⟨w2.heap.size,0,none⟩) 1 1], .bool true]) (by simp[results,Tryz.results170,go_sem,m0,m1,m2,m3]) rfl ?_;obtain⟨hs,hg⟩:=HI2.out.done h42;rw[HIi.out];have hb2:=HI2.out.lt;have hb1:=HI3.out.lt;have hrg:=je (W:=W) (B:=w.heap.size) (r:=q) (cap:=1) (w:=w2) (by omega) ⟨Nat.le_refl _,by unfold maxLen; omega⟩ (h42.block _ (by simp) (by simp; omega))
      first | exact⟨_,rfl,hrg,hs,hg⟩ | exact⟨_,_,_,_,_,_,_,rfl,hs,hg⟩
    ·have e92:(r == 92)=false:=by simpa using h92
     have hi:dX (r::t)=some (yJ r,t):=by rw[dX,if_neg h42,if_neg h63,if_neg h91,if_neg h92]
     have HIi:=aa hi;clear h42 h63 h91 h92 hi;have HI2:=aa (HI1.out.alloc (.cells #[.int .i32 r, .int .i32 r] 237));have hres:=HI2.out.res;have r0:(w1.alloc (.cells #[.int .i32 r, .int .i32 r] 237)).cell? ⟨w.heap.size,0,none⟩=some (.bool false):=by rw[ab hres]; rfl
     have r1:(w1.alloc (.cells #[.int .i32 r, .int .i32 r] 237)).cell? ⟨w.heap.size,1,none⟩=some (.bool false):=by rw[ab hres]; rfl
     have r2:(w1.alloc (.cells #[.int .i32 r, .int .i32 r] 237)).cell? ⟨w.heap.size,2,none⟩=some (.bool false):=by rw[ab hres]; rfl
     have r3:(w1.alloc (.cells #[.int .i32 r, .int .i32 r] 237)).cell? ⟨w.heap.size,3,none⟩=some (.slice none 0 0):=by rw[ab hres]; rfl
     have f0:(w1.alloc (.cells #[.int .i32 r, .int .i32 r] 237)).frozen? ⟨w.heap.size,0,none⟩=false:=ah hres;have f1:(w1.alloc (.cells #[.int .i32 r, .int .i32 r] 237)).frozen? ⟨w.heap.size,1,none⟩=false:=ah hres;have f2:(w1.alloc (.cells #[.int .i32 r, .int .i32 r] 237)).frozen? ⟨w.heap.size,2,none⟩=false:=ah hres;have f3:(w1.alloc (.cells #[.int .i32 r, .int .i32 r] 237)).frozen? ⟨w.heap.size,3,none⟩=false:=ah hres
     have HR:=aa hres;clear hres;go_wp2_with fail;obtain⟨W,hW⟩: ∃W,W=(((((w1.alloc (.cells #[.int .i32 r, .int .i32 r] 237)).setCell ⟨w.heap.size,0,none⟩ (.bool false)).setCell ⟨w.heap.size,1,none⟩ (.bool false)).setCell ⟨w.heap.size,2,none⟩ (.bool false)).setCell ⟨w.heap.size,3,none⟩ (.slice (some ⟨w1.heap.size,0,none⟩) 1 1)):=⟨_,rfl⟩;rw[<-hW];have h4:=ib HR.out (.bool false) (.bool false) (.bool false) (.slice (some ⟨w1.heap.size,0,none⟩) 1 1)
     rw[<-hW]at h4;obtain⟨h41,h42⟩:=h4;have m0:W.cell? ⟨w.heap.size,0,none⟩=some (.bool false):=by rw[ab h41]; rfl
     have m1:W.cell? ⟨w.heap.size,1,none⟩=some (.bool false):=by rw[ab h41]; rfl
     have m2:W.cell? ⟨w.heap.size,2,none⟩=some (.bool false):=by rw[ab h41]; rfl
     have m3:W.cell? ⟨w.heap.size,3,none⟩=some (.slice (some ⟨w1.heap.size,0,none⟩) 1 1):=by rw[ab h41]; rfl
     clear hW;refine bodyPost_ret (v:= .tuple #[.agg #[.bool false, .bool false, .bool false, .slice (some ⟨w1.heap.size,0,none⟩) 1 1], .bool true]) (by simp[results,Tryz.results170,go_sem,m0,m1,m2,m3]) rfl ?_;obtain⟨hs,hg⟩:=HI2.out.done h42;rw[HIi.out];have hb2:=HI2.out.lt;have hb1:=HI1.out.lt;have hrg:=je (W:=W) (B:=w.heap.size) (r:=r) (cap:=1) (w:=w1) (by omega) ⟨Nat.le_refl _,by unfold maxLen; omega⟩ (h42.block _ (by simp) (by simp; omega))
     first | exact⟨_,rfl,hrg,hs,hg⟩ | exact⟨_,_,_,_,_,_,_,rfl,hs,hg⟩
def fL (S:Nat->Prop) (w:World) (c:List Value) (it:bi):Prop:= ∃v,c=[.bool it.star, .bool it.any, .bool it.neg,v]/\du S w v it.ranges
theorem fL.len {S:Nat->Prop} {w:World} (c:List Value) (it:bi) (h:fL S w c it):c.length=4:=by obtain⟨v,rfl,_⟩:=h; rfl
def cd (S:Nat->Prop) (w:World) (v:Value) (its:List bi):Prop:=aT S w 4 (fL S w) v its
theorem fL.move {S T:Nat->Prop} {w w':World} {c:List Value} {it:bi} (h:fL S w c it) (hs: ∀k,k<w.heap.size->S k->T k/\w'.heap[k]? =w.heap[k]?):fL T w' c it:=by
 obtain⟨v,rfl,hr⟩:=h;refine⟨v,rfl, ?_⟩;have h1:=aB.mono (T:=fun k=>T k/\w'.heap[k]? =w.heap[k]?) hr hs (by omega);exact(h1.same (w':=w') (fun k hk=>hk.2)).weak (fun k hk=>hk.1)
theorem cd.move {S T:Nat->Prop} {w w':World} {v:Value} {its:List bi} (h:cd S w v its) (hs: ∀k,k<w.heap.size->S k->T k/\w'.heap[k]? =w.heap[k]?):cd T w' v its:=by
 obtain⟨cells,h1,h2⟩:=h;have h3:=aB.mono (T:=fun k=>T k/\w'.heap[k]? =w.heap[k]?) h1 hs (by omega);exact⟨cells,(h3.same (w':=w') (fun k hk=>hk.2)).weak (fun k hk=>hk.1),h2.mono fun c x _ hc=>hc.move hs⟩
theorem Tryz.appItems :cX Tryz.prog 182 208 4 32:=cX.mk' (z:= .agg #[.bool false, .bool false, .bool false, .slice none 0 0]) Tryz.underlying182 (by kernel_rfl) rfl (by decide) (by decide)
structure fD (w : World) (sb : Nat) (rest : List Int) (its : List bi) (v : Value) (wr : World) : Prop where
 scan:bm wr sb rest
 own: ∃cells,wr.ownsRow w.heap.size 208 4 v its.length cells/\aV (fL (fun k=>w.heap.size<=k/\some k≠v.ownBlock) wr) cells its
 grow:w.grownBy wr (some sb)
 lt:sb<w.heap.size
theorem fD.scanned {w:World} {sb:Nat} {rest rest':List Int} {its:List bi} {v:Value} {wr w1:World} (h:fD w sb rest its v wr) (hs:bm w1 sb rest') (hg:wr.grownBy w1 (some sb)):fD w sb rest' its v w1:=by
 obtain⟨_,⟨cells,ho,hr⟩,hgr,hl⟩:=h;refine⟨hs,⟨cells,ho.kept hg ?_,hr.mono fun c x _ hc=>hc.move fun k hk h2=>⟨h2,hg.block k hk (by simp; omega)⟩⟩,grownBy.trans hgr hg,hl⟩
 cases hv:v.ownBlock with
 | none=>exact .inl rfl
 | some k=>right; have:=(ho.lt k hv).1; simp; omega
theorem fD.alloc {w:World} {sb:Nat} {rest:List Int} {its:List bi} {v:Value} {wr:World} (h:fD w sb rest its v wr) (o:Obj):fD w sb rest its v (wr.alloc o):=
 h.scanned (fh h.scan _) (World.grownBy_alloc _ _ _)
theorem fD.added {w:World} {sb:Nat} {rest:List Int} {its:List bi} {v v' rv:Value} {wr w1:World} {it:bi} {cells:List Value} (h:fD w sb rest its v wr)
  (hcells:wr.ownsRow w.heap.size 208 4 v its.length cells/\aV (fL (fun k=>w.heap.size<=k/\some k≠v.ownBlock) wr) cells its)
  (hrv:du (fun k=>w.heap.size<=k/\some k≠v.ownBlock) wr rv it.ranges)
  (ho:w1.ownsRow w.heap.size 208 4 v' (its.length+1) (cells++[.bool it.star, .bool it.any, .bool it.neg,rv])) (hg:wr.grownBy w1 v.ownBlock) (hnew: ∀k,v'.ownBlock=some k->v.ownBlock=some k\/wr.heap.size<=k):fD w sb rest (its++[it]) v' w1:=by
 obtain⟨⟨sv,hs1,hs2⟩,_,hgr,hl⟩:=h;obtain⟨ho0,hr0⟩:=hcells;have hsz:=hgr.size;have hmove: ∀k,k<wr.heap.size->(w.heap.size<=k/\some k≠v.ownBlock)->(w.heap.size<=k/\some k≠v'.ownBlock)/\w1.heap[k]? =wr.heap[k]? :=by
  intro k hk ⟨h1,h2⟩;refine⟨⟨h1,fun e=> ?_⟩,hg.block k hk h2⟩
  rcases hnew k e.symm with h3 | h3
  ·exact h2 h3.symm
  ·omega
 have hold: ∀k,k<w.heap.size->w1.heap[k]? =wr.heap[k]? :=fun k hk=>hg.block k (by omega) (fun e=>by have:=(ho0.lt k e.symm).1; omega)
 refine⟨⟨sv,by rw[hold sb hl]; exact hs1,hs2.same fun k hk=>hold k (by omega)⟩,⟨_,by simpa using ho, ?_⟩, ?_,hl⟩
 ·refine aV.snoc (hr0.mono fun c x _ hc=>hc.move hmove) ?_;exact fL.move (w:=wr) ⟨rv,rfl,hrv⟩ hmove
 ·exact⟨hg.os.trans hgr.os,hg.tape.trans hgr.tape,hg.output.trans hgr.output,by have:=hg.size; omega,fun k hk hk2=>(hold k hk).trans (hgr.block k hk hk2)⟩
def yd (sb:Nat) (its:List bi) (w:World) (e:Ending) (w':World):Prop:=
 ∃v,e= .returned (.tuple #[v, .bool true])/\cd (w.heap.size<= ·) w' v its/\w.grownBy w' (some sb)
def vP (sb:Nat) (o:Option (List bi)) (w:World) (e:Ending) (w':World):Prop:=
 match o with
 | some its=>yd sb its w e w'
 | none=>e= .returned (.tuple #[.slice none 0 0, .bool false])/\w.grownBy w' (some sb)
theorem nG (sb:Nat) (rs:List Int) (w:World) (h:bm w sb rs) (ht:rs.length<1099511627775):Calls Tryz.prog 139 #[.pointer (some ⟨sb,0,none⟩)] w (vP sb (dO rs) w):=by
 have hlt:=h.lt;have H0:=aa h;clear h
 go_enter Tryz.func139,Tryz.ntmps139
 go_wp2_with fail
 go_loopw [4] (fun v wr=> ∃(rest:List Int) (its:List bi),fD w sb rest its v wr/\its.length+rest.length<=rs.length/\dO rs=(dO rest).map (its++ ·)) (fun _ wr=>lp sb wr)
 case atStart=>exact⟨rs,[],⟨H0.out,⟨[],World.ownsRow_nil _ _ _ _,rfl⟩,grownBy.refl _ _,hlt⟩,by simp,by cases dO rs<;> simp⟩
 case round=>
  obtain⟨rest,its,hI,hal,hc⟩:=hrel;have HI:=aa hI;have HC:=aa hc;clear hc;obtain⟨a,cap,k0,-⟩:=hI.scan.open;clear hI
  cases rest with
  | nil=>
   simp only[List.length_nil]at k0;go_wp2_with fail
   go_ret2
   have hnil:dO rs=some its:=by rw[HC.out]; simp[dO,fe]
   rw[hnil];obtain⟨cells,ho,hr⟩:=HI.out.own;refine⟨u4,rfl,⟨cells,(bu ho).weak (fun k hk=>hk.1),hr.mono fun c x _ hc=>hc.move fun k _ hk=>⟨hk.1,rfl⟩⟩,HI.out.grow⟩
  | cons r t=>
   simp only[List.length_cons]at k0 hal;have ht':t.length<1099511627775:=by omega
   obtain⟨n,hn⟩: ∃n,n=t.length:=⟨_,rfl⟩;rw[<-hn]at k0;have HN:=aa hn;clear hn;go_wp2_with fail
   cases hi:dX (r::t)with
   | none=>
    have HIt:=aa hi;clear hi;refine(pZ sb r t wr HI.out.scan ht').mono ?_;rw[HIt.out];rintro e w1 ⟨b0,b1,b2,x,nx,cx,u,rfl,hs1,hg1⟩;have HI1:=aa (HI.out.scanned hs1 hg1);clear hs1 hg1;go_wp2_with fail
    go_ret2
    rw[HC.out,rE (by simp) HIt.out];exact⟨rfl,grownBy.trans HI1.out.grow (World.grownBy_alloc _ _ _)⟩
   | some p=>
    obtain⟨it,u⟩:=p;have hl1:=iz hi;simp only[List.length_cons]at hl1;have HIt:=aa hi;clear hi;refine(pZ sb r t wr HI.out.scan ht').mono ?_;rw[HIt.out];rintro e w1 ⟨rv,rfl,hrv,hs1,hg1⟩;obtain⟨_,av,cv,rfl,_⟩:=id hrv;have HI1:=aa ((HI.out.scanned hs1 hg1).alloc (.cells #[.bool it.star, .bool it.any, .bool it.neg, .slice av it.ranges.length cv] 208));have hrv2:du (fun k=>w.heap.size<=k/\some k≠u4.ownBlock) (w1.alloc (.cells #[.bool it.star, .bool it.any, .bool it.neg, .slice av it.ranges.length cv] 208)) (.slice av it.ranges.length cv) it.ranges:=by
     have hsz:=HI.out.grow.size;obtain⟨cells,ho,-⟩:=HI.out.own;have h5:=aB.weak (T:=fun k=>w.heap.size<=k/\some k≠u4.ownBlock) hrv (fun k hk=>⟨by omega,fun e=>by have:=(ho.lt k e.symm).2; omega⟩);exact h5.below (by omega) ((Below.refl _ _).alloc (Nat.le_refl _) _)
    have HRV:=aa hrv2;clear hs1 hg1 hrv hrv2;obtain⟨cells,hcells⟩:=HI1.out.own;have HCE:=aa hcells;clear hcells;go_wp2_with (at_builtin; go_must (refine aS Tryz.appItems rfl _ _ rfl w.heap.size u4 its.length cells rfl (w1.alloc (.cells #[.bool it.star, .bool it.any, .bool it.neg, .slice av it.ranges.length cv] 208)) [.bool it.star, .bool it.any, .bool it.neg, .slice av it.ranges.length cv] _ (by simp; rfl) rfl (by simp; exact⟨rfl,rfl,rfl,rfl⟩) HCE.out.1 (by omega) (by have:=HI1.out.grow.size; omega) ?_); intro v' w5 hown5 hgrow5 _ hnew5; have HI5:=aa (HI1.out.added HCE.out HRV.out hown5 hgrow5 hnew5); clear hown5 hgrow5 hnew5)
    go_roundw
    case rel=>
     refine⟨u,its++[it],HI5.out,by simp; omega, ?_⟩;rw[HC.out,qb (by simp) HIt.out]
     cases dO u<;> simp
    case measure=>
     rw[HI5.out.scan.len,HI.out.scan.len]
     simp; omega
def et (S:Nat->Prop) (w:World) (c:List Value) (cm:aG):Prop:= ∃v,c=[.bool cm.dbl,v]/\cd S w v cm.items
theorem et.len {S:Nat->Prop} {w:World} (c:List Value) (cm:aG) (h:et S w c cm):c.length=2:=by obtain⟨v,rfl,_⟩:=h; rfl
def cJ (S:Nat->Prop) (w:World) (v:Value) (cs:List aG):Prop:=aT S w 2 (et S w) v cs
theorem et.move {S T:Nat->Prop} {w w':World} {c:List Value} {cm:aG} (h:et S w c cm) (hs: ∀k,k<w.heap.size->S k->T k/\w'.heap[k]? =w.heap[k]?):et T w' c cm:=by
 obtain⟨v,rfl,hr⟩:=h;exact⟨v,rfl,hr.move hs⟩
theorem cJ.move {S T:Nat->Prop} {w w':World} {v:Value} {cs:List aG} (h:cJ S w v cs) (hs: ∀k,k<w.heap.size->S k->T k/\w'.heap[k]? =w.heap[k]?):cJ T w' v cs:=by
 obtain⟨cells,h1,h2⟩:=h;have h3:=aB.mono (T:=fun k=>T k/\w'.heap[k]? =w.heap[k]?) h1 hs (by omega);exact⟨cells,(h3.same (w':=w') (fun k hk=>hk.2)).weak (fun k hk=>hk.1),h2.mono fun c x _ hc=>hc.move hs⟩
def iU (z:List Value) (n:Nat):List Value:=(List.replicate n z).flatten
theorem dG (z:List Value) (n:Nat):iU z (n+1)=z++iU z n:=by simp[iU,List.replicate_succ]
theorem oo (z:List Value) (n:Nat):(iU z n).length=n*z.length:=by simp[iU]
theorem om (z:List Value): ∀(n j:Nat),j<n*z.length->(iU z n)[j]? =z[j%z.length]?
 | 0,j,h=>by omega
 | n+1,j,h=>by
  rw[dG]
  by_cases hj:j<z.length
  ·rw[List.getElem?_append_left hj,Nat.mod_eq_of_lt hj]
  ·have h2:j-z.length<n*z.length:=by rw[Nat.add_mul]at h; omega
   rw[List.getElem?_append_right (by omega),om z n _ h2,Nat.mod_eq_sub_mod (a:=j) (by omega)]
def made (z:List Value) (n:Nat):Array Value:=(iU z n).toArray
theorem yL (z:List Value) (n:Nat) (hz:0<z.length):madeCells z.toArray (n*z.length)=made z n:=by
 apply Array.ext
 ·simp[madeCells,made,oo]
 ·intro j h1 h2;simp[madeCells]at h1;have:=om z n j h1;have hm:j%z.length<z.length:=Nat.mod_lt _ hz;simp only[madeCells,Array.getElem_map,Array.getElem_range,List.size_toArray];rw[getElem!_pos _ _ (by simpa using hm)];simp only[made,List.getElem_toArray];rw[List.getElem?_eq_getElem (by rw[oo]; exact h1),List.getElem?_eq_getElem hm]at this;exact(Option.some.inj this).symm
theorem jM {P:Program} {t e:TypeId} {sz bytes:Nat} {z:Value} (n:Nat) (zl:List Value) (ht:P.underlying t=some (.slice e)) (hi:(P.info? e).map (fun i=>(i.zero,i.size,i.bytes))=some (some z,sz,bytes)) (hz:z.cells=zl.toArray) (hl:zl.length=sz) (hp:0<sz) (hb:bytes<=128) (hn:n<=1099511627775) (w:World):
  (Instr.makeSlice t (.int .i64 (n:Int)) (.int .i64 (n:Int))).run P w= .ok (.slice (some ⟨w.heap.size,0,none⟩) n n) (w.alloc (.cells (made zl n) e)):=by
 obtain⟨i,h1,h2,h3,h4⟩:=info_parts hi;subst h3 h4;have hby:i.bytes*n<=128*1099511627775:=Nat.mul_le_mul hb hn;have hby2:(i.bytes:Int)*(n:Int)<=281474976710656:=by rw[<-Int.natCast_mul]; omega
 have:=run_make (P:=P) w t e i z ht h1 h2 .i64 .i64 (n:Int) (n:Int) (by omega) (by omega) hby2 (by omega);rw[this,hz];simp only[Int.toNat_natCast];rw[show i.size=zl.length by omega,yL zl n (by omega)]
structure eE (w : World) (cb n k : Nat) (cs : List aG) (wr : World) : Prop where
 box: ∃done,aV (et (cb< ·) wr) done cs/\wr.heap[cb]? =some (.cells (done++iU [.bool false, .slice none 0 0] (n-k)).toArray 184 (0,0))
 below:Below cb w wr
 lt:cb<wr.heap.size
 len:cs.length=k
theorem eE.grown {w:World} {cb n k:Nat} {cs:List aG} {wr w':World} (h:eE w cb n k cs wr) (hb:Below wr.heap.size wr w'):eE w cb n k cs w':=by
 obtain⟨⟨done,hr,hbx⟩,hbl,hlt,hl⟩:=h;exact⟨⟨done,hr.mono fun c x _ hc=>hc.move fun k hk h2=>⟨h2,hb.block k hk⟩,by rw[hb.block cb hlt]; exact hbx⟩,hbl.trans (hb.mono (by omega)),Nat.lt_of_lt_of_le hlt hb.size,hl⟩
theorem eE.cells {w:World} {cb n k:Nat} {cs:List aG} {wr:World} (h:eE w cb n k cs wr) (hk:k<n):wr.cell? ⟨cb,k*2,none⟩=some (.bool false)/\wr.cell? ⟨cb,k*2+1,none⟩=some (.slice none 0 0)/\(∀j,wr.frozen? ⟨cb,j,none⟩=false):=by
 obtain⟨⟨done,hr,hbx⟩,hbl,hlt,hl⟩:=h;have hdl:=hr.len et.len;obtain⟨m,hm⟩: ∃m,n-k=m+1:=⟨n-k-1,by omega⟩;rw[hm,dG]at hbx;refine⟨?_, ?_,fun j=>ah hbx⟩
 ·rw[ab hbx,List.getElem?_toArray,List.getElem?_append_right (by omega),show k*2-done.length=0 by omega]; rfl
 ·rw[ab hbx,List.getElem?_toArray,List.getElem?_append_right (by omega),show k*2+1-done.length=1 by omega]; rfl
theorem yZ (done:List Value) (a b x:Value) (rest:List Value) (i:Nat) (h:i=done.length):(done++a::b::rest).set i x=done++x::b::rest:=by
 subst h; simp
theorem xE (done:List Value) (a b x:Value) (rest:List Value) (i:Nat) (h:i=done.length+1):(done++a::b::rest).set i x=done++a::x::rest:=by
 subst h; simp
theorem eE.double {w:World} {cb n k:Nat} {cs:List aG} {wr:World} (h:eE w cb n k cs wr) (hk:k<n):eE w cb n (k+1) (cs++[⟨true,[]⟩]) (wr.setCell ⟨cb,k*2,none⟩ (.bool true)):=by
 obtain⟨⟨done,hr,hbx⟩,hbl,hlt,hl⟩:=h;have hdl:=hr.len et.len;obtain⟨m,hm⟩: ∃m,n-k=m+1:=⟨n-k-1,by omega⟩;rw[hm,dG]at hbx;refine⟨⟨done++[.bool true, .slice none 0 0], ?_, ?_⟩,hbl.setCell (by simp) _,by simp[World.setCell]; exact hlt,by simp[hl]⟩
 ·refine aV.snoc (hr.mono fun c x _ hc=>hc.move fun j hj h2=>⟨h2,Below.heap_setCell _ _ _ _ (by simp; omega)⟩) ?_;exact⟨_,rfl,aT.nil⟩
 ·simp only[World.setCell,Array.getElem?_modify,if_true,hbx,Option.map_some];rw[show n-(k+1)=m by omega];simp only[List.setIfInBounds_toArray,Option.some.injEq,Obj.cells.injEq,and_true];rw[List.cons_append,List.cons_append,List.nil_append,yZ done _ _ _ _ (k*2) (by omega)];simp
theorem eE.items {w:World} {cb n k:Nat} {cs:List aG} {its:List bi} {wr:World} {v:Value} (h:eE w cb n k cs wr) (hk:k<n) (hv:cd (cb< ·) wr v its):eE w cb n (k+1) (cs++[⟨false,its⟩]) (wr.setCell ⟨cb,k*2+1,none⟩ v):=by
 obtain⟨⟨done,hr,hbx⟩,hbl,hlt,hl⟩:=h;have hdl:=hr.len et.len;obtain⟨m,hm⟩: ∃m,n-k=m+1:=⟨n-k-1,by omega⟩;rw[hm,dG]at hbx;refine⟨⟨done++[.bool false,v], ?_, ?_⟩,hbl.setCell (by simp) _,by simp[World.setCell]; exact hlt,by simp[hl]⟩
 ·refine aV.snoc (hr.mono fun c x _ hc=>hc.move fun j hj h2=>⟨h2,Below.heap_setCell _ _ _ _ (by simp; omega)⟩) ?_;exact⟨_,rfl,hv.move fun j hj h2=>⟨h2,Below.heap_setCell _ _ _ _ (by simp; omega)⟩⟩
 ·simp only[World.setCell,Array.getElem?_modify,if_true,hbx,Option.map_some];rw[show n-(k+1)=m by omega];simp only[List.setIfInBounds_toArray,Option.some.injEq,Obj.cells.injEq,and_true];rw[List.cons_append,List.cons_append,List.nil_append,xE done _ _ _ _ (k*2+1) (by omega)];simp
theorem kC : ∀(ps:List (List UInt8)) (p:List UInt8),bQ (ps++[p])=match bQ ps with | none=>none | some cs=>match gr p with | none=>none | some c=>some (cs++[c])
 | [],p=>by simp only[List.nil_append,bQ]; cases gr p<;> simp
 | q::ps,p=>by
  simp only[List.cons_append,bQ];rw[kC ps p]
  cases gr q<;> simp
  cases bQ ps<;> simp
  cases gr p<;> simp
theorem gu (ps qs:List (List UInt8)) (h:bQ ps=none):bQ (ps++qs)=none:=by
 induction ps with
 | nil=>simp[bQ]at h
 | cons p ps ih=>
  simp only[List.cons_append,bQ]at h ⊢
  cases hp:gr p with
  | none=>rfl
  | some c=>
   rw[hp]at h;simp only at h
   cases hps:bQ ps with
   | none=>simp[ih hps]
   | some cs=>rw[hps]at h; simp at h
theorem nR {P:Program} {src dst e:TypeId} (s:ByteArray) (hs:P.underlying src=some .string) (hd:P.underlying dst=some (.slice e)) (he:P.underlying e=some (.int .i32)) (hl:s.size<=70368744177664) (w:World):
  (convert src dst (.string s)).run P w= .ok (.slice (some ⟨w.heap.size,0,none⟩) (aU (bl s)).length (grownCap w (aU (bl s)).length 0 e))
   (w.drew.alloc (.cells (((aU (bl s)).map (Value.int .i32))++List.replicate (grownCap w (aU (bl s)).length 0 e-(aU (bl s)).length) (Value.int .i32 0)).toArray e)):=by
 have e1:=sr s;have h46:(Conv.runesFrom s s.size 0 #[]).size<=70368744177664:=by rw[e1]; simp; have:=ep s.data.toList; rw[<-Lib.size_eq]at this; omega
 have:=run_runes_of_string (P:=P) w src dst e s hs hd he h46;rw[this,e1];simp[yw]
 congr 2
 apply Array.ext'
 simp
theorem xA {w:World} {x:ByteArray} {cap:Nat} (hc:(aU (bl x)).length<=cap) (hm:cap<=maxLen) (zs:List Value):
  bm ((w.alloc (.cells (((aU (bl x)).map (Value.int .i32))++zs).toArray 21)).alloc (.cells #[.slice (some ⟨w.heap.size,0,none⟩) (aU (bl x)).length cap] 200)).drew (w.heap.size+1) (aU (bl x)):=by
 refine⟨_, ?_,by simp,_,cap,rfl,hc,hm, .inr ⟨w.heap.size,0,rfl,by omega,fun j u hj=> ?_⟩⟩
 ·have:=heap_alloc_new (w.alloc (.cells (((aU (bl x)).map (Value.int .i32))++zs).toArray 21)) (.cells #[.slice (some ⟨w.heap.size,0,none⟩) (aU (bl x)).length cap] 200);rw[show(w.alloc (.cells (((aU (bl x)).map (Value.int .i32))++zs).toArray 21)).heap.size=w.heap.size+1 by simp]at this;exact this
 ·have h1:=heap_alloc_new w (.cells (((aU (bl x)).map (Value.int .i32))++zs).toArray 21);have h2:((w.alloc (.cells (((aU (bl x)).map (Value.int .i32))++zs).toArray 21)).alloc (.cells #[.slice (some ⟨w.heap.size,0,none⟩) (aU (bl x)).length cap] 200)).drew.heap[w.heap.size]? =some (.cells (((aU (bl x)).map (Value.int .i32))++zs).toArray 21 (0,0)):=by
   rw[<-h1]; exact Below.heap_alloc _ _ _ (by simp)
  rw[Nat.zero_add,ab h2,List.getElem?_toArray,List.getElem?_append_left]
  ·exact hj
  ·exact(List.getElem?_eq_some_iff.1 hj).1
theorem nk {w:World} {o p:Obj} :Below w.heap.size w ((w.alloc o).alloc p).drew:=(((Below.refl _ _).alloc (Nat.le_refl _) _).alloc (by simp) _).drew
def zS (cs:List aG) (w:World) (e:Ending) (w':World):Prop:= ∃v,e= .returned (.tuple #[v, .bool true])/\cJ (w.heap.size<= ·) w' v cs/\Below w.heap.size w w'
def qR (o:Option (List aG)) (w:World) (e:Ending) (w':World):Prop:=
 match o with
 | some cs=>zS cs w e w'
 | none=>e= .returned (.tuple #[.slice none 0 0, .bool false])/\Below w.heap.size w w'
theorem dg (s:ByteArray) (w:World) (he:iI w) (hs:s.size<=9223372036854775807):Calls Tryz.prog 113 #[.string s] w (qR (fV (bl s)) w):=by
 have HE:=aa he;clear he
 by_cases h5:s.size<=512
 ·cases htx:mC (bl s)
  ·have HT:=aa htx;clear htx
   go_enter Tryz.func113,Tryz.ntmps113
   go_wp2_with fail;refine(jb s w HE.out hs).mono ?_;rintro e w1 ⟨rfl,hb1⟩;rw[HT.out];have HB1:=aa hb1;clear hb1;go_wp2_with fail
   go_ret2
   have:fV (bl s)=none:=by unfold fV; rw[if_pos (.inr HT.out)]
   rw[this];exact⟨rfl,HB1.out⟩
  ·have HT:=aa htx;clear htx
   go_enter Tryz.func113,Tryz.ntmps113
   go_wp2_with fail;refine(jb s w HE.out hs).mono ?_;rintro e w1 ⟨rfl,hb1⟩;rw[HT.out];have HB1:=aa hb1;clear hb1;go_wp2_with fail;refine(ks s 47 w1 (HE.out.below HB1.out) (by omega)).mono ?_;rintro e w' ⟨xs,hx,rfl,rfl⟩;have hxl:xs.length<=513:=by
    have h1:(aw 47 (bl s)).length=xs.length:=by rw[<-hx]; simp
    have h2:=eq 47 (bl s);rw[<-aN]at h2;omega
   have HX:=aa hx;clear hx
   by_cases h16:xs.length<=16
   ·have hpat:fV (bl s)=bQ (xs.map bl):=by
     unfold fV;rw[if_neg (by rw[<-aN,HT.out]; simp; omega),<-HX.out,if_neg (by simp; omega)]
    have HP:=aa hpat
    clear hpat
    have hmk:=jM (P:=Tryz.prog) (t:=147) (e:=184) (z:= .agg #[.bool false, .slice none 0 0]) xs.length [.bool false, .slice none 0 0] Tryz.underlying147 (bytes:=32) (sz:=2) (by kernel_rfl) rfl rfl (by omega) (by omega) (by omega);have hxl1:((xs.map Value.string).toArray.size)=xs.length:=by simp
    go_wp2_with fail;clear hmk
    go_loopw [29] (fun i wr=> ∃(k:Nat) (cs:List aG),k<=xs.length/\i= .int .i64 k/\eE (w1.alloc (.cells (xs.map Value.string).toArray 9)) (w1.heap.size+1) xs.length k cs wr/\bQ ((xs.map bl).take k)=some cs) (fun i _=>xs.length-(intOf i).toNat)
    case atStart=>
     refine⟨0,[],Nat.zero_le _,rfl,⟨⟨[],rfl, ?_⟩,(Below.refl _ _).alloc (by simp) _,by simp,rfl⟩,by simp[bQ]⟩;have:=heap_alloc_new (w1.alloc (.cells (xs.map Value.string).toArray 9)) (.cells (made [.bool false, .slice none 0 0] xs.length) 184)
     simpa [made]using this
    case round=>
     obtain⟨k,cs,hk,rfl,hI,hc⟩:=hrel;have HI:=aa hI;have HC:=aa hc;clear hc
     by_cases hlt:k<xs.length
     ·obtain⟨x,hx⟩: ∃x,xs[k]? =some x:=⟨xs[k],by simp[hlt]⟩;have hcell:wr.cell? ⟨w1.heap.size,k,none⟩=some (.string x):=(hI.below.cell (p:=⟨w1.heap.size,k,none⟩) (by simp)).trans (jK (oN hx));have hxs:x.size<=512:=by have:=km HX.out hx; omega
      obtain⟨c0,c1,cf⟩:=hI.cells hlt;have cf0:=cf (k*2);have cf1:=cf (k*2+1);have HK:=aa hx;clear hx hI cf;have hsn:bQ ((xs.map bl).take (k+1))=match gr (bl x)with | none=>none | some c=>some (cs++[c]):=by
       have e1:(xs.map bl).take (k+1)=(xs.map bl).take k++[bl x]:=by
        rw[List.take_add_one]; simp[HK.out]
       rw[e1,kC,HC.out]
      have HSN:=aa hsn;clear hsn
      by_cases h2:bl x=[42,42]
      ·have e2:(x.toList == [42,42])=true:=by rw[bw,h2]; rfl
       have H2:=aa h2;clear h2;go_wp2_with fail
       go_roundw
       case rel=>exact⟨k+1,cs++[⟨true,[]⟩],by omega,by go_num,HI.out.double hlt,by rw[HSN.out,H2.out]; rfl⟩
       case measure=>simp[intOf]; omega
      ·have e2:(x.toList == [42,42])=false:=by rw[bw]; simpa using h2
       have H2:=aa h2;clear h2;have hcv:=fun w=>nR (P:=Tryz.prog) (src:=9) (dst:=198) (e:=21) x Tryz.underlying9 Tryz.underlying198 Tryz.underlying21 (by omega) w
       have hrl:=ep (bl x);rw[<-aN]at hrl;have hcg:=grownCap_ge wr (aU (bl x)).length 0 21;have hcm:=grownCap_le_maxLen wr (aU (bl x)).length 0 21 (by unfold maxLen; omega);have HSC:=aa (xA (w:=wr) hcg hcm (List.replicate (grownCap wr (aU (bl x)).length 0 21-(aU (bl x)).length) (Value.int .i32 0)));clear hcg hcm;go_wp2_with fail;clear hcv
       cases hit:dO (aU (bl x))with
       | none=>
        have HIt:=aa hit;clear hit;refine(nG _ _ _ HSC.out (by omega)).mono ?_;rw[HIt.out];rintro e w3 ⟨rfl,hg3⟩;have hb3:Below wr.heap.size wr w3:=grownBy.below nk hg3 (by omega) (by simp; omega);have HI3:=aa (HI.out.grown hb3);clear hg3 hb3;go_wp2_with fail
        go_ret2
        have hnone:bQ ((xs.map bl).take (k+1))=none:=by rw[HSN.out,gr,if_neg H2.out,HIt.out]
        have:fV (bl s)=none:=by
         rw[HP.out,<-List.take_append_drop (k+1) (xs.map bl)];exact gu _ _ hnone
        rw[this];exact⟨rfl,ag (ag HB1.out ((Below.refl _ _).alloc (Nat.le_refl _) _)) (by simpa using HI3.out.below)⟩
       | some its=>
        have HIt:=aa hit;clear hit;refine(nG _ _ _ HSC.out (by omega)).mono ?_;rw[HIt.out];rintro e w3 ⟨v,rfl,hv3,hg3⟩;have hb3:Below wr.heap.size wr w3:=grownBy.below nk hg3 (by omega) (by simp; omega);have HI3:=aa (HI.out.grown hb3);have hcblt:=HI.out.lt;have HV3:=aa (cd.move (T:=(w1.heap.size+1< ·)) (w':=w3) hv3 (fun j hj h2=>⟨by simp at h2; omega,rfl⟩))
        obtain⟨av,cv,rfl,hnv,hmv,-⟩:=hv3.shape fL.len;clear hg3 hb3 hv3;obtain⟨d0,d1,df⟩:=HI3.out.cells hlt;have df1:=df (k*2+1);clear df c0 c1 cf0 cf1 hcell
        by_cases hn0:its.length=0
        ·have e0:((its.length:Int) == 0)=true:=by simpa using hn0
         have hnil:its=[]:=List.eq_nil_of_length_eq_zero hn0;have HN:=aa hnil;clear hnil hn0;go_wp2_with fail
         go_ret2
         have hnone:bQ ((xs.map bl).take (k+1))=none:=by rw[HSN.out,gr,if_neg H2.out,HIt.out,HN.out]; rfl
         have:fV (bl s)=none:=by
          rw[HP.out,<-List.take_append_drop (k+1) (xs.map bl)];exact gu _ _ hnone
         rw[this];exact⟨rfl,ag (ag HB1.out ((Below.refl _ _).alloc (Nat.le_refl _) _)) (by simpa using HI3.out.below)⟩
        ·have e0:((its.length:Int) == 0)=false:=by simpa using hn0
         have hnil:its≠[]:=fun e=>hn0 (by rw[e]; rfl)
         have HN:=aa hnil;clear hnil hn0;go_wp2_with fail
         go_roundw
         case rel=>exact⟨k+1,cs++[⟨false,its⟩],by omega,by go_num,HI3.out.items hlt HV3.out,by rw[HSN.out,gr,if_neg H2.out,HIt.out]; simp[HN.out]⟩
         case measure=>simp[intOf]; omega
     ·obtain rfl:k=xs.length:=by omega
      clear hI;go_wp2_with fail
      go_ret2
      have:fV (bl s)=some cs:=by
       rw[HP.out,<-HC.out,List.take_of_length_le (by simp)]
      rw[this];obtain⟨⟨done,hr,hbx⟩,hbl,hlt2,hl⟩:=HI.out;have hsz1:=HB1.out.size;refine⟨.slice (some ⟨w1.heap.size+1,0,none⟩) cs.length cs.length,by rw[hl]; rfl,⟨done,⟨by rw[hr.len et.len],_,_,rfl,Nat.le_refl _,by rw[hl]; unfold maxLen; omega, .inr ⟨w1.heap.size+1,0,rfl,by omega,fun j u hj=> ?_⟩⟩,hr.mono fun c x _ hc=>hc.move fun j _ hj=>⟨by omega,rfl⟩⟩,ag (ag HB1.out ((Below.refl _ _).alloc (Nat.le_refl _) _)) (by simpa using hbl)⟩
      rw[Nat.zero_add,ab hbx,List.getElem?_toArray,List.getElem?_append_left (List.getElem?_eq_some_iff.1 hj).1];exact hj
   ·go_wp2_with fail
    go_ret2
    have:fV (bl s)=none:=by
     unfold fV;rw[if_neg (by rw[<-aN,HT.out]; simp; omega),<-HX.out,if_pos (by simp; omega)]
    rw[this];exact⟨rfl,ag HB1.out ((Below.refl _ _).alloc (Nat.le_refl _) _)⟩
 ·go_enter Tryz.func113,Tryz.ntmps113
  go_wp2_with fail
  go_ret2
  have:fV (bl s)=none:=by unfold fV; rw[if_pos (.inl (by rw[<-aN]; omega))]
  rw[this];exact⟨rfl,Below.refl _ _⟩
theorem kM (lo hi r:Int) (pb:Nat) (w:World) (hr:w.cell? ⟨pb,0,none⟩=some (.int .i32 r)):
  Calls Tryz.prog 173 #[.agg #[.int .i32 lo, .int .i32 hi], .pointer (some ⟨pb,0,none⟩)] w fun e w'=>e= .returned (.bool (vM r (lo,hi)))/\Below w.heap.size w w':=by
 have hlt:=ax hr;simp only at hlt;have hne: ¬pb=w.heap.size:=by omega
 by_cases h1:lo<=r
 ·go_enter Tryz.func173,Tryz.ntmps173
  go_wp2
  go_ret;refine⟨al ?_,(Below.refl _ _).alloc (Nat.le_refl _) _⟩;simp[vM,h1]
 ·have e1:decide (lo<=r)=false:=by simpa using h1
  go_enter Tryz.func173,Tryz.ntmps173
  go_wp2
  go_ret;refine⟨al ?_,(Below.refl _ _).alloc (Nat.le_refl _) _⟩;simp[vM]; omega
def mU (r:Int):List (Int×Int)->Nat->Int
 | [],_=> -1
 | x::t,k=>if vM r x then(k:Int)else mU r t (k+1)
theorem pV (r:Int): ∀(rs:List (Int×Int)) (k:Nat),decide (0<=mU r rs k)=rs.any (vM r)
 | [],_=>by simp[mU]
 | x::t,k=>by
  unfold mU
  by_cases h:vM r x=true
  ·simp[h]
  ·have h':vM r x=false:=by simpa using h
   rw[if_neg h,pV r t (k+1)]; simp[h']
theorem nC : ∀ {rs:List (Int×Int)} {k:Nat} {x:Int×Int},rs[k]? =some x->(iN rs)[k*2]? =some (.int .i32 x.1)/\(iN rs)[k*2+1]? =some (.int .i32 x.2)
 | [],k,x,h=>by simp at h
 | y::rs,0,x,h=>by simp at h; subst h; exact⟨rfl,rfl⟩
 | y::rs,k+1,x,h=>by
  have:=nC (rs:=rs) (k:=k) (x:=x) (by simpa using h);rw[show(k+1)*2=k*2+1+1 by omega];simp only[iN,List.flatMap_cons,List.cons_append,List.nil_append,List.getElem?_cons_succ];exact this
theorem nF {r:Int} {rs:List (Int×Int)} {k:Nat} {x:Int×Int} (h:rs[k]? =some x):mU r (rs.drop k) k=if vM r x then(k:Int)else mU r (rs.drop (k+1)) (k+1):=by
 obtain⟨hk,rfl⟩:=List.getElem?_eq_some_iff.1 h;rw[List.drop_eq_getElem_cons hk,mU]
theorem mV (S:Nat->Prop) (rs:List (Int×Int)) (r:Int) (pb:Nat) (v:Value) (w:World) (hv:du S w v rs) (hr:w.cell? ⟨pb,0,none⟩=some (.int .i32 r)):
  Calls Tryz.prog 193 #[v, .func (.func 173) #[] #[.pointer (some ⟨pb,0,none⟩)]] w fun e w'=>e= .returned (.int .i64 (mU r rs 0))/\Below w.heap.size w w':=by
 obtain⟨hl,a,cap,rfl,hn,hm,h0⟩:=hv;have H0:=aa h0;have HR:=aa hr;clear h0 hl hr;unfold maxLen at hm
 go_enter Tryz.func193,Tryz.ntmps193
 go_wp2_with fail
 go_loopw [8] (fun i wr=> ∃k:Nat,k<=rs.length/\i= .int .i64 k/\Below w.heap.size w wr/\mU r rs 0=mU r (rs.drop k) k) (fun i _=>rs.length-(intOf i).toNat)
 case atStart=>exact⟨0,Nat.zero_le _,rfl,Below.refl _ _,rfl⟩
 case round=>
  obtain⟨k,hk,rfl,hb,hc⟩:=hrel;have HB:=aa hb;have HC:=aa hc;clear hb hc
  by_cases hlt:k<rs.length
  ·obtain⟨⟨lo,hi⟩,hx⟩: ∃x,rs[k]? =some x:=⟨rs[k],by simp[hlt]⟩;obtain⟨b,o,rfl,-,hcl⟩:=H0.out.resolve_left (by omega);obtain⟨g1,g2⟩:=nC hx;have q1:=hcl _ _ g1;have q2:=hcl _ _ g2;have c1:wr.cell? ⟨b,o+k*2,none⟩=some (.int .i32 lo):=(HB.out.cell (p:=⟨b,o+k*2,none⟩) (ax q1)).trans q1;have c2:wr.cell? ⟨b,o+k*2+1,none⟩=some (.int .i32 hi):=by
    have:=(HB.out.cell (p:=⟨b,o+(k*2+1),none⟩) (ax q2)).trans q2;rw[show o+k*2+1=o+(k*2+1) by omega]; exact this
   have hr2:wr.cell? ⟨pb,0,none⟩=some (.int .i32 r):=(HB.out.cell (p:=⟨pb,0,none⟩) (ax HR.out)).trans HR.out;have HR2:=aa hr2;have HX:=aa hx;clear hcl g1 g2 q1 q2 hr2 hx
   cases hin:vM r (lo,hi)
   ·have HIN:=aa hin;clear hin;go_wp2_with (go_at_call 173; refine(kM lo hi r pb _ HR2.out).mono ?_; rintro e w1 ⟨rfl,hb1⟩; rw[HIN.out]; have HB1:=aa hb1; clear hb1)
    go_roundw
    case rel=>exact⟨k+1,by omega,by go_num,ag HB.out HB1.out,by rw[HC.out,nF HX.out,HIN.out]; rfl⟩
    case measure=>simp[intOf]; omega
   ·have HIN:=aa hin;clear hin;go_wp2_with (go_at_call 173; refine(kM lo hi r pb _ HR2.out).mono ?_; rintro e w1 ⟨rfl,hb1⟩; rw[HIN.out]; have HB1:=aa hb1; clear hb1);go_ret;exact⟨cC (by rw[HC.out,nF HX.out,HIN.out]; rfl),ag HB.out HB1.out⟩
  ·go_wp2_with fail;go_ret;exact⟨cC (by rw[HC.out,List.drop_eq_nil_of_le (by omega)]; rfl),HB.out⟩
theorem ka (S:Nat->Prop) (rs:List (Int×Int)) (r:Int) (pb:Nat) (v:Value) (w:World) (hv:du S w v rs) (hr:w.cell? ⟨pb,0,none⟩=some (.int .i32 r)):
  Calls Tryz.prog 172 #[v, .func (.func 173) #[] #[.pointer (some ⟨pb,0,none⟩)]] w fun e w'=>e= .returned (.bool (rs.any (vM r)))/\Below w.heap.size w w':=by
 have HV:=aa hv;have HR:=aa hr;clear hv hr
 go_enter Tryz.func172,Tryz.ntmps172
 go_wp2_with fail;refine(mV S rs r pb v w HV.out HR.out).mono ?_;rintro e w1 ⟨rfl,hb1⟩;have HB:=aa hb1;clear hb1;go_wp2_with fail;go_ret;exact⟨al (pV r rs 0),HB.out⟩
theorem gx (S:Nat->Prop) (it:bi) (r:Int) (v:Value) (w:World) (hv:du S w v it.ranges):
  Calls Tryz.prog 143 #[.agg #[.bool it.star, .bool it.any, .bool it.neg,v], .int .i32 r] w fun e w'=>e= .returned (.bool (dk it r))/\Below w.heap.size w w':=by
 obtain⟨a,cap,rfl⟩: ∃a cap,v= .slice a it.ranges.length cap:=by obtain⟨_,a,cap,h,_⟩:=hv; exact⟨a,cap,h⟩
 have HV:=aa hv;clear hv
 cases hany:it.any
 ·have HA:=aa hany;clear hany;have hbl:Below w.heap.size w ((w.alloc (.cells #[.bool it.star, .bool false, .bool it.neg, .slice a it.ranges.length cap] 208)).alloc (.cells #[.int .i32 r] 21)):=((Below.refl _ _).alloc (Nat.le_refl _) _).alloc (by simp) _;have HBL:=aa hbl;clear hbl
  go_enter Tryz.func143,Tryz.ntmps143
  go_wp2_with fail;refine(ka S it.ranges r (w.heap.size+1) _ _ (aB.below HV.out (by omega) HBL.out) (by simp)).mono ?_;rintro e w1 ⟨rfl,hb1⟩;have hc2:w1.cell? ⟨w.heap.size,2,none⟩=some (.bool it.neg):=by
   rw[hb1.cell (p:=⟨w.heap.size,2,none⟩) (by simp; omega)]; simp
  have HB:=aa hb1;clear hb1;go_wp2_with fail;go_ret;refine⟨al ?_,ag HBL.out HB.out⟩;unfold dk;rw[HA.out]
  cases it.ranges.any (vM r)<;> cases it.neg<;> rfl
 ·have HA:=aa hany;clear hany
  go_enter Tryz.func143,Tryz.ntmps143
  go_wp2_with fail;go_ret;refine⟨al ?_,((Below.refl _ _).alloc (Nat.le_refl _) _).alloc (by simp) _⟩;simp[dk,HA.out]
theorem jE (it:bi) (v:Value) (w:World):Calls Tryz.prog 142 #[.agg #[.bool it.star, .bool it.any, .bool it.neg,v]] w fun e w'=>e= .returned (.bool it.star)/\Below w.heap.size w w':=by
 go_enter Tryz.func142,Tryz.ntmps142
 go_wp2
 go_ret;exact⟨rfl,(Below.refl _ _).alloc (Nat.le_refl _) _⟩
theorem kB (c:aG) (v:Value) (w:World):Calls Tryz.prog 115 #[.agg #[.bool c.dbl,v]] w fun e w'=>e= .returned (.bool c.dbl)/\Below w.heap.size w w':=by
 go_enter Tryz.func115,Tryz.ntmps115
 go_wp2
 go_ret;exact⟨rfl,(Below.refl _ _).alloc (Nat.le_refl _) _⟩
def tk (f B:Nat):Value:= .func (.func f) #[] #[.pointer (some ⟨B+1,0,none⟩), .pointer (some ⟨B+5,0,none⟩), .pointer (some ⟨B,0,none⟩), .pointer (some ⟨B+2,0,none⟩), .pointer (some ⟨B+3,0,none⟩), .pointer (some ⟨B+6,0,none⟩)]
structure eu (w0 : World) (B N f : Nat) (pv tv sv mv : Value) (tr : List Bool) (w : World) : Prop where
 c0:w.cell? ⟨B,0,none⟩=some pv
 c1:w.cell? ⟨B+1,0,none⟩=some tv
 c2:w.cell? ⟨B+2,0,none⟩=some sv
 c3:w.cell? ⟨B+3,0,none⟩=some mv
 c5:w.cell? ⟨B+5,0,none⟩=some (.slice (some ⟨B+4,0,none⟩) N N)
 c6:w.cell? ⟨B+6,0,none⟩=some (.func (.func f) #[] #[.pointer (some ⟨B+1,0,none⟩), .pointer (some ⟨B+5,0,none⟩), .pointer (some ⟨B,0,none⟩), .pointer (some ⟨B+2,0,none⟩), .pointer (some ⟨B+3,0,none⟩), .pointer (some ⟨B+6,0,none⟩)])
 row:w.heap[B+4]? =some (.cells (tr.map Value.bool).toArray 4 (0,0))
 len:tr.length=N
 lt:B+6<w.heap.size
 below:Below B w0 w
theorem eu.grown {w0:World} {B N f:Nat} {pv tv sv mv:Value} {tr:List Bool} {w w':World} (h:eu w0 B N f pv tv sv mv tr w) (hb:Below w.heap.size w w'):eu w0 B N f pv tv sv mv tr w':=by
 obtain⟨c0,c1,c2,c3,c5,c6,hr,hl,hlt,hbl⟩:=h;refine⟨(hb.cell (ax c0)).trans c0,(hb.cell (ax c1)).trans c1,(hb.cell (ax c2)).trans c2,(hb.cell (ax c3)).trans c3,(hb.cell (ax c5)).trans c5,(hb.cell (ax c6)).trans c6, ?_,hl,Nat.lt_of_lt_of_le hlt hb.size,hbl.trans (hb.mono (by omega))⟩;rw[hb.block _ (by omega)]; exact hr
theorem eu.cell {w0:World} {B N f:Nat} {pv tv sv mv:Value} {tr:List Bool} {w:World} (h:eu w0 B N f pv tv sv mv tr w) {q:Nat} {b:Bool} (hq:tr[q]? =some b):w.cell? ⟨B+4,q,none⟩=some (.bool b):=by
 rw[ab h.row]; simp[hq]
theorem eu.free {w0:World} {B N f:Nat} {pv tv sv mv:Value} {tr:List Bool} {w:World} (h:eu w0 B N f pv tv sv mv tr w) (q:Nat):w.frozen? ⟨B+4,q,none⟩=false:=ah h.row
theorem eu.mark {w0:World} {B N f:Nat} {pv tv sv mv:Value} {tr:List Bool} {w:World} (h:eu w0 B N f pv tv sv mv tr w) (q:Nat):eu w0 B N f pv tv sv mv (tr.set q true) (w.setCell ⟨B+4,q,none⟩ (.bool true)):=by
 obtain⟨c0,c1,c2,c3,c5,c6,hr,hl,hlt,hbl⟩:=h;have hc: ∀k,k≠B+4->(w.setCell ⟨B+4,q,none⟩ (.bool true)).cell? ⟨k,0,none⟩=w.cell? ⟨k,0,none⟩:=fun k hk=>World.cell?_of_block (w:=w) (a:=⟨k,0,none⟩) (Below.heap_setCell _ _ _ _ hk)
 refine⟨(hc _ (by omega)).trans c0,(hc _ (by omega)).trans c1,(hc _ (by omega)).trans c2,(hc _ (by omega)).trans c3,(hc _ (by omega)).trans c5,(hc _ (by omega)).trans c6, ?_,by simp[hl],by simp[World.setCell]; exact hlt,hbl.setCell (by simp) _⟩;simp only[World.setCell,Array.getElem?_modify,if_true,hr,Option.map_some];simp[List.map_set]
def dU {P T:Type} (star:P->Bool) (M:P->T->Bool) (ps:List P) (ts:List T) (i:Nat) (tr:List Bool):Prop:=
 ∀i' j',i<=i'->i'<=ps.length->j'<=ts.length->tr[i'*(ts.length+1)+j']? =some true->dv star M (ps.drop i') (ts.drop j')=false
section
variable {P T : Type} {star : P → Bool} {M : P → T → Bool} {ps : List P} {ts : List T} {i j : Nat} {tr tr' : List Bool}
theorem ql (m i j n:Nat) (hi:i<=n) (hj:j<=m):i*(m+1)+j<(n+1)*(m+1):=by
 have:i*(m+1)<=n*(m+1):=Nat.mul_le_mul_right _ hi;rw[Nat.add_mul]; omega
theorem uH {m i j i' j':Nat} (hj:j<=m) (hj':j'<=m) (h:i*(m+1)+j=i'*(m+1)+j'):i=i'/\j=j':=by
 have h1:(i*(m+1)+j)/(m+1)=i:=by rw[Nat.mul_comm,Nat.mul_add_div (by omega)]; rw[Nat.div_eq_of_lt (by omega)]; omega
 have h2:(i'*(m+1)+j')/(m+1)=i':=by rw[Nat.mul_comm,Nat.mul_add_div (by omega)]; rw[Nat.div_eq_of_lt (by omega)]; omega
 have:i=i':=by rw[<-h1,<-h2,h]
 subst this;exact⟨rfl,by omega⟩
theorem dU.hit (h:dU star M ps ts i tr) (hi:i<=ps.length) (hj:j<=ts.length) (ht:tr[i*(ts.length+1)+j]? =some true):dv star M (ps.drop i) (ts.drop j)=false:=h i j (Nat.le_refl _) hi hj ht
theorem dU.up (h:dU star M ps ts i tr):dU star M ps ts (i+1) tr:=fun i' j' h1=>h i' j' (by omega)
theorem dU.marked (h:dU star M ps ts i tr) (hj:j<=ts.length):dU star M ps ts (i+1) (tr.set (i*(ts.length+1)+j) true):=by
 intro i' j' h1 h2 h3 h4;rw[List.getElem?_set_ne]at h4
 ·exact h i' j' (by omega) h2 h3 h4
 ·intro e; have:=(uH hj h3 e).1; omega
theorem dU.down (h:dU star M ps ts i tr) (h2:dU star M ps ts (i+1) tr') (hsame: ∀q,q<(i+1)*(ts.length+1)->tr'[q]? =(tr.set (i*(ts.length+1)+j) true)[q]?) (hf:dv star M (ps.drop i) (ts.drop j)=false):dU star M ps ts i tr':=by
 intro i' j' h1 h3 h4 h5
 rcases Nat.lt_or_ge i i' with h6 | h6
 ·exact h2 i' j' (by omega) h3 h4 h5
 ·obtain rfl:i'=i:=by omega
  rw[hsame _ (by rw[Nat.add_mul]; omega)]at h5
  by_cases e:j'=j
  ·rw[e]; exact hf
  ·rw[List.getElem?_set_ne]at h5
   ·exact h i' j' (Nat.le_refl _) h3 h4 h5
   ·omega
theorem wC (hi:i=ps.length) (hj:j<=ts.length):dv star M (ps.drop i) (ts.drop j)=decide (j=ts.length):=by
 rw[hi,List.drop_length];unfold dv
 by_cases h:j=ts.length
 ·simp[h]
 ·have:ts.drop j≠[]:=by intro e; have:=List.drop_eq_nil_iff.1 e; omega
  simp[this,h]
theorem oI {p:P} (hp:ps[i]? =some p) (hs:star p=false) {t:T} (ht:ts[j]? =some t):dv star M (ps.drop i) (ts.drop j)=(M p t && dv star M (ps.drop (i+1)) (ts.drop (j+1))):=by
 obtain⟨hk,rfl⟩:=List.getElem?_eq_some_iff.1 hp;obtain⟨hk2,rfl⟩:=List.getElem?_eq_some_iff.1 ht;rw[List.drop_eq_getElem_cons hk,List.drop_eq_getElem_cons hk2,dv,hs,if_neg (by simp),pT]
theorem ti {p:P} (hp:ps[i]? =some p) (hs:star p=false) (hj:ts.length<=j):dv star M (ps.drop i) (ts.drop j)=false:=by
 obtain⟨hk,rfl⟩:=List.getElem?_eq_some_iff.1 hp;rw[List.drop_eq_getElem_cons hk,List.drop_eq_nil_of_le hj,dv,hs,if_neg (by simp),pT]
theorem tj {p:P} (hp:ps[i]? =some p) (hs:star p=true):dv star M (ps.drop i) (ts.drop j)=eT (dv star M (ps.drop (i+1))) (ts.drop j):=by
 obtain⟨hk,rfl⟩:=List.getElem?_eq_some_iff.1 hp;rw[List.drop_eq_getElem_cons hk,dv,if_pos hs]
theorem fp (f:List T->Bool) (hj:j<ts.length):eT f (ts.drop j)=(f (ts.drop j) || eT f (ts.drop (j+1))):=by
 rw[List.drop_eq_getElem_cons hj,eT]
theorem gd (f:List T->Bool) (hj:j=ts.length):eT f (ts.drop j)=f (ts.drop j):=by
 rw[hj,List.drop_length]; rfl
end
def oq {P T:Type} (star:P->Bool) (M:P->T->Bool) (ps:List P) (ts:List T) (i j:Nat) (w0:World) (B N f:Nat) (pv tv sv mv:Value) (tr:List Bool) (e:Ending) (w':World):Prop:=
 ∃tr',e= .returned (.bool (dv star M (ps.drop i) (ts.drop j)))/\eu w0 B N f pv tv sv mv tr' w'/\(dv star M (ps.drop i) (ts.drop j)=false->dU star M ps ts i tr')/\ ∀q,q<i*(ts.length+1)->tr'[q]? =tr[q]?
def sR {P T:Type} (star:P->Bool) (M:P->T->Bool) (ps:List P) (ts:List T) (i:Nat) (w0:World) (B N f:Nat) (pv tv sv mv:Value):Prop:=
 ∀(ii jj:Int) (j:Nat) (w:World) (tr:List Bool),ii=i->jj=j->j<=ts.length->eu w0 B N f pv tv sv mv tr w->dU star M ps ts i tr->
  Calls Tryz.prog f #[.int .i64 ii, .int .i64 jj, .pointer (some ⟨B+1,0,none⟩), .pointer (some ⟨B+5,0,none⟩), .pointer (some ⟨B,0,none⟩), .pointer (some ⟨B+2,0,none⟩), .pointer (some ⟨B+3,0,none⟩), .pointer (some ⟨B+6,0,none⟩)] w
   (oq star M ps ts i j w0 B N f pv tv sv mv tr)
theorem cA {w0 W:World} {B:Nat} (hb:Below B w0 W) (hB:w0.heap.size=B) {a:Addr} {u:Value} (h:w0.cell? a=some u):W.cell? a=some u:=
 (hb.cell (by have:=ax h; omega)).trans h
theorem lQ (ps:List bi) (ts:List Int) (S:Nat->Prop) (w0:World) (B:Nat) (pv tv:Value) (hB:w0.heap.size=B) (hp:cd S w0 pv ps) (htv:aB S w0 1 tv ts.length (ts.map (Value.int .i32)))
  (hn:ps.length<=65536) (hm:ts.length<=65536) (i j:Nat) (w:World) (tr:List Bool) (hi:i<=ps.length) (hj:j<=ts.length)
  (IH:i<ps.length->sR bi.star dk ps ts (i+1) w0 B ((ps.length+1)*(ts.length+1)) 171 pv tv (.func (.func 142) #[] #[]) (.func (.func 143) #[] #[]))
  (hst:eu w0 B ((ps.length+1)*(ts.length+1)) 171 pv tv (.func (.func 142) #[] #[]) (.func (.func 143) #[] #[]) tr w) (hinv:dU bi.star dk ps ts i tr):
  Calls Tryz.prog 171 #[.int .i64 i, .int .i64 j, .pointer (some ⟨B+1,0,none⟩), .pointer (some ⟨B+5,0,none⟩), .pointer (some ⟨B,0,none⟩), .pointer (some ⟨B+2,0,none⟩), .pointer (some ⟨B+3,0,none⟩), .pointer (some ⟨B+6,0,none⟩)] w
   (oq bi.star dk ps ts i j w0 B ((ps.length+1)*(ts.length+1)) 171 pv tv (.func (.func 142) #[] #[]) (.func (.func 143) #[] #[]) tr):=by
 obtain⟨pa,pc,rfl,hpc,hpm,hpx⟩:=hp.shape fL.len;obtain⟨_,ta,tc,rfl,htc,htm,ht0⟩:=htv;unfold maxLen at hpm htm;obtain⟨c0,c1,c2,c3,c5,c6,-,hlen,-,-⟩:=id hst;have HST:=aa hst;have HINV:=aa hinv;have HIH:=aa IH;clear IH;have HPX:=aa hpx;have HT0:=aa ht0;have HLEN:=aa hlen;have hpS:=hp;have HPS:=aa hpS;clear hst hinv hpx ht0 hlen hp hpS;obtain⟨N,hN⟩: ∃N:Nat,N=(ps.length+1)*(ts.length+1):=⟨_,rfl⟩
 have hpN:i*(ts.length+1)+j<N:=by rw[hN]; exact ql _ _ _ _ hi hj
 have hNb:N<=4295098369:=by
  have h1:(ps.length+1)*(ts.length+1)<=65537*65537:=Nat.mul_le_mul (by omega) (by omega);omega
 have hX:(i:Int)*((ts.length:Int)+1)=((i*(ts.length+1):Nat):Int):=by simp
 have hb1:0<=(i:Int)*((ts.length:Int)+1):=by rw[hX]; omega
 have hb2:(i:Int)*((ts.length:Int)+1)<=4295098369:=by rw[hX]; omega
 have hb3:(i:Int)*((ts.length:Int)+1)+(j:Int)<(N:Int):=by rw[hX]; omega
 obtain⟨b0,hq⟩: ∃b,tr[i*(ts.length+1)+j]? =some b:=⟨tr[i*(ts.length+1)+j]'(by rw[HLEN.out,<-hN]; exact hpN),by simp⟩;have HQ:=aa hq;have c4:=HST.out.cell hq;have f4:=HST.out.free (i*(ts.length+1)+j);rw[<-hN]at c5 HST HIH ⊢;have HN:=aa hN;clear hN hq HLEN hX
 cases b0 with
 | true=>
  go_enter Tryz.func171,Tryz.ntmps171
  go_wp2_with fail;go_ret;have hf:dv bi.star dk (ps.drop i) (ts.drop j)=false:=HINV.out.hit hi hj HQ.out;exact⟨tr,by rw[hf]; rfl,HST.out,fun _=>HINV.out,fun _ _=>rfl⟩
 | false=>
  have hst1:=HST.out.mark (i*(ts.length+1)+j);have HST1:=aa hst1;have HINV1:=aa (HINV.out.marked (j:=j) hj);obtain⟨d0,d1,d2,d3,d5,d6,-,-,-,-⟩:=hst1
  by_cases hin:i=ps.length
  ·have e1:((i:Int) == (ps.length:Int))=true:=by rw[hin]; simp
   have HIN:=aa hin;clear hin
   go_enter Tryz.func171,Tryz.ntmps171
   go_wp2_with fail;go_ret;have hdv:=wC (star:=bi.star) (M:=dk) HIN.out hj;refine⟨tr.set (i*(ts.length+1)+j) true, ?_,HST1.out,fun hf=>HINV.out.down HINV1.out (fun q' _=>rfl) hf,fun q' hq'=> ?_⟩
   ·rw[hdv];exact al (by rw[Bool.eq_iff_iff]; simp; omega)
   ·rw[List.getElem?_set_ne];omega
  ·have hin':i<ps.length:=by omega
   have e1:((i:Int) == (ps.length:Int))=false:=by rw[beq_eq_false_iff_ne]; omega
   clear hin;obtain⟨it,hit⟩: ∃it,ps[i]? =some it:=⟨ps[i],by simp[hin']⟩;obtain⟨pb,po,c,rfl,hSb,⟨rv,rfl,hrv⟩,-,hcl⟩:=HPX.out i it hit;have HIT:=aa hit;have HRV:=aa hrv;have q0:=hcl 0 (by omega);have q1:=hcl 1 (by omega);have q2:=hcl 2 (by omega);have q3:=hcl 3 (by omega);simp only[Nat.add_zero,<-Nat.add_assoc,cw]at q0 q1 q2 q3;have Q0:=aa q0;have Q1:=aa q1
   have Q2:=aa q2;have Q3:=aa q3;have g0:=cA HST1.out.below hB q0;have g1:=cA HST1.out.below hB q1;have g2:=cA HST1.out.below hB q2;have g3:=cA HST1.out.below hB q3;clear hit hrv hcl q0 q1 q2 q3
   cases hs:it.star
   ·have HS:=aa hs;clear hs
    go_enter Tryz.func171,Tryz.ntmps171
    go_wp2_with fail;clear c0 c1 c2 c3 c4 c5 c6 f4
    generalize hW:w.setCell ⟨B+4,i*(ts.length+1)+j,none⟩ (.bool true)=W at *
    clear hW hb1 hb2 hb3 hpN hNb;refine ak [some 5,none,some 1] (by kernel_rfl) (by kernel_rfl) (by kernel_rfl) ?_;simp only[bb,List.take_succ_cons,List.take_zero,List.drop_succ_cons,List.drop_zero];have HST2:=aa (HST1.out.grown (Below.refl _ W).drew)
    repeat (first | (refine am rfl ?_; simp only[Act.put,aD,aE,aF]) | (refine aA rfl (fun K hK=> ?_); go_simp; refine hK _ ?_; clear hK K))
    refine az ?_;clear d0 d1 d2 d3 d5 d6 g0 g1 g2 g3 HST1
    generalize W.drew=W2 at *
    refine bt rfl (fun K hK=> ?_);go_wp2_with (go_at_call 142; refine(jE it rv _).mono ?_; rintro e w3 ⟨rfl,hb3⟩; rw[HS.out]; have HST3:=aa (HST2.out.grown hb3); clear hb3 HST2)
    repeat (first | (refine am rfl ?_; simp only[Act.put,aD,aE,aF]) | (refine aA rfl (fun K hK=> ?_); go_simp; refine hK _ ?_; clear hK K))
    refine az ?_;go_wp2_with fail;obtain⟨d0,d1,d2,d3,d5,d6,-,-,-,-⟩:=id HST3.out;have g0:=cA HST3.out.below hB Q0.out;have g1:=cA HST3.out.below hB Q1.out;have g2:=cA HST3.out.below hB Q2.out;have g3:=cA HST3.out.below hB Q3.out
    by_cases hjm:j<ts.length
    ·have ejm:decide ((j:Int)<(ts.length:Int))=true:=by simpa using hjm
     obtain⟨x,hx⟩: ∃x,ts[j]? =some x:=⟨ts[j],by simp[hjm]⟩;obtain⟨tb,tof,rfl,hSt,htcl⟩:=HT0.out.resolve_left (by omega);have hx3:=cA HST3.out.below hB (htcl j (.int .i32 x) (by simp[hx]));have HX:=aa hx;clear hx htcl
     cases hM:dk it x
     ·have HM:=aa hM;clear hM;have ejm2:(j:Int)<(ts.length:Int):=by omega
      refine ak [some 14,none,some 7,none,some 2] (by kernel_rfl) (by kernel_rfl) (by kernel_rfl) ?_;simp only[bb,List.take_succ_cons,List.take_zero,List.drop_succ_cons,List.drop_zero];have HST3':=aa (HST3.out.grown (Below.refl _ w3).drew)
      repeat (first | (refine am rfl ?_; simp only[Act.put,aD,aE,aF]) | (refine aA rfl (fun K hK=> ?_); go_simp; refine hK _ ?_; clear hK K))
      refine az ?_;clear d0 d1 d2 d3 d5 d6 g0 g1 g2 g3 hx3;have hrv4:du S w3.drew rv it.ranges:=aB.below HRV.out (by omega) (by have:=HST3'.out.below; rw[<-hB]at this; exact this);have HRV4:=aa hrv4;clear hrv4
      generalize w3.drew=w3d at *
      refine bt rfl (fun K hK=> ?_);go_wp2_with (go_at_call 143; refine(gx S it x rv _ HRV4.out).mono ?_; rintro e w4 ⟨rfl,hb4⟩; rw[HM.out]; have HST4:=aa (HST3'.out.grown hb4); clear hb4)
      repeat (first | (refine am rfl ?_; simp only[Act.put,aD,aE,aF]) | (refine aA rfl (fun K hK=> ?_); go_simp; refine hK _ ?_; clear hK K))
      refine az ?_;refine jp rfl ?_;simp only[Act.put,aD,aE,aF]
      repeat (first | (refine am rfl ?_; simp only[Act.put,aD,aE,aF]) | (refine aA rfl (fun K hK=> ?_); go_simp; refine hK _ ?_; clear hK K))
      refine az ?_;go_wp2_with fail;go_ret;have hdv:=show dv bi.star dk (ps.drop i) (ts.drop j)=false by rw[oI HIT.out HS.out HX.out,HM.out]; rfl
      refine⟨tr.set (i*(ts.length+1)+j) true,by rw[hdv]; rfl,HST4.out,fun hf=>HINV.out.down HINV1.out (fun _ _=>rfl) hf,fun q hq=> ?_⟩;rw[List.getElem?_set_ne (by omega)]
     ·have HM:=aa hM;clear hM;have ejm2:(j:Int)<(ts.length:Int):=by omega
      refine ak [some 14,none,some 7,none,some 2] (by kernel_rfl) (by kernel_rfl) (by kernel_rfl) ?_;simp only[bb,List.take_succ_cons,List.take_zero,List.drop_succ_cons,List.drop_zero];have HST3':=aa (HST3.out.grown (Below.refl _ w3).drew)
      repeat (first | (refine am rfl ?_; simp only[Act.put,aD,aE,aF]) | (refine aA rfl (fun K hK=> ?_); go_simp; refine hK _ ?_; clear hK K))
      refine az ?_;clear d0 d1 d2 d3 d5 d6 g0 g1 g2 g3 hx3;have hrv4:du S w3.drew rv it.ranges:=aB.below HRV.out (by omega) (by have:=HST3'.out.below; rw[<-hB]at this; exact this);have HRV4:=aa hrv4;clear hrv4
      generalize w3.drew=w3d at *
      refine bt rfl (fun K hK=> ?_);go_wp2_with (go_at_call 143; refine(gx S it x rv _ HRV4.out).mono ?_; rintro e w4 ⟨rfl,hb4⟩; rw[HM.out]; have HST4:=aa (HST3'.out.grown hb4); clear hb4);have d6:=HST4.out.c6
      repeat (first | (refine am rfl ?_; simp only[Act.put,aD,aE,aF]) | (refine aA rfl (fun K hK=> ?_); go_simp; refine hK _ ?_; clear hK K))
      refine az ?_;refine bt rfl (fun K hK=> ?_);go_wp2_with (go_at_call 171; refine(HIH.out hin' _ _ (j+1) w4 (tr.set (i*(ts.length+1)+j) true) (by omega) (by omega) (by omega) HST4.out HINV1.out).mono ?_; rintro e w5 ⟨tr2,rfl,hst5,hinv5,hsame5⟩; have HST5:=aa hst5; have HINV5:=aa hinv5; have HSM5:=aa hsame5; clear hst5 hinv5 hsame5)
      repeat (first | (refine am rfl ?_; simp only[Act.put,aD,aE,aF]) | (refine aA rfl (fun K hK=> ?_); go_simp; refine hK _ ?_; clear hK K))
      refine az ?_;go_wp2_with fail;go_ret;have hdv:dv bi.star dk (ps.drop i) (ts.drop j)=dv bi.star dk (ps.drop (i+1)) (ts.drop (j+1)):=by rw[oI HIT.out HS.out HX.out,HM.out]; rfl
      refine⟨tr2,by rw[hdv]; rfl,HST5.out,fun hf=>HINV.out.down (HINV5.out (by rw[<-hdv]; exact hf)) (fun q hq=>HSM5.out q hq) hf,fun q hq=> ?_⟩;rw[HSM5.out q (by rw[Nat.add_mul]; omega),List.getElem?_set_ne (by omega)]
    ·have ejm:decide ((j:Int)<(ts.length:Int))=false:=by simpa using hjm
     go_quiet (fail)
     go_wp2_with fail;go_ret;have HST4:=aa (HST3.out.grown (ex (Below.refl _ w3) nq));have hdv:=show dv bi.star dk (ps.drop i) (ts.drop j)=false from ti HIT.out HS.out (by omega);refine⟨tr.set (i*(ts.length+1)+j) true,by rw[hdv]; rfl,HST4.out,fun hf=>HINV.out.down HINV1.out (fun _ _=>rfl) hf,fun q hq=> ?_⟩;rw[List.getElem?_set_ne (by omega)]
   ·have HS:=aa hs;clear hs
    go_enter Tryz.func171,Tryz.ntmps171
    go_wp2_with fail;clear c0 c1 c2 c3 c4 c5 c6 f4
    generalize hW:w.setCell ⟨B+4,i*(ts.length+1)+j,none⟩ (.bool true)=W at *
    clear hW hb1 hb2 hb3 hpN hNb;refine ak [some 5,none,some 1] (by kernel_rfl) (by kernel_rfl) (by kernel_rfl) ?_;simp only[bb,List.take_succ_cons,List.take_zero,List.drop_succ_cons,List.drop_zero];have HST2:=aa (HST1.out.grown (Below.refl _ W).drew)
    repeat (first | (refine am rfl ?_; simp only[Act.put,aD,aE,aF]) | (refine aA rfl (fun K hK=> ?_); go_simp; refine hK _ ?_; clear hK K))
    refine az ?_;clear d0 d1 d2 d3 d5 d6 g0 g1 g2 g3 HST1
    generalize W.drew=W2 at *
    refine bt rfl (fun K hK=> ?_);go_wp2_with (go_at_call 142; refine(jE it rv _).mono ?_; rintro e w3 ⟨rfl,hb3⟩; rw[HS.out]; have HST3:=aa (HST2.out.grown hb3); clear hb3 HST2)
    repeat (first | (refine am rfl ?_; simp only[Act.put,aD,aE,aF]) | (refine aA rfl (fun K hK=> ?_); go_simp; refine hK _ ?_; clear hK K))
    refine az ?_;go_wp2_with fail
    go_loopw [12] (fun en wr=> ∃(k:Nat) (tr':List Bool),j<=k/\k<=ts.length+1/\en= .int .i64 k/\eu w0 B N 171 (.slice (some ⟨pb,po,none⟩) ps.length pc) (.slice ta ts.length tc) (.func (.func 142) #[] #[]) (.func (.func 143) #[] #[]) tr' wr/\
      dU bi.star dk ps ts (i+1) tr'/\(∀q,q<(i+1)*(ts.length+1)->tr'[q]? =(tr.set (i*(ts.length+1)+j) true)[q]?)/\dv bi.star dk (ps.drop i) (ts.drop j)=(decide (k<=ts.length) && eT (dv bi.star dk (ps.drop (i+1))) (ts.drop k))) (fun en _=>ts.length+1-(intOf en).toNat)
    case atStart=>exact⟨j,_,Nat.le_refl _,by omega,rfl,HST3.out,HINV1.out,fun _ _=>rfl,by rw[tj HIT.out HS.out]; simp[hj]⟩
    case round=>
     obtain⟨k,tr',hjk,hk,rfl,hst4,hinv4,hsm4,hdv4⟩:=hrel;have HST4:=aa hst4;have HINV4:=aa hinv4;have HSM4:=aa hsm4;have HDV4:=aa hdv4;obtain⟨d0,d1,d2,d3,d5,d6,-,-,-,-⟩:=hst4;clear hinv4 hsm4 hdv4
     by_cases hkm:k<=ts.length
     ·cases hdvk:dv bi.star dk (ps.drop (i+1)) (ts.drop k)
      ·have HDVK:=aa hdvk;clear hdvk;go_wp2_with (go_at_call 171; refine(HIH.out hin' _ _ k wr tr' (by omega) (by omega) (by omega) HST4.out HINV4.out).mono ?_; rintro e w5 ⟨tr2,rfl,hst5,hinv5,hsame5⟩; rw[HDVK.out]; have HST5:=aa hst5; have HINV5:=aa hinv5; have HSM5:=aa hsame5; clear hst5 hinv5 hsame5)
       go_roundw
       case rel=>
        refine⟨k+1,tr2,by omega,by omega,by go_num,HST5.out,HINV5.out HDVK.out,fun q hq=>(HSM5.out q hq).trans (HSM4.out q hq), ?_⟩;rw[HDV4.out]
        by_cases hlt:k<ts.length
        ·rw[fp _ hlt,HDVK.out]; simp[hkm,show k+1<=ts.length by omega]
        ·rw[gd _ (show k=ts.length by omega),HDVK.out]; simp[show ¬k+1<=ts.length by omega]
       case measure=>simp[intOf]; omega
      ·have HDVK:=aa hdvk;clear hdvk;go_wp2_with (go_at_call 171; refine(HIH.out hin' _ _ k wr tr' (by omega) (by omega) (by omega) HST4.out HINV4.out).mono ?_; rintro e w5 ⟨tr2,rfl,hst5,hinv5,hsame5⟩; rw[HDVK.out]; have HST5:=aa hst5; have HINV5:=aa hinv5; have HSM5:=aa hsame5; clear hst5 hinv5 hsame5);go_ret;have hdv:dv bi.star dk (ps.drop i) (ts.drop j)=true:=by
        rw[HDV4.out]
        by_cases hlt:k<ts.length
        ·rw[fp _ hlt,HDVK.out]; simp[hkm]
        ·rw[gd _ (show k=ts.length by omega),HDVK.out]; simp[hkm]
       refine⟨tr2,by rw[hdv]; rfl,HST5.out,(fun hf=>by rw[hdv]at hf; cases hf),fun q hq=> ?_⟩;rw[HSM5.out q (by rw[Nat.add_mul]; omega),HSM4.out q (by rw[Nat.add_mul]; omega),List.getElem?_set_ne (by omega)]
     ·go_wp2_with fail;go_ret;have hdv:dv bi.star dk (ps.drop i) (ts.drop j)=false:=by rw[HDV4.out]; simp[hkm]
      refine⟨tr',by rw[hdv]; rfl,HST4.out,fun hf=>HINV.out.down HINV4.out HSM4.out hf,fun q hq=> ?_⟩;rw[HSM4.out q (by rw[Nat.add_mul]; omega),List.getElem?_set_ne (by omega)]
theorem zn (ps:List bi) (ts:List Int) (S:Nat->Prop) (w0:World) (B:Nat) (pv tv:Value) (hB:w0.heap.size=B) (hp:cd S w0 pv ps) (htv:aB S w0 1 tv ts.length (ts.map (Value.int .i32)))
  (hn:ps.length<=65536) (hm:ts.length<=65536): ∀(d i:Nat),ps.length-i=d->i<=ps.length->sR bi.star dk ps ts i w0 B ((ps.length+1)*(ts.length+1)) 171 pv tv (.func (.func 142) #[] #[]) (.func (.func 143) #[] #[])
 | 0,i,hd,hi=>by
  intro ii jj j w tr h1 h2 hj hst hinv;subst h1 h2;exact lQ ps ts S w0 B pv tv hB hp htv hn hm i j w tr hi hj (fun h=>by omega) hst hinv
 | d+1,i,hd,hi=>by
  intro ii jj j w tr h1 h2 hj hst hinv;subst h1 h2;exact lQ ps ts S w0 B pv tv hB hp htv hn hm i j w tr hi hj (fun h=>zn ps ts S w0 B pv tv hB hp htv hn hm d (i+1) (by omega) (by omega)) hst hinv
theorem sQ (n:Nat):iU [Value.bool false] n=(List.replicate n false).map Value.bool:=by
 induction n with
 | zero=>rfl
 | succ n ih=>rw[dG,ih,List.replicate_succ]; rfl
theorem yD (w:World) (os:List Obj): ∀(k:Nat) (o:Obj),os[k]? =some o->(os.foldl World.alloc w).heap[w.heap.size+k]? =some o:=by
 induction os generalizing w with
 | nil=>intro k o h; simp at h
 | cons p os ih=>
  intro k o h
  cases k with
  | zero=>
   simp at h; subst h;have hb: ∀(l:List Obj) (v:World),Below v.heap.size v (l.foldl World.alloc v):=by
    intro l
    induction l with
    | nil=>intro v; exact Below.refl _ _
    | cons q l ih2=>intro v; exact ag ((Below.refl _ _).alloc (Nat.le_refl _) q) (ih2 (v.alloc q))
   rw[Nat.add_zero,List.foldl_cons,(hb os (w.alloc p)).block _ (by simp)];exact heap_alloc_new w p
  | succ k=>
   have:=ih (w.alloc p) k o (by simpa using h);rw[List.foldl_cons,show w.heap.size+(k+1)=(w.alloc p).heap.size+k by simp; omega];exact this
theorem oz (l:List Obj): ∀v:World,Below v.heap.size v (l.foldl World.alloc v):=by
 induction l with
 | nil=>intro v; exact Below.refl _ _
 | cons q l ih2=>intro v; exact ag ((Below.refl _ _).alloc (Nat.le_refl _) q) (ih2 (v.alloc q))
theorem qw (l:List Obj): ∀v:World,(l.foldl World.alloc v).heap.size=v.heap.size+l.length:=by
 induction l with
 | nil=>intro v; rfl
 | cons q l ih2=>intro v; rw[List.foldl_cons,ih2]; simp; omega
theorem kD (w:World) (pv tv sv mv:Value) (N f t0 t1 t2 t3 t5 t6:Nat):
  eu w w.heap.size N f pv tv sv mv (List.replicate N false) (((((((w.alloc (.cells #[pv] t0)).alloc (.cells #[tv] t1)).alloc (.cells #[sv] t2)).alloc (.cells #[mv] t3)).alloc (.cells (made [.bool false] N) 4)).alloc (.cells #[.slice (some ⟨w.heap.size+4,0,none⟩) N N] t5)).alloc (.cells #[tk f w.heap.size] t6)):=by
 have e:(((((((w.alloc (.cells #[pv] t0)).alloc (.cells #[tv] t1)).alloc (.cells #[sv] t2)).alloc (.cells #[mv] t3)).alloc (.cells (made [.bool false] N) 4)).alloc (.cells #[.slice (some ⟨w.heap.size+4,0,none⟩) N N] t5)).alloc (.cells #[tk f w.heap.size] t6))=
  [Obj.cells #[pv] t0, .cells #[tv] t1, .cells #[sv] t2, .cells #[mv] t3, .cells (made [.bool false] N) 4, .cells #[.slice (some ⟨w.heap.size+4,0,none⟩) N N] t5, .cells #[tk f w.heap.size] t6].foldl World.alloc w:=rfl
 rw[e];have H:=yD w [Obj.cells #[pv] t0, .cells #[tv] t1, .cells #[sv] t2, .cells #[mv] t3, .cells (made [.bool false] N) 4, .cells #[.slice (some ⟨w.heap.size+4,0,none⟩) N N] t5, .cells #[tk f w.heap.size] t6];refine⟨?_, ?_, ?_, ?_, ?_, ?_, ?_,by simp,by rw[qw]; simp,oz _ _⟩
 ·exact(ab (j:=0) (show _=some (Obj.cells #[pv] t0 (0,0))from H 0 _ rfl)).trans rfl
 ·rw[ab (H 1 _ rfl)]; rfl
 ·rw[ab (H 2 _ rfl)]; rfl
 ·rw[ab (H 3 _ rfl)]; rfl
 ·rw[ab (H 5 _ rfl)]; rfl
 ·rw[ab (H 6 _ rfl)]; rfl
 ·rw[H 4 _ rfl,made,sQ]
theorem pE (ps:List bi) (ts:List Int) (S:Nat->Prop) (w:World) (pv tv:Value) (hp:cd S w pv ps) (htv:aB S w 1 tv ts.length (ts.map (Value.int .i32))) (hn:ps.length<=65536) (hm:ts.length<=65536):
  Calls Tryz.prog 141 #[pv,tv, .func (.func 142) #[] #[], .func (.func 143) #[] #[]] w fun e w'=>e= .returned (.bool (dv bi.star dk ps ts))/\Below w.heap.size w w':=by
 obtain⟨pa,pc,rfl,-,-,-⟩:=hp.shape fL.len;obtain⟨_,ta,tc,rfl,-⟩:=id htv;have HF:=aa (zn ps ts S w w.heap.size _ _ rfl hp htv hn hm ps.length 0 rfl (Nat.zero_le _));clear hp htv;have hN:(ps.length+1)*(ts.length+1)<=65537*65537:=Nat.mul_le_mul (by omega) (by omega);have hX:((ps.length:Int)+1)*((ts.length:Int)+1)=(((ps.length+1)*(ts.length+1):Nat):Int):=by simp
 have hb1:0<=((ps.length:Int)+1)*((ts.length:Int)+1):=by rw[hX]; omega
 have hb2:((ps.length:Int)+1)*((ts.length:Int)+1)<=4295098369:=by rw[hX]; omega
 have hmk:=jM (P:=Tryz.prog) (t:=203) (e:=4) (z:= .bool false) ((ps.length+1)*(ts.length+1)) [.bool false] Tryz.underlying203 (bytes:=1) (sz:=1) (by kernel_rfl) rfl rfl (by omega) (by omega) (by omega);rw[<-hX]at hmk;clear hX hN
 go_enter Tryz.func141,Tryz.ntmps141
 go_wp2_with fail;refine(HF.out 0 0 0 _ (List.replicate ((ps.length+1)*(ts.length+1)) false) rfl rfl (Nat.zero_le _) (kD w _ _ _ _ _ _ _ _ _ _ _ _) ?_).mono ?_
 ·intro i' j' _ _ _ h;rw[List.getElem?_replicate]at h
  split at h<;> simp at h
 ·rintro e w1 ⟨tr',rfl,hst,-,-⟩;go_wp2_with fail;go_ret;exact⟨rfl,hst.below⟩
theorem uZ {w:World} {x:ByteArray} {cap:Nat} (hc:(aU (bl x)).length<=cap) (hm:cap<=maxLen) (zs:List Value):
  aB (fun _=>True) (w.alloc (.cells (((aU (bl x)).map (Value.int .i32))++zs).toArray 21)).drew 1 (.slice (some ⟨w.heap.size,0,none⟩) (aU (bl x)).length cap) (aU (bl x)).length ((aU (bl x)).map (Value.int .i32)):=by
 refine⟨by simp,_,cap,rfl,hc,hm, .inr ⟨w.heap.size,0,rfl,trivial,fun j u hj=> ?_⟩⟩;have h1:=heap_alloc_new w (.cells (((aU (bl x)).map (Value.int .i32))++zs).toArray 21);have h2:(w.alloc (.cells (((aU (bl x)).map (Value.int .i32))++zs).toArray 21)).drew.heap[w.heap.size]? =some (.cells (((aU (bl x)).map (Value.int .i32))++zs).toArray 21 (0,0)):=h1;rw[Nat.zero_add,ab h2,List.getElem?_toArray,List.getElem?_append_left (List.getElem?_eq_some_iff.1 hj).1]
 exact hj
theorem kW (S:Nat->Prop) (c:aG) (v:Value) (x:ByteArray) (w:World) (hv:cd S w v c.items) (hn:c.items.length<=65536) (hx:x.size<=65536):
  Calls Tryz.prog 116 #[.agg #[.bool c.dbl,v], .string x] w fun e w'=>e= .returned (.bool (tg c (bl x)))/\Below w.heap.size w w':=by
 obtain⟨av,cv,rfl,-,-,-⟩:=hv.shape fL.len;have hrl:=ep (bl x);rw[<-aN]at hrl;have HV:=aa hv;clear hv;have hcv:=fun w=>nR (P:=Tryz.prog) (src:=9) (dst:=198) (e:=21) x Tryz.underlying9 Tryz.underlying198 Tryz.underlying21 (by omega) w
 go_enter Tryz.func116,Tryz.ntmps116
 go_wp2_with fail;clear hcv;have hsz:w.heap.size+1=(w.alloc (.cells #[.bool c.dbl, .slice av c.items.length cv] 184)).heap.size:=by simp
 have hba:Below w.heap.size w (w.alloc (.cells #[.bool c.dbl, .slice av c.items.length cv] 184)):=(Below.refl _ _).alloc (Nat.le_refl _) _;rw[hsz]
 generalize w.alloc (.cells #[.bool c.dbl, .slice av c.items.length cv] 184)=wa at *
 have hcg:=grownCap_ge wa (aU (bl x)).length 0 21;have hcm:=grownCap_le_maxLen wa (aU (bl x)).length 0 21 (by unfold maxLen; omega);have hrow:=uZ (w:=wa) hcg hcm (List.replicate (grownCap wa (aU (bl x)).length 0 21-(aU (bl x)).length) (Value.int .i32 0));have hbb:Below w.heap.size w (wa.alloc (.cells (((aU (bl x)).map (Value.int .i32))++List.replicate (grownCap wa (aU (bl x)).length 0 21-(aU (bl x)).length) (Value.int .i32 0)).toArray 21)).drew:=(hba.alloc (by omega) _).drew
 generalize grownCap wa (aU (bl x)).length 0 21=cp at *
 generalize (wa.alloc (.cells (((aU (bl x)).map (Value.int .i32))++List.replicate (cp-(aU (bl x)).length) (Value.int .i32 0)).toArray 21)).drew=wb at *
 have hit:cd (fun _=>True) wb (.slice av c.items.length cv) c.items:=cd.move HV.out (fun k hk _=>⟨trivial,hbb.block k hk⟩);refine(pE c.items (aU (bl x)) (fun _=>True) wb _ _ hit hrow hn (by omega)).mono ?_;rintro e w1 ⟨rfl,hb1⟩;have HB1:=aa hb1;clear hb1;go_wp2_with fail;go_ret;exact⟨rfl,ag hbb HB1.out⟩
end Go.Proofs.YtnjkpcalgoefhaaGreatDoor
