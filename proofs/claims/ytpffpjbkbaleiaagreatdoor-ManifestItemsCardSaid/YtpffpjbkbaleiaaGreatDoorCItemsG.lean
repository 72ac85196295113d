/- Texts of this proof, one after the other: BldE, RGet, Pres, RGood, RefA, RefB, RItem, RNode, RIts, PresA, PresB, MissM, MissL, Refs24. -/
import Derived.Test.YtpffpjbkbaleiaaGreatDoorCItemsF
set_option maxRecDepth 100000
set_option maxHeartbeats 8000000
namespace Go.Proofs.YtpffpjbkbaleiaaGreatDoor
open Go Go.RowKit Go.Maps
theorem Ea {a:Act} {w:World} {b:Nat} {x0 x1 x2 e5:Value} (h:w.heap[b]? =some (.cells #[x0,x1,x2] 26 (0,0)))
  (h4:a.tmps[4]? =some (.pointer (some ⟨b,0,none⟩))) (h5:a.tmps[5]? =some e5):(results Tryz.f73 a.tmps).run Tryz.prog w= .ok (.tuple #[.agg #[x0,x1,x2],e5]) w:=by
 have m0:=ai (k:=0) h;have m1:=ai (k:=1) h;have m2:=ai (k:=2) h;simp only[aN]at m0 m1 m2;simp[results,Tryz.results73,go_sem,h4,h5,m0,m1,m2]
theorem nS {a:Act} {w:World} {b:Nat} {a0 a1 a2 x0 x1 x2 e5:Value} {Q:Ending->World->Prop} (h:w.heap[b]? =some (.cells #[a0,a1,a2] 26 (0,0)))
  (h4:a.tmps[4]? =some (.pointer (some ⟨b,0,none⟩))) (h5:a.tmps[5]? =some e5) (hd:a.defers=[])
  (hQ:Q (.returned (.tuple #[.agg #[x0,x1,x2],e5])) (((w.setCell ⟨b,0,none⟩ x0).setCell ⟨b,1,none⟩ x1).setCell ⟨b,2,none⟩ x2)):
  bodyPost Tryz.prog Tryz.f73 Q Exit.ret a (((w.setCell ⟨b,0,none⟩ x0).setCell ⟨b,1,none⟩ x1).setCell ⟨b,2,none⟩ x2):=bodyPost_ret (Ea (CS h) h4 h5) hd hQ
structure Bb (base bb kb im : Nat) (k : bD) (c : dL) (gs : List (ByteArray × Int)) (tree : List bw) (UR : List aL) : Prop where
 keys:fL k=true
 cut:iB c=true
 seed:c.seed<18446744073709551616
 gens: ∀p∈gs,0<=p.2/\p.2<=1099511627776
 bbb:base<=bb
 bkb:base<=kb
 seven:7<=base
 ikb:im≠kb
 val: ∀e∈tree,iC e=true
 len:tree.length<=4096
 usz:UR.length<=100000000000
 u1: ∀e∈tree,∀y∈fD c e.data,aY k gs y∈UR
 u2: ∀(n:Nat) (d:ByteArray) (p:List UInt8×List (List UInt8)),n<=514->(d.size=0\/ ∃e∈tree,e.path=d)->cD k gs c tree n d= .ok p->aY k gs p.1∈UR
def xP (UR:List aL) (bs:List bI):Prop:= ∀b∈bs,b.ref∈UR
theorem xP.put {UR:List aL} {bs:List bI} {k:bD} {gs:List (ByteArray×Int)} {x:List UInt8} (h:xP UR bs) (hx:aY k gs x∈UR):xP UR (gG k gs bs x):=by
 unfold gG
 split
 ·exact h
 ·intro b hb
  rcases List.mem_append.1 hb with hb | hb
  ·exact h b hb
  ·rw[List.mem_singleton]at hb; subst hb; exact hx
theorem xP.puts {UR:List aL} {k:bD} {gs:List (ByteArray×Int)} : ∀ {cs:List (List UInt8)} {bs:List bI},xP UR bs->(∀x∈cs,aY k gs x∈UR)->xP UR (bE k gs cs bs)
 | [],_,h,_=>h
 | x::cs,bs,h,hx=>xP.puts (cs:=cs) (bs:=gG k gs bs x) (h.put (hx x (by simp))) (fun y hy=>hx y (by simp[hy]))
theorem xP.len {UR:List aL} {bs:List bI} {w:World} {base bb im kb:Nat} {k:bD} {c:dL} {gv v:Value} (h:xP UR bs) (hb:em w base bb k c gv im kb v bs):bs.length<=UR.length:=by
 have h1:=lP (l:=bs.map bI.ref) (U:=UR) hb.known.nodup (fun x hx=>by
  obtain⟨b,hb2,rfl⟩:=List.mem_map.1 hx;exact h b hb2)
 rwa [List.length_map]at h1
def sB (base bb kb im:Nat) (k:bD) (c:dL) (gs:List (ByteArray×Int)) (gv v:Value) (bs:List bI) (UR:List aL) (res:Except Int (List UInt8×List (List UInt8))) (w:World) (e:Ending) (w':World):Prop:=match res with
 | .error x=>e= .returned (.tuple #[.agg #[.string ⟨#[]⟩, .int .i64 0, .int .i64 0], .int .i64 x])/\x≠0/\ ∃v' bs',em w' base bb k c gv im kb v' bs'/\cU base bb kb v v' w w'
 | .ok p=>e= .returned (.tuple #[bF (aY k gs p.1), .int .i64 0])/\xP UR (bE k gs p.2 bs)/\ ∃v',em w' base bb k c gv im kb v' (bE k gs p.2 bs)/\cU base bb kb v v' w w'
def DB (base bb kb im:Nat) (k:bD) (c:dL) (gs:List (ByteArray×Int)) (tree:List bw) (gv:Value) (UR:List aL) (n:Nat):Prop:= ∀(path:ByteArray) (v:Value) (bs:List bI) (w:World),
 514<=path.size+n->(path.size=0\/ ∃e∈tree,e.path=path)->em w base bb k c gv im kb v bs->ik (· <base) w gv gs->wh w base im tree->xP UR bs->kP w->base<=w.heap.size->
 Calls Tryz.prog 73 #[.pointer (some ⟨bb,0,none⟩), .string path] w (sB base bb kb im k c gs gv v bs UR (cD k gs c tree n path) w)
theorem BI {base bb kb im:Nat} {k:bD} {c:dL} {gs:List (ByteArray×Int)} {tree:List bw} {gv:Value} {UR:List aL} (hX:Bb base bb kb im k c gs tree UR):DB base bb kb im k c gs tree gv UR 0:=by
 intro path v bs w hn hp
 exfalso
 rcases hp with h | ⟨e,he,rfl⟩
 ·omega
 ·have:=gt (bL (hX.val e he));rw[<-ay]at this;omega
theorem ll {l:List UInt8} (h:l≠[]):(aS l).length<l.length:=by
 by_cases hp:aS l=[]
 ·rw[hp];exact List.length_pos_iff.2 h
 ·obtain⟨t,ht⟩:=nt hp;have:=congrArg List.length ht;rw[List.length_append,List.length_cons]at this;omega
theorem sR {c:dL} (hc:iB c=true) (x:List UInt8):(fD c x).length<=x.length:=by
 have h1:(fD c x).flatten=x:=xp;have h2: ∀(l:List (List UInt8)),(∀y∈l,1<=y.length)->l.length<=l.flatten.length:=by
  intro l
  induction l with
  | nil=>simp
  | cons y l ih=>
   intro h;have:=ih (fun z hz=>h z (by simp[hz]));have:=h y (by simp);simp only[List.length_cons,List.flatten_cons,List.length_append];omega
 have h3:=h2 (fD c x) (fun y hy=>(sS hc x y hy).1)
 rwa [h1]at h3
section
variable {P : Program} {ops : Array Oper} {Q : Exit → Act → World → Prop} {S : World → Prop}
theorem BS {dst dst2:Option Tmp} {op op2:Op} {ty ty2:TypeId} {pos pos2:String} {aft aft2:Array Edge} {g g2:Option (Nat×Bool)} {fuel:Nat} {listed:Array Bool} {a:Act} {w:World} (i j:Nat) (hi:ops[i]? =some ⟨dst,op,ty,pos,aft,g⟩) (hj:ops[j]? =some ⟨dst2,op2,ty2,pos2,aft2,g2⟩) (hr:Region.ready .any ops listed=[i,j])
  (hw:Region.wanted ⟨dst,op,ty,pos,aft,g⟩ (yielded ops a.tmps)=true) (hw2:Region.wanted ⟨dst2,op2,ty2,pos2,aft2,g2⟩ (yielded ops a.tmps)=true)
  (h: ∀K:Act->World->Prop,(∀a w,S w/\lx P ops Q S fuel (listed.setIfInBounds i true) a w->K a w)->wpList P #[] (Exit.then K Q) [⟨dst,op,ty,pos, #[],none⟩] a w)
  (h2: ∀K:Act->World->Prop,(∀a w,S w/\lx P ops Q S fuel (listed.setIfInBounds j true) a w->K a w)->wpList P #[] (Exit.then K Q) [⟨dst2,op2,ty2,pos2, #[],none⟩] a w):lx P ops Q S (fuel+1) listed a w:=by
 refine lx.of (wpAnyH_all hr (by simp) fun m hm=> ?_);have hmm:m=i\/m=j:=by simpa using hm
 rcases hmm with rfl | rfl
 ·have hb:nN P ops (fun a' w'=>S w'/\wpAnyH P .any ops Q S fuel (listed.setIfInBounds m true) a' w') Q [⟨dst,op,ty,pos,aft,g⟩] a w:=
   bA hw (fun K hK=>h K (fun a w hh=>hK a w ⟨hh.1,hh.2.out⟩))
  unfold wpOp;simp only[hi];exact nN.out hb
 ·have hb:nN P ops (fun a' w'=>S w'/\wpAnyH P .any ops Q S fuel (listed.setIfInBounds m true) a' w') Q [⟨dst2,op2,ty2,pos2,aft2,g2⟩] a w:=
   bA hw2 (fun K hK=>h2 K (fun a w hh=>hK a w ⟨hh.1,hh.2.out⟩))
  unfold wpOp;simp only[hj];exact nN.out hb
end
structure wl (it : az) : Prop where
 nm:it.name.size<=512
 lk:it.link.size<=512
 ch:it.chunks.length<=1048576
 rs: ∀r∈it.chunks,r.name.size<=32
 nd:it.node.name.size<=32
 tm:it.time<9223372036854775808
theorem rk {r:aL} (h:r.name.size<=32):(cS r).length<=60:=by
 unfold cS;have h1:=cC r.gen.toNat
 have h2:=cC r.size.toNat
 rw[List.length_append,List.length_append,<-ay];omega
theorem wD {it:az} (h:wl it):(cn it).length<=70000000:=by
 have h1:=cC it.name.size;have h2:=cC it.kind.toNat
 have h3:=cC it.mode.toNat
 have h4:=cC it.time.toNat
 have h5:=cC it.chunks.length;have h6:=cC it.link.size;have h7:=fF cS 60 it.chunks (fun r hr=>rk (h.rs r hr));have h8:=rk h.nd;have hn:=h.nm;have hl:=h.lk;have hc:=h.ch;unfold cn gS;simp only[List.length_append,<-ay]
 split
 ·simp only[List.length_append];omega
 ·split
  ·omega
  ·simp only[List.length_append,<-ay];omega
theorem Cl {l:List az} (h: ∀it∈l,wl it) (hl:l.length<=4096):(cF l).length<1000000000000:=by
 have h1:=fF cn 70000000 l (fun it hit=>wD (h it hit));have h2:=cC l.length;unfold cF;rw[List.length_append];have h3:l.length*70000000<=4096*70000000:=Nat.mul_le_mul_right _ hl;omega
theorem Cc (d p:List UInt8):(ni d p).length<=p.length:=by
 unfold ni
 split
 ·rw[List.length_tail,List.length_drop]; omega
 ·rw[List.length_drop]; omega
theorem iM {e:bw} (h:iC e=true):e.path.size<=512/\e.link.size<=512/\e.data.length<=1048576:=by
 have h1:=gt (bL h);rw[<-ay]at h1;unfold iC kj at h;rw[Bool.and_eq_true]at h;refine⟨h1, ?_⟩;have h2:=h.2
 split at h2
 ·simp only[Bool.and_eq_true,decide_eq_true_eq]at h2;omega
 ·split at h2
  ·simp only[Bool.and_eq_true,decide_eq_true_eq]at h2;omega
  ·split at h2
   ·simp only[Bool.and_eq_true,decide_eq_true_eq,mF]at h2;have:=h2.2.1.2;rw[<-ay]at this;omega
   ·cases h2
theorem ka (k:bD) (gs:List (ByteArray×Int)) (x:List UInt8):(aY k gs x).name.size=32:=li _ _ _
theorem jk {k:bD} {gs:List (ByteArray×Int)} {c:dL} {dir:ByteArray} {e:bw} {nd:aL} (hc:iB c=true) (h:iC e=true) (hok:gO e) (hn:nd.name.size<=32):wl (du k gs c dir e nd):=by
 obtain⟨h1,h2,h3⟩:=iM h;have h4:=Cc (bl dir) (bl e.path);rw[<-ay e.path]at h4;refine⟨?_,h2, ?_, ?_, ?_, ?_⟩
 ·show ByteArray.size ⟨_⟩<=_
  simp only[ByteArray.size,List.size_toArray];omega
 ·show(if e.kind=1 then(fD c e.data).map (aY k gs)else []).length<=_
  split
  ·rw[List.length_map];have:=sR hc e.data;omega
  ·simp
 ·show ∀r∈(if e.kind=1 then(fD c e.data).map (aY k gs)else []),_
  intro r hr
  split at hr
  ·obtain⟨x,_,rfl⟩:=List.mem_map.1 hr;rw[ka]; omega
  ·simp at hr
 ·show(if e.kind=2 then nd else aZ).name.size<=32
  split
  ·exact hn
  ·decide
 ·have:=hok.tim;simp[Lit.wf,IntKind.min,IntKind.max,IntKind.signed,IntKind.bits]at this
  show e.time<_
  omega
theorem fJ {k:bD} {gs:List (ByteArray×Int)} (hgs: ∀p∈gs,0<=p.2/\p.2<=1099511627776) {x:List UInt8} (hx:x.length<=1048576):br (aY k gs x):=by
 have h1:=rQ gs hgs (lM k 0 x);refine⟨by rw[ka]; unfold maxLen; omega,WalkArith.wf_i64 ?_,WalkArith.wf_i64 ?_⟩
 ·show _<=jL gs _/\jL gs _<=_
  omega
 ·show -9223372036854775808<=(x.length:Int)/\(x.length:Int)<=_
  omega
theorem BG {k:bD} {gs:List (ByteArray×Int)} {c:dL} {tree:List bw} : ∀ {n:Nat} {d:ByteArray} {p:List UInt8×List (List UInt8)},cD k gs c tree n d= .ok p->p.1.length<=32768
 | 0,_,_,h=>by simp[cD]at h
 | n+1,d,p,h=>by
  rw[cD]at h
  split at h
  ·cases h
  ·split at h
   ·split at h
    ·simp only[Except.ok.injEq]at h;subst h
     assumption
    ·cases h
   ·cases h
theorem rG {k:bD} {gs:List (ByteArray×Int)} {c:dL} {rec:ByteArray->Except Int (List UInt8×List (List UInt8))} {dir:ByteArray} {e:bw} {r:List bw} {its:List az} {cs:List (List UInt8)} (h:e.kind=1):dm k gs c rec dir (e::r) its cs=dm k gs c rec dir r (its++[du k gs c dir e aZ]) (cs++fD c e.data):=by rw[dm,if_pos h]
theorem pq {k:bD} {gs:List (ByteArray×Int)} {c:dL} {rec:ByteArray->Except Int (List UInt8×List (List UInt8))} {dir:ByteArray} {e:bw} {r:List bw} {its:List az} {cs:List (List UInt8)} (h:e.kind=2):dm k gs c rec dir (e::r) its cs=match rec e.path with
  | .error x=> .error x
  | .ok p=>dm k gs c rec dir r (its++[du k gs c dir e (aY k gs p.1)]) (cs++p.2):=by
 rw[dm,if_neg (by omega),if_pos h]
 cases rec e.path<;> rfl
theorem zB {k:bD} {gs:List (ByteArray×Int)} {c:dL} {rec:ByteArray->Except Int (List UInt8×List (List UInt8))} {dir:ByteArray} {e:bw} {r:List bw} {its:List az} {cs:List (List UInt8)} (h1:e.kind≠1) (h:e.kind≠2):dm k gs c rec dir (e::r) its cs=dm k gs c rec dir r (its++[du k gs c dir e aZ]) cs:=by rw[dm,if_neg h1,if_neg h]
theorem BH {base bb kb im:Nat} {k:bD} {c:dL} {gs:List (ByteArray×Int)} {tree:List bw} {gv:Value} {UR:List aL} (n:Nat) (hX:Bb base bb kb im k c gs tree UR) (hn514:n+1<=514) (IH:DB base bb kb im k c gs tree gv UR n):DB base bb kb im k c gs tree gv UR (n+1):=by
 intro path v bs w hn hp h hg hgr hu hE hbz;have HX':=ab hX;have HIH:=ab IH;have HPA:=ab hp;have HH:=ab h;have HG:=ab hg;have HGR:=ab hgr;have HU:=ab hu;have HE:=ab hE;have hps:path.size<=512:=by
  rcases hp with h | ⟨e,he,rfl⟩
  ·omega
  ·have:=gt (bL (hX.val e he));rw[<-ay]at this;exact this
 obtain⟨W0,hW0⟩: ∃W0,W0=w.alloc (.cells #[.string ⟨#[]⟩, .int .i64 0, .int .i64 0] 26):=⟨_,rfl⟩;have hb0:Below w.heap.size w W0:=by rw[hW0]; exact(Below.refl _ _).alloc (Nat.le_refl _) _
 have hkp0:=cU.ofBelow (bb:=bb) (kb:=kb) (v:=v) hb0 hbz;obtain⟨ev,ys,hlk,hys,hrow,hdat⟩:=BQ (hgr.keep h hkp0 hX.ikb) (d:=path) (by unfold maxLen; omega);obtain⟨ea,ec,hev,hen,hem⟩:=aj hrow;subst hev;unfold maxLen at hem;obtain⟨m,hm⟩: ∃m,m=ys.length:=⟨_,rfl⟩;have HDR0:=ab (show wg w base bb im kb k c gv v (.slice ea m ec) ys W0 v (.slice none 0 0) bs []from⟨h.below hb0,hkp0,iZ.nil _ _,by rw[hm]; exact hrow,by rw[hW0]; exact bX w _⟩)
 rw[<-hm]at hlk hen;have HM:=ab hm;have HYS:=ab hys;have HDAT:=ab (show ∀y∈ys,bC (· <base) w y.1 y.2.data/\gO y.2 from fun y hy=>⟨aM.same (hdat y hy).1 (fun i hi=>(hb0.block i (Nat.lt_of_lt_of_le hi hbz)).symm),(hdat y hy).2⟩);have HBOX:=ab HDR0.out.bd.box;have hm4:m<=4096:=by
  rw[hm,<-List.length_map (f:=Prod.snd),hys];exact Nat.le_trans (List.length_filter_le _ _) hX.len
 have k0:=aa (k:=0) HBOX.out;have k1:=aa (k:=1) HBOX.out;have k2:=aa (k:=2) HBOX.out;have k3:=aa (k:=3) HBOX.out;have k4:=aa (k:=4) HBOX.out;have k10:=aa (k:=10) HBOX.out;have k11:=aa (k:=11) HBOX.out;have k12:=aa (k:=12) HBOX.out;have k13:=aa (k:=13) HBOX.out;simp only[fX,cY,dy,List.cons_append,List.nil_append,aN]at k0 k1 k2 k3 k4 k10 k11 k12 k13
 clear hX IH hp h hg hgr hu hE hrow hdat hys hm hb0 hkp0
 go_enter Tryz.func73,Tryz.ntmps73
 go_upto_region 2 with(fail)
 rw[<-hW0];clear hW0;go_wp2_with fail
 go_loopw [6,20] (fun iv i wr=> ∃(j:Nat) (v2:Value) (its:List az) (cs2:List (List UInt8)),j<=m/\i= .int .i64 (j:Int)/\its.length=j/\dm k gs c (cD k gs c tree n) path ((cg tree path).drop j) its cs2=dm k gs c (cD k gs c tree n) path (cg tree path) [] []/\xP UR (bE k gs cs2 bs)/\(∀it∈its,wl it)/\wg w base bb im kb k c gv v (.slice ea m ec) ys wr v2 iv (bE k gs cs2 bs) its) (fun _ i _=>m-(intOf i).toNat)
 case atStart=>exact⟨0,v,[],[],Nat.zero_le _,rfl,rfl,rfl,HU.out,by simp,HDR0.out⟩
 case round=>
  obtain⟨j,v2,its,cs2,hj,rfl,hlj,hkd,hiu,hsm,hin⟩:=hrel;have HLJ:=ab hlj;have HKD:=ab hkd;have HIU:=ab hiu;have HSM:=ab hsm;have HIN:=ab hin;obtain⟨zs,hzs,hzr,hzd⟩:=hin.its.row;obtain⟨ia,ic,hiv,-,-⟩:=aj hzr;subst hiv;have hzl:zs.length=j:=by rw[<-hlj,<-hzs,List.length_map]
  have HZS:=ab hzs;have HZR:=ab hzr;have HZD:=ab hzd;rw[hzl]at HIN HZR ⊢;have HZL:=ab hzl;clear hlj hkd hiu hsm hin hzs hzr hzd hzl HDR0 HBOX
  by_cases hlt:j<m
  ·obtain⟨⟨dv,e⟩,hy⟩: ∃y,ys[j]? =some y:=⟨ys[j]'(by rw[<-HM.out]; exact hlt),by simp⟩;have hdy:=HDAT.out (dv,e) (List.mem_of_getElem? hy);obtain⟨da,dc,hdv,hdn,hdm⟩:=bC.slice hdy.1;simp only at hdv;subst hdv;obtain⟨b,rfl,hbb,hbl,-,p0,p1,p2,p3,p4,p5⟩:=Et HIN.out.ents hy;simp only at p0 p1 p2 p3 p4 p5;have hKj:(cg tree path)[j]? =some e:=by rw[<-HYS.out,List.getElem?_map,hy]; rfl
   have hmem:=List.mem_filter.1 (List.mem_of_getElem? hKj);have het:e∈tree:=hmem.1;have hpar:aS (bl e.path)=bl path:=by have:=hmem.2; simpa using this
   have hval:=HX'.out.val e het;have hep:=bL hval;have hes:e.path.size<=512:=by have:=gt hep; rw[<-ay]at this; exact this
   have hpl:path.size<e.path.size:=by
    have h1:=ll (l:=bl e.path) (fun h=>by have:=ju hep; rw[h]at this; simp at this);rw[hpar,<-ay,<-ay]at h1;exact h1
   have HET:=ab het;have HEP:=ab hep;have HVE:=ab hval;have HDY:=ab hdy;have HKJ:=ab hKj;have HDP:=ab (ri hKj);have HBZ:=ab (Nat.le_trans hbz HIN.out.kp.below.size);clear hdy hy hKj hmem het hpar hval hep
   go_upto_region 5 with(fail)
   obtain⟨W1,hW1⟩: ∃W1:World,W1=(wr.alloc (.cells #[.string e.path, .int .i64 e.kind, .int .i64 e.mode, .int .i64 e.time, .slice da e.data.length dc, .string e.link] 79)).drew:=⟨_,rfl⟩;have hb1:Below wr.heap.size wr W1:=by rw[hW1]; exact((Below.refl _ _).alloc (Nat.le_refl _) _).drew
   have HB1:=ab hb1;have HX1:=ab (show W1.heap[wr.heap.size]? =some (.cells #[.string e.path, .int .i64 e.kind, .int .i64 e.mode, .int .i64 e.time, .slice da e.data.length dc, .string e.link] 79 (0,0)) by rw[hW1]; exact bX wr _);have hz1:W1.heap.size=wr.heap.size+1:=by rw[hW1]; simp[World.drew]
   have d0:=aa (k:=0) HX1.out;have d1:=aa (k:=1) HX1.out;have d2:=aa (k:=2) HX1.out;have d3:=aa (k:=3) HX1.out;have d5:=aa (k:=5) HX1.out;simp only[aN]at d0 d1 d2 d3 d5;clear p0 p1 p2 p3 p4 p5 hb1;refine bP (fun w'=>w'.cell? ⟨wr.heap.size,0,none⟩=some (.string e.path)/\w'.cell? ⟨wr.heap.size,1,none⟩=some (.int .i64 e.kind)/\w'.cell? ⟨wr.heap.size,2,none⟩=some (.int .i64 e.mode)/\w'.cell? ⟨wr.heap.size,3,none⟩=some (.int .i64 e.time)/\w'.cell? ⟨wr.heap.size,5,none⟩=some (.string e.link)) (by kernel_rfl) (by kernel_rfl) ?_
   simp only[List.dropLast_cons_cons,List.dropLast_singleton,List.length_cons,List.length_nil,Nat.reduceAdd,Nat.reduceSub];rw[<-hW1];clear hW1;refine af 0 rfl (by kernel_rfl) (by kernel_rfl) (by kernel_rfl) (fun _ _ _ h=>h) rfl ⟨d0,d1,d2,d3,d5⟩ (by rintro w' ⟨hw1,hw2,hw3,hw4,hw5⟩; go_simp; rfl) ?_;simp only[Act.put,aB,aC,aD];refine af 1 rfl (by kernel_rfl) (by kernel_rfl) (by kernel_rfl) (fun _ _ _ h=>h) rfl ⟨d0,d1,d2,d3,d5⟩ (by rintro w' ⟨hw1,hw2,hw3,hw4,hw5⟩; go_simp; rfl) ?_
   simp only[Act.put,aB,aC,aD];refine af 2 rfl (by kernel_rfl) (by kernel_rfl) (by kernel_rfl) (fun _ _ _ h=>h) rfl ⟨d0,d1,d2,d3,d5⟩ (by rintro w' ⟨hw1,hw2,hw3,hw4,hw5⟩; go_simp; rfl) ?_;simp only[Act.put,aB,aC,aD];refine af 4 rfl (by kernel_rfl) (by kernel_rfl) (by kernel_rfl) (fun _ _ _ h=>h) rfl ⟨d0,d1,d2,d3,d5⟩ (by rintro w' ⟨hw1,hw2,hw3,hw4,hw5⟩; go_simp; rfl) ?_
   simp only[Act.put,aB,aC,aD];refine af 5 rfl (by kernel_rfl) (by kernel_rfl) (by kernel_rfl) (fun _ _ _ h=>h) rfl ⟨d0,d1,d2,d3,d5⟩ (by rintro w' ⟨hw1,hw2,hw3,hw4,hw5⟩; go_simp; rfl) ?_;simp only[Act.put,aB,aC,aD];refine af 6 rfl (by kernel_rfl) (by kernel_rfl) (by kernel_rfl) (fun _ _ _ h=>h) rfl ⟨d0,d1,d2,d3,d5⟩ (by rintro w' ⟨hw1,hw2,hw3,hw4,hw5⟩; go_simp; rfl) ?_
   simp only[Act.put,aB,aC,aD];refine af 7 rfl (by kernel_rfl) (by kernel_rfl) (by kernel_rfl) (fun _ _ _ h=>h) rfl ⟨d0,d1,d2,d3,d5⟩ (by rintro w' ⟨hw1,hw2,hw3,hw4,hw5⟩; go_simp; rfl) ?_;simp only[Act.put,aB,aC,aD];refine af 8 rfl (by kernel_rfl) (by kernel_rfl) (by kernel_rfl) (fun _ _ _ h=>h) rfl ⟨d0,d1,d2,d3,d5⟩ (by rintro w' ⟨hw1,hw2,hw3,hw4,hw5⟩; go_simp; rfl) ?_
   simp only[Act.put,aB,aC,aD];refine af 9 rfl (by kernel_rfl) (by kernel_rfl) (by kernel_rfl) (fun _ _ _ h=>h) rfl ⟨d0,d1,d2,d3,d5⟩ (by rintro w' ⟨hw1,hw2,hw3,hw4,hw5⟩; go_simp; rfl) ?_;simp only[Act.put,aB,aC,aD];refine af 10 rfl (by kernel_rfl) (by kernel_rfl) (by kernel_rfl) (fun _ _ _ h=>h) rfl ⟨d0,d1,d2,d3,d5⟩ (by rintro w' ⟨hw1,hw2,hw3,hw4,hw5⟩; go_simp; rfl) ?_
   simp only[Act.put,aB,aC,aD];refine af 11 rfl (by kernel_rfl) (by kernel_rfl) (by kernel_rfl) (fun _ _ _ h=>h) rfl ⟨d0,d1,d2,d3,d5⟩ (by rintro w' ⟨hw1,hw2,hw3,hw4,hw5⟩; go_simp; rfl) ?_;simp only[Act.put,aB,aC,aD];obtain⟨W2,hW2⟩: ∃W2:World,W2=W1.alloc (.cells #[.string ⟨#[]⟩, .int .i64 0, .int .i64 0, .int .i64 0, .int .i64 0, .string ⟨#[]⟩, .slice none 0 0, .string ⟨#[]⟩, .int .i64 0, .int .i64 0] 28):=⟨_,rfl⟩
   have hb2:Below W1.heap.size W1 W2:=by rw[hW2]; exact(Below.refl _ _).alloc (Nat.le_refl _) _
   have hx2:=(hb2.block _ (lt_of_block HX1.out)).trans HX1.out;have hy2:W2.heap[wr.heap.size+1]? =some (.cells #[.string ⟨#[]⟩, .int .i64 0, .int .i64 0, .int .i64 0, .int .i64 0, .string ⟨#[]⟩, .slice none 0 0, .string ⟨#[]⟩, .int .i64 0, .int .i64 0] 28 (0,0)):=by rw[hW2,<-hz1]; exact bX W1 _
   have HX2:=ab hx2;have HY2:=ab hy2;have HB2:=ab (ah HB1.out hb2);have HW2:=ab hW2;obtain⟨nm,hnm⟩: ∃nm:ByteArray,nm=⟨(ni (bl path) (bl e.path)).toArray⟩:=⟨_,rfl⟩;have HNM:=ab hnm;have d0':=aa (k:=0) hx2;have d1':=aa (k:=1) hx2;have d2':=aa (k:=2) hx2;have d3':=aa (k:=3) hx2;have d5':=aa (k:=5) hx2;simp only[aN]at d0' d1' d2' d3' d5'
   clear hW2 hb2 hx2 hy2 hnm;refine BS 3 13 rfl rfl (by kernel_rfl) rfl rfl (fun K hK=> ?ca) (fun K hK=> ?al)
   case' ca=>
    go_wp2_with fail;refine(vh path e.path W1 (by omega)).mono ?_;rintro e' w' ⟨rfl,rfl⟩;rw[<-HNM.out];go_wp2_with fail;refine⟨⟨d0,d1,d2,d3,d5⟩, ?_⟩;refine af 12 rfl (by kernel_rfl) (by kernel_rfl) (by kernel_rfl) (fun _ _ _ h=>h) rfl ⟨d0,d1,d2,d3,d5⟩ (by rintro w' ⟨hw1,hw2,hw3,hw4,hw5⟩; go_simp; rfl) ?_;simp only[Act.put,aB,aC,aD];refine ar 13 rfl (by kernel_rfl) rfl (fun K hK=> ?_)
    go_wp2_with fail;rw[<-HW2.out]
    (first | (refine⟨⟨d0',d1',d2',d3',d5'⟩, ?_⟩) | skip)
   case' al=>
    go_wp2_with fail;rw[<-HW2.out]
    (first | (refine⟨⟨d0',d1',d2',d3',d5'⟩, ?_⟩) | skip)
    refine ar 3 rfl (by kernel_rfl) rfl (fun K hK=> ?_);go_wp2_with fail;refine(vh path e.path W2 (by omega)).mono ?_;rintro e' w' ⟨rfl,rfl⟩;rw[<-HNM.out];go_wp2_with fail;refine⟨⟨d0',d1',d2',d3',d5'⟩, ?_⟩;refine af 12 rfl (by kernel_rfl) (by kernel_rfl) (by kernel_rfl) (fun _ _ _ h=>h) rfl ⟨d0',d1',d2',d3',d5'⟩ (by rintro w' ⟨hw1,hw2,hw3,hw4,hw5⟩; go_simp; rfl) ?_
    simp only[Act.put,aB,aC,aD]
   all_goals
    refine aV (by kernel_rfl) ?_;clear d0 d1 d2 d3 d5 d0' d1' d2' d3' d5' HX1;refine cb rfl rfl (fun K hK=> ?_);have i0:=aa (k:=0) HY2.out;have i1:=aa (k:=1) HY2.out;have i2:=aa (k:=2) HY2.out;have i3:=aa (k:=3) HY2.out;have i4:=aa (k:=4) HY2.out;have i5:=aa (k:=5) HY2.out;have i6:=aa (k:=6) HY2.out;have i7:=aa (k:=7) HY2.out
    have i8:=aa (k:=8) HY2.out;have i9:=aa (k:=9) HY2.out;have g0:=ag (k:=0) HY2.out;have g1:=ag (k:=1) HY2.out;have g2:=ag (k:=2) HY2.out;have g3:=ag (k:=3) HY2.out;have g4:=ag (k:=4) HY2.out;have g5:=ag (k:=5) HY2.out;have g6:=ag (k:=6) HY2.out;have g7:=ag (k:=7) HY2.out;have g8:=ag (k:=8) HY2.out;have g9:=ag (k:=9) HY2.out
    simp only[aN]at i0 i1 i2 i3 i4 i5 i6 i7 i8 i9
    go_upto_region 6 with(fail)
    obtain⟨W3,hW3⟩: ∃W3:World,W3=((((((((((W2.setCell ⟨wr.heap.size+1,0,none⟩ (.string nm)).setCell ⟨wr.heap.size+1,1,none⟩ (.int .i64 e.kind)).setCell ⟨wr.heap.size+1,2,none⟩ (.int .i64 e.mode)).setCell ⟨wr.heap.size+1,3,none⟩ (.int .i64 e.time)).setCell ⟨wr.heap.size+1,4,none⟩ (.int .i64 0)).setCell ⟨wr.heap.size+1,5,none⟩ (.string e.link)).setCell ⟨wr.heap.size+1,6,none⟩ (.slice none 0 0)).setCell ⟨wr.heap.size+1,7,none⟩ (.string ⟨#[]⟩)).setCell ⟨wr.heap.size+1,8,none⟩ (.int .i64 0)).setCell ⟨wr.heap.size+1,9,none⟩ (.int .i64 0)):=⟨_,rfl⟩
    rw[<-hW3];have HB3:=ab (show Below wr.heap.size wr W3 by rw[hW3]; exact dC HB2.out (by show wr.heap.size<=wr.heap.size+1; omega));have HX:=ab (show W3.heap[wr.heap.size]? =some (.cells #[.string e.path, .int .i64 e.kind, .int .i64 e.mode, .int .i64 e.time, .slice da e.data.length dc, .string e.link] 79 (0,0)) by rw[hW3]; exact(lg (show wr.heap.size≠wr.heap.size+1 by omega)).trans HX2.out)
    have HY:=ab (show W3.heap[wr.heap.size+1]? =some (.cells #[.string nm, .int .i64 e.kind, .int .i64 e.mode, .int .i64 e.time, .int .i64 0, .string e.link, .slice none 0 0, .string ⟨#[]⟩, .int .i64 0, .int .i64 0] 28 (0,0)) by rw[hW3]; exact CQ HY2.out);have HIN3:=ab (HIN.out.below HB3.out HBZ.out);have hz3:wr.heap.size+1<W3.heap.size:=lt_of_block HY.out;clear hW3 i0 i1 i2 i3 i4 i5 i6 i7 i8 i9 g0 g1 g2 g3 g4 g5 g6 g7 g8 g9 hz1 HX2 HY2
    have d0:=aa (k:=0) HX.out;have d1:=aa (k:=1) HX.out;have d4:=aa (k:=4) HX.out;simp only[aN]at d0 d1 d4;have i0:=aa (k:=0) HY.out;have i1:=aa (k:=1) HY.out;have i2:=aa (k:=2) HY.out;have i3:=aa (k:=3) HY.out;have i4:=aa (k:=4) HY.out;have i5:=aa (k:=5) HY.out;have i6:=aa (k:=6) HY.out;have i7:=aa (k:=7) HY.out
    have i8:=aa (k:=8) HY.out;have i9:=aa (k:=9) HY.out;have g0:=ag (k:=0) HY.out;have g1:=ag (k:=1) HY.out;have g2:=ag (k:=2) HY.out;have g3:=ag (k:=3) HY.out;have g4:=ag (k:=4) HY.out;have g5:=ag (k:=5) HY.out;have g6:=ag (k:=6) HY.out;have g7:=ag (k:=7) HY.out;have g8:=ag (k:=8) HY.out;have g9:=ag (k:=9) HY.out
    simp only[aN]at i0 i1 i2 i3 i4 i5 i6 i7 i8 i9
    by_cases hk1:e.kind=1
    ·have e1:(e.kind == 1)=true:=by simp[hk1]
     have HK1:=ab hk1;clear hk1
     go_upto_region 10 with(fail)
     obtain⟨W4,hW4⟩: ∃W4:World,W4=W3.setCell ⟨wr.heap.size+1,4,none⟩ (.int .i64 (e.data.length:Int)):=⟨_,rfl⟩;rw[<-hW4];have hb4:Below wr.heap.size wr W4:=by rw[hW4]; exact Below.setCell HB3.out (by show wr.heap.size<=wr.heap.size+1; omega) _
     have HX4:=ab (show W4.heap[wr.heap.size]? =some (.cells #[.string e.path, .int .i64 e.kind, .int .i64 e.mode, .int .i64 e.time, .slice da e.data.length dc, .string e.link] 79 (0,0)) by rw[hW4]; exact(Below.heap_setCell _ _ _ _ (by show wr.heap.size≠wr.heap.size+1; omega)).trans HX.out);have hy4:=cJ (k:=4) HY.out (.int .i64 (e.data.length:Int));simp only[List.setIfInBounds_toArray,List.set_cons_succ,List.set_cons_zero]at hy4
     rw[<-hW4]at hy4;have HYA:=ab hy4;have HIN4:=ab (HIN.out.below hb4 HBZ.out);have hdl:=(iM HVE.out).2.2;have hul:=HIU.out.len HIN.out.bd;have hus:=HX'.out.usz;have hcl:=sR HX'.out.cut e.data;have hfl:=yV (· <base) base bb kb im k c gs gv v2 (.slice da e.data.length dc) (bE k gs cs2 bs) e.data W4 HIN4.out.bd HX'.out.keys HX'.out.cut HX'.out.seed (HG.out.keep (fun i h1 _=>HIN4.out.kp.below.block i h1)) HX'.out.gens
      (jh HDY.out.1 HIN4.out.kp.below) hdl (HE.out.keep HIN4.out.kp.below HX'.out.seven) HX'.out.bbb HX'.out.bkb (Nat.le_trans hbz HIN4.out.kp.below.size) HX'.out.seven (by omega)
     have HFL:=ab hfl;clear hW4 hb4 hy4 hdl hul hus hcl hfl d0 d1 d4 i0 i1 i2 i3 i4 i5 i6 i7 i8 i9 g0 g1 g2 g3 g4 g5 g6 g7 g8 g9;have d0:=aa (k:=0) HX4.out;have d1:=aa (k:=1) HX4.out;have d4:=aa (k:=4) HX4.out;simp only[aN]at d0 d1 d4;go_wp2_with fail;refine HFL.out.mono ?_;rintro e' w5 ⟨rv,v5,rfl,hrv5,hbd5,hkp5⟩;obtain⟨ra,rc,rfl,-,-⟩:=aj hrv5;have HIN5:=ab (HIN4.out.step hbd5 hkp5)
     have hy5:=hkp5.blk HIN4.out.bd HYA.out (by decide) (by decide);have hx5:=hkp5.blk HIN4.out.bd HX4.out (by decide) (by decide);obtain⟨rn,hrn⟩: ∃rn,rn=((fD c e.data).map (aY k gs)).length:=⟨_,rfl⟩;have HRN:=ab hrn;rw[<-hrn]at hrv5 ⊢;have i6:=aa (k:=6) hy5;have g6:=ag (k:=6) hy5;simp only[aN]at i6;have HRV5:=ab hrv5;have HY5:=ab hy5;clear hbd5 hkp5 hx5 hy5 hrn hrv5 d0 d1 d4
     go_upto_region 15 with(fail)
     obtain⟨W6,hW6⟩: ∃W6:World,W6=w5.setCell ⟨wr.heap.size+1,6,none⟩ (.slice ra rn rc):=⟨_,rfl⟩;rw[<-hW6];have hy6:=cJ (k:=6) HY5.out (.slice ra rn rc);simp only[List.setIfInBounds_toArray,List.set_cons_succ,List.set_cons_zero]at hy6;rw[<-hW6]at hy6;have HI4:=ab (show wg w base bb im kb k c gv v (.slice (some ⟨b,0,none⟩) m ec) ys W6 v5 (.slice ia j ic) (bE k gs (fD c e.data) (bE k gs cs2 bs)) its by
      rw[hW6];exact HIN5.out.otherSet HY5.out (by decide) (by decide) (by decide) (by decide) (by decide) (fun e'=>by have:=(HZR.out.lt _ e').2; omega) (by have:=HIN.out.kp.below.size; omega) hbz)
     have HRV5':=ab (show W6.ownsRow w.heap.size 26 3 (.slice ra rn rc) rn (((fD c e.data).map (aY k gs)).flatMap dp) by
      rw[hW6];have hlow:=HIN4.out.kp.below.size;refine(cI HRV5.out hlow).kept (aE _ _ _ _) (.inr (fun e'=> ?_));obtain⟨cs2',hc2'⟩:=aA HRV5.out e';exact absurd (aK HY5.out hc2') (by decide))
     clear i6 g6;obtain⟨it,hit⟩: ∃it,it=du k gs c path e aZ:=⟨_,rfl⟩;have hch:it.chunks=(fD c e.data).map (aY k gs):=by rw[hit]; unfold du; simp only[if_pos HK1.out]
     have HY4:=ab (show W6.heap[wr.heap.size+1]? =some (.cells #[.string it.name, .int .i64 it.kind, .int .i64 it.mode, .int .i64 it.time, .int .i64 it.size, .string it.link, .slice ra rn rc, .string it.node.name, .int .i64 it.node.gen, .int .i64 it.node.size] 28 (0,0)) by
      rw[hy6,HNM.out,hit];unfold du;simp only[if_pos HK1.out,if_neg (show ¬e.kind=2 by rw[HK1.out]; decide)]
      rfl)
     have HRV4:=ab (show W6.ownsRow w.heap.size 26 3 (.slice ra rn rc) it.chunks.length (it.chunks.flatMap dp) by rw[hch,<-HRN.out]; exact HRV5'.out);have HSI:=ab (show wl it by rw[hit]; exact jk HX'.out.cut HVE.out HDY.out.2 (by decide));have HOK4:=ab (show cA it from⟨by have:=HSI.out.nm; unfold maxLen; omega,by have:=HSI.out.lk; unfold maxLen; omega,by rw[hit]; unfold du; simp only[if_neg (show ¬e.kind=2 by rw[HK1.out]; decide)]; exact gD⟩)
     have HRS4:=ab (show ∀r∈it.chunks,br r by
      rw[hch];intro r hr;obtain⟨x,hx,rfl⟩:=List.mem_map.1 hr;have:=(sS HX'.out.cut e.data x hx).2;exact fJ HX'.out.gens (by omega))
     have HKE:=ab (show dm k gs c (cD k gs c tree n) path (e::(cg tree path).drop (j+1)) its cs2=dm k gs c (cD k gs c tree n) path ((cg tree path).drop (j+1)) (its++[it]) (cs2++fD c e.data) by rw[hit]; exact rG HK1.out);have HIU4:=ab (show xP UR (bE k gs (cs2++fD c e.data) bs) by rw[di]; exact HIU.out.puts (HX'.out.u1 e HET.out));rw[<-di]at HI4
     clear hit hch HY hW6 hy6;obtain⟨zs4,hzs4,hzr4,hzd4⟩:=HI4.out.its.row;have hzl4:zs4.length=j:=by rw[<-HLJ.out,<-hzs4,List.length_map]
     have HZS4:=ab hzs4;have HZR4:=ab hzr4;have HZD4:=ab hzd4;have HZL4:=ab hzl4;have hz4:w.heap.size<=(W6).heap.size:=HI4.out.kp.below.size;have hj4:j<1099511627775:=by omega
     rw[hzl4]at hzr4;have HZRJ:=ab hzr4;clear hzs4 hzr4 hzd4 hzl4;have i0:=aa (k:=0) HY4.out;have i1:=aa (k:=1) HY4.out;have i2:=aa (k:=2) HY4.out;have i3:=aa (k:=3) HY4.out;have i4:=aa (k:=4) HY4.out;have i5:=aa (k:=5) HY4.out;have i6:=aa (k:=6) HY4.out;have i7:=aa (k:=7) HY4.out;have i8:=aa (k:=8) HY4.out;have i9:=aa (k:=9) HY4.out
     have g0:=ag (k:=0) HY4.out;have g1:=ag (k:=1) HY4.out;have g2:=ag (k:=2) HY4.out;have g3:=ag (k:=3) HY4.out;have g4:=ag (k:=4) HY4.out;have g5:=ag (k:=5) HY4.out;have g6:=ag (k:=6) HY4.out;have g7:=ag (k:=7) HY4.out;have g8:=ag (k:=8) HY4.out;have g9:=ag (k:=9) HY4.out;simp only[aN]at i0 i1 i2 i3 i4 i5 i6 i7 i8 i9
     go_wp2_with (at_builtin; go_must (refine aG Tryz.appItems rfl _ _ rfl w.heap.size (.slice ia j ic) j (mr zs4) rfl (W6) [.string it.name, .int .i64 it.kind, .int .i64 it.mode, .int .i64 it.time, .int .i64 it.size, .string it.link, .slice ra rn rc, .string it.node.name, .int .i64 it.node.gen, .int .i64 it.node.size] _ rfl rfl (dT (it:=it)) HZRJ.out hj4 hz4 ?_); intro v' wc hown' hgrow' _ _; obtain⟨ae,ce,rfl,-,-⟩:=aj hown'; have HPU:=ab (HI4.out.push (it:=it) HZS4.out HZR4.out HZD4.out (by rw[HZL4.out]; exact hown') hgrow' HRV4.out HOK4.out HRS4.out hbz); clear hown' hgrow')
     clear i0 i1 i2 i3 i4 i5 i6 i7 i8 i9 g0 g1 g2 g3 g4 g5 g6 g7 g8 g9
     go_roundw
     case rel=>exact⟨j+1,_,its++[it],(cs2++fD c e.data),by omega,by go_num,by simp[HLJ.out],by rw[<-HKD.out,HDP.out,HKE.out],HIU4.out,fun y hy=>by
      rcases List.mem_append.1 hy with hy | hy
      ·exact HSM.out y hy
      ·rw[List.mem_singleton]at hy; subst hy; exact HSI.out,HPU.out⟩
     case measure=>simp[intOf]; omega
    ·have e1:(e.kind == 1)=false:=by simp[hk1]
     have HK1:=ab hk1;clear hk1
     by_cases hk2:e.kind=2
     ·have e2:(e.kind == 2)=true:=by simp[hk2]
      have HK2:=ab hk2;have hrc:=HIH.out e.path v2 (bE k gs cs2 bs) W3 (by omega) (.inr ⟨e,HET.out,rfl⟩) HIN3.out.bd (HG.out.keep (fun i h1 _=>HIN3.out.kp.below.block i h1)) (HGR.out.keep HH.out HIN3.out.kp HX'.out.ikb) HIU.out (HE.out.keep HIN3.out.kp.below HX'.out.seven) (Nat.le_trans hbz HIN3.out.kp.below.size);unfold sB at hrc;clear hk2
      cases hdp:cD k gs c tree n e.path with
      | error x=>
       rw[hdp]at hrc;have HRC:=ab hrc;have HRESX:=ab (show dm k gs c (cD k gs c tree n) path (cg tree path) [] []= .error x by rw[<-HKD.out,HDP.out,pq HK2.out,hdp]);clear hrc hdp;go_wp2_with fail;refine HRC.out.mono ?_;rintro e' w5 ⟨rfl,hx,v5,bs5,hbd5,hkp5⟩;have HIN5:=ab (HIN3.out.step hbd5 hkp5);have e4:(x != 0)=true:=by simp[hx]
       have HXN:=ab hx;clear hx d0 d1 d4 i0 i1 i2 i3 i4 i5 i6 i7 i8 i9 g0 g1 g2 g3 g4 g5 g6 g7 g8 g9;have hy5:=hkp5.blk HIN3.out.bd HY.out (by decide) (by decide);have hnb:(Value.slice ia j ic).ownBlock≠some (wr.heap.size+1):=fun e'=>by have:=(HZR.out.lt _ e').2; omega
       have hlo:w.heap.size<=wr.heap.size+1:=by have:=HIN.out.kp.below.size; omega
       have a1:=HIN5.out.otherSet (q:=7) (u:= .string ⟨#[]⟩) hy5 (by decide) (by decide) (by decide) (by decide) (by decide) hnb hlo hbz;have y1:=cJ (k:=7) hy5 (.string ⟨#[]⟩);have a2:=a1.otherSet (q:=8) (u:= .int .i64 0) y1 (by decide) (by decide) (by decide) (by decide) (by decide) hnb hlo hbz;have y2:=cJ (k:=8) y1 (.int .i64 0);have a3:=a2.otherSet (q:=9) (u:= .int .i64 0) y2 (by decide) (by decide) (by decide) (by decide) (by decide) hnb hlo hbz
       have y3:=cJ (k:=9) y2 (.int .i64 0);simp only[List.setIfInBounds_toArray,List.set_cons_succ,List.set_cons_zero]at y3;have i7:=aa (k:=7) hy5;have i8:=aa (k:=8) hy5;have i9:=aa (k:=9) hy5;have g7:=ag (k:=7) hy5;have g8:=ag (k:=8) hy5;have g9:=ag (k:=9) hy5;simp only[aN]at i7 i8 i9;obtain⟨W6,hW6⟩: ∃W6:World,W6=((w5.setCell ⟨wr.heap.size+1,7,none⟩ (.string ⟨#[]⟩)).setCell ⟨wr.heap.size+1,8,none⟩ (.int .i64 0)).setCell ⟨wr.heap.size+1,9,none⟩ (.int .i64 0):=⟨_,rfl⟩
       rw[<-hW6]at a3 y3;have HI4:=ab a3;have HY6:=ab y3;clear a1 y1 a2 y2 a3 y3 hy5 hnb hlo
       go_upto_region 13 with(fail)
       rw[<-hW6];clear hW6 i7 i8 i9 g7 g8 g9;have HRZ:=ab HI4.out.res;have z0:=aa (k:=0) HRZ.out;have z1:=aa (k:=1) HRZ.out;have z2:=aa (k:=2) HRZ.out;have y0:=ag (k:=0) HRZ.out;have y1:=ag (k:=1) HRZ.out;have y2:=ag (k:=2) HRZ.out;simp only[aN]at z0 z1 z2;go_wp2_with fail;refine nS HRZ.out rfl rfl rfl ?_;have HDE:=ab (show cD k gs c tree (n+1) path= .error x by rw[cD,HRESX.out])
       rw[HDE.out];exact⟨rfl,HXN.out,v5,bs5,HI4.out.bd.other HRZ.out (by decide) (by decide) (by decide) (fun i hi _=>bK hi),((HI4.out.kp.setNew (Nat.le_refl _) hbz).setNew (Nat.le_refl _) hbz).setNew (Nat.le_refl _) hbz⟩
      | ok p=>
       rw[hdp]at hrc
       dsimp only at hrc
       have HRC:=ab hrc;have HKE0:=ab (show dm k gs c (cD k gs c tree n) path (e::(cg tree path).drop (j+1)) its cs2=dm k gs c (cD k gs c tree n) path ((cg tree path).drop (j+1)) (its++[du k gs c path e (aY k gs p.1)]) (cs2++p.2) by rw[pq HK2.out,hdp]);have HDPL:=ab (BG hdp);have HDU:=ab (HX'.out.u2 n e.path p (by omega) (.inr ⟨e,HET.out,rfl⟩) hdp)
       obtain⟨r,hr⟩: ∃r,r=aY k gs p.1:=⟨_,rfl⟩;have HRE:=ab hr;have HRO:=ab (show br r by rw[hr]; exact fJ HX'.out.gens (by have:=HDPL.out; omega));have HRZN:=ab (show r.name.size=32 by rw[hr]; exact ka _ _ _);rw[<-hr]at HRC HKE0;unfold bF at HRC;clear hrc hdp hr;go_wp2_with fail;refine HRC.out.mono ?_;rintro e' w5 ⟨rfl,hiu5,v5,hbd5,hkp5⟩;have HIU5:=ab hiu5
       have HIN5:=ab (HIN3.out.step hbd5 hkp5);clear hiu5 d0 d1 d4 i0 i1 i2 i3 i4 i5 i6 i7 i8 i9 g0 g1 g2 g3 g4 g5 g6 g7 g8 g9;have hy5:=hkp5.blk HIN3.out.bd HY.out (by decide) (by decide);have hnb:(Value.slice ia j ic).ownBlock≠some (wr.heap.size+1):=fun e'=>by have:=(HZR.out.lt _ e').2; omega
       have hlo:w.heap.size<=wr.heap.size+1:=by have:=HIN.out.kp.below.size; omega
       have a1:=HIN5.out.otherSet (q:=7) (u:= .string r.name) hy5 (by decide) (by decide) (by decide) (by decide) (by decide) hnb hlo hbz;have y1:=cJ (k:=7) hy5 (.string r.name);have a2:=a1.otherSet (q:=8) (u:= .int .i64 r.gen) y1 (by decide) (by decide) (by decide) (by decide) (by decide) hnb hlo hbz;have y2:=cJ (k:=8) y1 (.int .i64 r.gen);have a3:=a2.otherSet (q:=9) (u:= .int .i64 r.size) y2 (by decide) (by decide) (by decide) (by decide) (by decide) hnb hlo hbz
       have y3:=cJ (k:=9) y2 (.int .i64 r.size);simp only[List.setIfInBounds_toArray,List.set_cons_succ,List.set_cons_zero]at y3;have i7:=aa (k:=7) hy5;have i8:=aa (k:=8) hy5;have i9:=aa (k:=9) hy5;have g7:=ag (k:=7) hy5;have g8:=ag (k:=8) hy5;have g9:=ag (k:=9) hy5;simp only[aN]at i7 i8 i9;obtain⟨W6,hW6⟩: ∃W6:World,W6=((w5.setCell ⟨wr.heap.size+1,7,none⟩ (.string r.name)).setCell ⟨wr.heap.size+1,8,none⟩ (.int .i64 r.gen)).setCell ⟨wr.heap.size+1,9,none⟩ (.int .i64 r.size):=⟨_,rfl⟩
       rw[<-hW6]at a3 y3;have HI4:=ab a3;have HY6:=ab y3;clear a1 y1 a2 y2 a3 y3 hy5 hnb hlo
       go_upto_region 13 with(fail)
       rw[<-hW6];clear hW6 i7 i8 i9 g7 g8 g9
       go_upto_region 15 with(fail)
       obtain⟨it,hit⟩: ∃it,it=du k gs c path e r:=⟨_,rfl⟩;have hch:it.chunks=[]:=by rw[hit]; unfold du; simp only[if_neg HK1.out]
       have HY4:=ab (show W6.heap[wr.heap.size+1]? =some (.cells #[.string it.name, .int .i64 it.kind, .int .i64 it.mode, .int .i64 it.time, .int .i64 it.size, .string it.link, .slice none 0 0, .string it.node.name, .int .i64 it.node.gen, .int .i64 it.node.size] 28 (0,0)) by
        rw[HY6.out,HNM.out,hit];unfold du;simp only[if_neg HK1.out,if_pos HK2.out])
       have HRV4:=ab (show W6.ownsRow w.heap.size 26 3 (.slice none 0 0) it.chunks.length (it.chunks.flatMap dp) by rw[hch]; exact World.ownsRow_nil _ _ _ _);have HSI:=ab (show wl it by rw[hit]; exact jk HX'.out.cut HVE.out HDY.out.2 (by rw[HRZN.out]; decide));have HOK4:=ab (show cA it from⟨by have:=HSI.out.nm; unfold maxLen; omega,by have:=HSI.out.lk; unfold maxLen; omega,by rw[hit]; unfold du; simp only[if_pos HK2.out]; exact HRO.out⟩)
       have HRS4:=ab (show ∀r∈it.chunks,br r by rw[hch]; simp);have HKE:=ab (show dm k gs c (cD k gs c tree n) path (e::(cg tree path).drop (j+1)) its cs2=dm k gs c (cD k gs c tree n) path ((cg tree path).drop (j+1)) (its++[it]) (cs2++p.2) by rw[hit]; exact HKE0.out);have HIU4:=ab (show xP UR (bE k gs (cs2++p.2) bs) by rw[di]; exact HIU5.out)
       rw[<-di]at HI4;clear hit hch;obtain⟨zs4,hzs4,hzr4,hzd4⟩:=HI4.out.its.row;have hzl4:zs4.length=j:=by rw[<-HLJ.out,<-hzs4,List.length_map]
       have HZS4:=ab hzs4;have HZR4:=ab hzr4;have HZD4:=ab hzd4;have HZL4:=ab hzl4;have hz4:w.heap.size<=(W6).heap.size:=HI4.out.kp.below.size;have hj4:j<1099511627775:=by omega
       rw[hzl4]at hzr4;have HZRJ:=ab hzr4;clear hzs4 hzr4 hzd4 hzl4;have i0:=aa (k:=0) HY4.out;have i1:=aa (k:=1) HY4.out;have i2:=aa (k:=2) HY4.out;have i3:=aa (k:=3) HY4.out;have i4:=aa (k:=4) HY4.out;have i5:=aa (k:=5) HY4.out;have i6:=aa (k:=6) HY4.out;have i7:=aa (k:=7) HY4.out;have i8:=aa (k:=8) HY4.out;have i9:=aa (k:=9) HY4.out
       have g0:=ag (k:=0) HY4.out;have g1:=ag (k:=1) HY4.out;have g2:=ag (k:=2) HY4.out;have g3:=ag (k:=3) HY4.out;have g4:=ag (k:=4) HY4.out;have g5:=ag (k:=5) HY4.out;have g6:=ag (k:=6) HY4.out;have g7:=ag (k:=7) HY4.out;have g8:=ag (k:=8) HY4.out;have g9:=ag (k:=9) HY4.out;simp only[aN]at i0 i1 i2 i3 i4 i5 i6 i7 i8 i9
       go_wp2_with (at_builtin; go_must (refine aG Tryz.appItems rfl _ _ rfl w.heap.size (.slice ia j ic) j (mr zs4) rfl (W6) [.string it.name, .int .i64 it.kind, .int .i64 it.mode, .int .i64 it.time, .int .i64 it.size, .string it.link, .slice none 0 0, .string it.node.name, .int .i64 it.node.gen, .int .i64 it.node.size] _ rfl rfl (dT (it:=it)) HZRJ.out hj4 hz4 ?_); intro v' wc hown' hgrow' _ _; obtain⟨ae,ce,rfl,-,-⟩:=aj hown'; have HPU:=ab (HI4.out.push (it:=it) HZS4.out HZR4.out HZD4.out (by rw[HZL4.out]; exact hown') hgrow' HRV4.out HOK4.out HRS4.out hbz); clear hown' hgrow')
       clear i0 i1 i2 i3 i4 i5 i6 i7 i8 i9 g0 g1 g2 g3 g4 g5 g6 g7 g8 g9
       go_roundw
       case rel=>exact⟨j+1,_,its++[it],(cs2++p.2),by omega,by go_num,by simp[HLJ.out],by rw[<-HKD.out,HDP.out,HKE.out],HIU4.out,fun y hy=>by
        rcases List.mem_append.1 hy with hy | hy
        ·exact HSM.out y hy
        ·rw[List.mem_singleton]at hy; subst hy; exact HSI.out,HPU.out⟩
       case measure=>simp[intOf]; omega
     ·have e2:(e.kind == 2)=false:=by simp[hk2]
      have HK2:=ab hk2;clear hk2
      go_upto_region 15 with(fail)
      clear i0 i1 i2 i3 i4 i5 i6 i7 i8 i9 g0 g1 g2 g3 g4 g5 g6 g7 g8 g9 d0 d1 d4;obtain⟨it,hit⟩: ∃it,it=du k gs c path e aZ:=⟨_,rfl⟩;have HI4:=HIN3;have HY4:=ab (show W3.heap[wr.heap.size+1]? =some (.cells #[.string it.name, .int .i64 it.kind, .int .i64 it.mode, .int .i64 it.time, .int .i64 it.size, .string it.link, .slice none 0 0, .string it.node.name, .int .i64 it.node.gen, .int .i64 it.node.size] 28 (0,0)) by
       rw[HY.out,HNM.out,hit];unfold du;simp only[if_neg HK1.out,if_neg HK2.out]
       rfl)
      have hch:it.chunks=[]:=by rw[hit]; unfold du; simp only[if_neg HK1.out]
      have HRV4:=ab (show W3.ownsRow w.heap.size 26 3 (.slice none 0 0) it.chunks.length (it.chunks.flatMap dp) by rw[hch]; exact World.ownsRow_nil _ _ _ _);have HSI:=ab (show wl it by rw[hit]; exact jk HX'.out.cut HVE.out HDY.out.2 (by decide));have HOK4:=ab (show cA it from⟨by have:=HSI.out.nm; unfold maxLen; omega,by have:=HSI.out.lk; unfold maxLen; omega,by rw[hit]; unfold du; simp only[if_neg HK2.out]; exact gD⟩)
      have HRS4:=ab (show ∀r∈it.chunks,br r by rw[hch]; simp);have HKE:=ab (show dm k gs c (cD k gs c tree n) path (e::(cg tree path).drop (j+1)) its cs2=dm k gs c (cD k gs c tree n) path ((cg tree path).drop (j+1)) (its++[it]) cs2 by rw[hit]; exact zB HK1.out HK2.out);have HIU4:=HIU;clear hit hch HY;obtain⟨zs4,hzs4,hzr4,hzd4⟩:=HI4.out.its.row
      have hzl4:zs4.length=j:=by rw[<-HLJ.out,<-hzs4,List.length_map]
      have HZS4:=ab hzs4;have HZR4:=ab hzr4;have HZD4:=ab hzd4;have HZL4:=ab hzl4;have hz4:w.heap.size<=(W3).heap.size:=HI4.out.kp.below.size;have hj4:j<1099511627775:=by omega
      rw[hzl4]at hzr4;have HZRJ:=ab hzr4;clear hzs4 hzr4 hzd4 hzl4;have i0:=aa (k:=0) HY4.out;have i1:=aa (k:=1) HY4.out;have i2:=aa (k:=2) HY4.out;have i3:=aa (k:=3) HY4.out;have i4:=aa (k:=4) HY4.out;have i5:=aa (k:=5) HY4.out;have i6:=aa (k:=6) HY4.out;have i7:=aa (k:=7) HY4.out;have i8:=aa (k:=8) HY4.out;have i9:=aa (k:=9) HY4.out
      have g0:=ag (k:=0) HY4.out;have g1:=ag (k:=1) HY4.out;have g2:=ag (k:=2) HY4.out;have g3:=ag (k:=3) HY4.out;have g4:=ag (k:=4) HY4.out;have g5:=ag (k:=5) HY4.out;have g6:=ag (k:=6) HY4.out;have g7:=ag (k:=7) HY4.out;have g8:=ag (k:=8) HY4.out;have g9:=ag (k:=9) HY4.out;simp only[aN]at i0 i1 i2 i3 i4 i5 i6 i7 i8 i9
      go_wp2_with (at_builtin; go_must (refine aG Tryz.appItems rfl _ _ rfl w.heap.size (.slice ia j ic) j (mr zs4) rfl (W3) [.string it.name, .int .i64 it.kind, .int .i64 it.mode, .int .i64 it.time, .int .i64 it.size, .string it.link, .slice none 0 0, .string it.node.name, .int .i64 it.node.gen, .int .i64 it.node.size] _ rfl rfl (dT (it:=it)) HZRJ.out hj4 hz4 ?_); intro v' wc hown' hgrow' _ _; obtain⟨ae,ce,rfl,-,-⟩:=aj hown'; have HPU:=ab (HI4.out.push (it:=it) HZS4.out HZR4.out HZD4.out (by rw[HZL4.out]; exact hown') hgrow' HRV4.out HOK4.out HRS4.out hbz); clear hown' hgrow')
      clear i0 i1 i2 i3 i4 i5 i6 i7 i8 i9 g0 g1 g2 g3 g4 g5 g6 g7 g8 g9
      go_roundw
      case rel=>exact⟨j+1,_,its++[it],cs2,by omega,by go_num,by simp[HLJ.out],by rw[<-HKD.out,HDP.out,HKE.out],HIU4.out,fun y hy=>by
       rcases List.mem_append.1 hy with hy | hy
       ·exact HSM.out y hy
       ·rw[List.mem_singleton]at hy; subst hy; exact HSI.out,HPU.out⟩
      case measure=>simp[intOf]; omega
  ·have hk2:j=m:=by omega
   have HKF:=ab (show dm k gs c (cD k gs c tree n) path (cg tree path) [] []= .ok (its,cs2) by
    rw[<-HKD.out,List.drop_of_length_le (by rw[<-HYS.out,List.length_map,<-HM.out]; omega)]; rfl)
   have hnd:=no (fun _=>True) its (.slice ia j ic) wr HIN.out.its.at (HE.out.keep HIN.out.kp.below HX'.out.seven).env (Cl HSM.out (by rw[HLJ.out]; omega)) (fun it hit=>(HSM.out it hit).tm);unfold ob at hnd
   by_cases hv:bV its=true
   ·simp only[if_pos hv]at hnd
    by_cases hl:(cF its).length<=32768
    ·simp only[if_pos hl]at hnd;have HDE:=ab (show cD k gs c tree (n+1) path= .ok (cF its,cs2++[cF its]) by rw[cD,HKF.out]; simp only[if_pos hv,if_pos hl]);have HND:=ab hnd;have HUN:=ab (HX'.out.u2 (n+1) path _ hn514 HPA.out HDE.out);have HLN:=ab hl;clear hnd hv hl hk2;go_wp2_with fail;refine HND.out.mono ?_;rintro e' w5 ⟨hb5,cv,rfl,hcv⟩;obtain⟨ca,cc,rfl,-,-⟩:=aj hcv
     have HIN5:=ab (HIN.out.below hb5 (Nat.le_trans hbz HIN.out.kp.below.size));have hul:=HIU.out.len HIN.out.bd;have hus:=HX'.out.usz;have had:=xU (fun _=>True) base bb kb im k c gs gv v2 _ (bE k gs cs2 bs) (cF its) w5 HIN5.out.bd HX'.out.keys (HG.out.keep (fun i h1 _=>HIN5.out.kp.below.block i h1)) HX'.out.gens
      (aM.weak (bh hcv) (fun _ _=>trivial)) HLN.out (HE.out.keep HIN5.out.kp.below HX'.out.seven) HX'.out.bbb HX'.out.bkb (Nat.le_trans hbz HIN5.out.kp.below.size) HX'.out.seven (by omega)
     unfold vZ bF at had;obtain⟨r,hr⟩: ∃r,r=aY k gs (cF its):=⟨_,rfl⟩;rw[<-hr]at had;have HRE:=ab hr;have HAD:=ab had;obtain⟨nl,hnl⟩: ∃nl,nl=(cF its).length:=⟨_,rfl⟩;rw[<-hnl]at HAD ⊢;clear hb5 hcv hul hus had hr hnl;go_wp2_with fail;refine HAD.out.mono ?_;rintro e' w6 ⟨rfl,v6,hbd6,hkp6⟩;have HIN6:=ab (HIN5.out.step hbd6 hkp6);have HRZ:=ab HIN6.out.res
     clear hbd6 hkp6;have z0:=aa (k:=0) HRZ.out;have z1:=aa (k:=1) HRZ.out;have z2:=aa (k:=2) HRZ.out;have y0:=ag (k:=0) HRZ.out;have y1:=ag (k:=1) HRZ.out;have y2:=ag (k:=2) HRZ.out;simp only[aN]at z0 z1 z2;go_wp2_with fail;refine nS HRZ.out rfl rfl rfl ?_;rw[HDE.out];refine⟨by rw[<-HRE.out]; rfl, ?_,v6, ?_, ?_⟩
     ·rw[di];exact HIU.out.put HUN.out
     ·rw[di];exact HIN6.out.bd.other HRZ.out (by decide) (by decide) (by decide) (fun i hi _=>bK hi)
     ·exact((HIN6.out.kp.setNew (Nat.le_refl _) hbz).setNew (Nat.le_refl _) hbz).setNew (Nat.le_refl _) hbz
    ·simp only[if_neg hl]at hnd;have HDE:=ab (show cD k gs c tree (n+1) path= .error 2 by rw[cD,HKF.out]; simp only[if_pos hv,if_neg hl]);have HND:=ab hnd;clear hnd hv hl hk2;go_wp2_with fail;refine HND.out.mono ?_;rintro e' w5 ⟨hb5,rfl⟩;have HIN5:=ab (HIN.out.below hb5 (Nat.le_trans hbz HIN.out.kp.below.size));have HRZ:=ab HIN5.out.res;clear hb5;have z0:=aa (k:=0) HRZ.out
     have z1:=aa (k:=1) HRZ.out;have z2:=aa (k:=2) HRZ.out;have y0:=ag (k:=0) HRZ.out;have y1:=ag (k:=1) HRZ.out;have y2:=ag (k:=2) HRZ.out;simp only[aN]at z0 z1 z2;go_wp2_with fail;refine nS HRZ.out rfl rfl rfl ?_;rw[HDE.out];exact⟨rfl,by decide,v2,_,HIN5.out.bd.other HRZ.out (by decide) (by decide) (by decide) (fun i hi _=>bK hi),((HIN5.out.kp.setNew (Nat.le_refl _) hbz).setNew (Nat.le_refl _) hbz).setNew (Nat.le_refl _) hbz⟩
   ·simp only[if_neg hv]at hnd;have HDE:=ab (show cD k gs c tree (n+1) path= .error 1 by rw[cD,HKF.out]; simp only[if_neg hv]);have hl:=hv;have HND:=ab hnd;clear hnd hv hl hk2;go_wp2_with fail;refine HND.out.mono ?_;rintro e' w5 ⟨hb5,rfl⟩;have HIN5:=ab (HIN.out.below hb5 (Nat.le_trans hbz HIN.out.kp.below.size));have HRZ:=ab HIN5.out.res;clear hb5;have z0:=aa (k:=0) HRZ.out
    have z1:=aa (k:=1) HRZ.out;have z2:=aa (k:=2) HRZ.out;have y0:=ag (k:=0) HRZ.out;have y1:=ag (k:=1) HRZ.out;have y2:=ag (k:=2) HRZ.out;simp only[aN]at z0 z1 z2;go_wp2_with fail;refine nS HRZ.out rfl rfl rfl ?_;rw[HDE.out];exact⟨rfl,by decide,v2,_,HIN5.out.bd.other HRZ.out (by decide) (by decide) (by decide) (fun i hi _=>bK hi),((HIN5.out.kp.setNew (Nat.le_refl _) hbz).setNew (Nat.le_refl _) hbz).setNew (Nat.le_refl _) hbz⟩
theorem sU {base bb kb im:Nat} {k:bD} {c:dL} {gs:List (ByteArray×Int)} {tree:List bw} {gv:Value} {UR:List aL} (hX:Bb base bb kb im k c gs tree UR): ∀n,n<=514->DB base bb kb im k c gs tree gv UR n
 | 0,_=>BI hX
 | n+1,h=>BH n hX h (sU hX n (by omega))
end Go.Proofs.YtpffpjbkbaleiaaGreatDoor
namespace Go.Proofs.YtpffpjbkbaleiaaGreatDoor
open Go Go.RowKit Go.Maps
theorem bR.hitM {S:Nat->Prop} {w:World} {cv:Value} {cs:List (ByteArray×List UInt8)} (h:bR S w cv cs) {n:ByteArray} {bs:List UInt8} (hn:n.size<=maxLen) (hf:dt cs n=some bs):
  ∃v,(Instr.lookup 55 cv (.string n) true).run Tryz.prog w= .ok (.tuple #[v, .bool true]) w/\aw S w v bs:=by
 rcases h with⟨_,rfl⟩ | ⟨b,m,rfl,_,h2,h3⟩
 ·simp[dt]at hf
 ·obtain⟨v,hv,hb⟩:=h3.hit hf;exact⟨v,h2.hit mu (t:=55) (e:=29) (by kernel_rfl) (ms hn) hv true,hb⟩
theorem bR.missM {S:Nat->Prop} {w:World} {cv:Value} {cs:List (ByteArray×List UInt8)} (h:bR S w cv cs) {n:ByteArray} (hn:n.size<=maxLen) (hf:dt cs n=none):
  (Instr.lookup 55 cv (.string n) true).run Tryz.prog w= .ok (.tuple #[.slice none 0 0, .bool false]) w:=by
 obtain⟨l,hl⟩:=ms hn
 rcases h with⟨rfl,_⟩ | ⟨b,m,rfl,_,h2,h3⟩
 ·exact Maps.look_nil true mu (t:=55) (e:=29) (by kernel_rfl) (by kernel_rfl) hl
 ·exact h2.miss mu (t:=55) (e:=29) (by kernel_rfl) (by kernel_rfl) (ms hn) (h3.miss hf) true
theorem rP (r:aL) (w:World) (hr:br r):Calls Tryz.prog 79 #[bF r] w fun e w'=>e= .returned (.bool (dK r))/\Below w.heap.size w w':=by
 obtain⟨n,g,s⟩:=r;obtain⟨h1,h2,h3⟩:=hr;unfold maxLen at h1;simp only[bF,dK]at *
 go_enter Tryz.func79,Tryz.ntmps79
 go_wp2_with fail
 all_goals (go_ret; refine⟨am ?_,(Below.refl _ _).alloc (Nat.le_refl _) _⟩; rw[Bool.eq_iff_iff]; simp; omega)
theorem pP (r:aL) (b:Bool) (w:World) (hr:br r) (h:dK r=b):Calls Tryz.prog 79 #[bF r] w fun e w'=>e= .returned (.bool b)/\Below w.heap.size w w':=by rw[<-h]; exact rP r w hr
end Go.Proofs.YtpffpjbkbaleiaaGreatDoor
namespace Go.Proofs.YtpffpjbkbaleiaaGreatDoor
open Go Go.RowKit Go.Maps
def eW (cs:List (ByteArray×List UInt8)) (r:aL):Except Int (List az):=match dO cs r with
 | .error x=>if x=10 then .ok []else .error x
 | .ok l=> .ok l
def DL (cs:List (ByteArray×List UInt8)) (r:aL) (w:World) (e:Ending) (w':World):Prop:=Below w.heap.size w w'/\match eW cs r with
 | .error x=>e= .returned (.tuple #[.slice none 0 0, .int .i64 x])/\x≠0
 | .ok l=> ∃v,e= .returned (.tuple #[v, .int .i64 0])/\aU (w.heap.size<= ·) w' v l
theorem vq (S:Nat->Prop) (cv:Value) (cs:List (ByteArray×List UInt8)) (r:aL) (w:World) (hc:bR S w cv cs) (hr:br r) (henv:gm w):Calls Tryz.prog 95 #[cv,bF r] w (DL cs r w):=by
 have HB:=ab ((Below.refl w.heap.size w).alloc (Nat.le_refl _) (.cells #[.string r.name, .int .i64 r.gen, .int .i64 r.size] 26));have HC:=ab (hc.below HB.out);have HR:=ab hr;have HE:=ab (henv.below HB.out);unfold bF;clear hc hr henv
 go_enter Tryz.func95,Tryz.ntmps95
 go_wp2_with fail;refine(lO S cv cs r _ HC.out HR.out HE.out).mono ?_;rintro e w1 ⟨hb1,hres⟩;have HB1:=ab (ah HB.out hb1);have hz:=hb1.size;simp at hz;clear hb1
 cases hnd:dO cs r with
 | error x=>
  rw[hnd]at hres;obtain⟨rfl,hx⟩:=hres
  by_cases h10:x=10
  ·subst h10;have HN:=ab (show eW cs r= .ok [] by unfold eW; rw[hnd]; rfl);clear hnd hx;go_wp2_with fail
   go_ret2
   exact⟨HB1.out,by rw[HN.out]; exact⟨_,rfl,aP.nil⟩⟩
  ·have HN:=ab (show eW cs r= .error x by unfold eW; rw[hnd]; simp only[if_neg h10]);have e1:(x == 10)=false:=by simp[h10]
   have HX:=ab hx;clear hnd hx h10;go_wp2_with fail
   go_ret2
   exact⟨HB1.out,by rw[HN.out]; exact⟨rfl,HX.out⟩⟩
 | ok l=>
  rw[hnd]at hres;obtain⟨v,rfl,hv⟩:=hres;have HN:=ab (show eW cs r= .ok l by unfold eW; rw[hnd]);have HV:=ab hv;have HV2:=ab (show aU (w.heap.size<= ·) w1 v l from by
   obtain⟨cells,h1,h2⟩:=hv;have hwz:w.heap.size<=(w.alloc (.cells #[.string r.name, .int .i64 r.gen, .int .i64 r.size] 26)).heap.size:=by simp
   exact⟨cells,h1.weak (fun k hk=>Nat.le_trans hwz hk),h2.mono (fun c x _ hx=>hx.same (fun k _ hS=>⟨Nat.le_trans hwz hS,rfl⟩))⟩)
  obtain⟨a,cap,rfl,-,-,-⟩:=aP.shape hv dz.len;clear hnd hv;go_wp2_with fail
  go_ret2
  exact⟨HB1.out,by rw[HN.out]; exact⟨_,rfl,HV2.out⟩⟩
end Go.Proofs.YtpffpjbkbaleiaaGreatDoor
namespace Go.Proofs.YtpffpjbkbaleiaaGreatDoor
open Go.RowKit
def sE :Prop:= ∀(S:Nat->Prop) (it:az) (cv:Value) (w:World),aQ S w cv it.chunks->cA it->Calls Tryz.prog 54 #[fm cv it] w fun e w'=>e= .returned (.bool (bU it))/\Below w.heap.size w w'
theorem oZ (HI:sE) (S:Nat->Prop) (it:az) (cv:Value) (b:Bool) (w:World) (hcv:aQ S w cv it.chunks) (hok:cA it) (h:bU it=b):Calls Tryz.prog 54 #[fm cv it] w fun e w'=>e= .returned (.bool b)/\Below w.heap.size w w':=by
 rw[<-h]; exact HI S it cv w hcv hok
theorem BP (HI:sE) (S:Nat->Prop) (l:List az) (v:Value) (w:World) (hv:aU S w v l):Calls Tryz.prog 16 #[v] w fun e w'=>e= .returned (.bool (bV l))/\Below w.heap.size w w':=by
 obtain⟨a,cap,rfl,hc,hm,-⟩:=aP.shape hv dz.len;unfold maxLen at hm;have HV:=ab hv;have HII:=ab HI;clear hv HI
 go_enter Tryz.func16,Tryz.ntmps16
 go_wp2_with fail
 go_loopw [3] (fun i wr=> ∃k:Nat,k<=l.length/\i= .int .i64 k/\cz none l=cz (fI l k) (l.drop k)/\Below w.heap.size w wr) (fun i _=>l.length-(intOf i).toNat)
 case atStart=>exact⟨0,Nat.zero_le _,rfl,rfl,Below.refl _ _⟩
 case round=>
  obtain⟨k,hk,rfl,hal,hb⟩:=hrel;have HB:=ab hb;have HA:=ab hal;clear hb hal
  by_cases hlt:k<l.length
  ·obtain⟨it,hr⟩: ∃it,l[k]? =some it:=⟨l[k],by simp[hlt]⟩;obtain⟨W,hW⟩: ∃W:World,W=wr.drew:=⟨_,rfl⟩;have HBW:=ab (show Below w.heap.size w W by rw[hW]; exact HB.out.drew);obtain⟨b,o,ca,cc,rfl,hok,hrf,hbl,-,hcl⟩:=dM HV.out HBW.out hr;have HR:=ab hr;have HO:=ab hok;have HRF:=ab hrf;have q0:=hcl 0 (by omega);have q1:=hcl 1 (by omega);have q2:=hcl 2 (by omega)
   have q3:=hcl 3 (by omega);have q4:=hcl 4 (by omega);have q5:=hcl 5 (by omega);have q6:=hcl 6 (by omega);have q7:=hcl 7 (by omega);have q8:=hcl 8 (by omega);have q9:=hcl 9 (by omega);simp only[cL,AY,Nat.add_zero]at q0 q1 q2 q3 q4 q5 q6 q7 q8 q9;clear hr hok hrf hcl
   cases hvi:bU it
   ·have HF:=ab (show bV l=false by unfold bV; rw[HA.out,dG HR.out,hvi]; simp);have HVI:=ab hvi;clear hvi;go_wp2_with fail;refine an [some 4,none,some 19] (by kernel_rfl) (by kernel_rfl) (by kernel_rfl) ?_;simp only[be,List.take_succ_cons,List.take_zero,List.drop_succ_cons,List.drop_zero];rw[<-hW];clear hW
    repeat (first | (refine aF rfl ?_; simp only[Act.put,aB,aC,aD]) | (refine aJ rfl (fun K hK=> ?_); go_simp; refine hK _ ?_; clear hK K))
    refine aI ?_;refine bA rfl (fun K hK=> ?_);go_wp2_with (go_at_call 54; refine(oZ HII.out S it (.slice ca it.chunks.length cc) false _ HRF.out HO.out HVI.out).mono ?_; rintro e w1 ⟨rfl,hb1⟩);have HB1:=ab (ah HBW.out hb1);clear hb1
    repeat (first | (refine aF rfl ?_; simp only[Act.put,aB,aC,aD]) | (refine aJ rfl (fun K hK=> ?_); go_simp; refine hK _ ?_; clear hK K))
    refine aI ?_;go_wp2_with fail;go_ret;exact⟨am (by rw[HF.out]),HB1.out⟩
   ·have HVI:=ab hvi;clear hvi
    by_cases hk0:k<=0
    ·have HF:=ab (show cz none l=cz (fI l (k+1)) (l.drop (k+1)) by
      obtain rfl:k=0:=by omega
      rw[HA.out,dG HR.out,HVI.out]; simp[fI,gg])
     have ek:decide (0<k)=false:=by simp; omega
     go_wp2_with fail;refine an [some 4,none,some 19] (by kernel_rfl) (by kernel_rfl) (by kernel_rfl) ?_;simp only[be,List.take_succ_cons,List.take_zero,List.drop_succ_cons,List.drop_zero];rw[<-hW];clear hW
     repeat (first | (refine aF rfl ?_; simp only[Act.put,aB,aC,aD]) | (refine aJ rfl (fun K hK=> ?_); go_simp; refine hK _ ?_; clear hK K))
     refine aI ?_;refine bA rfl (fun K hK=> ?_);go_wp2_with (go_at_call 54; refine(oZ HII.out S it (.slice ca it.chunks.length cc) true _ HRF.out HO.out HVI.out).mono ?_; rintro e w1 ⟨rfl,hb1⟩);have HB1:=ab (ah HBW.out hb1);clear hb1
     repeat (first | (refine aF rfl ?_; simp only[Act.put,aB,aC,aD]) | (refine aJ rfl (fun K hK=> ?_); go_simp; refine hK _ ?_; clear hK K))
     refine aI ?_;go_wp2_with fail
     go_roundw
     case rel=>exact⟨k+1,by omega,by go_num,HF.out,HB1.out⟩
     case measure=>simp[intOf]; omega
    ·obtain⟨ip,hrp⟩: ∃ip,l[k-1]? =some ip:=⟨l[k-1],by simp⟩;have HRP:=ab hrp;have HPR:=ab (show fI l k=some ip.name from rN (by omega) hrp);have hs1:IntKind.i64.wrap ((k:Int)-1)=(k:Int)-1:=IntWalk.i64_in _ (by omega);have hs2:((k:Int)-1).toNat=k-1:=by omega
     have ek:decide (0<k)=true:=by simp; omega
     have hs3:(1:Int)<=(k:Int):=by omega
     have hs4:1<=k:=by omega
     have hs5:0<k:=by omega
     have hs6:(0:Int)<=(k:Int)-1:=by omega
     have hs7:(k:Int)-1<(l.length:Int):=by omega
     clear hrp;go_wp2_with fail;refine an [some 4,none,some 19] (by kernel_rfl) (by kernel_rfl) (by kernel_rfl) ?_;simp only[be,List.take_succ_cons,List.take_zero,List.drop_succ_cons,List.drop_zero];rw[<-hW];clear hW
     repeat (first | (refine aF rfl ?_; simp only[Act.put,aB,aC,aD]) | (refine aJ rfl (fun K hK=> ?_); go_simp; refine hK _ ?_; clear hK K))
     refine aI ?_;refine bA rfl (fun K hK=> ?_);go_wp2_with (go_at_call 54; refine(oZ HII.out S it (.slice ca it.chunks.length cc) true _ HRF.out HO.out HVI.out).mono ?_; rintro e w1 ⟨rfl,hb1⟩);have HB1:=ab (ah HBW.out hb1);clear hb1;obtain⟨b2,o2,ca2,cc2,e2,-,-,-,-,hcl⟩:=dM HV.out HB1.out HR.out
     cases e2
     have n0:=hcl 0 (by omega);simp only[cL,List.getElem?_cons_zero,Nat.add_zero]at n0;clear hcl;obtain⟨b3,o3,ca3,cc3,e3,-,-,-,-,hcl⟩:=dM HV.out HB1.out HRP.out
     cases e3
     have p0:=hcl 0 (by omega);simp only[cL,List.getElem?_cons_zero,Nat.add_zero]at p0;clear hcl
     cases hlt3:Cj ip.name it.name
     ·have HF:=ab (show bV l=false by unfold bV; rw[HA.out,dG HR.out,HPR.out,HVI.out]; simp[gg,hlt3]);unfold Cj at hlt3
      repeat (first | (refine aF rfl ?_; simp only[Act.put,aB,aC,aD]) | (refine aJ rfl (fun K hK=> ?_); go_simp; refine hK _ ?_; clear hK K))
      refine aI ?_;go_wp2_with fail;go_ret;exact⟨am (by rw[HF.out]),HB1.out⟩
     ·have HF:=ab (show cz none l=cz (fI l (k+1)) (l.drop (k+1)) by rw[HA.out,dG HR.out,HPR.out,HVI.out]; simp[gg,hlt3]);unfold Cj at hlt3
      repeat (first | (refine aF rfl ?_; simp only[Act.put,aB,aC,aD]) | (refine aJ rfl (fun K hK=> ?_); go_simp; refine hK _ ?_; clear hK K))
      refine aI ?_;go_wp2_with fail
      go_roundw
      case rel=>exact⟨k+1,by omega,by go_num,HF.out,HB1.out⟩
      case measure=>simp[intOf]; omega
  ·obtain rfl:k=l.length:=by omega
   have HF:=ab (show bV l=decide (l.length<=4096) by unfold bV; rw[HA.out,List.drop_of_length_le (Nat.le_refl _)]; simp[cz]);go_wp2_with fail;go_ret;exact⟨am (by rw[HF.out,Bool.eq_iff_iff]; simp; omega),HB.out⟩
end Go.Proofs.YtpffpjbkbaleiaaGreatDoor
namespace Go.Proofs.YtpffpjbkbaleiaaGreatDoor
open Go.RowKit
theorem Ex (l:List UInt8):(tt l).length<=4*l.length:=by
 have h1:=qF l;have: ∀rs:List Int,(rs.flatMap Lib.encodeRune).length<=4*rs.length:=by
  intro rs
  induction rs with
  | nil=>simp
  | cons r rs ih=>rw[List.flatMap_cons,List.length_append,List.length_cons]; have:=oN r; omega
 have h2:=this (mA l);unfold tt; omega
theorem uq (s:ByteArray) (pos:Nat):Lib.decodeL ((bl s).drop pos)=Utf8.decode s pos:=Lib.decodeL_drop s pos
theorem Eb {s:ByteArray} {pos:Nat} (h:pos<s.size):(bl s).drop pos≠[]:=by
 intro e; have:=List.drop_eq_nil_iff.1 e; rw[<-ay]at this; omega
theorem AP {s o:ByteArray} {pos:Nat} (hp:pos<s.size) (h:bl o++tt ((bl s).drop pos)=tt (bl s)):
  bl (o++Utf8.encode ((Utf8.decode s pos).1:Int))++tt ((bl s).drop (pos+(Utf8.decode s pos).2))=tt (bl s):=by
 rw[yY,<-h,vw _ (Eb hp),uq,List.drop_drop,<-wE,DY,List.append_assoc]
theorem xr (s:ByteArray) (w:World) (hs:s.size<=16777216):
  Calls Tryz.prog 164 #[.string s] w fun e w'=>e= .returned (.bool (Lib.validD (bl s)))/\Below w.heap.size w w':=by
 go_enter Tryz.func164,Tryz.ntmps164
 go_wp2
 go_loopw [3] (fun v wr=> ∃(pos:Nat) (o:ByteArray),v= .string o/\wr=w.iter s pos/\o.size<=67108864/\bl o++tt ((bl s).drop pos)=tt (bl s)) (fun _ wr=>s.size-wr.iterPos w.heap.size)
 case atStart=>exact⟨0,⟨#[]⟩,rfl,rfl,by simp[ByteArray.size],by simp[bl]⟩
 case round=>
  obtain⟨pos,o,rfl,rfl,ho,hrel2⟩:=hrel;have HR:=ab hrel2;clear hrel2
  by_cases hp:pos<s.size
  ·have hnx: ∀ty,(Instr.next (.pointer (some ⟨w.heap.size,0,none⟩)) true ty).run Tryz.prog (w.iter s pos)=_:=fun ty=>run_next_any w s pos ty hp
   obtain⟨r,hr⟩: ∃r,r=(Utf8.decode s pos).1:=⟨_,rfl⟩;obtain⟨E,hE⟩: ∃E,E=Utf8.encode (r:Int):=⟨_,rfl⟩;have hcv: ∀w',(convert 21 9 (.int .i32 (r:Int))).run Tryz.prog w'= .ok (.string E) w':=fun w'=>by rw[hE]; exact run_convert_int_string w' _ _ .i32 _ (by rw[Tryz.underlying21]; rfl) Tryz.underlying9
   have hE4:E.size<=4:=by rw[hE]; exact encode_size_le _
   simp only[<-hr]at hnx;have HE:=ab hE;have HRR:=ab hr;clear hE hr
   go_wp2
   go_roundw
   case rel=>
    have hn:bl (o++E)++tt ((bl s).drop (pos+(Utf8.decode s pos).2))=tt (bl s):=by rw[HE.out,HRR.out]; exact AP hp HR.out
    refine⟨pos+(Utf8.decode s pos).2,o++E,rfl,rfl, ?_,hn⟩;have h1:=congrArg List.length hn;have h2:=Ex (bl s);rw[List.length_append,<-ay]at h1;rw[<-ay]at h2;omega
   case measure=>
    rw[World.iterPos_iter,World.iterPos_iter];have:=Lib.width_pos s pos;omega
  ·have hnx: ∀ty,(Instr.next (.pointer (some ⟨w.heap.size,0,none⟩)) true ty).run Tryz.prog (w.iter s pos)=_:=fun ty=>run_next_end w s pos ty hp
   go_wp2
   go_ret;refine⟨am ?_,(Below.refl _ _).alloc (Nat.le_refl _) _⟩;have h1:bl o=tt (bl s):=by
    rw[<-HR.out,List.drop_eq_nil_of_le (by rw[<-ay]; omega),tu,List.append_nil]
   rw[ci,ci,h1];exact zX (bl s)
theorem vd {s:ByteArray} {j:Nat} (hj:j<s.size) (h:(s[j].toNat:Int)<32):kx (bl s)=false:=by
 refine ve hj ?_;rw[ld s j hj,<-ff s j hj]; omega
theorem vt (s:ByteArray) (w:World) (hs:s.size<=16777216):
  Calls Tryz.prog 138 #[.string s] w fun e w'=>e= .returned (.bool (pZ (bl s)))/\Below w.heap.size w w':=by
 go_enter Tryz.func138,Tryz.ntmps138
 go_wp2
 go_loop [3] (fun i=> ∃k:Nat,k<=s.size/\i= .int .i64 k/\ ∀j,j<k->j<s.size->32<=(s.get! j).toNat) (fun i=>s.size-(intOf i).toNat)
 case atStart=>exact⟨0,Nat.zero_le _,rfl,fun j hj=>by omega⟩
 case round=>
  obtain⟨k,hk,rfl,hlow⟩:=hrel;have HL:=ab hlow;clear hlow
  by_cases hp:k<s.size
  ·go_wp2
   ·have hlt:(s[k].toNat:Int)<32:=by assumption
    go_ret;exact⟨am (by simp[pZ,vd hp hlt]),Below.refl _ _⟩
   ·have hge:(32:Int)<=(s[k].toNat:Int):=by assumption
    go_round
    case rel=>
     refine⟨k+1,by omega,by go_num,fun j hj hjs=> ?_⟩
     rcases Nat.lt_or_ge j k with h | h
     ·exact HL.out j h hjs
     ·obtain rfl:j=k:=by omega
      rw[ld s j hp,<-ff s j hp]; omega
    case measure=>simp[intOf]<;> omega
  ·go_wp2_with (go_at_call 164; refine(xr s _ hs).mono ?_; rintro e w' ⟨rfl,hb⟩);go_ret;refine⟨am ?_,hb⟩;simp only[pZ,yx (fun j hj=>HL.out j (by omega) hj),Bool.true_and]
def Bc (c:UInt8) (s:ByteArray) (w:World) (e:Ending) (w':World):Prop:=
 ∃v xs,e= .returned v/\xs.map bl=aT c (bl s)/\jd (w.heap.size<= ·) w' v xs/\Below w.heap.size w w'
theorem uu {s:ByteArray} {c:UInt8} {ys:List ByteArray} {f k:Nat} (hk:k<s.size) (hf:f<=k) (h:aT c (bl s)=ys.map bl++aT c ((bl s).drop f)) (hn: ∀j,f<=j->j<k->(s.get! j)≠c) (hc:s[k]=c):
  aT c (bl s)=(ys++[s.extract f k]).map bl++aT c ((bl s).drop (k+1)):=by
 have hk2:k<(bl s).length:=by rw[<-ay]; exact hk
 have e:(bl s).drop f=bl (s.extract f k)++c::(bl s).drop (k+1):=by
  rw[jf,<-hc,ff s k hk,List.getElem_cons_drop,List.drop_take];have h2:=List.take_append_drop (k-f) ((bl s).drop f);rw[List.drop_drop,show f+(k-f)=k by omega]at h2;exact h2.symm
 have hm:c∉bl (s.extract f k):=by
  intro hm;obtain⟨j,hj,ej⟩:=List.getElem_of_mem hm;simp only[jf]at hj ej;rw[List.length_drop,List.length_take]at hj;rw[List.getElem_drop,List.getElem_take]at ej;exact hn (f+j) (by omega) (by omega) (by rw[ld s _ (by omega)]; exact ej)
 rw[h,e,iA _ _ _ hm]; simp
theorem ut {s:ByteArray} {c:UInt8} {ys:List ByteArray} {f:Nat} (hf:f<=s.size) (h:aT c (bl s)=ys.map bl++aT c ((bl s).drop f)) (hn: ∀j,f<=j->j<s.size->(s.get! j)≠c):
  aT c (bl s)=(ys++[s.extract f s.size]).map bl:=by
 have e:(bl s).drop f=bl (s.extract f s.size):=by rw[jf,ay,List.take_length]
 have hm:c∉(bl s).drop f:=by
  intro hm;obtain⟨j,hj,ej⟩:=List.getElem_of_mem hm;rw[List.length_drop,<-ay]at hj;rw[List.getElem_drop]at ej;exact hn (f+j) (by omega) (by omega) (by rw[ld s _ (by omega)]; exact ej)
 rw[h,eu _ _ hm,e]; simp
theorem tr (s:ByteArray) (w:World) (hs:s.size<=16777216):Calls Tryz.prog 87 #[.string s] w (Bc 47 s w):=by
 go_enter Tryz.func87,Tryz.ntmps87
 go_wp2_with fail
 go_loopw [3,4,5] (fun v fr i wr=> ∃(k f:Nat) (ys:List ByteArray),k<=s.size+1/\f<=k/\ys.length<=k/\i= .int .i64 k/\fr= .int .i64 f/\wr.ownsRow w.heap.size 9 1 v ys.length (ys.map Value.string)/\Below w.heap.size w wr/\
   (k<=s.size->aT 47 (bl s)=ys.map bl++aT 47 ((bl s).drop f)/\ ∀j,f<=j->j<k->(s.get! j)≠47)/\(k=s.size+1->aT 47 (bl s)=ys.map bl)) (fun _ _ i _=>s.size+1-(intOf i).toNat)
 case atStart=>exact⟨0,0,[],Nat.zero_le _,Nat.le_refl _,Nat.le_refl _,rfl,rfl,World.ownsRow_nil _ _ _ _,Below.refl _ _,fun _=>⟨by simp,fun j _ hj=>by omega⟩,fun h=>by omega⟩
 case round=>
  obtain⟨k,f,ys,hk,hf,hy,rfl,rfl,hown,hb,hr1,hr2⟩:=hrel;have HO:=ab hown;have HB:=ab hb;have HR1:=ab hr1;have HR2:=ab hr2;have hsz:w.heap.size<=wr.heap.size:=hb.size;clear hown hb hr1 hr2
  by_cases hle:k<=s.size
  ·by_cases hlt:k<s.size
   ·have e1:((k:Int) == (s.size:Int))=false:=by rw[beq_eq_false_iff_ne]; omega
    by_cases hc:s[k]=47
    ·have e2:((s[k].toNat:Int) == (47:UInt8).toNat)=true:=by rw[hc]; rfl
     have e2':((s[k].toNat:Int) == 47)=true:=e2;have HCC:=ab hc;clear hc e2;go_wp2_with (at_builtin; go_must (refine ij Tryz.appStrings rfl _ _ rfl w.heap.size u3 ys.length (ys.map Value.string) rfl wr [.string (s.extract f k)] _ rfl rfl (by simp; rfl) HO.out (by omega) hsz ?_); intro v' w1 hown1 hgrow1 _);have HO1:=ab hown1;have HG1:=ab hgrow1;clear hown1 hgrow1;go_wp2_with fail
     go_roundw
     case rel=>
      refine⟨k+1,k+1,ys++[s.extract f k],by omega,Nat.le_refl _,by simp; omega,by go_num,by go_num, ?_,cV HB.out HO.out HG1.out (Nat.le_refl _) hsz,fun _=>⟨uu hlt hf (HR1.out hle).1 (HR1.out hle).2 HCC.out,fun j h1 h2=>by omega⟩,fun h=>by omega⟩;have:=HO1.out; simpa using this
     case measure=>simp[intOf]<;> omega
    ·have e2':((s[k].toNat:Int) == 47)=false:=by
      rw[beq_eq_false_iff_ne]; intro e; apply hc; apply UInt8.toNat_inj.1; have:s[k].toNat=47:=by omega
      rw[this]; rfl
     have HCC:=ab hc;clear hc;go_wp2_with fail
     go_roundw
     case rel=>
      refine⟨k+1,f,ys,by omega,by omega,by omega,by go_num,rfl,HO.out,HB.out,fun _=>⟨(HR1.out hle).1,fun j h1 h2=> ?_⟩,fun h=>by omega⟩
      rcases Nat.lt_or_ge j k with h | h
      ·exact(HR1.out hle).2 j h1 h
      ·obtain rfl:j=k:=by omega
       rw[ld s j hlt,<-ff s j hlt]; exact HCC.out
     case measure=>simp[intOf]<;> omega
   ·obtain rfl:k=s.size:=by omega
    have e1:((s.size:Int) == (s.size:Int))=true:=by simp
    go_wp2_with (at_builtin; go_must (refine ij Tryz.appStrings rfl _ _ rfl w.heap.size u3 ys.length (ys.map Value.string) rfl wr [.string (s.extract f s.size)] _ rfl rfl (by simp; rfl) HO.out (by omega) hsz ?_); intro v' w1 hown1 hgrow1 _);have HO1:=ab hown1;have HG1:=ab hgrow1;clear hown1 hgrow1;go_wp2_with fail
    go_roundw
    case rel=>
     refine⟨s.size+1,s.size+1,ys++[s.extract f s.size],by omega,Nat.le_refl _,by simp; omega,by go_num,by go_num, ?_,cV HB.out HO.out HG1.out (Nat.le_refl _) hsz,fun h=>by omega,fun _=>ut hf (HR1.out hle).1 (HR1.out hle).2⟩;have:=HO1.out; simpa using this
    case measure=>simp[intOf]<;> omega
  ·obtain⟨a,cap,rfl,hn,hm⟩:=aj HO.out;go_wp2_with fail;go_ret;exact⟨_,ys,rfl,(HR2.out (by omega)).symm,(bh HO.out).weak (fun k hk=>hk.1),HB.out⟩
end Go.Proofs.YtpffpjbkbaleiaaGreatDoor
namespace Go.Proofs.YtpffpjbkbaleiaaGreatDoor
open Go.RowKit
theorem yl {xs:List ByteArray} {s:ByteArray} (hx:xs.map bl=aT 47 (bl s)):((xs.length:Int) == 1)= !(bl s).contains 47:=by
 rw[<-uj,<-hx,List.length_map,Bool.eq_iff_iff,beq_iff_eq,beq_iff_eq]; omega
theorem nG (s:ByteArray) (w:World) (hs:s.size<=16777216):
  Calls Tryz.prog 102 #[.string s] w fun e w'=>e= .returned (.bool (dD (bl s)))/\Below w.heap.size w w':=by
 go_enter Tryz.func102,Tryz.ntmps102
 go_wp2_with (first
  | (go_at_call 138; refine(vt s _ hs).mono ?_; rintro e w1 ⟨rfl,hb1⟩)
  | (go_at_call 87; refine(tr s _ hs).mono ?_; rintro e w2 ⟨v2,xs2,rfl,hx2,hv2,hb2⟩; obtain⟨a2,c2,rfl,-,-,-⟩:=hv2.shape; have HX2:=ab hx2; clear hx2 hv2))
 all_goals (go_ret; refine⟨am ?_,by first | exact Below.refl _ _ | exact ah hb1 hb2 | exact hb1⟩)
 all_goals (rw[Bool.eq_iff_iff]; simp only[ci]at *)
 all_goals (first | (have hq:=yl HX2.out; simp_all [dD,ay]; done) | (simp_all [dD,ay]; done) | (simp_all [dD,ay]; omega) | (have hq:=yl HX2.out; simp_all [dD,ay]; intro _; omega))
end Go.Proofs.YtpffpjbkbaleiaaGreatDoor
namespace Go.Proofs.YtpffpjbkbaleiaaGreatDoor
open Go.RowKit
theorem qp (s:ByteArray) (w:World) (hs:64<s.size) (hm:s.size<=maxLen):Calls Tryz.prog 102 #[.string s] w fun e w'=>e= .returned (.bool (dD (bl s)))/\Below w.heap.size w w':=by
 have HF:=ab (show dD (bl s)=false by
  have h1:decide ((bl s).length<=64)=false:=by rw[<-ay]; simp; omega
  unfold dD; rw[h1]; simp)
 unfold maxLen at hm
 go_enter Tryz.func102,Tryz.ntmps102
 go_wp2_with fail
 all_goals (go_ret; exact⟨am HF.out.symm,Below.refl _ _⟩)
theorem bo (s:ByteArray) (b:Bool) (w:World) (hs:s.size<=maxLen) (h:dD (bl s)=b):Calls Tryz.prog 102 #[.string s] w fun e w'=>e= .returned (.bool b)/\Below w.heap.size w w':=by
 rw[<-h]
 by_cases h64:s.size<=64
 ·exact nG s w (by omega)
 ·exact qp s w (by omega) hs
theorem lr (it:az):bU it=(dD (bl it.name) && (decide (0<=it.mode) && decide (it.mode<=511) && decide (0<=it.time)) && bO it):=by
 unfold bU lZ; rw[oH]
theorem wO :sE:=by
 intro S it cv w hcv hok;obtain⟨a,cap,rfl,hc,hm,-⟩:=aP.shape hcv iG.len;unfold maxLen at hm;have HV:=ab hcv;have HO:=ab hok;have hq1:=hok.nm;have hq2:=hok.lk;unfold maxLen at hq1 hq2;have heq: ∀w,(Op.equalIn 10000 26 (.agg #[.string it.node.name, .int .i64 it.node.gen, .int .i64 it.node.size]) (.agg #[.string ⟨#[]⟩, .int .i64 0, .int .i64 0])).run Tryz.prog w= .ok (decide (it.node=aZ)) w:=fun w=>BL it.node aZ w
 have HL:=ab (show it.link.toList=[]<->it.link.size=0 by rw[ci,ay]; simp);clear hcv hok;unfold fm
 cases hv:dD (bl it.name)
 ·have HVP:=ab hv;clear hv
  go_enter Tryz.func54,Tryz.ntmps54
  go_wp2_with fail;obtain⟨W,hW⟩: ∃W,W=w.alloc (.cells #[.string it.name, .int .i64 it.kind, .int .i64 it.mode, .int .i64 it.time, .int .i64 it.size, .string it.link, .slice a it.chunks.length cap, .string it.node.name, .int .i64 it.node.gen, .int .i64 it.node.size] 28):=⟨_,rfl⟩;rw[<-hW];have HBW:=ab (show Below w.heap.size w W by rw[hW]; exact(Below.refl _ _).alloc (Nat.le_refl _) _)
  have HBX:=ab (show W.heap[w.heap.size]? =some (.cells #[.string it.name, .int .i64 it.kind, .int .i64 it.mode, .int .i64 it.time, .int .i64 it.size, .string it.link, .slice a it.chunks.length cap, .string it.node.name, .int .i64 it.node.gen, .int .i64 it.node.size] 28 (0,0)) by rw[hW]; exact heap_alloc_new w _);clear hW;refine(bo it.name false _ HO.out.nm HVP.out).mono ?_;rintro e w1 ⟨rfl,hb1⟩
  have HBXr:=ab ((hb1.block w.heap.size ((Array.getElem?_eq_some_iff.1 HBX.out).1)).trans HBX.out);have HB1:=ab (ah HBW.out hb1);have hlt1:w.heap.size<w1.heap.size:=(Array.getElem?_eq_some_iff.1 HBXr.out).1;have c0:=ai (k:=0) HBXr.out;have c1:=ai (k:=1) HBXr.out;have c2:=ai (k:=2) HBXr.out;have c3:=ai (k:=3) HBXr.out;have c4:=ai (k:=4) HBXr.out
  have c5:=ai (k:=5) HBXr.out;have c6:=ai (k:=6) HBXr.out;have c7:=ai (k:=7) HBXr.out;have c8:=ai (k:=8) HBXr.out;have c9:=ai (k:=9) HBXr.out;simp only[aN]at c0 c1 c2 c3 c4 c5 c6 c7 c8 c9;clear hb1 HBX;go_wp2_with fail;go_ret;exact⟨am (by rw[lr,HVP.out]; rfl),HB1.out⟩
 ·have HVP:=ab hv;clear hv
  by_cases hmt:0<=it.mode/\it.mode<=511/\0<=it.time
  ·have HH:=ab (show bU it=bO it by obtain⟨x1,x2,x3⟩:=hmt; rw[lr,HVP.out]; simp[x1,x2,x3]);obtain⟨hm1,hm2,hm3⟩:=hmt
   by_cases hk2:it.kind=2
   ·have hvb:bO it=(decide (it.link.size=0) && decide (it.size=0) && decide (it.chunks.length=0) && dK it.node):=by unfold bO; rw[if_neg (by omega),if_pos hk2]
    have e1:(it.kind == 1)=false:=by simp[hk2]
    have e5:(it.kind == 2)=true:=by simp[hk2]
    have e2:(it.kind != 1)=true:=by simp[hk2]
    have e3:(it.kind != 2)=false:=by simp[hk2]
    have e4:(it.kind != 3)=true:=by simp[hk2]
    clear hk2
    by_cases hch:it.chunks.length=0
    ·have hc0: ¬0<it.chunks.length:=by omega
     by_cases hsz:it.size=0
     ·have es:(it.size != 0)=false:=by simp[hsz]
      by_cases hl:it.link.size=0
      ·have hl2:it.link.toList=[]:=HL.out.2 hl;have HK:=ab (show bO it=dK it.node by rw[hvb,hch,hsz,hl]; simp);clear hvb hch hsz hl
       go_enter Tryz.func54,Tryz.ntmps54
       go_wp2_with fail;obtain⟨W,hW⟩: ∃W,W=w.alloc (.cells #[.string it.name, .int .i64 it.kind, .int .i64 it.mode, .int .i64 it.time, .int .i64 it.size, .string it.link, .slice a it.chunks.length cap, .string it.node.name, .int .i64 it.node.gen, .int .i64 it.node.size] 28):=⟨_,rfl⟩;rw[<-hW];have HBW:=ab (show Below w.heap.size w W by rw[hW]; exact(Below.refl _ _).alloc (Nat.le_refl _) _)
       have HBX:=ab (show W.heap[w.heap.size]? =some (.cells #[.string it.name, .int .i64 it.kind, .int .i64 it.mode, .int .i64 it.time, .int .i64 it.size, .string it.link, .slice a it.chunks.length cap, .string it.node.name, .int .i64 it.node.gen, .int .i64 it.node.size] 28 (0,0)) by rw[hW]; exact heap_alloc_new w _);clear hW;refine(bo it.name true _ HO.out.nm HVP.out).mono ?_;rintro e w1 ⟨rfl,hb1⟩
       have HBXr:=ab ((hb1.block w.heap.size ((Array.getElem?_eq_some_iff.1 HBX.out).1)).trans HBX.out);have HB1:=ab (ah HBW.out hb1);have hlt1:w.heap.size<w1.heap.size:=(Array.getElem?_eq_some_iff.1 HBXr.out).1;have c0:=ai (k:=0) HBXr.out;have c1:=ai (k:=1) HBXr.out;have c2:=ai (k:=2) HBXr.out;have c3:=ai (k:=3) HBXr.out;have c4:=ai (k:=4) HBXr.out
       have c5:=ai (k:=5) HBXr.out;have c6:=ai (k:=6) HBXr.out;have c7:=ai (k:=7) HBXr.out;have c8:=ai (k:=8) HBXr.out;have c9:=ai (k:=9) HBXr.out;simp only[aN]at c0 c1 c2 c3 c4 c5 c6 c7 c8 c9;clear hb1 HBX;go_wp2_with fail;refine(rP it.node _ HO.out.nd).mono ?_;rintro e w2 ⟨rfl,hb2⟩;have HB2:=ab (ah HB1.out hb2);clear hb2;go_wp2_with fail;go_ret
       exact⟨am (by rw[HH.out,HK.out]),HB2.out⟩
      ·have hl2: ¬it.link.toList=[]:=fun h=>hl (HL.out.1 h)
       have hl3:it.link.toList.isEmpty=false:=by rw[List.isEmpty_eq_false_iff]; exact hl2
       have HK:=ab (show bO it=false by rw[hvb]; simp[hl]);clear hvb hch hsz hl
       go_enter Tryz.func54,Tryz.ntmps54
       go_wp2_with fail;obtain⟨W,hW⟩: ∃W,W=w.alloc (.cells #[.string it.name, .int .i64 it.kind, .int .i64 it.mode, .int .i64 it.time, .int .i64 it.size, .string it.link, .slice a it.chunks.length cap, .string it.node.name, .int .i64 it.node.gen, .int .i64 it.node.size] 28):=⟨_,rfl⟩;rw[<-hW];have HBW:=ab (show Below w.heap.size w W by rw[hW]; exact(Below.refl _ _).alloc (Nat.le_refl _) _)
       have HBX:=ab (show W.heap[w.heap.size]? =some (.cells #[.string it.name, .int .i64 it.kind, .int .i64 it.mode, .int .i64 it.time, .int .i64 it.size, .string it.link, .slice a it.chunks.length cap, .string it.node.name, .int .i64 it.node.gen, .int .i64 it.node.size] 28 (0,0)) by rw[hW]; exact heap_alloc_new w _);clear hW;refine(bo it.name true _ HO.out.nm HVP.out).mono ?_;rintro e w1 ⟨rfl,hb1⟩
       have HBXr:=ab ((hb1.block w.heap.size ((Array.getElem?_eq_some_iff.1 HBX.out).1)).trans HBX.out);have HB1:=ab (ah HBW.out hb1);have hlt1:w.heap.size<w1.heap.size:=(Array.getElem?_eq_some_iff.1 HBXr.out).1;have c0:=ai (k:=0) HBXr.out;have c1:=ai (k:=1) HBXr.out;have c2:=ai (k:=2) HBXr.out;have c3:=ai (k:=3) HBXr.out;have c4:=ai (k:=4) HBXr.out
       have c5:=ai (k:=5) HBXr.out;have c6:=ai (k:=6) HBXr.out;have c7:=ai (k:=7) HBXr.out;have c8:=ai (k:=8) HBXr.out;have c9:=ai (k:=9) HBXr.out;simp only[aN]at c0 c1 c2 c3 c4 c5 c6 c7 c8 c9;clear hb1 HBX;go_wp2_with fail
       all_goals (go_ret; exact⟨am (by rw[HH.out,HK.out]),HB1.out⟩)
     ·have es:(it.size != 0)=true:=by simp[hsz]
      have HK:=ab (show bO it=false by rw[hvb]; simp[hsz]);clear hvb hch hsz
      go_enter Tryz.func54,Tryz.ntmps54
      go_wp2_with fail;obtain⟨W,hW⟩: ∃W,W=w.alloc (.cells #[.string it.name, .int .i64 it.kind, .int .i64 it.mode, .int .i64 it.time, .int .i64 it.size, .string it.link, .slice a it.chunks.length cap, .string it.node.name, .int .i64 it.node.gen, .int .i64 it.node.size] 28):=⟨_,rfl⟩;rw[<-hW];have HBW:=ab (show Below w.heap.size w W by rw[hW]; exact(Below.refl _ _).alloc (Nat.le_refl _) _)
      have HBX:=ab (show W.heap[w.heap.size]? =some (.cells #[.string it.name, .int .i64 it.kind, .int .i64 it.mode, .int .i64 it.time, .int .i64 it.size, .string it.link, .slice a it.chunks.length cap, .string it.node.name, .int .i64 it.node.gen, .int .i64 it.node.size] 28 (0,0)) by rw[hW]; exact heap_alloc_new w _);clear hW;refine(bo it.name true _ HO.out.nm HVP.out).mono ?_;rintro e w1 ⟨rfl,hb1⟩
      have HBXr:=ab ((hb1.block w.heap.size ((Array.getElem?_eq_some_iff.1 HBX.out).1)).trans HBX.out);have HB1:=ab (ah HBW.out hb1);have hlt1:w.heap.size<w1.heap.size:=(Array.getElem?_eq_some_iff.1 HBXr.out).1;have c0:=ai (k:=0) HBXr.out;have c1:=ai (k:=1) HBXr.out;have c2:=ai (k:=2) HBXr.out;have c3:=ai (k:=3) HBXr.out;have c4:=ai (k:=4) HBXr.out
      have c5:=ai (k:=5) HBXr.out;have c6:=ai (k:=6) HBXr.out;have c7:=ai (k:=7) HBXr.out;have c8:=ai (k:=8) HBXr.out;have c9:=ai (k:=9) HBXr.out;simp only[aN]at c0 c1 c2 c3 c4 c5 c6 c7 c8 c9;clear hb1 HBX;go_wp2_with fail
      all_goals (go_ret; exact⟨am (by rw[HH.out,HK.out]),HB1.out⟩)
    ·have hc0:0<it.chunks.length:=by omega
     have HK:=ab (show bO it=false by rw[hvb]; simp[hch]);clear hvb hch
     go_enter Tryz.func54,Tryz.ntmps54
     go_wp2_with fail;obtain⟨W,hW⟩: ∃W,W=w.alloc (.cells #[.string it.name, .int .i64 it.kind, .int .i64 it.mode, .int .i64 it.time, .int .i64 it.size, .string it.link, .slice a it.chunks.length cap, .string it.node.name, .int .i64 it.node.gen, .int .i64 it.node.size] 28):=⟨_,rfl⟩;rw[<-hW];have HBW:=ab (show Below w.heap.size w W by rw[hW]; exact(Below.refl _ _).alloc (Nat.le_refl _) _)
     have HBX:=ab (show W.heap[w.heap.size]? =some (.cells #[.string it.name, .int .i64 it.kind, .int .i64 it.mode, .int .i64 it.time, .int .i64 it.size, .string it.link, .slice a it.chunks.length cap, .string it.node.name, .int .i64 it.node.gen, .int .i64 it.node.size] 28 (0,0)) by rw[hW]; exact heap_alloc_new w _);clear hW;refine(bo it.name true _ HO.out.nm HVP.out).mono ?_;rintro e w1 ⟨rfl,hb1⟩
     have HBXr:=ab ((hb1.block w.heap.size ((Array.getElem?_eq_some_iff.1 HBX.out).1)).trans HBX.out);have HB1:=ab (ah HBW.out hb1);have hlt1:w.heap.size<w1.heap.size:=(Array.getElem?_eq_some_iff.1 HBXr.out).1;have c0:=ai (k:=0) HBXr.out;have c1:=ai (k:=1) HBXr.out;have c2:=ai (k:=2) HBXr.out;have c3:=ai (k:=3) HBXr.out;have c4:=ai (k:=4) HBXr.out
     have c5:=ai (k:=5) HBXr.out;have c6:=ai (k:=6) HBXr.out;have c7:=ai (k:=7) HBXr.out;have c8:=ai (k:=8) HBXr.out;have c9:=ai (k:=9) HBXr.out;simp only[aN]at c0 c1 c2 c3 c4 c5 c6 c7 c8 c9;clear hb1 HBX;go_wp2_with fail
     all_goals (go_ret; exact⟨am (by rw[HH.out,HK.out]),HB1.out⟩)
   ·by_cases hn:it.node=aZ
    ·have en:decide (it.node=aZ)=true:=by simp[hn]
     have HN:=ab hn;clear hn
     by_cases hk1:it.kind=1
     ·have hvb:bO it=(decide (it.link.size=0) && decide (it.node=aZ) && bQ it):=by unfold bO; rw[if_pos hk1]
      have e1:(it.kind == 1)=true:=by simp[hk1]
      have e2:(it.kind != 1)=false:=by simp[hk1]
      have e3:(it.kind != 2)=true:=by simp[hk1]
      have e4:(it.kind != 3)=true:=by simp[hk1]
      clear hk1 hk2
      by_cases hl:it.link.size=0
      ·have hl2:it.link.toList=[]:=HL.out.2 hl;have HK:=ab (show bO it=bQ it by rw[hvb,HN.out,hl]; simp);clear hvb hl
       go_enter Tryz.func54,Tryz.ntmps54
       go_wp2_with fail;obtain⟨W,hW⟩: ∃W,W=w.alloc (.cells #[.string it.name, .int .i64 it.kind, .int .i64 it.mode, .int .i64 it.time, .int .i64 it.size, .string it.link, .slice a it.chunks.length cap, .string it.node.name, .int .i64 it.node.gen, .int .i64 it.node.size] 28):=⟨_,rfl⟩;rw[<-hW];have HBW:=ab (show Below w.heap.size w W by rw[hW]; exact(Below.refl _ _).alloc (Nat.le_refl _) _)
       have HBX:=ab (show W.heap[w.heap.size]? =some (.cells #[.string it.name, .int .i64 it.kind, .int .i64 it.mode, .int .i64 it.time, .int .i64 it.size, .string it.link, .slice a it.chunks.length cap, .string it.node.name, .int .i64 it.node.gen, .int .i64 it.node.size] 28 (0,0)) by rw[hW]; exact heap_alloc_new w _);clear hW;refine(bo it.name true _ HO.out.nm HVP.out).mono ?_;rintro e w1 ⟨rfl,hb1⟩
       have HBXr:=ab ((hb1.block w.heap.size ((Array.getElem?_eq_some_iff.1 HBX.out).1)).trans HBX.out);have HB1:=ab (ah HBW.out hb1);have hlt1:w.heap.size<w1.heap.size:=(Array.getElem?_eq_some_iff.1 HBXr.out).1;have c0:=ai (k:=0) HBXr.out;have c1:=ai (k:=1) HBXr.out;have c2:=ai (k:=2) HBXr.out;have c3:=ai (k:=3) HBXr.out;have c4:=ai (k:=4) HBXr.out
       have c5:=ai (k:=5) HBXr.out;have c6:=ai (k:=6) HBXr.out;have c7:=ai (k:=7) HBXr.out;have c8:=ai (k:=8) HBXr.out;have c9:=ai (k:=9) HBXr.out;simp only[aN]at c0 c1 c2 c3 c4 c5 c6 c7 c8 c9;clear hb1 HBX;go_wp2_with fail;clear c0 c1 c2 c3 c4 c5 c6 c7 c8 c9 e1 e2 e3 e4 en hl2
       go_loopw [3,4] (fun sm i wr=> ∃k:Nat,k<=it.chunks.length/\i= .int .i64 k/\sm= .int .i64 (dk (it.chunks.take k))/\(it.chunks.take k).all fj=true/\Below w1.heap.size w1 wr) (fun _ i _=>it.chunks.length-(intOf i).toNat)
       case atStart=>exact⟨0,Nat.zero_le _,rfl,rfl,rfl,Below.refl _ _⟩
       case round=>
        obtain⟨k,hk,rfl,rfl,hal,hb⟩:=hrel;have HB:=ab hb;have HA:=ab hal;clear hb hal;have HBXw:=ab ((HB.out.block w.heap.size hlt1).trans HBXr.out);have c4:=ai (k:=4) HBXw.out;have c6:=ai (k:=6) HBXw.out;simp only[aN]at c4 c6
        by_cases hlt:k<it.chunks.length
        ·obtain⟨r,hr⟩: ∃r,it.chunks[k]? =some r:=⟨it.chunks[k],by simp[hlt]⟩;obtain⟨b,o,rfl,hok,q0,q1,q2⟩:=fA HV.out (ah HB1.out HB.out) hr;have HR:=ab hr;have HRO:=ab hok;have HS:=ab (show dk (it.chunks.take (k+1))=wrap64 (dk (it.chunks.take k)+r.size) by rw[bz hr,kF]);clear hr hok
         cases hvr:dK r
         ·have HF:=ab (show bQ it=false by unfold bQ; rw[sH HR.out (by simp[fj,hvr])]; rfl);have HVR:=ab hvr;clear hvr;go_wp2_with fail;refine(pP r false _ HRO.out HVR.out).mono ?_;rintro e w2 ⟨rfl,hb2⟩;have HB2:=ab (ah HB.out hb2);clear hb2;go_wp2_with fail;go_ret;exact⟨am (by rw[HH.out,HK.out,HF.out]),ah HB1.out HB2.out⟩
         ·have HVR:=ab hvr;have hrs:0<=r.size:=by
           simp only[dK,Bool.and_eq_true,decide_eq_true_eq]at hvr;exact hvr.1.2
          clear hvr
          by_cases hs:r.size=0
          ·have HF:=ab (show bQ it=false by unfold bQ; rw[sH HR.out (by simp[fj,HVR.out]; omega)]; rfl);have es:(r.size == 0)=true:=by simp[hs]
           clear hs;go_wp2_with fail;refine(pP r true _ HRO.out HVR.out).mono ?_;rintro e w2 ⟨rfl,hb2⟩;have HB2:=ab (ah HB.out hb2);have d2:=(hb2.cell (aR q2)).trans q2;have d6:=(hb2.cell (aR c6)).trans c6;clear hb2 q0 q1 q2;go_wp2_with fail;go_ret;exact⟨am (by rw[HH.out,HK.out,HF.out]),ah HB1.out HB2.out⟩
          ·have es:(r.size == 0)=false:=by simp[hs]
           have HP:=ab (show fj r=true by simp[fj,HVR.out]; omega);clear hs hrs;go_wp2_with fail;refine(pP r true _ HRO.out HVR.out).mono ?_;rintro e w2 ⟨rfl,hb2⟩;have HB2:=ab (ah HB.out hb2);have d2:=(hb2.cell (aR q2)).trans q2;have d6:=(hb2.cell (aR c6)).trans c6;clear hb2 q0 q1 q2;go_wp2_with fail
           go_roundw
           case rel=>exact⟨k+1,by omega,by go_num,by rw[HS.out],tU HA.out HR.out HP.out,HB2.out⟩
           case measure=>simp[intOf]; omega
        ·obtain rfl:k=it.chunks.length:=by omega
         have hall:it.chunks.all fj=true:=by
          have:=HA.out
          rwa [List.take_of_length_le (Nat.le_refl _)]at this
         have HALL:=ab hall;have HTK:=ab (show it.chunks.take it.chunks.length=it.chunks from List.take_of_length_le (Nat.le_refl _));obtain⟨tw,htw⟩: ∃tw:Int,tw=dk (it.chunks.take it.chunks.length):=⟨_,rfl⟩;rw[<-htw];have HTW:=ab htw;clear hall htw
         by_cases hsz:tw=it.size
         ·have e5:(tw == it.size)=true:=by simp[hsz]
          have HSZ:=ab hsz;clear hsz
          by_cases hmx:tw<=1048576
          ·have HVC:=ab (show bQ it=true by
            unfold bQ; rw[HALL.out];have h1:=HTW.out;rw[HTK.out]at h1;have h2:=HSZ.out;simp only[Bool.true_and,Bool.and_eq_true,decide_eq_true_eq]
            omega)
           go_wp2_with fail;go_ret;exact⟨am (by rw[HH.out,HK.out,HVC.out]),ah HB1.out HB.out⟩
          ·have HVC:=ab (show bQ it=false by
            unfold bQ; rw[HALL.out];have h1:=HTW.out;rw[HTK.out]at h1;have h2:=HSZ.out;rw[Bool.eq_false_iff];simp only[Bool.true_and,ne_eq,Bool.and_eq_true,decide_eq_true_eq]
            omega)
           go_wp2_with fail;go_ret;exact⟨am (by rw[HH.out,HK.out,HVC.out]),ah HB1.out HB.out⟩
         ·have e5:(tw == it.size)=false:=by simp[hsz]
          have HVC:=ab (show bQ it=false by
           unfold bQ; rw[HALL.out];have h1:=HTW.out;rw[HTK.out]at h1;rw[Bool.eq_false_iff];simp only[Bool.true_and,ne_eq,Bool.and_eq_true,decide_eq_true_eq]
           omega)
          clear hsz;go_wp2_with fail;go_ret;exact⟨am (by rw[HH.out,HK.out,HVC.out]),ah HB1.out HB.out⟩
      ·have hl2: ¬it.link.toList=[]:=fun h=>hl (HL.out.1 h)
       have hl3:it.link.toList.isEmpty=false:=by rw[List.isEmpty_eq_false_iff]; exact hl2
       have HK:=ab (show bO it=false by rw[hvb]; simp[hl]);clear hvb hl
       go_enter Tryz.func54,Tryz.ntmps54
       go_wp2_with fail;obtain⟨W,hW⟩: ∃W,W=w.alloc (.cells #[.string it.name, .int .i64 it.kind, .int .i64 it.mode, .int .i64 it.time, .int .i64 it.size, .string it.link, .slice a it.chunks.length cap, .string it.node.name, .int .i64 it.node.gen, .int .i64 it.node.size] 28):=⟨_,rfl⟩;rw[<-hW];have HBW:=ab (show Below w.heap.size w W by rw[hW]; exact(Below.refl _ _).alloc (Nat.le_refl _) _)
       have HBX:=ab (show W.heap[w.heap.size]? =some (.cells #[.string it.name, .int .i64 it.kind, .int .i64 it.mode, .int .i64 it.time, .int .i64 it.size, .string it.link, .slice a it.chunks.length cap, .string it.node.name, .int .i64 it.node.gen, .int .i64 it.node.size] 28 (0,0)) by rw[hW]; exact heap_alloc_new w _);clear hW;refine(bo it.name true _ HO.out.nm HVP.out).mono ?_;rintro e w1 ⟨rfl,hb1⟩
       have HBXr:=ab ((hb1.block w.heap.size ((Array.getElem?_eq_some_iff.1 HBX.out).1)).trans HBX.out);have HB1:=ab (ah HBW.out hb1);have hlt1:w.heap.size<w1.heap.size:=(Array.getElem?_eq_some_iff.1 HBXr.out).1;have c0:=ai (k:=0) HBXr.out;have c1:=ai (k:=1) HBXr.out;have c2:=ai (k:=2) HBXr.out;have c3:=ai (k:=3) HBXr.out;have c4:=ai (k:=4) HBXr.out
       have c5:=ai (k:=5) HBXr.out;have c6:=ai (k:=6) HBXr.out;have c7:=ai (k:=7) HBXr.out;have c8:=ai (k:=8) HBXr.out;have c9:=ai (k:=9) HBXr.out;simp only[aN]at c0 c1 c2 c3 c4 c5 c6 c7 c8 c9;clear hb1 HBX;go_wp2_with fail
       all_goals (go_ret; exact⟨am (by rw[HH.out,HK.out]),HB1.out⟩)
     ·have e1:(it.kind == 1)=false:=by simp[hk1]
      have e5:(it.kind == 2)=false:=by simp[hk2]
      have e2:(it.kind != 1)=true:=by simp[hk1]
      have e3:(it.kind != 2)=true:=by simp[hk2]
      by_cases hk3:it.kind=3
      ·have hvb:bO it=((decide (it.size=0) && decide (it.chunks.length=0) && decide (it.node=aZ)) && (decide (1<=it.link.size) && decide (it.link.size<=512) && !(bl it.link).contains 0)):=by unfold bO; rw[if_neg hk1,if_neg hk2,if_pos hk3]
       have e6:(it.kind == 3)=true:=by simp[hk3]
       have e4:(it.kind != 3)=false:=by simp[hk3]
       clear hk1 hk2 hk3
       by_cases hch:it.chunks.length=0
       ·have hc0: ¬0<it.chunks.length:=by omega
        by_cases hsz:it.size=0
        ·have es:(it.size != 0)=false:=by simp[hsz]
         have HK:=ab (show bO it=(decide (1<=it.link.size) && decide (it.link.size<=512) && !(bl it.link).contains 0) by rw[hvb,HN.out,hch,hsz]; simp);clear hvb hch hsz
         go_enter Tryz.func54,Tryz.ntmps54
         go_wp2_with fail;obtain⟨W,hW⟩: ∃W,W=w.alloc (.cells #[.string it.name, .int .i64 it.kind, .int .i64 it.mode, .int .i64 it.time, .int .i64 it.size, .string it.link, .slice a it.chunks.length cap, .string it.node.name, .int .i64 it.node.gen, .int .i64 it.node.size] 28):=⟨_,rfl⟩;rw[<-hW];have HBW:=ab (show Below w.heap.size w W by rw[hW]; exact(Below.refl _ _).alloc (Nat.le_refl _) _)
         have HBX:=ab (show W.heap[w.heap.size]? =some (.cells #[.string it.name, .int .i64 it.kind, .int .i64 it.mode, .int .i64 it.time, .int .i64 it.size, .string it.link, .slice a it.chunks.length cap, .string it.node.name, .int .i64 it.node.gen, .int .i64 it.node.size] 28 (0,0)) by rw[hW]; exact heap_alloc_new w _);clear hW;refine(bo it.name true _ HO.out.nm HVP.out).mono ?_;rintro e w1 ⟨rfl,hb1⟩
         have HBXr:=ab ((hb1.block w.heap.size ((Array.getElem?_eq_some_iff.1 HBX.out).1)).trans HBX.out);have HB1:=ab (ah HBW.out hb1);have hlt1:w.heap.size<w1.heap.size:=(Array.getElem?_eq_some_iff.1 HBXr.out).1;have c0:=ai (k:=0) HBXr.out;have c1:=ai (k:=1) HBXr.out;have c2:=ai (k:=2) HBXr.out;have c3:=ai (k:=3) HBXr.out;have c4:=ai (k:=4) HBXr.out
         have c5:=ai (k:=5) HBXr.out;have c6:=ai (k:=6) HBXr.out;have c7:=ai (k:=7) HBXr.out;have c8:=ai (k:=8) HBXr.out;have c9:=ai (k:=9) HBXr.out;simp only[aN]at c0 c1 c2 c3 c4 c5 c6 c7 c8 c9;clear hb1 HBX;go_wp2_with fail;clear c0 c1 c2 c3 c4 c5 c6 c7 c8 c9 e1 e2 e3 e4 e5 e6 en es hc0
         go_loopw [5] (fun i wr=> ∃k:Nat,k<=it.link.size/\i= .int .i64 k/\((bl it.link).take k).contains 0=false/\wr=w1) (fun i _=>it.link.size-(intOf i).toNat)
         case atStart=>exact⟨0,Nat.zero_le _,rfl,rfl,rfl⟩
         case round=>
          obtain⟨k,hk,rfl,hct,rfl⟩:=hrel;have HCT:=ab hct;clear hct;have c5:=ai (k:=5) HBXr.out;simp only[aN]at c5;have hsb:it.link.size=(bl it.link).length:=ay _;have HSB:=ab hsb;clear hsb
          by_cases hlt:k<it.link.size
          ·have HGB:=ab (show(bl it.link)[k]? =some it.link[k] by rw[ff,List.getElem?_eq_getElem (by rw[<-HSB.out]; exact hlt)])
           by_cases hz:it.link[k]=0
           ·have ez:(((it.link[k]).toNat:Int) == 0)=true:=by simp[hz]
            have HC:=ab (show(bl it.link).contains 0=true by
             have h1:=HGB.out;rw[hz]at h1;rw[List.contains_iff_mem];exact List.mem_of_getElem? h1)
            clear hz;go_wp2_with fail;go_ret;exact⟨am (by rw[HH.out,HK.out,HC.out]; simp),HB1.out⟩
           ·have ez:(((it.link[k]).toNat:Int) == 0)=false:=by
             simp only[beq_eq_false_iff_ne,ne_eq];intro h;exact hz (UInt8.toNat_inj.1 (by simpa using h))
            have HC:=ab (show((bl it.link).take (k+1)).contains 0=false by
             have h2:=HCT.out;rw[bz HGB.out,Bool.eq_false_iff,ne_eq,List.contains_iff_mem,List.mem_append,List.mem_singleton];rintro(h | h)
             ·rw[Bool.eq_false_iff,ne_eq,List.contains_iff_mem]at h2;exact h2 h
             ·exact hz h.symm)
            clear hz;go_wp2_with fail
            go_roundw
            case rel=>exact⟨k+1,by omega,by go_num,HC.out,by first | rfl | trivial⟩
            case measure=>simp[intOf]; omega
          ·obtain rfl:k=it.link.size:=by omega
           have HC:=ab (show(bl it.link).contains 0=false by
            have:=HCT.out
            rwa [List.take_of_length_le (by rw[HSB.out]; exact Nat.le_refl _)]at this)
           by_cases h1:1<=it.link.size
           ·by_cases h2:it.link.size<=512
            ·have HV2:=ab (show bO it=true by rw[HK.out,HC.out]; simp[h1,h2]);go_wp2_with fail;go_ret;exact⟨am (by rw[HH.out,HV2.out]<;> (first | (simp; done) | (simp; omega))),HB1.out⟩
            ·have HV2:=ab (show bO it=false by rw[HK.out,HC.out]; simp[h2]);go_wp2_with fail;go_ret;exact⟨am (by rw[HH.out,HV2.out]<;> (first | (simp; done) | (simp; omega))),HB1.out⟩
           ·have HV2:=ab (show bO it=false by rw[HK.out,HC.out]; simp[h1]);go_wp2_with fail;go_ret;exact⟨am (by rw[HH.out,HV2.out]<;> (first | (simp; done) | (simp; omega))),HB1.out⟩
        ·have es:(it.size != 0)=true:=by simp[hsz]
         have HK:=ab (show bO it=false by rw[hvb]; simp[hsz]);clear hvb hch hsz
         go_enter Tryz.func54,Tryz.ntmps54
         go_wp2_with fail;obtain⟨W,hW⟩: ∃W,W=w.alloc (.cells #[.string it.name, .int .i64 it.kind, .int .i64 it.mode, .int .i64 it.time, .int .i64 it.size, .string it.link, .slice a it.chunks.length cap, .string it.node.name, .int .i64 it.node.gen, .int .i64 it.node.size] 28):=⟨_,rfl⟩;rw[<-hW];have HBW:=ab (show Below w.heap.size w W by rw[hW]; exact(Below.refl _ _).alloc (Nat.le_refl _) _)
         have HBX:=ab (show W.heap[w.heap.size]? =some (.cells #[.string it.name, .int .i64 it.kind, .int .i64 it.mode, .int .i64 it.time, .int .i64 it.size, .string it.link, .slice a it.chunks.length cap, .string it.node.name, .int .i64 it.node.gen, .int .i64 it.node.size] 28 (0,0)) by rw[hW]; exact heap_alloc_new w _);clear hW;refine(bo it.name true _ HO.out.nm HVP.out).mono ?_;rintro e w1 ⟨rfl,hb1⟩
         have HBXr:=ab ((hb1.block w.heap.size ((Array.getElem?_eq_some_iff.1 HBX.out).1)).trans HBX.out);have HB1:=ab (ah HBW.out hb1);have hlt1:w.heap.size<w1.heap.size:=(Array.getElem?_eq_some_iff.1 HBXr.out).1;have c0:=ai (k:=0) HBXr.out;have c1:=ai (k:=1) HBXr.out;have c2:=ai (k:=2) HBXr.out;have c3:=ai (k:=3) HBXr.out;have c4:=ai (k:=4) HBXr.out
         have c5:=ai (k:=5) HBXr.out;have c6:=ai (k:=6) HBXr.out;have c7:=ai (k:=7) HBXr.out;have c8:=ai (k:=8) HBXr.out;have c9:=ai (k:=9) HBXr.out;simp only[aN]at c0 c1 c2 c3 c4 c5 c6 c7 c8 c9;clear hb1 HBX;go_wp2_with fail
         all_goals (go_ret; exact⟨am (by rw[HH.out,HK.out]),HB1.out⟩)
       ·have hc0:0<it.chunks.length:=by omega
        have HK:=ab (show bO it=false by rw[hvb]; simp[hch]);clear hvb hch
        go_enter Tryz.func54,Tryz.ntmps54
        go_wp2_with fail;obtain⟨W,hW⟩: ∃W,W=w.alloc (.cells #[.string it.name, .int .i64 it.kind, .int .i64 it.mode, .int .i64 it.time, .int .i64 it.size, .string it.link, .slice a it.chunks.length cap, .string it.node.name, .int .i64 it.node.gen, .int .i64 it.node.size] 28):=⟨_,rfl⟩;rw[<-hW];have HBW:=ab (show Below w.heap.size w W by rw[hW]; exact(Below.refl _ _).alloc (Nat.le_refl _) _)
        have HBX:=ab (show W.heap[w.heap.size]? =some (.cells #[.string it.name, .int .i64 it.kind, .int .i64 it.mode, .int .i64 it.time, .int .i64 it.size, .string it.link, .slice a it.chunks.length cap, .string it.node.name, .int .i64 it.node.gen, .int .i64 it.node.size] 28 (0,0)) by rw[hW]; exact heap_alloc_new w _);clear hW;refine(bo it.name true _ HO.out.nm HVP.out).mono ?_;rintro e w1 ⟨rfl,hb1⟩
        have HBXr:=ab ((hb1.block w.heap.size ((Array.getElem?_eq_some_iff.1 HBX.out).1)).trans HBX.out);have HB1:=ab (ah HBW.out hb1);have hlt1:w.heap.size<w1.heap.size:=(Array.getElem?_eq_some_iff.1 HBXr.out).1;have c0:=ai (k:=0) HBXr.out;have c1:=ai (k:=1) HBXr.out;have c2:=ai (k:=2) HBXr.out;have c3:=ai (k:=3) HBXr.out;have c4:=ai (k:=4) HBXr.out
        have c5:=ai (k:=5) HBXr.out;have c6:=ai (k:=6) HBXr.out;have c7:=ai (k:=7) HBXr.out;have c8:=ai (k:=8) HBXr.out;have c9:=ai (k:=9) HBXr.out;simp only[aN]at c0 c1 c2 c3 c4 c5 c6 c7 c8 c9;clear hb1 HBX;go_wp2_with fail
        all_goals (go_ret; exact⟨am (by rw[HH.out,HK.out]),HB1.out⟩)
      ·have HK:=ab (show bO it=false by unfold bO; rw[if_neg hk1,if_neg hk2,if_neg hk3]);have e6:(it.kind == 3)=false:=by simp[hk3]
       have e4:(it.kind != 3)=true:=by simp[hk3]
       clear hk1 hk2 hk3
       by_cases hch:it.chunks.length=0
       ·have hc0: ¬0<it.chunks.length:=by omega
        by_cases hsz:it.size=0
        ·have es:(it.size != 0)=false:=by simp[hsz]
         clear hch hsz
         by_cases hl:it.link.size=0
         ·have hl2:it.link.toList=[]:=HL.out.2 hl;clear hl
          go_enter Tryz.func54,Tryz.ntmps54
          go_wp2_with fail;obtain⟨W,hW⟩: ∃W,W=w.alloc (.cells #[.string it.name, .int .i64 it.kind, .int .i64 it.mode, .int .i64 it.time, .int .i64 it.size, .string it.link, .slice a it.chunks.length cap, .string it.node.name, .int .i64 it.node.gen, .int .i64 it.node.size] 28):=⟨_,rfl⟩;rw[<-hW];have HBW:=ab (show Below w.heap.size w W by rw[hW]; exact(Below.refl _ _).alloc (Nat.le_refl _) _)
          have HBX:=ab (show W.heap[w.heap.size]? =some (.cells #[.string it.name, .int .i64 it.kind, .int .i64 it.mode, .int .i64 it.time, .int .i64 it.size, .string it.link, .slice a it.chunks.length cap, .string it.node.name, .int .i64 it.node.gen, .int .i64 it.node.size] 28 (0,0)) by rw[hW]; exact heap_alloc_new w _);clear hW;refine(bo it.name true _ HO.out.nm HVP.out).mono ?_
          rintro e w1 ⟨rfl,hb1⟩;have HBXr:=ab ((hb1.block w.heap.size ((Array.getElem?_eq_some_iff.1 HBX.out).1)).trans HBX.out);have HB1:=ab (ah HBW.out hb1);have hlt1:w.heap.size<w1.heap.size:=(Array.getElem?_eq_some_iff.1 HBXr.out).1;have c0:=ai (k:=0) HBXr.out;have c1:=ai (k:=1) HBXr.out;have c2:=ai (k:=2) HBXr.out;have c3:=ai (k:=3) HBXr.out;have c4:=ai (k:=4) HBXr.out
          have c5:=ai (k:=5) HBXr.out;have c6:=ai (k:=6) HBXr.out;have c7:=ai (k:=7) HBXr.out;have c8:=ai (k:=8) HBXr.out;have c9:=ai (k:=9) HBXr.out;simp only[aN]at c0 c1 c2 c3 c4 c5 c6 c7 c8 c9;clear hb1 HBX;go_wp2_with fail
          all_goals (go_ret; exact⟨am (by rw[HH.out,HK.out]),HB1.out⟩)
         ·have hl2: ¬it.link.toList=[]:=fun h=>hl (HL.out.1 h)
          have hl3:it.link.toList.isEmpty=false:=by rw[List.isEmpty_eq_false_iff]; exact hl2
          clear hl
          go_enter Tryz.func54,Tryz.ntmps54
          go_wp2_with fail;obtain⟨W,hW⟩: ∃W,W=w.alloc (.cells #[.string it.name, .int .i64 it.kind, .int .i64 it.mode, .int .i64 it.time, .int .i64 it.size, .string it.link, .slice a it.chunks.length cap, .string it.node.name, .int .i64 it.node.gen, .int .i64 it.node.size] 28):=⟨_,rfl⟩;rw[<-hW];have HBW:=ab (show Below w.heap.size w W by rw[hW]; exact(Below.refl _ _).alloc (Nat.le_refl _) _)
          have HBX:=ab (show W.heap[w.heap.size]? =some (.cells #[.string it.name, .int .i64 it.kind, .int .i64 it.mode, .int .i64 it.time, .int .i64 it.size, .string it.link, .slice a it.chunks.length cap, .string it.node.name, .int .i64 it.node.gen, .int .i64 it.node.size] 28 (0,0)) by rw[hW]; exact heap_alloc_new w _);clear hW;refine(bo it.name true _ HO.out.nm HVP.out).mono ?_
          rintro e w1 ⟨rfl,hb1⟩;have HBXr:=ab ((hb1.block w.heap.size ((Array.getElem?_eq_some_iff.1 HBX.out).1)).trans HBX.out);have HB1:=ab (ah HBW.out hb1);have hlt1:w.heap.size<w1.heap.size:=(Array.getElem?_eq_some_iff.1 HBXr.out).1;have c0:=ai (k:=0) HBXr.out;have c1:=ai (k:=1) HBXr.out;have c2:=ai (k:=2) HBXr.out;have c3:=ai (k:=3) HBXr.out;have c4:=ai (k:=4) HBXr.out
          have c5:=ai (k:=5) HBXr.out;have c6:=ai (k:=6) HBXr.out;have c7:=ai (k:=7) HBXr.out;have c8:=ai (k:=8) HBXr.out;have c9:=ai (k:=9) HBXr.out;simp only[aN]at c0 c1 c2 c3 c4 c5 c6 c7 c8 c9;clear hb1 HBX;go_wp2_with fail
          all_goals (go_ret; exact⟨am (by rw[HH.out,HK.out]),HB1.out⟩)
        ·have es:(it.size != 0)=true:=by simp[hsz]
         clear hch hsz
         go_enter Tryz.func54,Tryz.ntmps54
         go_wp2_with fail;obtain⟨W,hW⟩: ∃W,W=w.alloc (.cells #[.string it.name, .int .i64 it.kind, .int .i64 it.mode, .int .i64 it.time, .int .i64 it.size, .string it.link, .slice a it.chunks.length cap, .string it.node.name, .int .i64 it.node.gen, .int .i64 it.node.size] 28):=⟨_,rfl⟩;rw[<-hW];have HBW:=ab (show Below w.heap.size w W by rw[hW]; exact(Below.refl _ _).alloc (Nat.le_refl _) _)
         have HBX:=ab (show W.heap[w.heap.size]? =some (.cells #[.string it.name, .int .i64 it.kind, .int .i64 it.mode, .int .i64 it.time, .int .i64 it.size, .string it.link, .slice a it.chunks.length cap, .string it.node.name, .int .i64 it.node.gen, .int .i64 it.node.size] 28 (0,0)) by rw[hW]; exact heap_alloc_new w _);clear hW;refine(bo it.name true _ HO.out.nm HVP.out).mono ?_;rintro e w1 ⟨rfl,hb1⟩
         have HBXr:=ab ((hb1.block w.heap.size ((Array.getElem?_eq_some_iff.1 HBX.out).1)).trans HBX.out);have HB1:=ab (ah HBW.out hb1);have hlt1:w.heap.size<w1.heap.size:=(Array.getElem?_eq_some_iff.1 HBXr.out).1;have c0:=ai (k:=0) HBXr.out;have c1:=ai (k:=1) HBXr.out;have c2:=ai (k:=2) HBXr.out;have c3:=ai (k:=3) HBXr.out;have c4:=ai (k:=4) HBXr.out
         have c5:=ai (k:=5) HBXr.out;have c6:=ai (k:=6) HBXr.out;have c7:=ai (k:=7) HBXr.out;have c8:=ai (k:=8) HBXr.out;have c9:=ai (k:=9) HBXr.out;simp only[aN]at c0 c1 c2 c3 c4 c5 c6 c7 c8 c9;clear hb1 HBX;go_wp2_with fail
         all_goals (go_ret; exact⟨am (by rw[HH.out,HK.out]),HB1.out⟩)
       ·have hc0:0<it.chunks.length:=by omega
        clear hch
        go_enter Tryz.func54,Tryz.ntmps54
        go_wp2_with fail;obtain⟨W,hW⟩: ∃W,W=w.alloc (.cells #[.string it.name, .int .i64 it.kind, .int .i64 it.mode, .int .i64 it.time, .int .i64 it.size, .string it.link, .slice a it.chunks.length cap, .string it.node.name, .int .i64 it.node.gen, .int .i64 it.node.size] 28):=⟨_,rfl⟩;rw[<-hW];have HBW:=ab (show Below w.heap.size w W by rw[hW]; exact(Below.refl _ _).alloc (Nat.le_refl _) _)
        have HBX:=ab (show W.heap[w.heap.size]? =some (.cells #[.string it.name, .int .i64 it.kind, .int .i64 it.mode, .int .i64 it.time, .int .i64 it.size, .string it.link, .slice a it.chunks.length cap, .string it.node.name, .int .i64 it.node.gen, .int .i64 it.node.size] 28 (0,0)) by rw[hW]; exact heap_alloc_new w _);clear hW;refine(bo it.name true _ HO.out.nm HVP.out).mono ?_;rintro e w1 ⟨rfl,hb1⟩
        have HBXr:=ab ((hb1.block w.heap.size ((Array.getElem?_eq_some_iff.1 HBX.out).1)).trans HBX.out);have HB1:=ab (ah HBW.out hb1);have hlt1:w.heap.size<w1.heap.size:=(Array.getElem?_eq_some_iff.1 HBXr.out).1;have c0:=ai (k:=0) HBXr.out;have c1:=ai (k:=1) HBXr.out;have c2:=ai (k:=2) HBXr.out;have c3:=ai (k:=3) HBXr.out;have c4:=ai (k:=4) HBXr.out
        have c5:=ai (k:=5) HBXr.out;have c6:=ai (k:=6) HBXr.out;have c7:=ai (k:=7) HBXr.out;have c8:=ai (k:=8) HBXr.out;have c9:=ai (k:=9) HBXr.out;simp only[aN]at c0 c1 c2 c3 c4 c5 c6 c7 c8 c9;clear hb1 HBX;go_wp2_with fail
        all_goals (go_ret; exact⟨am (by rw[HH.out,HK.out]),HB1.out⟩)
    ·have en:decide (it.node=aZ)=false:=by simp[hn]
     have e3:(it.kind != 2)=true:=by simp[hk2]
     have HK:=ab (show bO it=false by unfold bO; rw[if_neg hk2]; simp[hn]);clear hn hk2
     go_enter Tryz.func54,Tryz.ntmps54
     go_wp2_with fail;obtain⟨W,hW⟩: ∃W,W=w.alloc (.cells #[.string it.name, .int .i64 it.kind, .int .i64 it.mode, .int .i64 it.time, .int .i64 it.size, .string it.link, .slice a it.chunks.length cap, .string it.node.name, .int .i64 it.node.gen, .int .i64 it.node.size] 28):=⟨_,rfl⟩;rw[<-hW];have HBW:=ab (show Below w.heap.size w W by rw[hW]; exact(Below.refl _ _).alloc (Nat.le_refl _) _)
     have HBX:=ab (show W.heap[w.heap.size]? =some (.cells #[.string it.name, .int .i64 it.kind, .int .i64 it.mode, .int .i64 it.time, .int .i64 it.size, .string it.link, .slice a it.chunks.length cap, .string it.node.name, .int .i64 it.node.gen, .int .i64 it.node.size] 28 (0,0)) by rw[hW]; exact heap_alloc_new w _);clear hW;refine(bo it.name true _ HO.out.nm HVP.out).mono ?_;rintro e w1 ⟨rfl,hb1⟩
     have HBXr:=ab ((hb1.block w.heap.size ((Array.getElem?_eq_some_iff.1 HBX.out).1)).trans HBX.out);have HB1:=ab (ah HBW.out hb1);have hlt1:w.heap.size<w1.heap.size:=(Array.getElem?_eq_some_iff.1 HBXr.out).1;have c0:=ai (k:=0) HBXr.out;have c1:=ai (k:=1) HBXr.out;have c2:=ai (k:=2) HBXr.out;have c3:=ai (k:=3) HBXr.out;have c4:=ai (k:=4) HBXr.out
     have c5:=ai (k:=5) HBXr.out;have c6:=ai (k:=6) HBXr.out;have c7:=ai (k:=7) HBXr.out;have c8:=ai (k:=8) HBXr.out;have c9:=ai (k:=9) HBXr.out;simp only[aN]at c0 c1 c2 c3 c4 c5 c6 c7 c8 c9;clear hb1 HBX;go_wp2_with fail
     all_goals (go_ret; exact⟨am (by rw[HH.out,HK.out]),HB1.out⟩)
  ·have HF:=ab (show bU it=false by
    have:(decide (0<=it.mode) && decide (it.mode<=511) && decide (0<=it.time))=false:=by
     rw[Bool.eq_false_iff]; simp; omega
    rw[lr,this]; simp)
   go_enter Tryz.func54,Tryz.ntmps54
   go_wp2_with fail;obtain⟨W,hW⟩: ∃W,W=w.alloc (.cells #[.string it.name, .int .i64 it.kind, .int .i64 it.mode, .int .i64 it.time, .int .i64 it.size, .string it.link, .slice a it.chunks.length cap, .string it.node.name, .int .i64 it.node.gen, .int .i64 it.node.size] 28):=⟨_,rfl⟩;rw[<-hW];have HBW:=ab (show Below w.heap.size w W by rw[hW]; exact(Below.refl _ _).alloc (Nat.le_refl _) _)
   have HBX:=ab (show W.heap[w.heap.size]? =some (.cells #[.string it.name, .int .i64 it.kind, .int .i64 it.mode, .int .i64 it.time, .int .i64 it.size, .string it.link, .slice a it.chunks.length cap, .string it.node.name, .int .i64 it.node.gen, .int .i64 it.node.size] 28 (0,0)) by rw[hW]; exact heap_alloc_new w _);clear hW;refine(bo it.name true _ HO.out.nm HVP.out).mono ?_;rintro e w1 ⟨rfl,hb1⟩
   have HBXr:=ab ((hb1.block w.heap.size ((Array.getElem?_eq_some_iff.1 HBX.out).1)).trans HBX.out);have HB1:=ab (ah HBW.out hb1);have hlt1:w.heap.size<w1.heap.size:=(Array.getElem?_eq_some_iff.1 HBXr.out).1;have c0:=ai (k:=0) HBXr.out;have c1:=ai (k:=1) HBXr.out;have c2:=ai (k:=2) HBXr.out;have c3:=ai (k:=3) HBXr.out;have c4:=ai (k:=4) HBXr.out
   have c5:=ai (k:=5) HBXr.out;have c6:=ai (k:=6) HBXr.out;have c7:=ai (k:=7) HBXr.out;have c8:=ai (k:=8) HBXr.out;have c9:=ai (k:=9) HBXr.out;simp only[aN]at c0 c1 c2 c3 c4 c5 c6 c7 c8 c9;clear hb1 HBX;have HM3:=ab hmt;clear hmt
   rcases Int.lt_or_le it.mode 0 with h1 | h1
   ·go_wp2_with fail;go_ret;exact⟨am (by rw[HF.out]),HB1.out⟩
   ·rcases Int.lt_or_le 511 it.mode with h2 | h2
    ·go_wp2_with fail;go_ret;exact⟨am (by rw[HF.out]),HB1.out⟩
    ·have h3:it.time<0:=by have:=HM3.out; omega
     go_wp2_with fail;go_ret;exact⟨am (by rw[HF.out]),HB1.out⟩
end Go.Proofs.YtpffpjbkbaleiaaGreatDoor
namespace Go.Proofs.YtpffpjbkbaleiaaGreatDoor
open Go Go.RowKit Go.Maps
def DG :Prop:= ∀(S:Nat->Prop) (data:List UInt8) (v:Value) (w:World),aw S w v data->Calls Tryz.prog 20 #[v] w fun e w'=>Below w.heap.size w w'/\match bm data with
 | none=>e= .returned (.tuple #[.slice none 0 0, .bool false])
 | some l=> ∃v,e= .returned (.tuple #[v, .bool true])/\aU (w.heap.size<= ·) w' v l
end Go.Proofs.YtpffpjbkbaleiaaGreatDoor
namespace Go.Proofs.YtpffpjbkbaleiaaGreatDoor
open Go.RowKit
theorem nU (l:List az) (b:Bool) (S:Nat->Prop) (v:Value) (w:World) (hv:aU S w v l) (h:bV l=b):Calls Tryz.prog 16 #[v] w fun e w'=>e= .returned (.bool b)/\Below w.heap.size w w':=by
 rw[<-h]; exact BP wO S l v w hv
theorem Gj (k n m:Int) (u:Int) (b:Bool) (t:ByteArray) (w:World):(Instr.field 96 (.agg #[.int .i64 k, .int .u64 u, .int .i64 n, .bool b, .string t, .int .i64 m]) 1).run Tryz.prog w= .ok (.int .u64 u) w:=by kernel_rfl
theorem Gk (k n m:Int) (u:Int) (b:Bool) (t:ByteArray) (w:World):(Instr.field 96 (.agg #[.int .i64 k, .int .u64 u, .int .i64 n, .bool b, .string t, .int .i64 m]) 2).run Tryz.prog w= .ok (.int .i64 n) w:=by kernel_rfl
theorem Gl (k n m:Int) (u:Int) (b:Bool) (t:ByteArray) (w:World):(Instr.field 96 (.agg #[.int .i64 k, .int .u64 u, .int .i64 n, .bool b, .string t, .int .i64 m]) 4).run Tryz.prog w= .ok (.string t) w:=by kernel_rfl
theorem io.same (s:RS):io s s:=⟨Iff.rfl,fun _=>rfl⟩
theorem rT (data:List UInt8) (most:Nat) (s:RS):(lm data most s).1=⟨5,0,0,false,(lm data most s).1.s,most⟩/\(lm data most s).1.s.size<=most:=by
 refine⟨?_, ?_⟩
 ·unfold lm rr
  split
  ·split<;> rfl
  ·rfl
 ·rw[(vI (data:=data) (most:=most) (io.same s)).1];exact tH data most s
theorem Au (data:List UInt8) (s:RS):(nx data s).1=⟨1,(nx data s).1.u,0,false,⟨#[]⟩,0⟩:=by
 unfold nx rr
 split
 ·split<;> rfl
 ·rfl
theorem rO (data:List UInt8) (most:Nat) (s:RS):(jB data most s).1=⟨7,0,((jB data most s).1.n.toNat:Int),false,⟨#[]⟩,most⟩/\(jB data most s).1.n.toNat<=most:=by
 refine⟨?_, ?_⟩
 ·unfold jB rr
  split
  ·split
   ·simp
   ·simp
  ·simp
 ·rw[(EX (data:=data) (most:=most) (io.same s)).1];have:=oG data most s
  simpa using this
def Ff (data:List UInt8) (most:Nat) (s:RS) (rb:Nat) (v:Value) (w:World) (e:Ending) (w':World):Prop:=
 ∃nm s1,(lm data most s).1.s=nm/\(lm data most s).2=s1/\nm.size<=most/\e= .returned (.agg #[.int .i64 5, .int .u64 0, .int .i64 0, .bool false, .string nm, .int .i64 (most:Int)])/\cj w' rb v data s1/\w.grownBy w' (some rb)
theorem Gb (rb:Nat) (v:Value) (data:List UInt8) (s:RS) (most:Nat) (w:World) (hr:cj w rb v data s) (hm:most<=32768):
  Calls Tryz.prog 65 #[.pointer (some ⟨rb,0,none⟩), .int .i64 5, .int .i64 (most:Int)] w (Ff data most s rb v w):=
 (FC rb v data most s w hr hm).mono fun _ _ ⟨h1,h2,h3⟩=>⟨_,_,rfl,rfl,(rT data most s).2,by rw[h1,(rT data most s).1]; rfl,h2,h3⟩
def DK (data:List UInt8) (s:RS) (rb:Nat) (v:Value) (w:World) (e:Ending) (w':World):Prop:=
 ∃u s1,(nx data s).1.u=u/\(nx data s).2=s1/\u<18446744073709551616/\e= .returned (.agg #[.int .i64 1, .int .u64 (u:Int), .int .i64 0, .bool false, .string ⟨#[]⟩, .int .i64 0])/\cj w' rb v data s1/\w.grownBy w' (some rb)
theorem Gq (rb:Nat) (v:Value) (data:List UInt8) (s:RS) (w:World) (hr:cj w rb v data s):
  Calls Tryz.prog 65 #[.pointer (some ⟨rb,0,none⟩), .int .i64 1, .int .i64 0] w (DK data s rb v w):=
 (CL rb v data s w hr).mono fun _ _ ⟨h1,h2,h3⟩=>⟨_,_,rfl,rfl,CK data s,by rw[h1,Au]; rfl,h2,h3⟩
def EZ (data:List UInt8) (most:Nat) (s:RS) (rb:Nat) (v:Value) (w:World) (e:Ending) (w':World):Prop:=
 ∃n s1,(jB data most s).1.n.toNat=n/\(jB data most s).2=s1/\n<=most/\e= .returned (.agg #[.int .i64 7, .int .u64 0, .int .i64 (n:Int), .bool false, .string ⟨#[]⟩, .int .i64 (most:Int)])/\cj w' rb v data s1/\w.grownBy w' (some rb)
theorem FZ (rb:Nat) (v:Value) (data:List UInt8) (s:RS) (most:Nat) (w:World) (hr:cj w rb v data s) (hm:most<=32768):
  Calls Tryz.prog 65 #[.pointer (some ⟨rb,0,none⟩), .int .i64 7, .int .i64 (most:Int)] w (EZ data most s rb v w):=
 (Fy rb v data most s w hr hm).mono fun _ _ ⟨h1,h2,h3⟩=>⟨_,_,rfl,rfl,(rO data most s).2,by rw[h1,(rO data most s).1]; rfl,h2,h3⟩
def DF (data:List UInt8) (s:RS) (rb:Nat) (v:Value) (w:World) (e:Ending) (w':World):Prop:=
 ∃x s1,(ft data s).1=x/\(ft data s).2=s1/\e= .returned (.int .i64 x)/\cj w' rb v data s1/\w.grownBy w' (some rb)
theorem FQ (rb:Nat) (v:Value) (data:List UInt8) (s:RS) (w:World) (hr:cj w rb v data s):
  Calls Tryz.prog 66 #[.pointer (some ⟨rb,0,none⟩)] w (DF data s rb v w):=
 (jN rb v data s w hr).mono fun _ _ ⟨h1,h2,h3⟩=>⟨_,_,rfl,rfl,h1,h2,h3⟩
theorem yr (n:Nat):(Lit.int .i64 (wM n)).wf=true:=by
 unfold wM
 split
 ·decide
 ·rename_i h;have:wrap64 (n:Int)=n:=by unfold wrap64; omega
  rw[<-this]; exact wrap64_wf _
theorem EA (data:List UInt8) (s:RS):br (gL data s).1:=⟨by
 show(vB data s).1.s.size<=_
 rw[(EY (data:=data) (io.same s)).1];have:=yL data s
 show(vY data s).1.length<=_
 unfold maxLen
 omega,yr _,yr _⟩
def Bi (data:List UInt8) (s:RS) (rb:Nat) (v:Value) (w:World) (e:Ending) (w':World):Prop:=
 ∃r s1,(gL data s).1=r/\(gL data s).2=s1/\br r/\e= .returned (bF r)/\cj w' rb v data s1/\w.grownBy w' (some rb)
theorem yE (rb:Nat) (v:Value) (data:List UInt8) (s:RS) (w:World) (hr:cj w rb v data s):
  Calls Tryz.prog 67 #[.pointer (some ⟨rb,0,none⟩)] w (Bi data s rb v w):=
 (Ad rb v data s w hr).mono fun _ _ ⟨h1,h2,h3⟩=>⟨_,_,rfl,rfl,EA data s,h1,h2,h3⟩
theorem cj.keep {w1 wc w':World} {rb:Nat} {v:Value} {data:List UInt8} {s s0:RS} (h0:cj w1 rb v data s0) (h:cj wc rb v data s) (hs: ∀k,k<w1.heap.size->w'.heap[k]? =wc.heap[k]?):cj w' rb v data s:=by
 have h1:=h0.lt;have hr0:=h0.row.mono (T:=fun k=>k≠rb/\k<w1.heap.size) (fun k hk hS=>⟨hS,hk⟩) (by omega);obtain⟨_,a0,cap0,hv0,_,_,h00⟩:=hr0;obtain⟨hl,a,cap,hv,hn,hm,h2⟩:=h.row;refine⟨(hs rb h1).trans h.box,⟨hl,a,cap,hv,hn,hm, ?_⟩,h.le,h.small⟩
 rcases h2 with h2 | ⟨bk,o,rfl,hk,hc⟩
 ·exact .inl h2
 ·rcases h00 with h00 | ⟨bk0,o0,rfl,hk0,_⟩
  ·exact .inl h00
  ·rw[hv0]at hv
   cases hv
   refine .inr ⟨bk,o,rfl,hk,fun j u hj=> ?_⟩;rw[<-hc j u hj];exact World.cell?_of_block (hs bk hk0.2)
theorem cj.setOther {w w':World} {rb b k:Nat} {v:Value} {data:List UInt8} {s s0:RS} (h0:cj w rb v data s0) (h:cj w' rb v data s) (hb:w.heap.size<=b) (x:Value):cj (w'.setCell ⟨b,k,none⟩ x) rb v data s:=
 cj.keep h0 h (fun i hi=>Below.heap_setCell _ _ _ _ (by show i≠b; omega))
structure ee (rb ib : Nat) (wr wc : World) (dv : Value) (data : List UInt8) (s : RS) (cs : Array Value) : Prop where
 rd:cj wc rb dv data s
 rd0: ∃s0,cj wr rb dv data s0
 box:wc.heap[ib]? =some (.cells cs 28 (0,0))
 grown:wr.grownBy wc (some rb)
 ge:wr.heap.size<=ib
section
variable {rb ib : Nat} {wr wc w' w2 : World} {dv : Value} {data : List UInt8} {s s' s2 : RS} {cs : Array Value}
theorem ee.lt (h:ee rb ib wr wc dv data s cs):rb<wr.heap.size:=by
 obtain⟨s0,h0⟩:=h.rd0;exact h0.lt
theorem ee.call (h:ee rb ib wr wc dv data s cs) (h1:cj w' rb dv data s') (h2:wc.grownBy w' (some rb)):ee rb ib wr w' dv data s' cs:=
 ⟨h1,h.rd0,eV h2 h.box (by have:=h.lt; have:=h.ge; omega),ak h.grown h2,h.ge⟩
theorem ee.set (h:ee rb ib wr wc dv data s cs) (k:Nat) (x:Value):ee rb ib wr (wc.setCell ⟨ib,k,none⟩ x) dv data s (cs.setIfInBounds k x):=by
 obtain⟨s0,h0⟩:=h.rd0;exact⟨cj.setOther h0 h.rd h.ge x,h.rd0,cJ h.box x,bW h.grown h.ge x,h.ge⟩
theorem ee.below (h:ee rb ib wr wc dv data s cs) (hb:Below wc.heap.size wc w'):ee rb ib wr w' dv data s cs:=
 ⟨h.rd.below hb,h.rd0,(hb.block ib ((Array.getElem?_eq_some_iff.1 h.box).1)).trans h.box,ak h.grown (aW hb _),h.ge⟩
theorem ee.start (h0:cj wr rb dv data s) (h1:cj w2 rb dv data s2) (h2:wr.grownBy w2 (some rb)) (cs:Array Value):
  ee rb w2.heap.size wr (w2.alloc (.cells cs 28)) dv data s2 cs:=
 ⟨h1.below ((Below.refl _ _).alloc (Nat.le_refl _) _),⟨s,h0⟩,heap_alloc_new w2 _,ak h2 (aW ((Below.refl _ _).alloc (Nat.le_refl _) _) _),h2.size⟩
theorem ee.cell (h:ee rb ib wr wc dv data s cs) (k:Nat):wc.cell? ⟨ib,k,none⟩=cs[k]? :=ai h.box
theorem ee.free (h:ee rb ib wr wc dv data s cs) (k:Nat):wc.frozen? ⟨ib,k,none⟩=false:=ag h.box
theorem ee.app {r:Option Nat} (h:ee rb ib wr wc dv data s cs) (h2:wc.grownBy w' r) (hr: ∀k,r=some k->ib<k):ee rb ib wr w' dv data s cs:=by
 obtain⟨s0,h0⟩:=h.rd0;have hg:=h.grown.size;have hge:=h.ge;refine⟨cj.keep h0 h.rd (fun k hk=>h2.block k (by omega) (fun e=>by have:=hr k e.symm; omega)),h.rd0, ?_, ?_,h.ge⟩
 ·exact(h2.block ib ((Array.getElem?_eq_some_iff.1 h.box).1) (fun e=>by have:=hr ib e.symm; omega)).trans h.box
 ·refine⟨h2.os.trans h.grown.os,h2.tape.trans h.grown.tape,h2.output.trans h.grown.output,Nat.le_trans hg h2.size,fun k hk hn=> ?_⟩;rw[h2.block k (by omega) (fun e=>by have:=hr k e.symm; omega)];exact h.grown.block k hk hn
end
structure oe (w1 : World) (rb : Nat) (wr : World) (dv v : Value) (data : List UInt8) (s : RS) (l : List az) : Prop where
 rd:cj wr rb dv data s
 rd1: ∃s0,cj w1 rb dv data s0
 row: ∃cells,wr.ownsRow w1.heap.size 28 10 v l.length cells/\bM (dz (fun k=>w1.heap.size<=k/\v.ownBlock≠some k) wr) cells l
 grown:w1.grownBy wr (some rb)
theorem oe.added {rb ib:Nat} {w1 wr wc w':World} {dv v v':Value} {data:List UInt8} {s s':RS} {l:List az} {it:az} {cv:Value} {cells:List Value} (h:oe w1 rb wr dv v data s l) (hm:ee rb ib wr wc dv data s' (cL cv it).toArray)
  (hcv:aQ (wr.heap.size<= ·) wc cv it.chunks) (hok:cA it) (hrow:bM (dz (fun k=>w1.heap.size<=k/\v.ownBlock≠some k) wr) cells l) (hown:wr.ownsRow w1.heap.size 28 10 v l.length cells)
  (h1:w'.ownsRow w1.heap.size 28 10 v' (l.length+1) (cells++cL cv it)) (h2:wc.grownBy w' v.ownBlock) (h3: ∀k,v'.ownBlock=some k->v.ownBlock=some k\/wc.heap.size<=k):oe w1 rb w' dv v' data s' (l++[it]):=by
 have hlt:=hm.lt;have hgs:=hm.grown.size;have hg1:=h.grown.size;obtain⟨s0,h0⟩:=h.rd1;have hlt1:=h0.lt;have hown0: ∀k,v.ownBlock=some k->w1.heap.size<=k/\k<wr.heap.size:=fun k hk=>hown.lt k hk
 refine⟨?_,h.rd1,⟨cells++cL cv it,by simpa using h1, ?_⟩, ?_⟩
 ·exact cj.keep h0 hm.rd (fun k hk=>h2.block k (by omega) (fun e=>by have:=hown0 k e.symm; omega))
 ·refine bM.snoc (hrow.mono (fun c x _ hx=>hx.same (fun k hk hS=>⟨⟨hS.1,fun e=> ?_⟩, ?_⟩))) ⟨cv,rfl,hcv.same (fun k hk hS=>⟨⟨by omega,fun e=> ?_⟩, ?_⟩),hok⟩
  ·rcases h3 k e with e | e
   ·have:=hown0 k e; omega
   ·omega
  ·exact h2.block k hk (fun e=>by have:=hown0 k e.symm; omega)
  ·rcases h3 k e with e | e
   ·exact hS.2 e
   ·omega
  ·rw[h2.block k (by omega) (fun e=>hS.2 e.symm)];exact hm.grown.block k hk (by simp; omega)
 ·refine⟨h2.os.trans (hm.grown.os.trans h.grown.os),h2.tape.trans (hm.grown.tape.trans h.grown.tape),h2.output.trans (hm.grown.output.trans h.grown.output),Nat.le_trans hg1 (Nat.le_trans hgs h2.size),fun k hk hn=> ?_⟩;rw[h2.block k (by omega) (fun e=>by have:=hown0 k e.symm; omega),hm.grown.block k (by omega) hn];exact h.grown.block k hk hn
theorem wX {data:List UInt8} (hb: ¬32768<data.length) {n:Nat} {s1:RS} (h1:(jB data 4096 ⟨0,0,0⟩).1.n.toNat=n) (h2:(jB data 4096 ⟨0,0,0⟩).2=s1):bm data=(cw data n [] s1).bind fun p=>if eZ data p.2=0/\bV p.1=true then some p.1 else none:=by
 rw[<-Cn]; unfold Cm; rw[if_neg hb,h1,h2]
theorem uO {data:List UInt8} {n:Nat} {l:List az} {s:RS} (he:s.err=0):cw data (n+1) l s=(kL data s).bind fun p=>cw data n (l++[p.1]) p.2:=by rw[cw,if_pos he]
theorem uN {data:List UInt8} {n:Nat} {l:List az} {s:RS} (he: ¬s.err=0):cw data n l s=some (l,s):=by
 cases n with
 | zero=>rfl
 | succ n=>rw[cw,if_neg he]
theorem uf {data:List UInt8} {n:Nat} {l:List aL} {s:RS} (he: ¬s.err=0):bT data n l s=(l,s):=by
 cases n with
 | zero=>rfl
 | succ n=>rw[bT,if_neg he]
theorem BX {data:List UInt8} {s s2 s3 s4 s5:RS} {nm:ByteArray} {kd md:Int} {td:Nat} (a1:(lm data 64 s).1.s=nm) (a2:(lm data 64 s).2=s2) (b1:(ft data s2).1=kd) (b2:(ft data s2).2=s3) (c1:(ft data s3).1=md) (c2:(ft data s3).2=s4) (d1:(nx data s4).1.u=td) (d2:(nx data s4).2=s5):kL data s=mq data nm kd md td s5:=by
 unfold kL; rw[a1,a2,b1,b2,c1,c2,d1,d2]
theorem mY {data:List UInt8} {s s1 s2:RS} {nm:ByteArray} {kd md td:Int} {n:Nat} {ch:List aL} (hk:kd=1) (h1:(jB data 32768 s).1.n.toNat=n) (h2:(jB data 32768 s).2=s1) (h3:bT data n [] s1=(ch,s2)):cT data nm kd md td s=(⟨nm,kd,md,td,dk ch,⟨#[]⟩,ch,aZ⟩,s2):=by
 unfold cT; rw[if_pos hk,h1,h2,h3]
theorem wP {data:List UInt8} {s s1:RS} {nm:ByteArray} {kd md td:Int} {r:aL} (hk:kd=2) (h1:(gL data s).1=r) (h2:(gL data s).2=s1):cT data nm kd md td s=(⟨nm,kd,md,td,0,⟨#[]⟩,[],r⟩,s1):=by
 unfold cT; rw[if_neg (by omega),if_pos hk,h1,h2]
theorem uI {data:List UInt8} {s s1:RS} {nm lk:ByteArray} {kd md td:Int} (hk1: ¬kd=1) (hk2: ¬kd=2) (h1:(lm data 512 s).1.s=lk) (h2:(lm data 512 s).2=s1):cT data nm kd md td s=(⟨nm,kd,md,td,0,lk,[],aZ⟩,s1):=by
 unfold cT; rw[if_neg hk1,if_neg hk2,h1,h2]
theorem ug {data:List UInt8} {n:Nat} {l:List aL} {s s1:RS} {r:aL} (he:s.err=0) (h1:(gL data s).1=r) (h2:(gL data s).2=s1):bT data (n+1) l s=bT data n (l++[r]) s1:=by rw[bT,if_pos he,h1,h2]
theorem EN {ch:List aL} {r:aL} (h: ∀x∈ch,br x) (hr:br r): ∀x∈ch++[r],br x:=by
 intro x hx
 rcases List.mem_append.1 hx with hx | hx
 ·exact h x hx
 ·simp only[List.mem_singleton]at hx; subst hx; exact hr
def FN (data:List UInt8) (w:World) (e:Ending) (w':World):Prop:=Below w.heap.size w w'/\match bm data with
 | none=>e= .returned (.tuple #[.slice none 0 0, .bool false])
 | some l=> ∃v,e= .returned (.tuple #[v, .bool true])/\aU (w.heap.size<= ·) w' v l
theorem uJ (S:Nat->Prop) (data:List UInt8) (v:Value) (w:World) (hv:aw S w v data):Calls Tryz.prog 20 #[v] w (FN data w):=by
 obtain⟨_,a,cap,rfl,hn,hm,-⟩:=id hv;unfold maxLen at hm;have HV:=ab hv;clear hv
 by_cases hbig:32768<data.length
 ·have HP:=ab (show bm data=none from jm hbig)
  go_enter Tryz.func20,Tryz.ntmps20
  go_wp2_with fail
  go_ret2
  exact⟨Below.refl _ _,by rw[HP.out]; rfl⟩
 ·have HBIG:=ab hbig;have hf1:=Gj;have hf2:=Gk;have hf4:=Gl;obtain⟨w1,hw1⟩: ∃w1:World,w1=w.alloc (.cells #[.slice a data.length cap, .int .i64 0, .int .i64 0, .int .i64 0] 112):=⟨_,rfl⟩;have hb1:Below w.heap.size w w1:=by rw[hw1]; exact(Below.refl _ _).alloc (Nat.le_refl _) _
  have HB1:=ab hb1;have HRD1:=ab (show cj w1 w.heap.size (.slice a data.length cap) data ⟨0,0,0⟩from⟨by rw[hw1]; exact heap_alloc_new w _,(aM.mono HV.out (T:=(· ≠w.heap.size)) (fun k hk _=>by omega) (by omega)).below (by omega) hb1,Nat.zero_le _,by omega⟩);have HO0:=ab (World.ownsRow_lit (e:=28) (size:=10) (base:=w1.heap.size) w1 #[] 0 (Nat.le_refl _) (Nat.zero_le _) (by simp))
  have HW1:=ab hw1;clear hb1 hw1
  go_enter Tryz.func20,Tryz.ntmps20
  go_wp2_with fail;rw[<-HW1.out];have hsz1:w.heap.size<w1.heap.size:=HRD1.out.lt;refine(FZ w.heap.size _ data ⟨0,0,0⟩ 4096 _ (HRD1.out.below ((Below.refl _ _).alloc (Nat.le_refl _) _)) (by omega)).mono ?_;rintro e w2 ⟨n,s1,hn1,hn2,hnm,rfl,h1,h2⟩;have HFIN:=ab (wX hbig hn1 hn2);obtain⟨FIN,hfin⟩: ∃FIN,FIN=cw data n [] s1:=⟨_,rfl⟩;rw[<-hfin]at HFIN;have HINV0:=ab (show oe w1 w.heap.size w2 (.slice a data.length cap) (.slice (some ⟨w1.heap.size,0,none⟩) 0 0) data s1 []from
   ⟨h1,⟨_,HRD1.out⟩,⟨[],HO0.out.kept h2 (.inr (fun e=>by simp[Value.ownBlock]at e; omega)),rfl⟩,ak (aW ((Below.refl _ _).alloc (Nat.le_refl _) _) _) h2⟩)
  have HFI:=ab hfin.symm;obtain⟨rb,hrb⟩: ∃rb,rb=w.heap.size:=⟨_,rfl⟩;have HRB:=ab hrb;have HZ:=ab (show w1.heap.size=rb+1 by rw[HW1.out,hrb]; simp);have hge:w.heap.size<=rb:=by omega
  have hsz2:rb<w1.heap.size:=by omega
  rw[<-hrb]at HINV0 HRD1 ⊢;clear hn1 hn2 h1 h2 hfin hbig hrb;go_wp2_with fail
  go_loopw [5,7] (fun o i wr=> ∃(k:Nat) (l:List az) (s:RS),k<=n/\i= .int .i64 k/\l.length=k/\cw data (n-k) l s=FIN/\oe w1 rb wr (.slice a data.length cap) o data s l) (fun _ i _=>n-(intOf i).toNat)
  case atStart=>exact⟨0,[],s1,Nat.zero_le _,rfl,rfl,HFI.out,by have h:=HINV0.out; rw[HZ.out]at h; exact h⟩
  case round=>
   obtain⟨k,l,s,hk,rfl,hlk,hit,hinv⟩:=hrel;have HIT:=ab hit;have HINV:=ab hinv;have HLK:=ab hlk;obtain⟨cells,hown,hrow⟩:=hinv.row;have HOWN:=ab hown;have HROW:=ab hrow;obtain⟨av,cv0,hvs,hvn,hvm⟩:=aj hown;have HRD:=ab hinv.rd;subst hvs;have r3:=ai (k:=3) hinv.rd.box;simp only[aN]at r3;clear hit hinv hlk hown hrow
   by_cases hlt:k<n
   ·by_cases he:s.err=0
    ·have HE:=ab he;rw[he]at r3;have HIN:=ab (show(kL data s).bind (fun p=>cw data (n-(k+1)) (l++[p.1]) p.2)=FIN by rw[<-HIT.out,show n-k=n-(k+1)+1 by omega,uO he]);clear he;go_wp2_with fail;refine(Gb rb _ data s 64 _ HRD.out (by omega)).mono ?_;rintro e w3 ⟨nm,s2,ha1,ha2,hnms,rfl,h1,h2⟩;have HA1:=ab ha1;have HA2:=ab ha2;have HR3:=ab h1
     have HG3:=ab h2;clear ha1 ha2 h1 h2 r3;go_wp2_with fail;refine(FQ rb _ data s2 _ HR3.out).mono ?_;rintro e w4 ⟨kd,s3,hb1,hb2,rfl,h1,h2⟩;have HB_1:=ab hb1;have HB_2:=ab hb2;have HR4:=ab h1;have HG4:=ab (ak HG3.out h2);clear hb1 hb2 h1 h2 HR3 HG3;go_wp2_with fail;refine(FQ rb _ data s3 _ HR4.out).mono ?_;rintro e w5 ⟨md,s4,hc1,hc2,rfl,h1,h2⟩;have HC1:=ab hc1
     have HC2:=ab hc2;have HR5:=ab h1;have HG5:=ab (ak HG4.out h2);clear hc1 hc2 h1 h2 HR4 HG4;go_wp2_with fail;have HM0:=ab (ee.start HRD.out HR5.out HG5.out #[.string nm, .int .i64 kd, .int .i64 md, .int .i64 0, .int .i64 0, .string ⟨#[]⟩, .slice none 0 0, .string ⟨#[]⟩, .int .i64 0, .int .i64 0]);obtain⟨ib,hib⟩: ∃ib,ib=w5.heap.size:=⟨_,rfl⟩;rw[<-hib]at HM0 ⊢;have HIB:=ab hib
     clear hib;have hibr:rb<ib:=Nat.lt_of_lt_of_le HM0.out.lt HM0.out.ge;refine(Gq rb _ data s4 _ HM0.out.rd).mono ?_;rintro e w6 ⟨td,s5,hd1,hd2,htd,rfl,h1,h2⟩;have HM1:=ab (HM0.out.call h1 h2);have HIR:=ab (BX HA1.out HA2.out HB_1.out HB_2.out HC1.out HC2.out hd1 hd2);have ck:=HM1.out.cell 3;have fk:=HM1.out.free 3;simp only[aN]at ck;clear hd1 hd2 h1 h2 HM0 HR5 HG5
     by_cases hbg:9223372036854775807<td
     ·have HNO:=ab (show bm data=none by
       have h1:=HIN.out;rw[HIR.out]at h1;unfold mq at h1;rw[if_pos hbg]at h1;rw[HFIN.out,<-h1]; rfl)
      go_wp2_with fail
      go_ret2
      have hfb:Below w.heap.size w w6:=HB1.out.trans ((bS.of_grown (S:=fun k=>k=rb) (ak HINV.out.grown HM1.out.grown) (fun k hk=>by cases hk; rfl)).below HB1.out.size (fun k hk=>by subst hk; exact hge));exact⟨hfb,by rw[HNO.out]; rfl⟩
     ·have HIR2:=ab (show kL data s=some (cT data nm kd md td s5) by rw[HIR.out]; unfold mq; rw[if_neg hbg]);have HTV:=ab (show wrap64 (td:Int)=(td:Int) by unfold wrap64; omega)
      go_upto_region 14 with(fail)
      obtain⟨w7,hw7⟩: ∃wx:World,wx=w6.setCell ⟨ib,3,none⟩ (.int .i64 (td:Int)):=⟨_,rfl⟩;rw[<-hw7];have m7:=HM1.out.set 3 (.int .i64 (td:Int));rw[<-hw7]at m7;simp only[List.setIfInBounds_toArray,List.set_cons_succ,List.set_cons_zero]at m7;have HM2:=ab m7;clear m7 hw7 ck fk HM1;have ck:=HM2.out.cell 1;simp only[aN]at ck
      by_cases hk1:kd=1
      ·have e1:(kd == 1)=true:=by simp[hk1]
       have HK1:=ab hk1;clear hk1;go_wp2_with fail;refine(FZ rb _ data s5 32768 _ HM2.out.rd (by omega)).mono ?_;rintro e w8 ⟨n2,s6,hp1,hp2,hn2,rfl,h1,h2⟩;have HP1:=ab hp1;have HP2:=ab hp2;have HM3:=ab (HM2.out.call h1 h2);obtain⟨CF,hcf⟩: ∃CF,CF=bT data n2 [] s6:=⟨_,rfl⟩;have HCF:=ab hcf;clear hp1 hp2 h1 h2 ck HM2 hcf;obtain⟨wo,hwo⟩: ∃wo:World,wo=wr:=⟨_,rfl⟩
       subst hwo;go_wp2_with fail
       go_loopw [11] (fun i wq=> ∃(j:Nat) (ch:List aL) (s7:RS) (cv:Value),j<=n2/\i= .int .i64 j/\ch.length=j/\bT data (n2-j) ch s7=CF/\(∀x∈ch,br x)/\ee rb ib wo wq (.slice a data.length cap) data s7 #[.string nm, .int .i64 kd, .int .i64 md, .int .i64 (td:Int), .int .i64 (dk ch), .string ⟨#[]⟩,cv, .string ⟨#[]⟩, .int .i64 0, .int .i64 0]/\wq.ownsRow (ib+1) 26 3 cv ch.length (ch.flatMap dp)) (fun i _=>n2-(intOf i).toNat)
       case atStart=>exact⟨0,[],s6, .slice none 0 0,Nat.zero_le _,rfl,rfl,HCF.out.symm,by simp,HM3.out,World.ownsRow_nil _ _ _ _⟩
       case round=>
        obtain⟨j,ch,s7,cv,hj,rfl,hlj,hch,hcok,hmid,how⟩:=hrel;have HLJ:=ab hlj;have HCH:=ab hch;have HCO:=ab hcok;have HMQ:=ab hmid;have HOQ:=ab how;obtain⟨a6,c6,hv6,hvn6,hvm6⟩:=aj how;subst hv6;have r3:=ai (k:=3) hmid.rd.box;simp only[aN]at r3;clear hlj hch hcok hmid how
        by_cases hlt2:j<n2
        ·by_cases he7:s7.err=0
         ·rw[he7]at r3;have HE7:=ab he7;clear he7;go_wp2_with fail;refine(yE rb _ data s7 _ HMQ.out.rd).mono ?_;rintro e wb ⟨r,s8,hq1,hq2,hrok,rfl,h1,h2⟩;have HRO:=ab hrok;have HNC:=ab (show bT data (n2-(j+1)) (ch++[r]) s8=CF by rw[<-HCH.out,show n2-j=n2-(j+1)+1 by omega,ug HE7.out hq1 hq2]);have HTS:=ab (kF ch r);have HMB:=ab (HMQ.out.call h1 h2)
          have HOB:=ab (HOQ.out.kept h2 (.inr (by
           intro e;have:=(HOQ.out.lt _ e).1
           omega)))
          unfold bF;clear hq1 hq2 h1 h2 hrok r3 HMQ
          go_upto_region 22 with(fail)
          obtain⟨wc,hwc⟩: ∃wx:World,wx=wb.alloc (.cells #[.string r.name, .int .i64 r.gen, .int .i64 r.size] 26):=⟨_,rfl⟩;rw[<-hwc];have hbwc:Below wb.heap.size wb wc:=by rw[hwc]; exact(Below.refl _ _).alloc (Nat.le_refl _) _
          have HXC:=ab (show wc.heap[wb.heap.size]? =some (.cells #[.string r.name, .int .i64 r.gen, .int .i64 r.size] 26 (0,0)) by rw[hwc]; exact heap_alloc_new wb _);have HMC:=ab (HMB.out.below hbwc);have HOC:=ab (pH HOB.out hbwc);have hbz2:ib+1<=wc.heap.size:=(Array.getElem?_eq_some_iff.1 HMC.out.box).1;have hbx3:wb.heap.size<wc.heap.size:=lt_of_block HXC.out;have HOL:=ab (show ∀k,(Value.slice a6 ch.length c6).ownBlock=some k->k<wb.heap.size from fun k hk=>(HOB.out.lt k hk).2)
          have hibw:ib<wb.heap.size:=(Array.getElem?_eq_some_iff.1 HMB.out.box).1;have y4:=HMC.out.cell 4;have y6:=HMC.out.cell 6;have f6:=HMC.out.free 6;simp only[aN]at y4 y6;have x0:=ai (k:=0) HXC.out;have x1:=ai (k:=1) HXC.out;have x2:=ai (k:=2) HXC.out;simp only[aN]at x0 x1 x2;clear hwc hbwc HMB HOB
          go_upto_region 23 with(at_builtin; go_must (refine aG Tryz.appRefs rfl _ _ rfl (ib+1) (.slice a6 ch.length c6) ch.length (ch.flatMap dp) rfl wc [.string r.name, .int .i64 r.gen, .int .i64 r.size] _ rfl rfl (jY (r:=r)) HOC.out (by have:=HLJ.out; omega) hbz2 ?_); intro v' wd hown' hgrow' _ hpl; have HOD:=ab hown'; have HGD:=ab hgrow'; have HPD:=ab hpl; have HMD:=ab (HMC.out.app hgrow' (fun k hk=>by have:=(HOC.out.lt k hk).1; omega)); have k4:=HMD.out.cell 4; have k6:=HMD.out.cell 6; have g6:=HMD.out.free 6; simp only[aN]at k4 k6; obtain⟨ae,ce,rfl,-,-⟩:=aj hown'; clear hown' hgrow' hpl)
          have HXD:=ab ((HGD.out.block wb.heap.size hbx3 (fun e=>by have:=HOL.out _ e.symm; omega)).trans HXC.out);have HOD2:=ab (show wd.ownsRow (ib+1) 26 3 (.slice ae (ch.length+1) ce) (ch++[r]).length ((ch++[r]).flatMap dp) by rw[List.length_append,List.flatMap_append]; simpa [dp]using HOD.out);obtain⟨wf,hwf⟩: ∃wx:World,wx=wd.setCell ⟨ib,6,none⟩ (.slice ae (ch.length+1) ce):=⟨_,rfl⟩
          rw[<-hwf];have m6:=HMD.out.set 6 (.slice ae (ch.length+1) ce);rw[<-hwf]at m6;simp only[List.setIfInBounds_toArray,List.set_cons_succ,List.set_cons_zero]at m6;have HMF:=ab m6;have HXF:=ab (show wf.heap[wb.heap.size]? =some _ by rw[hwf]; exact bc HXD.out (by omega) _);have HOF:=ab (show wf.ownsRow (ib+1) 26 3 (.slice ae (ch.length+1) ce) (ch++[r]).length ((ch++[r]).flatMap dp) by rw[hwf]; exact HOD2.out.kept (aE _ _ _ _) (.inr (by
           intro e;have:=(HOD2.out.lt _ e).1
           omega)))
          clear m6 hwf k4 k6 g6 y4 y6 f6 x0 x1 x2;have k4:=HMF.out.cell 4;have g4:=HMF.out.free 4;have x2:=ai (k:=2) HXF.out;simp only[aN]at k4 x2;go_wp2_with fail
          go_roundw
          case rel=>
           have m4:=HMF.out.set 4 (.int .i64 (wrap64 (dk ch+r.size)));simp only[List.setIfInBounds_toArray,List.set_cons_succ,List.set_cons_zero]at m4;refine⟨j+1,ch++[r],s8, .slice ae (ch.length+1) ce,by omega,by go_num,by simp[HLJ.out],HNC.out,EN HCO.out HRO.out,by rw[HTS.out]; exact m4,HOF.out.kept (aE _ _ _ _) (.inr (by
            intro e;have:=(HOF.out.lt _ e).1
            omega))⟩
          case measure=>simp[intOf]; omega
         ·have e7:(s7.err == 0)=false:=by simp[he7]
          have HFC:=ab (show bT data n2 [] s6=(ch,s7) by rw[<-HCF.out,<-HCH.out]; exact uf he7);clear he7;have HIT2:=ab (HIR2.out.trans (congrArg some (mY HK1.out HP1.out HP2.out HFC.out)));have HNX:=ab (show cw data (n-(k+1)) (l++[⟨nm,kd,md,td,dk ch,⟨#[]⟩,ch,aZ⟩]) s7=FIN by have h1:=HIN.out; rw[HIT2.out]at h1; exact h1);have HOK:=ab (show cA ⟨nm,kd,md,td,dk ch,⟨#[]⟩,ch,aZ⟩from⟨by show nm.size<=_; unfold maxLen; omega,by show ByteArray.size ⟨_⟩<=_; unfold maxLen; simp[ByteArray.size],gD⟩)
          have HCV:=ab (show aQ (wo.heap.size<= ·) wr (.slice a6 ch.length c6) ch from aQ.same (fw HOQ.out HCO.out) (fun k hk hS=>⟨by have:=HMQ.out.ge; have:=hS.1; show wo.heap.size<=k; omega,rfl⟩));have d0:=HMQ.out.cell 0;have d1:=HMQ.out.cell 1;have d2:=HMQ.out.cell 2;have d3:=HMQ.out.cell 3;have d4:=HMQ.out.cell 4;have d5:=HMQ.out.cell 5;have d6:=HMQ.out.cell 6
          have d7:=HMQ.out.cell 7;have d8:=HMQ.out.cell 8;have d9:=HMQ.out.cell 9;simp only[aN]at d0 d1 d2 d3 d4 d5 d6 d7 d8 d9;have HOC:=ab (HOWN.out.kept HMQ.out.grown (.inr (by
           intro e;have:=(HOWN.out.lt _ e).1
           omega)))
          have hbz:w1.heap.size<=wr.heap.size:=Nat.le_trans HINV.out.grown.size HMQ.out.grown.size;have hlen:l.length<4096:=by have:=HLK.out; omega
          go_wp2_with (at_builtin; go_must (refine aG Tryz.appItems rfl _ _ rfl w1.heap.size (.slice av l.length cv0) l.length cells rfl wr [.string nm, .int .i64 kd, .int .i64 md, .int .i64 (td:Int), .int .i64 (dk ch), .string (⟨#[]⟩), .slice a6 ch.length c6, .string ⟨#[]⟩, .int .i64 0, .int .i64 0] _ rfl rfl (dT (it:=⟨nm,kd,md,td,dk ch,⟨#[]⟩,ch,aZ⟩)) HOC.out (by omega) hbz ?_); intro v' we hown' hgrow' _ hpl; have HIE:=ab (HINV.out.added (it:=⟨nm,kd,md,td,dk ch,⟨#[]⟩,ch,aZ⟩) HMQ.out HCV.out HOK.out HROW.out HOWN.out hown' hgrow' hpl); obtain⟨ae,ce,rfl,-,-⟩:=aj hown'; clear hown' hgrow' hpl)
          go_roundw
          case rel=>exact⟨k+1,l++[⟨nm,kd,md,td,dk ch,⟨#[]⟩,ch,aZ⟩],s7,by omega,by go_num,by simp[HLK.out],HNX.out,HIE.out⟩
          case measure=>simp[intOf]; omega
        ·obtain rfl:j=n2:=by omega
         have HFC:=ab (show bT data j [] s6=(ch,s7) by rw[<-HCF.out,<-HCH.out,Nat.sub_self]; rfl);have HIT2:=ab (HIR2.out.trans (congrArg some (mY HK1.out HP1.out HP2.out HFC.out)));have HNX:=ab (show cw data (n-(k+1)) (l++[⟨nm,kd,md,td,dk ch,⟨#[]⟩,ch,aZ⟩]) s7=FIN by have h1:=HIN.out; rw[HIT2.out]at h1; exact h1);have HOK:=ab (show cA ⟨nm,kd,md,td,dk ch,⟨#[]⟩,ch,aZ⟩from⟨by show nm.size<=_; unfold maxLen; omega,by show ByteArray.size ⟨_⟩<=_; unfold maxLen; simp[ByteArray.size],gD⟩)
         have HCV:=ab (show aQ (wo.heap.size<= ·) wr (.slice a6 ch.length c6) ch from aQ.same (fw HOQ.out HCO.out) (fun k hk hS=>⟨by have:=HMQ.out.ge; have:=hS.1; show wo.heap.size<=k; omega,rfl⟩));have d0:=HMQ.out.cell 0;have d1:=HMQ.out.cell 1;have d2:=HMQ.out.cell 2;have d3:=HMQ.out.cell 3;have d4:=HMQ.out.cell 4;have d5:=HMQ.out.cell 5;have d6:=HMQ.out.cell 6
         have d7:=HMQ.out.cell 7;have d8:=HMQ.out.cell 8;have d9:=HMQ.out.cell 9;simp only[aN]at d0 d1 d2 d3 d4 d5 d6 d7 d8 d9;have HOC:=ab (HOWN.out.kept HMQ.out.grown (.inr (by
          intro e;have:=(HOWN.out.lt _ e).1
          omega)))
         have hbz:w1.heap.size<=wr.heap.size:=Nat.le_trans HINV.out.grown.size HMQ.out.grown.size;have hlen:l.length<4096:=by have:=HLK.out; omega
         go_wp2_with (at_builtin; go_must (refine aG Tryz.appItems rfl _ _ rfl w1.heap.size (.slice av l.length cv0) l.length cells rfl wr [.string nm, .int .i64 kd, .int .i64 md, .int .i64 (td:Int), .int .i64 (dk ch), .string (⟨#[]⟩), .slice a6 ch.length c6, .string ⟨#[]⟩, .int .i64 0, .int .i64 0] _ rfl rfl (dT (it:=⟨nm,kd,md,td,dk ch,⟨#[]⟩,ch,aZ⟩)) HOC.out (by omega) hbz ?_); intro v' we hown' hgrow' _ hpl; have HIE:=ab (HINV.out.added (it:=⟨nm,kd,md,td,dk ch,⟨#[]⟩,ch,aZ⟩) HMQ.out HCV.out HOK.out HROW.out HOWN.out hown' hgrow' hpl); obtain⟨ae,ce,rfl,-,-⟩:=aj hown'; clear hown' hgrow' hpl)
         go_roundw
         case rel=>exact⟨k+1,l++[⟨nm,kd,md,td,dk ch,⟨#[]⟩,ch,aZ⟩],s7,by omega,by go_num,by simp[HLK.out],HNX.out,HIE.out⟩
         case measure=>simp[intOf]; omega
      ·have e1:(kd == 1)=false:=by simp[hk1]
       by_cases hk2:kd=2
       ·have e2:(kd == 2)=true:=by simp[hk2]
        have HK2:=ab hk2;clear hk1 hk2;go_wp2_with fail;refine(yE rb _ data s5 _ HM2.out.rd).mono ?_;rintro e wa ⟨r,s6,hq1,hq2,hrok,rfl,h1,h2⟩;have HRO:=ab hrok;have HIT2:=ab (HIR2.out.trans (congrArg some (wP HK2.out hq1 hq2)));have HM3:=ab (HM2.out.call h1 h2);have c7:=HM3.out.cell 7;have c8:=HM3.out.cell 8;have c9:=HM3.out.cell 9;have f7:=HM3.out.free 7;have f8:=HM3.out.free 8
        have f9:=HM3.out.free 9;simp only[aN]at c7 c8 c9;unfold bF;clear hq1 hq2 h1 h2 hrok ck
        go_upto_region 26 with(fail)
        obtain⟨wb,hwb⟩: ∃wx:World,wx=((wa.setCell ⟨ib,7,none⟩ (.string r.name)).setCell ⟨ib,8,none⟩ (.int .i64 r.gen)).setCell ⟨ib,9,none⟩ (.int .i64 r.size):=⟨_,rfl⟩;rw[<-hwb];have m4:=((HM3.out.set 7 (.string r.name)).set 8 (.int .i64 r.gen)).set 9 (.int .i64 r.size);rw[<-hwb]at m4;simp only[List.setIfInBounds_toArray,List.set_cons_succ,List.set_cons_zero]at m4;have HM8:=ab m4
        have HNX:=ab (show cw data (n-(k+1)) (l++[⟨nm,kd,md,td,0,⟨#[]⟩,[],r⟩]) s6=FIN by have h1:=HIN.out; rw[HIT2.out]at h1; exact h1);have HOK:=ab (show cA ⟨nm,kd,md,td,0,⟨#[]⟩,[],r⟩from⟨by show nm.size<=_; unfold maxLen; omega,by show ByteArray.size ⟨_⟩<=_; unfold maxLen; simp[ByteArray.size],HRO.out⟩);have HCV:=ab (show aQ (wr.heap.size<= ·) wb (.slice none 0 0) []from aP.nil)
        clear m4 hwb c7 c8 c9 f7 f8 f9 HM3 HM2;have d0:=HM8.out.cell 0;have d1:=HM8.out.cell 1;have d2:=HM8.out.cell 2;have d3:=HM8.out.cell 3;have d4:=HM8.out.cell 4;have d5:=HM8.out.cell 5;have d6:=HM8.out.cell 6;have d7:=HM8.out.cell 7;have d8:=HM8.out.cell 8;have d9:=HM8.out.cell 9;simp only[aN]at d0 d1 d2 d3 d4 d5 d6 d7 d8 d9;have HOC:=ab (HOWN.out.kept HM8.out.grown (.inr (by
         intro e;have:=(HOWN.out.lt _ e).1
         omega)))
        have hbz:w1.heap.size<=wb.heap.size:=Nat.le_trans HINV.out.grown.size HM8.out.grown.size;have hlen:l.length<4096:=by have:=HLK.out; omega
        go_wp2_with (at_builtin; go_must (refine aG Tryz.appItems rfl _ _ rfl w1.heap.size (.slice av l.length cv0) l.length cells rfl wb [.string nm, .int .i64 kd, .int .i64 md, .int .i64 (td:Int), .int .i64 (0), .string (⟨#[]⟩), .slice none 0 0, .string r.name, .int .i64 r.gen, .int .i64 r.size] _ rfl rfl (dT (it:=⟨nm,kd,md,td,0,⟨#[]⟩,[],r⟩)) HOC.out (by omega) hbz ?_); intro v' we hown' hgrow' _ hpl; have HIE:=ab (HINV.out.added (it:=⟨nm,kd,md,td,0,⟨#[]⟩,[],r⟩) HM8.out HCV.out HOK.out HROW.out HOWN.out hown' hgrow' hpl); obtain⟨ae,ce,rfl,-,-⟩:=aj hown'; clear hown' hgrow' hpl)
        go_roundw
        case rel=>exact⟨k+1,l++[⟨nm,kd,md,td,0,⟨#[]⟩,[],r⟩],s6,by omega,by go_num,by simp[HLK.out],HNX.out,HIE.out⟩
        case measure=>simp[intOf]; omega
       ·have e2:(kd == 2)=false:=by simp[hk2]
        have HK1:=ab hk1;have HK2:=ab hk2;clear hk1 hk2;go_wp2_with fail;refine(Gb rb _ data s5 512 _ HM2.out.rd (by omega)).mono ?_;rintro e wa ⟨lk,s6,hq1,hq2,hlks,rfl,h1,h2⟩;have HIT2:=ab (HIR2.out.trans (congrArg some (uI HK1.out HK2.out hq1 hq2)));have HM3:=ab (HM2.out.call h1 h2);have c5:=HM3.out.cell 5;have f5:=HM3.out.free 5;simp only[aN]at c5;clear hq1 hq2 h1 h2 ck
        go_upto_region 26 with(fail)
        obtain⟨wb,hwb⟩: ∃wx:World,wx=wa.setCell ⟨ib,5,none⟩ (.string lk):=⟨_,rfl⟩;rw[<-hwb];have m4:=HM3.out.set 5 (.string lk);rw[<-hwb]at m4;simp only[List.setIfInBounds_toArray,List.set_cons_succ,List.set_cons_zero]at m4;have HM8:=ab m4;have HNX:=ab (show cw data (n-(k+1)) (l++[⟨nm,kd,md,td,0,lk,[],aZ⟩]) s6=FIN by have h1:=HIN.out; rw[HIT2.out]at h1; exact h1)
        have HOK:=ab (show cA ⟨nm,kd,md,td,0,lk,[],aZ⟩from⟨by show nm.size<=_; unfold maxLen; omega,by show lk.size<=_; unfold maxLen; omega,gD⟩);have HCV:=ab (show aQ (wr.heap.size<= ·) wb (.slice none 0 0) []from aP.nil);clear m4 hwb c5 f5 HM3 HM2;have d0:=HM8.out.cell 0;have d1:=HM8.out.cell 1;have d2:=HM8.out.cell 2;have d3:=HM8.out.cell 3;have d4:=HM8.out.cell 4
        have d5:=HM8.out.cell 5;have d6:=HM8.out.cell 6;have d7:=HM8.out.cell 7;have d8:=HM8.out.cell 8;have d9:=HM8.out.cell 9;simp only[aN]at d0 d1 d2 d3 d4 d5 d6 d7 d8 d9;have HOC:=ab (HOWN.out.kept HM8.out.grown (.inr (by
         intro e;have:=(HOWN.out.lt _ e).1
         omega)))
        have hbz:w1.heap.size<=wb.heap.size:=Nat.le_trans HINV.out.grown.size HM8.out.grown.size;have hlen:l.length<4096:=by have:=HLK.out; omega
        go_wp2_with (at_builtin; go_must (refine aG Tryz.appItems rfl _ _ rfl w1.heap.size (.slice av l.length cv0) l.length cells rfl wb [.string nm, .int .i64 kd, .int .i64 md, .int .i64 (td:Int), .int .i64 (0), .string (lk), .slice none 0 0, .string ⟨#[]⟩, .int .i64 0, .int .i64 0] _ rfl rfl (dT (it:=⟨nm,kd,md,td,0,lk,[],aZ⟩)) HOC.out (by omega) hbz ?_); intro v' we hown' hgrow' _ hpl; have HIE:=ab (HINV.out.added (it:=⟨nm,kd,md,td,0,lk,[],aZ⟩) HM8.out HCV.out HOK.out HROW.out HOWN.out hown' hgrow' hpl); obtain⟨ae,ce,rfl,-,-⟩:=aj hown'; clear hown' hgrow' hpl)
        go_roundw
        case rel=>exact⟨k+1,l++[⟨nm,kd,md,td,0,lk,[],aZ⟩],s6,by omega,by go_num,by simp[HLK.out],HNX.out,HIE.out⟩
        case measure=>simp[intOf]; omega
    ·have e3:(s.err == 0)=false:=by simp[he]
     have HFI2:=ab (show FIN=some (l,s) by rw[<-HIT.out]; exact uN he);clear he;have HIS:=ab (show bm data=if eZ data s=0/\bV l=true then some l else none by rw[HFIN.out,HFI2.out]; rfl);have HIA:=ab (show aU (w.heap.size<= ·) wr (.slice av l.length cv0) l from by
      have hww:=HB1.out.size;refine⟨cells,(bh HOWN.out).weak (fun k hk=>by have:=hk.1; omega),HROW.out.mono (fun c x _ hx=>hx.same (fun k hk hS=>⟨by have:=hS.1; omega,rfl⟩))⟩)
     have HFB:=ab (show Below w.heap.size w wr from HB1.out.trans ((bS.of_grown (S:=fun k=>k=rb) HINV.out.grown (fun k hk=>by cases hk; rfl)).below HB1.out.size (fun k hk=>by subst hk; exact hge)));go_wp2_with fail;refine(rm rb _ data s _ HRD.out).mono ?_;rintro e we ⟨⟨pe,rfl⟩,hbe⟩;have HFE:=ab (ah HFB.out hbe);have HIE:=ab (aU.below HIA.out hbe);obtain⟨ev,hev⟩: ∃ev:Int,ev=eZ data s:=⟨_,rfl⟩
     rw[<-hev];have HEV:=ab hev;clear hev hbe
     by_cases h0:ev=0
     ·subst h0
      cases hvn2:bV l
      ·have HIN:=ab (show bm data=none by rw[HIS.out,hvn2]; simp);have HVN:=ab hvn2;clear hvn2;go_wp2_with fail;refine(nU l false _ _ _ HIE.out HVN.out).mono ?_;rintro e wf ⟨rfl,hbf⟩;have HBF:=ab (ah HFE.out hbf);clear hbf;go_wp2_with fail
       go_ret2
       exact⟨HBF.out,by rw[HIN.out]; rfl⟩
      ·have HIN:=ab (show bm data=some l by rw[HIS.out,hvn2]; simp[HEV.out.symm]);have HVN:=ab hvn2;clear hvn2;go_wp2_with fail;refine(nU l true _ _ _ HIE.out HVN.out).mono ?_;rintro e wf ⟨rfl,hbf⟩;have HBF:=ab (ah HFE.out hbf);have HIF:=ab (aU.below HIE.out hbf);clear hbf;go_wp2_with fail
       go_ret2
       exact⟨HBF.out,by rw[HIN.out]; exact⟨_,rfl,HIF.out⟩⟩
     ·have HIN:=ab (show bm data=none by rw[HIS.out,if_neg (fun h=>h0 (HEV.out.trans h.1))]);have e6:(ev != 0)=true:=by simp[h0]
      clear h0;go_wp2_with fail
      go_ret2
      exact⟨HFE.out,by rw[HIN.out]; rfl⟩
   ·obtain rfl:k=n:=by omega
    have HFI2:=ab (show FIN=some (l,s) by rw[<-HIT.out,Nat.sub_self]; rfl);have HIS:=ab (show bm data=if eZ data s=0/\bV l=true then some l else none by rw[HFIN.out,HFI2.out]; rfl);have HIA:=ab (show aU (w.heap.size<= ·) wr (.slice av l.length cv0) l from by
     have hww:=HB1.out.size;refine⟨cells,(bh HOWN.out).weak (fun k hk=>by have:=hk.1; omega),HROW.out.mono (fun c x _ hx=>hx.same (fun k hk hS=>⟨by have:=hS.1; omega,rfl⟩))⟩)
    have HFB:=ab (show Below w.heap.size w wr from HB1.out.trans ((bS.of_grown (S:=fun k=>k=rb) HINV.out.grown (fun k hk=>by cases hk; rfl)).below HB1.out.size (fun k hk=>by subst hk; exact hge)));go_wp2_with fail;refine(rm rb _ data s _ HRD.out).mono ?_;rintro e we ⟨⟨pe,rfl⟩,hbe⟩;have HFE:=ab (ah HFB.out hbe);have HIE:=ab (aU.below HIA.out hbe);obtain⟨ev,hev⟩: ∃ev:Int,ev=eZ data s:=⟨_,rfl⟩
    rw[<-hev];have HEV:=ab hev;clear hev hbe
    by_cases h0:ev=0
    ·subst h0
     cases hvn2:bV l
     ·have HIN:=ab (show bm data=none by rw[HIS.out,hvn2]; simp);have HVN:=ab hvn2;clear hvn2;go_wp2_with fail;refine(nU l false _ _ _ HIE.out HVN.out).mono ?_;rintro e wf ⟨rfl,hbf⟩;have HBF:=ab (ah HFE.out hbf);clear hbf;go_wp2_with fail
      go_ret2
      exact⟨HBF.out,by rw[HIN.out]; rfl⟩
     ·have HIN:=ab (show bm data=some l by rw[HIS.out,hvn2]; simp[HEV.out.symm]);have HVN:=ab hvn2;clear hvn2;go_wp2_with fail;refine(nU l true _ _ _ HIE.out HVN.out).mono ?_;rintro e wf ⟨rfl,hbf⟩;have HBF:=ab (ah HFE.out hbf);have HIF:=ab (aU.below HIE.out hbf);clear hbf;go_wp2_with fail
      go_ret2
      exact⟨HBF.out,by rw[HIN.out]; exact⟨_,rfl,HIF.out⟩⟩
    ·have HIN:=ab (show bm data=none by rw[HIS.out,if_neg (fun h=>h0 (HEV.out.trans h.1))]);have e6:(ev != 0)=true:=by simp[h0]
     clear h0;go_wp2_with fail
     go_ret2
     exact⟨HFE.out,by rw[HIN.out]; rfl⟩
theorem nb :DG:=fun S data v w hv=>uJ S data v w hv
end Go.Proofs.YtpffpjbkbaleiaaGreatDoor
namespace Go.Proofs.YtpffpjbkbaleiaaGreatDoor
open Go.RowKit
theorem xJ (visit:aL->Except Int (List az)) (cv:Value) (I:World->Prop) (B n:Nat) (hI:xQ I B) (hV:Bn visit 95 cv I) (IH:Bo visit 95 cv I B n):Bo visit 95 cv I B (n+1):=by
 intro r st x st' base wb eb sb v w hw hlen h hr hi hB hbase;have HI:=ab hI;have HV:=ab hV;have HIH:=ab IH;have HB:=ab hB;have HR:=ab hr;have H:=ab h;have HIW:=ab hi;have HLEN:=ab hlen;have HWP:=ab hw;have hmen:(bg r st.2).length<=st'.2.length:=by
  rw[eA]at hw
  split at hw
  ·simp only[Option.some.injEq,Prod.mk.injEq]at hw;obtain⟨_,rfl⟩:=hw;exact Nat.le_refl _
  ·split at hw
   ·simp only[Option.some.injEq,Prod.mk.injEq]at hw;obtain⟨_,rfl⟩:=hw;exact Nat.le_refl _
   ·exact gE (iW visit n) _ _ x st' hw
 have hml:=jT r st.2;have HB0:=ab ((Below.refl w.heap.size w).alloc (Nat.le_refl _) (.cells #[.string r.name, .int .i64 r.gen, .int .i64 r.size] 26));have HK0:=ab (h.below HB0.out);have HBX0:=ab (heap_alloc_new w (.cells #[.string r.name, .int .i64 r.gen, .int .i64 r.size] 26));have hwb:wb<w.heap.size:=lt_of_block h.box;unfold bF;clear hw h hr hi hI hV IH hB
 go_enter Tryz.func133,Tryz.ntmps133
 go_wp2_with fail;refine(nr base wb eb sb _ v st.1 st.2 r _ HK0.out HR.out (by omega) (by simp; omega)).mono ?_;rintro e w1 ⟨rfl,v1,hk1,hg1,ho1⟩;have HK1:=ab hk1;have HBX1:=ab (show w1.heap[w.heap.size]? =some (.cells #[.string r.name, .int .i64 r.gen, .int .i64 r.size] 26 (0,0))from(hg1.block w.heap.size (by simp) (fun ho=>by
  rcases ho with e | e | e | e
  ·omega
  ·have:=H.out.exs.map.lt; omega
  ·have:=H.out.see.map.lt; omega
  ·have:=(H.out.row.lt _ e).2; omega)).trans HBX0.out)
 have hz1:=hg1.size;simp at hz1;have HG1:=ab (show bS (iI wb eb sb v) w w1 from(bS.of_below HB0.out (S:=iI wb eb sb v)).trans hg1 (fun _ _ h=>h));have HO1:=ab (show ∀k,v1.ownBlock=some k->v.ownBlock=some k\/w.heap.size<=k from fun k hk=>by
  rcases ho1 k hk with e | e
  ·exact .inl e
  ·simp at e; exact .inr (by omega))
 clear hk1 hg1 ho1 HK0 HBX0;have c1:=ai (k:=1) HK1.out.box;have q0:=ai (k:=0) HBX1.out;have q1:=ai (k:=1) HBX1.out;have q2:=ai (k:=2) HBX1.out;simp only[aN]at c1 q0 q1 q2;go_wp2_with fail;refine an [some 6] (by kernel_rfl) (by kernel_rfl) (by kernel_rfl) ?_;simp only[be,List.take_succ_cons,List.take_zero];obtain⟨W1,hW1⟩: ∃W1:World,W1=w1.drew:=⟨_,rfl⟩
 rw[<-hW1];have hbw1:Below w1.heap.size w1 W1:=by rw[hW1]; exact(Below.refl _ _).drew
 have HK2:=ab (HK1.out.below hbw1);have HBX2:=ab ((hbw1.block w.heap.size (by omega)).trans HBX1.out);have HG2:=ab (HG1.out.trans (bS.of_below hbw1 (S:=fun _=>False)) (fun _ _ h=>False.elim h));have hz2:=hbw1.size;clear hbw1 HK1 HBX1 HG1 c1 q0 q1 q2;have c1:=ai (k:=1) HK2.out.box;have q0:=ai (k:=0) HBX2.out;have q1:=ai (k:=1) HBX2.out;have q2:=ai (k:=2) HBX2.out
 have hlk:=HK2.out.exs.look HR.out;unfold bF at hlk;simp only[aN]at c1 q0 q1 q2;clear hW1
 by_cases hm:r∈st.1
 ·have e1:decide (r∈st.1)=true:=by simp[hm]
  rw[e1]at hlk;have HRES:=ab (show(x,st')=(0,(st.1,bg r st.2)) by have:=HWP.out; rw[eA,if_pos hm]at this; exact(Option.some.inj this).symm);clear e1 hm
  repeat (first | (refine aF rfl ?_; simp only[Act.put,aB,aC,aD]) | (refine aJ rfl (fun K hK=> ?_); go_simp; refine hK _ ?_; clear hK K))
  refine aI ?_;go_wp2_with fail;go_ret;obtain⟨e1,e2⟩:=Prod.mk.inj HRES.out;exact⟨cr e1.symm,v1,by rw[e2]; exact HK2.out,HG2.out,HO1.out⟩
 ·have e1:decide (r∈st.1)=false:=by simp[hm]
  rw[e1]at hlk;have HNM:=ab hm;have HWQ:=ab (show(match visit r with | .error x=>some (x,(st.1++[r],bg r st.2)) | .ok l=>fH (eA visit n) l (st.1++[r],bg r st.2))=some (x,st') by have:=HWP.out; rw[eA,if_neg hm]at this; exact this);clear e1 hm HWP
  repeat (first | (refine aF rfl ?_; simp only[Act.put,aB,aC,aD]) | (refine aJ rfl (fun K hK=> ?_); go_simp; refine hK _ ?_; clear hK K))
  refine aI ?_;go_wp2_with fail;refine an [some 5,none] (by kernel_rfl) (by kernel_rfl) (by kernel_rfl) ?_;simp only[be,List.take_succ_cons,List.take_zero,List.drop_succ_cons,List.drop_zero]
  repeat (first | (refine aF rfl ?_; simp only[Act.put,aB,aC,aD]) | (refine aJ rfl (fun K hK=> ?_); go_simp; refine hK _ ?_; clear hK K))
  refine aI ?_;refine bA rfl (fun K hK=> ?_);have HKd:=ab (HK2.out.below ((Below.refl _ W1).drew));go_wp2_with (at_mapUpdate; go_must (refine fC rfl _ _ _ rfl eb st.1 HKd.out.exs rfl r HR.out rfl rfl HNM.out ?_); intro w2 hset hg2);have heb:eb<w.heap.size:=H.out.exs.map.lt;have hsb:sb<w.heap.size:=H.out.see.map.lt;have hne1:=H.out.wne;have hne2:=H.out.ne;refine an [some 5,none,some 5] (by kernel_rfl) (by kernel_rfl) (by kernel_rfl) ?_
  simp only[be,List.take_succ_cons,List.take_zero,List.drop_succ_cons,List.drop_zero];obtain⟨W2,hW2⟩: ∃W2:World,W2=w2.drew:=⟨_,rfl⟩;rw[<-hW2];have hg3:W1.grownBy W2 (some eb):=by rw[hW2]; exact ak (b:=W1.drew) ⟨rfl,rfl,rfl,Nat.le_refl _,fun _ _ _=>rfl⟩ (ak hg2 ⟨rfl,rfl,rfl,Nat.le_refl _,fun _ _ _=>rfl⟩)
  have hset3:dB W2 eb (st.1++[r]):=by rw[hW2]; exact hset.same rfl
  have HK3:=ab (show fV W2 base wb eb sb (.func (.func 95) #[cv] #[]) v1 (st.1++[r]) (bg r st.2)from⟨eV hg3 HK2.out.box hne1.1,hset3,HK2.out.see.same (hg3.block sb HK2.out.see.map.lt (by simp; exact Ne.symm hne2)),HK2.out.row.kept hg3 (.inr (fun e=>(HK2.out.own e).2.1 rfl)),hne2⟩);have HBX3:=ab (eV hg3 HBX2.out (by omega));have HG3:=ab (show bS (iI wb eb sb v) w W2 from HG2.out.trans (bS.of_grown (S:=fun k=>k=eb) hg3 (fun k hk=>by cases hk; rfl)) (fun i _ h=> .inr (.inl h)))
  have hz3:=hg3.size;have HI3:=ab (HI.out w W2 HIW.out (oU HG3.out (fun k hk=>xn H.out HB.out hk)));clear hW2 hg3 hset3 hset hg2 HKd HK2 HBX2 HG2 c1 q0 q1 q2 hlk;have c0:=ai (k:=0) HK3.out.box;have q0:=ai (k:=0) HBX3.out;have q1:=ai (k:=1) HBX3.out;have q2:=ai (k:=2) HBX3.out;simp only[aN]at c0 q0 q1 q2
  repeat (first | (refine aF rfl ?_; simp only[Act.put,aB,aC,aD]) | (refine aJ rfl (fun K hK=> ?_); go_simp; refine hK _ ?_; clear hK K))
  refine aI ?_;refine bA rfl (fun K hK=> ?_);go_wp2_with fail;refine(HV.out W2 r HI3.out HR.out).mono ?_;rintro e w3 ⟨hb3,hres⟩;have HK4:=ab (HK3.out.below hb3);have HG4:=ab (HG3.out.trans (bS.of_below hb3 (S:=fun _=>False)) (fun _ _ h=>False.elim h));have HB3:=ab hb3;have hz4:=hb3.size;clear hb3 c0 q0 q1 q2
  cases hvr:visit r with
  | error y=>
   rw[hvr]at hres;obtain⟨rfl,hy⟩:=hres;have HRES:=ab (show(x,st')=(y,(st.1++[r],bg r st.2)) by have:=HWQ.out; rw[hvr]at this; exact(Option.some.inj this).symm);have e1:(y != 0)=true:=by simp[hy]
   clear hvr hy;go_wp2_with fail
   repeat (first | (refine aF rfl ?_; simp only[Act.put,aB,aC,aD]) | (refine aJ rfl (fun K hK=> ?_); go_simp; refine hK _ ?_; clear hK K))
   refine aI ?_;go_wp2_with fail;go_ret;obtain⟨e1,e2⟩:=Prod.mk.inj HRES.out;exact⟨cr e1.symm,v1,by rw[e2]; exact HK4.out,HG4.out,HO1.out⟩
  | ok l=>
   rw[hvr]at hres;obtain⟨itv,rfl,hits⟩:=hres;have HOV:=ab (show fH (eA visit n) l (st.1++[r],bg r st.2)=some (x,st') by have:=HWQ.out; rw[hvr]at this; exact this);obtain⟨ia,ic,rfl,hil,him,-⟩:=aP.shape hits dz.len;unfold maxLen at him;have HIN:=ab (show og w B W2.heap.size w3.heap.size base wb eb sb (.func (.func 95) #[cv] #[]) v (.slice ia l.length ic) l w3 v1 (st.1++[r]) (bg r st.2)from
    ⟨HK4.out,HG4.out,HO1.out,fun k hk=> .inl (HK3.out.row.lt k hk).2,⟨by omega,by omega,by omega⟩,⟨by omega,hz4,Nat.le_refl _⟩,aU.lt hits⟩)
   clear hvr hits HWQ HK3 HK4 HG3 HG4 HBX3;go_wp2_with fail
   repeat (first | (refine aF rfl ?_; simp only[Act.put,aB,aC,aD]) | (refine aJ rfl (fun K hK=> ?_); go_simp; refine hK _ ?_; clear hK K))
   refine aI ?_;go_wp2_with fail
   go_loopw [40] (fun i wr=> ∃(k:Nat) (v2:Value) (ex2 rs2:List aL),k<=l.length/\i= .int .i64 k/\fH (eA visit n) (l.drop k) (ex2,rs2)=some (x,st')/\og w B W2.heap.size w3.heap.size base wb eb sb (.func (.func 95) #[cv] #[]) v (.slice ia l.length ic) l wr v2 ex2 rs2) (fun i _=>l.length-(intOf i).toNat)
   case atStart=>exact⟨0,v1,_,_,Nat.zero_le _,rfl,HOV.out,HIN.out⟩
   case round=>
    obtain⟨k,v2,ex2,rs2,hk,rfl,hov,hin⟩:=hrel;have HV2:=ab hov;have HN2:=ab hin;clear hov hin
    by_cases hlt:k<l.length
    ·obtain⟨it,hr2⟩: ∃it,l[k]? =some it:=⟨l[k],by simp[hlt]⟩;obtain⟨b,o,ca,cc,rfl,hok,hrf,-,-,hcl⟩:=dM HN2.out.its (Below.refl _ _) hr2;have HOV2:=ab (show fH (eA visit n) (it::l.drop (k+1)) (ex2,rs2)=some (x,st') by
      obtain⟨hk',rfl⟩:=List.getElem?_eq_some_iff.1 hr2;rw[<-List.drop_eq_getElem_cons hk']; exact HV2.out)
     have hmb:=zR HOV2.out;have HOK:=ab hok;have q0:=hcl 0 (by omega);have q1:=hcl 1 (by omega);have q2:=hcl 2 (by omega);have q3:=hcl 3 (by omega);have q4:=hcl 4 (by omega);have q5:=hcl 5 (by omega);have q6:=hcl 6 (by omega);have q7:=hcl 7 (by omega);have q8:=hcl 8 (by omega);have q9:=hcl 9 (by omega);simp only[cL,AY,Nat.add_zero]at q0 q1 q2 q3 q4 q5 q6 q7 q8 q9
     obtain⟨wo,hwo⟩: ∃wo:World,wo=wr:=⟨_,rfl⟩;subst hwo;have HAL:=ab ((Below.refl wo.heap.size wo).alloc (Nat.le_refl _) (.cells #[.string it.name, .int .i64 it.kind, .int .i64 it.mode, .int .i64 it.time, .int .i64 it.size, .string it.link, .slice ca it.chunks.length cc, .string it.node.name, .int .i64 it.node.gen, .int .i64 it.node.size] 28));have HN3:=ab (HN2.out.below HAL.out)
     have HRF:=ab (show aQ (fun k=>W2.heap.size<=k/\k<w3.heap.size) _ (.slice ca it.chunks.length cc) it.chunks from aP.below hrf (by omega) HAL.out (fun _ _ _ h=>h));obtain⟨a',cap',hv',hcl1,hcl2,-⟩:=aP.shape hrf iG.len
     cases hv'
     unfold maxLen at hcl2;clear hr2 hok hrf hcl;have HBX5:=ab (heap_alloc_new wo (.cells #[.string it.name, .int .i64 it.kind, .int .i64 it.mode, .int .i64 it.time, .int .i64 it.size, .string it.link, .slice ca it.chunks.length cc, .string it.node.name, .int .i64 it.node.gen, .int .i64 it.node.size] 28));go_wp2_with fail;clear q0 q1 q2 q3 q4 q5 q6 q7 q8 q9
     go_loopw [47] (fun i wq=> ∃(j:Nat) (v3:Value),j<=it.chunks.length/\i= .int .i64 j/\og w B W2.heap.size w3.heap.size base wb eb sb (.func (.func 95) #[cv] #[]) v (.slice (some ⟨b,o,none⟩) l.length ic) l wq v3 ex2 (cG (it.chunks.take j) rs2)/\aQ (fun k=>W2.heap.size<=k/\k<w3.heap.size) wq (.slice ca it.chunks.length cc) it.chunks/\wq.heap[wo.heap.size]? =some (.cells #[.string it.name, .int .i64 it.kind, .int .i64 it.mode, .int .i64 it.time, .int .i64 it.size, .string it.link, .slice ca it.chunks.length cc, .string it.node.name, .int .i64 it.node.gen, .int .i64 it.node.size] 28 (0,0))) (fun i _=>it.chunks.length-(intOf i).toNat)
     case atStart=>exact⟨0,v2,Nat.zero_le _,rfl,HN3.out,HRF.out,HBX5.out⟩
     case round=>
      obtain⟨j,v3,hj,rfl,hin3,hrf3,hbx3⟩:=hrel;have HN4:=ab hin3;have HRF4:=ab hrf3;have HBX6:=ab hbx3;clear hin3 hrf3 hbx3 HN3 HRF HBX5 HAL
      by_cases hlt2:j<it.chunks.length
      ·obtain⟨c,hc⟩: ∃c,it.chunks[j]? =some c:=⟨it.chunks[j],by simp[hlt2]⟩;obtain⟨b2,o2,rfl,hcok,p0,p1,p2⟩:=fA HRF4.out (Below.refl _ _) hc;have HCO:=ab hcok;have HSN:=ab (show cG (it.chunks.take (j+1)) rs2=bg c (cG (it.chunks.take j) rs2) by rw[bz hc,vg]);have hjl:=pB it.chunks rs2 j;have HAL2:=ab ((Below.refl wr.heap.size wr).alloc (Nat.le_refl _) (.cells #[.string c.name, .int .i64 c.gen, .int .i64 c.size] 26))
       have HN5:=ab (HN4.out.below HAL2.out);have hbz:base<=(wr.alloc (.cells #[.string c.name, .int .i64 c.gen, .int .i64 c.size] 26)).heap.size:=Nat.le_trans hbase (Nat.le_trans HN4.out.gr.size HAL2.out.size);have HBZ:=ab hbz;clear hc hcok hbz;go_wp2_with fail;refine(nr base wb eb sb _ v3 ex2 _ c _ HN5.out.at' HCO.out (by omega) HBZ.out).mono ?_;rintro e w4 ⟨rfl,hres⟩;obtain⟨v4,hin4,hg4⟩:=HN5.out.step hres
       have HN6:=ab hin4;have hzz:=HAL2.out.size;have HRF6:=ab (show aQ (fun k=>W2.heap.size<=k/\k<w3.heap.size) w4 (.slice (some ⟨b2,o2,none⟩) it.chunks.length cc) it.chunks from aQ.same HRF4.out (fun k hk hS=>⟨hS,(hg4.block k (Nat.lt_of_lt_of_le hk hzz) (HN5.out.notown hS)).trans (HAL2.out.block k hk)⟩));have hbk:=cK HBX6.out (.cells #[.string c.name, .int .i64 c.gen, .int .i64 c.size] 26)
       have HBX7:=ab ((hg4.block wo.heap.size ((Array.getElem?_eq_some_iff.1 hbk).1) (HN5.out.at'.notown hbk (by decide) (by decide))).trans hbk);clear hres hin4 hg4 hbk p0 p1 p2;go_wp2_with fail
       go_roundw
       case rel=>exact⟨j+1,v4,by omega,by go_num,by rw[HSN.out]; exact HN6.out,HRF6.out,HBX7.out⟩
       case measure=>simp[intOf]; omega
      ·obtain rfl:j=it.chunks.length:=by omega
       rw[List.take_of_length_le (Nat.le_refl _)]at HN4;have c1:=ai (k:=1) HBX6.out;have c7:=ai (k:=7) HBX6.out;have c8:=ai (k:=8) HBX6.out;have c9:=ai (k:=9) HBX6.out;simp only[aN]at c1 c7 c8 c9
       rcases pG HOV2.out with⟨hk2,h2⟩ | ⟨hk2,y,st2,h1,h2⟩
       ·have e2:(it.kind != 2)=true:=by simp[hk2]
        have H2:=ab h2;clear hk2 h2;go_wp2_with fail
        go_roundw
        case rel=>exact⟨k+1,v3,_,_,by omega,by go_num,H2.out,HN4.out⟩
        case measure=>simp[intOf]; omega
       ·have e2:(it.kind != 2)=false:=by simp[hk2]
        have H1:=ab h1;have H2:=ab h2;have hle2:st2.2.length<=st'.2.length:=by
         rcases h2 with⟨_,h2⟩ | ⟨_,h2⟩
         ·obtain⟨_,rfl⟩:=Prod.mk.inj h2;exact Nat.le_refl _
         ·exact gE (iW visit n) _ _ x st' h2
        have HI4:=ab (HI.out w wr HIW.out (oU HN4.out.gr (fun k hk=>xn H.out HB.out hk)));have HBZ:=ab (Nat.le_trans hbase HN4.out.gr.size);clear hk2 h1 h2;go_wp2_with fail;refine(HIH.out it.node (ex2,cG it.chunks rs2) y st2 base wb eb sb v3 wr H1.out (by omega) HN4.out.at' HOK.out.nd HI4.out HB.out HBZ.out).mono ?_;rintro e w4 ⟨rfl,hres⟩;obtain⟨v4,hin4,-⟩:=HN4.out.step hres
        have HN6:=ab hin4;clear hres hin4 c1 c7 c8 c9
        rcases H2.out with⟨hy,h2⟩ | ⟨hy,h2⟩
        ·have e3:(y != 0)=true:=by simp[hy]
         have HRES:=ab h2;clear hy h2;go_wp2_with fail;go_ret;obtain⟨e1,e2⟩:=Prod.mk.inj HRES.out;exact⟨cr e1.symm,v4,by rw[e2]; exact HN6.out.at',HN6.out.gr,HN6.out.own⟩
        ·subst hy;have H3:=ab h2;clear h2;go_wp2_with fail
         go_roundw
         case rel=>exact⟨k+1,v4,st2.1,st2.2,by omega,by go_num,H3.out,HN6.out⟩
         case measure=>simp[intOf]; omega
    ·obtain rfl:k=l.length:=by omega
     have HRES:=ab (show(x,st')=(0,(ex2,rs2)) by have:=HV2.out; rw[List.drop_of_length_le (Nat.le_refl _)]at this; exact(Option.some.inj this).symm);go_wp2_with fail;go_ret;obtain⟨e1,e2⟩:=Prod.mk.inj HRES.out;exact⟨cr e1.symm,v2,by rw[e2]; exact HN2.out.at',HN2.out.gr,HN2.out.own⟩
theorem su (visit:aL->Except Int (List az)) (cv:Value) (I:World->Prop) (B:Nat) (hI:xQ I B) (hV:Bn visit 95 cv I): ∀n,Bo visit 95 cv I B n
 | 0=>by intro r st x st' base wb eb sb v w hw; simp[eA]at hw
 | n+1=>xJ visit cv I B n hI hV (su visit cv I B hI hV n)
end Go.Proofs.YtpffpjbkbaleiaaGreatDoor
namespace Go.Proofs.YtpffpjbkbaleiaaGreatDoor
open Go Go.RowKit Go.Maps
theorem xi (visit:aL->Except Int (List az)) (cv:Value) (I:World->Prop) (n:Nat) (root:aL) (res:Except Int (List aL)) (w:World) (hI:xQ I w.heap.size) (hV:Bn visit 95 cv I) (hi:I w) (hr:br root)
  (hn:lN visit n root=some res) (hl: ∀p,eA visit n root ([],[])=some p->p.2.2.length<1099511627775):
  Calls Tryz.prog 94 #[bF root, .func (.func 95) #[cv] #[]] w (sF res w):=by
 have HI:=ab hI;have HV:=ab hV;have HIW:=ab hi;have HR:=ab hr;have HL:=ab hl;have hmm:= @run_makeMap Tryz.prog;have HB0:=ab ((Below.refl w.heap.size w).alloc (Nat.le_refl _) (.cells #[.string root.name, .int .i64 root.gen, .int .i64 root.size] 26));have HBX0:=ab (heap_alloc_new w (.cells #[.string root.name, .int .i64 root.gen, .int .i64 root.size] 26));unfold bF;clear hI hV hi hr hl
 cases hv:dK root
 ·have HRES:=ab (show res= .error 1 by rw[lN,if_neg (by rw[hv]; simp)]at hn; exact(Option.some.inj hn).symm);have HVR:=ab hv;clear hv hn
  go_enter Tryz.func94,Tryz.ntmps94
  go_wp2_with fail;refine(de root false _ HR.out HVR.out).mono ?_;rintro e w1 ⟨rfl,hb1⟩;have HB1:=ab (ah HB0.out hb1);clear hb1;go_wp2_with fail
  go_ret2
  exact⟨HB1.out,by rw[HRES.out]; exact⟨rfl,by decide⟩⟩
 ·have HVR:=ab hv;obtain⟨⟨x,st⟩,hwp,hres⟩: ∃p,eA visit n root ([],[])=some p/\res=(if p.1=0 then .ok p.2.2 else .error p.1):=by
   rw[lN,if_pos hv,Option.map_eq_some_iff]at hn;obtain⟨p,h1,h2⟩:=hn;exact⟨p,h1,h2.symm⟩
  have HWP:=ab hwp;have HRES:=ab hres;have HLN:=ab (HL.out _ hwp);clear hv hn hwp hres
  go_enter Tryz.func94,Tryz.ntmps94
  go_wp2_with fail;refine(de root true _ HR.out HVR.out).mono ?_;rintro e w1 ⟨rfl,hb1⟩;have HB1:=ab (ah HB0.out hb1);have hbx1:=(hb1.block w.heap.size (by simp)).trans HBX0.out;have HBX1:=ab hbx1;have hz1:=lt_of_block hbx1;clear hb1 hbx1 HBX0;obtain⟨W,hW⟩: ∃W:World,W=((w1.alloc (.map #[] 0)).alloc (.map #[] 0)).alloc (.cells #[.func (.func 95) #[cv] #[], .map (some w1.heap.size), .map (some (w1.heap.size+1)), .slice none 0 0] 191):=⟨_,rfl⟩
  have HK:=ab (show fV W w.heap.size (w1.heap.size+1+1) w1.heap.size (w1.heap.size+1) (.func (.func 95) #[cv] #[]) (.slice none 0 0) [] [] by rw[hW]; exact Ds);have hbw:Below w1.heap.size w1 W:=by rw[hW]; exact(((Below.refl _ _).alloc (Nat.le_refl _) _).alloc (by simp) _).alloc (by simp; omega) _
  have HBW:=ab (ah HB1.out hbw);have HBX2:=ab ((hbw.block w.heap.size hz1).trans HBX1.out);have q0:=ai (k:=0) HBX2.out;have q1:=ai (k:=1) HBX2.out;have q2:=ai (k:=2) HBX2.out;have r0:=ai (k:=0) HBX1.out;have r1:=ai (k:=1) HBX1.out;have r2:=ai (k:=2) HBX1.out;simp only[aN]at q0 q1 q2 r0 r1 r2;have HI2:=ab (HI.out w W HIW.out (bS.of_below HBW.out))
  clear hbw
  go_upto_region 4 with(fail)
  rw[<-hW];clear hW;go_wp2_with fail;refine(su visit cv I w.heap.size HI.out HV.out n root ([],[]) x st w.heap.size (w1.heap.size+1+1) w1.heap.size (w1.heap.size+1) (.slice none 0 0) W HWP.out HLN.out HK.out HR.out HI2.out ⟨Nat.le_refl _,by omega,by omega,by omega⟩ HBW.out.size).mono ?_;rintro e w2 ⟨rfl,v2,hk2,hg2,ho2⟩;have HK2:=ab hk2;have HB2:=ab (show Below w.heap.size w w2 from HBW.out.trans (hg2.below HBW.out.size (fun k hk=>xn HK.out ⟨Nat.le_refl _,by omega,by omega,by omega⟩ hk)))
  obtain⟨a2,c2,rfl⟩:=hk2.shape;have d3:=ai (k:=3) hk2.box;simp only[aN]at d3;clear hk2 hg2 ho2 q0 q1 q2 r0 r1 r2
  by_cases hx:x=0
  ·subst hx;have HRS:=ab (show res= .ok st.2 by rw[HRES.out]; simp);go_wp2_with fail
   go_ret2
   exact⟨HB2.out,by rw[HRS.out]; exact⟨_,rfl,aQ.same (fw HK2.out.row HK2.out.ok) (fun k _ hS=>⟨hS.1,rfl⟩)⟩⟩
  ·have e1:(x != 0)=true:=by simp[hx]
   have HRS:=ab (show res= .error x by rw[HRES.out]; simp[hx]);have HX:=ab hx;clear hx;go_wp2_with fail
   go_ret2
   exact⟨HB2.out,by rw[HRS.out]; exact⟨rfl,HX.out⟩⟩
theorem fa.pres {B:Nat} {cv:Value} {cs:List (ByteArray×List UInt8)} :Bn (eW cs) 95 cv (fa B cv cs):=fun W r hI hr=>(vq (· <B) cv cs r W hI.cont hr hI.env).mono fun _ _ h=>h
def eI (cs:List (ByteArray×List UInt8)) (rs:List aL):List aL:=rs.filter fun r=>(dt cs r.name).isNone
def EU (cs:List (ByteArray×List UInt8)) (res:Except Int (List aL)):Except Int (List aL):=match res with
 | .error x=> .error x
 | .ok rs=> .ok (eI cs rs)
end Go.Proofs.YtpffpjbkbaleiaaGreatDoor
namespace Go.Proofs.YtpffpjbkbaleiaaGreatDoor
open Go Go.RowKit Go.Maps
theorem tK {P:Program} {ops:Array Oper} {rest:List Oper} {o:Oper} {a:Act} {Q:Exit->Act->World->Prop} {t e:TypeId} {sz bytes:Nat} (T:eS P t e sz bytes) (hgd:o.guard=none) (s x:Operand)
  (ho:o.op= .call {callee:= .builtin .append,args:= #[s,x],argTypes:= #[t,t]}) (base:Nat) (v:Value) (n:Nat) (xs:List Value) (hs:a.eval s=v) (w0:World) (news:List Value) (e2:TypeId)
  (hx:a.eval x= .slice (some ⟨w0.heap.size,0,none⟩) 1 1) (hl:news.length=sz) (h1: ∀u∈news,u.oneCell'=true) (hown:w0.ownsRow base e sz v n xs) (h63:n+1<=maxLen) (hby:(n+1)*bytes<=140737488355328) (hbase:base<=w0.heap.size)
  (h: ∀v' w',w'.ownsRow base e sz v' (n+1) (xs++news)->w0.grownBy w' v.ownBlock->v'≠ .slice none 0 0->wpList P ops Q rest (a.put o.dst v') w'):wpList P ops Q (o::rest) a (w0.alloc (.cells news.toArray e2)):=by
 obtain⟨ht,⟨i,z,h11,h12,h13,h14,h15⟩,hpos,hsm⟩:=T;have hnews: ∀(j:Nat) u,news[j]? =some u->(w0.alloc (.cells news.toArray e2)).cell? ((⟨w0.heap.size,0,none⟩:Addr).add j)=some u:=by
  intro j u hj;rw[nP,Nat.zero_add];have hh:=heap_alloc_new w0 (.cells news.toArray e2);simp only[World.cell?,hh];simp[hj]
 have hl1:news.length=1*sz:=by rw[hl,Nat.one_mul]
 obtain⟨v',w',hr,h2,hg,hv⟩:=run_append_own (P:=P) (w0.alloc (.cells news.toArray e2)) base t o.type e i z sz bytes ht h11 h12 h13 h14 h15 hpos v n xs (hown.alloc _) ⟨w0.heap.size,0,none⟩ 1 1 news hl1 hnews h1 h63 hby (by simp; omega);refine wpList_plain hgd fun K hK=> ?_
 unfold Oper.wp execOp;simp only[ho,resolve,invoke,builtin,Sem.run_bind,Sem.run_pure,Result.andThen_ok,List.map_toArray,List.map_cons,List.map_nil,hs,hx,hr];refine hK _ _ (h v' w' h2 ⟨hg.os,hg.tape,hg.output,by have:=hg.size; simp at this; omega,fun k hk hne=> ?_⟩ (fun e=>by have:=(hv.1 e).2; omega));rw[hg.block k (by simp; omega) hne];exact Below.heap_alloc _ _ _ hk
theorem wF (cs:List (ByteArray×List UInt8)) (rs:List aL) (r:aL):eI cs (rs++[r])=if(dt cs r.name).isNone=true then eI cs rs++[r]else eI cs rs:=by
 unfold eI; rw[List.filter_append]
 by_cases h:(dt cs r.name).isNone=true<;> simp[List.filter,h]
theorem BO (cs:List (ByteArray×List UInt8)) (rs:List aL):(eI cs rs).length<=rs.length:=List.length_filter_le _ _
theorem te (S:Nat->Prop) (cv:Value) (cs:List (ByteArray×List UInt8)) (n:Nat) (root:aL) (res:Except Int (List aL)) (w:World) (hc:bR S w cv cs) (henv:gm w) (hr:br root)
  (hn:lN (eW cs) n root=some res) (hl: ∀p,eA (eW cs) n root ([],[])=some p->p.2.2.length<1099511627775) (hle: ∀rs,res= .ok rs->rs.length<1099511627775):
  Calls Tryz.prog 37 #[bF root,cv] w (sF (EU cs res) w):=by
 have hmf: ∀(fn:Fn) (first cap:Array Value) (w:World),(Instr.makeFunc fn first cap).run Tryz.prog w= .ok (.func fn first cap) w:=fun _ _ _ _=>rfl
 have HB0:=ab ((Below.refl w.heap.size w).alloc (Nat.le_refl _) (.cells #[.string root.name, .int .i64 root.gen, .int .i64 root.size] 26));have HC:=ab hc;have HI:=ab (fa.start (hc.below HB0.out) (henv.below HB0.out));have HR:=ab hr;have HN:=ab hn;have HL:=ab hl;unfold bF;clear hc henv hr hn hl
 go_enter Tryz.func37,Tryz.ntmps37
 go_wp2_with fail;refine(xi (eW cs) cv _ n root res _ fa.keep fa.pres HI.out HR.out HN.out HL.out).mono ?_;rintro e w1 ⟨hb1,hres⟩;have HB1:=ab (ah HB0.out hb1);clear hb1
 cases res with
 | error x=>
  obtain⟨rfl,hx⟩:=hres;have HX:=ab hx;have e1:(x != 0)=true:=by simp[hx]
  clear hx;go_wp2_with fail
  go_ret2
  exact⟨HB1.out,rfl,HX.out⟩
 | ok rs=>
  obtain⟨v,rfl,hv⟩:=hres;have hrl:=hle rs rfl;obtain⟨a,cap,rfl,hcp,hm,-⟩:=aP.shape hv iG.len;unfold maxLen at hm;have HV:=ab hv;clear hv hle;go_wp2_with fail
  go_loopw [8,25] (fun o i wr=> ∃k:Nat,k<=rs.length/\i= .int .i64 k/\wr.ownsRow w1.heap.size 26 3 o (eI cs (rs.take k)).length ((eI cs (rs.take k)).flatMap dp)/\Below w1.heap.size w1 wr/\ ∀r∈eI cs (rs.take k),br r) (fun _ i _=>rs.length-(intOf i).toNat)
  case atStart=>exact⟨0,Nat.zero_le _,rfl,World.ownsRow_nil _ _ _ _,Below.refl _ _,by simp[eI]⟩
  case round=>
   obtain⟨k,hk,rfl,hown,hb,hok⟩:=hrel;have HO:=ab hown;have HB:=ab hb;have HOK:=ab hok;obtain⟨ao,co,rfl,hn2,hm2⟩:=aj hown;have hlk0:=BO cs (rs.take k);rw[List.length_take]at hlk0;clear hown hb hok
   by_cases hlt:k<rs.length
   ·obtain⟨r,hr⟩: ∃r,rs[k]? =some r:=⟨rs[k],by simp[hlt]⟩;obtain⟨b,o,rfl,hrok,q0,q1,q2⟩:=fA HV.out HB.out hr;have HRO:=ab hrok;have HSN:=ab (show eI cs (rs.take (k+1))=if(dt cs r.name).isNone=true then eI cs (rs.take k)++[r]else eI cs (rs.take k) by rw[bz hr,wF]);have hnm:=hrok.nm;clear hr hrok
    go_upto_region 8 with(fail)
    obtain⟨W,hW⟩: ∃W:World,W=wr.alloc (.cells #[.string r.name, .int .i64 r.gen, .int .i64 r.size] 26):=⟨_,rfl⟩;rw[<-hW];have hbw:Below wr.heap.size wr W:=by rw[hW]; exact(Below.refl _ _).alloc (Nat.le_refl _) _
    have HBX:=ab (show W.heap[wr.heap.size]? =some (.cells #[.string r.name, .int .i64 r.gen, .int .i64 r.size] 26 (0,0)) by rw[hW]; exact heap_alloc_new wr _);have HBW:=ab (ah HB.out hbw);have HOW:=ab (pH HO.out hbw);have HCW:=ab (HC.out.below (ah HB1.out HBW.out));have hz1:=HBW.out.size;have p0:=ai (k:=0) HBX.out;have p1:=ai (k:=1) HBX.out;have p2:=ai (k:=2) HBX.out
    simp only[aN]at p0 p1 p2;clear hW hbw q0 q1 q2
    cases hf:dt cs r.name with
    | none=>
     have hlk:=HCW.out.missM hnm hf;have HSN2:=ab (HSN.out.trans (if_pos (by rw[hf]; rfl)));clear hf hnm;go_wp2_with (at_builtin; go_must (refine tK Tryz.appRefs rfl _ _ rfl w1.heap.size (.slice ao (eI cs (rs.take k)).length co) (eI cs (rs.take k)).length ((eI cs (rs.take k)).flatMap dp) rfl W [.string r.name, .int .i64 r.gen, .int .i64 r.size] _ rfl rfl (jY (r:=r)) HOW.out (by unfold maxLen; omega) (by omega) hz1 ?_); intro v' wc hown' hgrow' _; have HB2:=ab (cV HBW.out HOW.out hgrow' (Nat.le_refl _) hz1); have HO2:=ab (show wc.ownsRow w1.heap.size 26 3 v' (eI cs (rs.take (k+1))).length ((eI cs (rs.take (k+1))).flatMap dp) by rw[HSN2.out,List.length_append,List.flatMap_append]; simpa [dp]using hown'); obtain⟨ae,ce,rfl,-,-⟩:=aj hown'; clear hown' hgrow')
     go_roundw
     case rel=>
      refine⟨k+1,by omega,by go_num,HO2.out,HB2.out, ?_⟩;rw[HSN2.out];intro x hx
      rcases List.mem_append.1 hx with hx | hx
      ·exact HOK.out x hx
      ·simp only[List.mem_singleton]at hx; subst hx; exact HRO.out
     case measure=>simp[intOf]; omega
    | some bs=>
     obtain⟨v,hlk,-⟩:=HCW.out.hitM hnm hf;have HSN2:=ab (HSN.out.trans (if_neg (by rw[hf]; simp)));clear hf hnm;go_wp2_with fail
     go_roundw
     case rel=>exact⟨k+1,by omega,by go_num,by rw[HSN2.out]; exact HOW.out,HBW.out,by rw[HSN2.out]; exact HOK.out⟩
     case measure=>simp[intOf]; omega
   ·obtain rfl:k=rs.length:=by omega
    have HTK:=ab (show eI cs (rs.take rs.length)=eI cs rs by rw[List.take_of_length_le (Nat.le_refl _)]);have hz:=HB1.out.size;go_wp2_with fail
    go_ret2
    refine⟨ah HB1.out HB.out, ?_⟩
    show ∃v,_/\aQ _ _ v (eI cs rs)
    rw[<-HTK.out];exact⟨_,rfl,aQ.same (fw HO.out HOK.out) (fun k _ hS=>⟨Nat.le_trans hz hS.1,rfl⟩)⟩
end Go.Proofs.YtpffpjbkbaleiaaGreatDoor
namespace Go.Proofs.YtpffpjbkbaleiaaGreatDoor
open Go.RowKit
def DJ (cs:List (ByteArray×List UInt8)) (miss:aL->Except Int (List aL)):Prop:= ∀(S:Nat->Prop) (cv:Value) (root:aL) (w:World),bR S w cv cs->gm w->br root->Calls Tryz.prog 37 #[bF root,cv] w (sF (miss root) w)
end Go.Proofs.YtpffpjbkbaleiaaGreatDoor
namespace Go.Proofs.YtpffpjbkbaleiaaGreatDoor
open Go Go.RowKit Go.Maps
theorem xq {cs:List (ByteArray×List UInt8)} {r:aL} {l:List az} (h:eW cs r= .ok l) {it:az} (hit:it∈l): ∀c∈jO it,c∈kX cs:=by
 unfold eW at h
 cases hn:dO cs r with
 | error x=>
  rw[hn]at h;simp only at h
  split at h
  ·simp only[Except.ok.injEq]at h; subst h; simp at hit
  ·simp at h
 | ok l'=>
  rw[hn]at h;simp only[Except.ok.injEq]at h;subst h;exact xj hn hit
theorem qg {cs:List (ByteArray×List UInt8)} {U:List aL} (hU: ∀c∈kX cs,c∈U): ∀n,ES U (eA (eW cs) n) n
 | 0=>fun r st hr hi hn=>by
  have:=lP hi.e1 hi.e2;omega
 | n+1=>fun r st hr hi hn=>by
  have hm:ql U (st.1,bg r st.2):=⟨hi.e1,hi.e2,jU hi.l1,fun x hx=>by
   rcases lL.1 hx with hx | rfl
   ·exact hi.l2 x hx
   ·exact hr⟩
  rw[eA]
  split
  ·exact⟨0,_,rfl,hm,Nat.le_refl _⟩
  ·rename_i hne;have he:ql U (st.1++[r],bg r st.2):=⟨List.nodup_append.2 ⟨hi.e1,by simp,fun a ha b hb e=>by simp only[List.mem_singleton]at hb; subst hb e; exact hne ha⟩,fun x hx=>by
    rcases List.mem_append.1 hx with hx | hx
    ·exact hi.e2 x hx
    ·simp only[List.mem_singleton]at hx; subst hx; exact hr,hm.l1,hm.l2⟩
   cases hv:eW cs r with
   | error x=>exact⟨x,_,rfl,he,by simp⟩
   | ok l=>
    obtain⟨x,st',h1,h2,h3⟩:=lj (qg hU n) l (st.1++[r],bg r st.2) (fun it hit c hc=>hU c (xq hv hit c hc)) he (by simp; omega);exact⟨x,st',h1,h2,by simp at h3; omega⟩
theorem pK (cs:List (ByteArray×List UInt8)) (r:aL): ∃x st',eA (eW cs) (mV cs) r ([],[])=some (x,st')/\ql (r::kX cs) st':=by
 obtain⟨x,st',h1,h2,_⟩:=qg (cs:=cs) (U:=r::kX cs) (fun c hc=>by simp[hc]) (mV cs) r ([],[]) (by simp) ⟨by simp,by simp,by simp,by simp⟩ (by simp[mV]);exact⟨x,st',h1,h2⟩
def yA (cs:List (ByteArray×List UInt8)) (r:aL):Except Int (List aL):=(lN (eW cs) (mV cs) r).getD (.error 0)
def Ce (cs:List (ByteArray×List UInt8)) (r:aL):Except Int (List aL):=EU cs (yA cs r)
theorem pJ {cs:List (ByteArray×List UInt8)} (h:cs.length<=80) (r:aL):lN (eW cs) (mV cs) r=some (yA cs r)/\ ∀p,eA (eW cs) (mV cs) r ([],[])=some p->p.2.2.length<=1000000000:=by
 obtain⟨x,st',h1,h2⟩:=pK cs r;refine⟨?_,fun p hp=> ?_⟩
 ·unfold yA;have: ∃y,lN (eW cs) (mV cs) r=some y:=by
   unfold lN
   split
   ·rw[h1]; exact⟨_,rfl⟩
   ·exact⟨_,rfl⟩
  obtain⟨y,hy⟩:=this;rw[hy]; rfl
 ·rw[h1]at hp;simp only[Option.some.injEq]at hp;subst hp;have h3:=lP h2.l1 h2.l2;have h4:=zr (cs:=cs);have h5:cs.length*3948544<=80*3948544:=Nat.mul_le_mul_right _ h;simp only[List.length_cons]at h3;simp only;omega
theorem Cy {cs:List (ByteArray×List UInt8)} (h:cs.length<=80) {r:aL} {l:List aL} (hl:yA cs r= .ok l):l.length<=1000000000:=by
 obtain⟨h1,h2⟩:=pJ h r;obtain⟨x,st',h3,_⟩:=pK cs r;have h4:=h2 _ h3;rw[hl]at h1;unfold lN at h1
 split at h1
 ·rw[h3]at h1;simp only[Option.map_some,Option.some.injEq]at h1
  split at h1
  ·simp only[Except.ok.injEq]at h1; subst h1; exact h4
  ·simp at h1
 ·simp at h1
theorem qy {cs:List (ByteArray×List UInt8)} (h:cs.length<=80):DJ cs (Ce cs):=fun S cv root w hc he hr=>by
 obtain⟨h1,h2⟩:=pJ h root;exact te S cv cs (mV cs) root _ w hc he hr h1 (fun p hp=>by have:=h2 p hp; omega) (fun rs hrs=>by have:=Cy h hrs; omega)
end Go.Proofs.YtpffpjbkbaleiaaGreatDoor
