/- Texts of this proof, one after the other: BldE, RGet, Pres, RGood, RefA, RefB, RItem, PresA, PresB, MissM, MissL, Refs24, AwP, BldF. -/
import Derived.Test.YtpffpjbkbaleiaaGreatDoorCFilesE
set_option maxRecDepth 100000
set_option maxHeartbeats 8000000
namespace Go.Proofs.YtpffpjbkbaleiaaGreatDoor
open Go Go.RowKit Go.Maps
theorem Ai {a:Act} {w:World} {b:Nat} {x0 x1 x2 e5:Value} (h:w.heap[b]? =some (.cells #[x0,x1,x2] 26 (0,0)))
  (h4:a.tmps[4]? =some (.pointer (some ⟨b,0,none⟩))) (h5:a.tmps[5]? =some e5):(results Tryz.f73 a.tmps).run Tryz.prog w= .ok (.tuple #[.agg #[x0,x1,x2],e5]) w:=by
 have m0:=ai (k:=0) h;have m1:=ai (k:=1) h;have m2:=ai (k:=2) h;simp only[aW]at m0 m1 m2;simp[results,Tryz.results73,go_sem,h4,h5,m0,m1,m2]
theorem me {a:Act} {w:World} {b:Nat} {a0 a1 a2 x0 x1 x2 e5:Value} {Q:Ending->World->Prop} (h:w.heap[b]? =some (.cells #[a0,a1,a2] 26 (0,0)))
  (h4:a.tmps[4]? =some (.pointer (some ⟨b,0,none⟩))) (h5:a.tmps[5]? =some e5) (hd:a.defers=[])
  (hQ:Q (.returned (.tuple #[.agg #[x0,x1,x2],e5])) (((w.setCell ⟨b,0,none⟩ x0).setCell ⟨b,1,none⟩ x1).setCell ⟨b,2,none⟩ x2)):
  bodyPost Tryz.prog Tryz.f73 Q Exit.ret a (((w.setCell ⟨b,0,none⟩ x0).setCell ⟨b,1,none⟩ x1).setCell ⟨b,2,none⟩ x2):=bodyPost_ret (Ai (ze h) h4 h5) hd hQ
structure xF (base bb kb im : Nat) (k : bu) (c : de) (gs : List (ByteArray × Int)) (tree : List bi) (UR : List aN) : Prop where
 keys:eW k=true
 cut:gp c=true
 seed:c.seed<18446744073709551616
 gens: ∀p∈gs,0<=p.2/\p.2<=1099511627776
 bbb:base<=bb
 bkb:base<=kb
 seven:7<=base
 ikb:im≠kb
 val: ∀e∈tree,gq e=true
 len:tree.length<=4096
 usz:UR.length<=100000000000
 u1: ∀e∈tree,∀y∈eP c e.data,aV k gs y∈UR
 u2: ∀(n:Nat) (d:ByteArray) (p:List UInt8×List (List UInt8)),n<=514->(d.size=0\/ ∃e∈tree,e.path=d)->bW k gs c tree n d= .ok p->aV k gs p.1∈UR
def ut (UR:List aN) (bs:List bA):Prop:= ∀b∈bs,b.ref∈UR
theorem ut.put {UR:List aN} {bs:List bA} {k:bu} {gs:List (ByteArray×Int)} {x:List UInt8} (h:ut UR bs) (hx:aV k gs x∈UR):ut UR (fJ k gs bs x):=by
 unfold fJ
 split
 ·exact h
 ·intro b hb
  rcases List.mem_append.1 hb with hb | hb
  ·exact h b hb
  ·rw[List.mem_singleton]at hb; subst hb; exact hx
theorem ut.puts {UR:List aN} {k:bu} {gs:List (ByteArray×Int)} : ∀ {cs:List (List UInt8)} {bs:List bA},ut UR bs->(∀x∈cs,aV k gs x∈UR)->ut UR (bw k gs cs bs)
 | [],_,h,_=>h
 | x::cs,bs,h,hx=>ut.puts (cs:=cs) (bs:=fJ k gs bs x) (h.put (hx x (by simp))) (fun y hy=>hx y (by simp[hy]))
theorem ut.len {UR:List aN} {bs:List bA} {w:World} {base bb im kb:Nat} {k:bu} {c:de} {gv v:Value} (h:ut UR bs) (hb:dD w base bb k c gv im kb v bs):bs.length<=UR.length:=by
 have h1:=ks (l:=bs.map bA.ref) (U:=UR) hb.known.nodup (fun x hx=>by
  obtain⟨b,hb2,rfl⟩:=List.mem_map.1 hx;exact h b hb2)
 rwa [List.length_map]at h1
def pO (base bb kb im:Nat) (k:bu) (c:de) (gs:List (ByteArray×Int)) (gv v:Value) (bs:List bA) (UR:List aN) (res:Except Int (List UInt8×List (List UInt8))) (w:World) (e:Ending) (w':World):Prop:=match res with
 | .error x=>e= .returned (.tuple #[.agg #[.string ⟨#[]⟩, .int .i64 0, .int .i64 0], .int .i64 x])/\x≠0/\ ∃v' bs',dD w' base bb k c gv im kb v' bs'/\cy base bb kb v v' w w'
 | .ok p=>e= .returned (.tuple #[bB (aV k gs p.1), .int .i64 0])/\ut UR (bw k gs p.2 bs)/\ ∃v',dD w' base bb k c gv im kb v' (bw k gs p.2 bs)/\cy base bb kb v v' w w'
def zM (base bb kb im:Nat) (k:bu) (c:de) (gs:List (ByteArray×Int)) (tree:List bi) (gv:Value) (UR:List aN) (n:Nat):Prop:= ∀(path:ByteArray) (v:Value) (bs:List bA) (w:World),
 514<=path.size+n->(path.size=0\/ ∃e∈tree,e.path=path)->dD w base bb k c gv im kb v bs->gi (· <base) w gv gs->sS w base im tree->ut UR bs->jB w->base<=w.heap.size->
 Calls Tryz.prog 73 #[.pointer (some ⟨bb,0,none⟩), .string path] w (pO base bb kb im k c gs gv v bs UR (bW k gs c tree n path) w)
theorem yk {base bb kb im:Nat} {k:bu} {c:de} {gs:List (ByteArray×Int)} {tree:List bi} {gv:Value} {UR:List aN} (hX:xF base bb kb im k c gs tree UR):zM base bb kb im k c gs tree gv UR 0:=by
 intro path v bs w hn hp
 exfalso
 rcases hp with h | ⟨e,he,rfl⟩
 ·omega
 ·have:=fz (bD (hX.val e he));rw[<-ar]at this;omega
theorem jQ {l:List UInt8} (h:l≠[]):(aL l).length<l.length:=by
 by_cases hp:aL l=[]
 ·rw[hp];exact List.length_pos_iff.2 h
 ·obtain⟨t,ht⟩:=lB hp;have:=congrArg List.length ht;rw[List.length_append,List.length_cons]at this;omega
theorem qb {c:de} (hc:gp c=true) (x:List UInt8):(eP c x).length<=x.length:=by
 have h1:(eP c x).flatten=x:=tU;have h2: ∀(l:List (List UInt8)),(∀y∈l,1<=y.length)->l.length<=l.flatten.length:=by
  intro l
  induction l with
  | nil=>simp
  | cons y l ih=>
   intro h;have:=ih (fun z hz=>h z (by simp[hz]));have:=h y (by simp);simp only[List.length_cons,List.flatten_cons,List.length_append];omega
 have h3:=h2 (eP c x) (fun y hy=>(qc hc x y hy).1)
 rwa [h1]at h3
section
variable {P : Program} {ops : Array Oper} {Q : Exit → Act → World → Prop} {S : World → Prop}
theorem yw {dst dst2:Option Tmp} {op op2:Op} {ty ty2:TypeId} {pos pos2:String} {aft aft2:Array Edge} {g g2:Option (Nat×Bool)} {fuel:Nat} {listed:Array Bool} {a:Act} {w:World} (i j:Nat) (hi:ops[i]? =some ⟨dst,op,ty,pos,aft,g⟩) (hj:ops[j]? =some ⟨dst2,op2,ty2,pos2,aft2,g2⟩) (hr:Region.ready .any ops listed=[i,j])
  (hw:Region.wanted ⟨dst,op,ty,pos,aft,g⟩ (yielded ops a.tmps)=true) (hw2:Region.wanted ⟨dst2,op2,ty2,pos2,aft2,g2⟩ (yielded ops a.tmps)=true)
  (h: ∀K:Act->World->Prop,(∀a w,S w/\kH P ops Q S fuel (listed.setIfInBounds i true) a w->K a w)->wpList P #[] (Exit.then K Q) [⟨dst,op,ty,pos, #[],none⟩] a w)
  (h2: ∀K:Act->World->Prop,(∀a w,S w/\kH P ops Q S fuel (listed.setIfInBounds j true) a w->K a w)->wpList P #[] (Exit.then K Q) [⟨dst2,op2,ty2,pos2, #[],none⟩] a w):kH P ops Q S (fuel+1) listed a w:=by
 refine kH.of (wpAnyH_all hr (by simp) fun m hm=> ?_);have hmm:m=i\/m=j:=by simpa using hm
 rcases hmm with rfl | rfl
 ·have hb:nQ P ops (fun a' w'=>S w'/\wpAnyH P .any ops Q S fuel (listed.setIfInBounds m true) a' w') Q [⟨dst,op,ty,pos,aft,g⟩] a w:=
   bJ hw (fun K hK=>h K (fun a w hh=>hK a w ⟨hh.1,hh.2.out⟩))
  unfold wpOp;simp only[hi];exact nQ.out hb
 ·have hb:nQ P ops (fun a' w'=>S w'/\wpAnyH P .any ops Q S fuel (listed.setIfInBounds m true) a' w') Q [⟨dst2,op2,ty2,pos2,aft2,g2⟩] a w:=
   bJ hw2 (fun K hK=>h2 K (fun a w hh=>hK a w ⟨hh.1,hh.2.out⟩))
  unfold wpOp;simp only[hj];exact nQ.out hb
end
structure sT (it : aE) : Prop where
 nm:it.name.size<=512
 lk:it.link.size<=512
 ch:it.chunks.length<=1048576
 rs: ∀r∈it.chunks,r.name.size<=32
 nd:it.node.name.size<=32
 tm:it.time<9223372036854775808
theorem oR {r:aN} (h:r.name.size<=32):(cZ r).length<=60:=by
 unfold cZ;have h1:=cJ r.gen.toNat
 have h2:=cJ r.size.toNat
 rw[List.length_append,List.length_append,<-ar];omega
theorem th {it:aE} (h:sT it):(cX it).length<=70000000:=by
 have h1:=cJ it.name.size;have h2:=cJ it.kind.toNat
 have h3:=cJ it.mode.toNat
 have h4:=cJ it.time.toNat
 have h5:=cJ it.chunks.length;have h6:=cJ it.link.size;have h7:=eR cZ 60 it.chunks (fun r hr=>oR (h.rs r hr));have h8:=oR h.nd;have hn:=h.nm;have hl:=h.lk;have hc:=h.ch;unfold cX kg;simp only[List.length_append,<-ar]
 split
 ·simp only[List.length_append];omega
 ·split
  ·omega
  ·simp only[List.length_append,<-ar];omega
theorem yI {l:List aE} (h: ∀it∈l,sT it) (hl:l.length<=4096):(dg l).length<1000000000000:=by
 have h1:=eR cX 70000000 l (fun it hit=>th (h it hit));have h2:=cJ l.length;unfold dg;rw[List.length_append];have h3:l.length*70000000<=4096*70000000:=Nat.mul_le_mul_right _ hl;omega
theorem yA (d p:List UInt8):(lw d p).length<=p.length:=by
 unfold lw
 split
 ·rw[List.length_tail,List.length_drop]; omega
 ·rw[List.length_drop]; omega
theorem gB {e:bi} (h:gq e=true):e.path.size<=512/\e.link.size<=512/\e.data.length<=1048576:=by
 have h1:=fz (bD h);rw[<-ar]at h1;unfold gq jc at h;rw[Bool.and_eq_true]at h;refine⟨h1, ?_⟩;have h2:=h.2
 split at h2
 ·simp only[Bool.and_eq_true,decide_eq_true_eq]at h2;omega
 ·split at h2
  ·simp only[Bool.and_eq_true,decide_eq_true_eq]at h2;omega
  ·split at h2
   ·simp only[Bool.and_eq_true,decide_eq_true_eq,kY]at h2;have:=h2.2.1.2;rw[<-ar]at this;omega
   ·cases h2
theorem iW (k:bu) (gs:List (ByteArray×Int)) (x:List UInt8):(aV k gs x).name.size=32:=jO _ _ _
theorem gV {k:bu} {gs:List (ByteArray×Int)} {c:de} {dir:ByteArray} {e:bi} {nd:aN} (hc:gp c=true) (h:gq e=true) (hok:fR e) (hn:nd.name.size<=32):sT (cO k gs c dir e nd):=by
 obtain⟨h1,h2,h3⟩:=gB h;have h4:=yA (bl dir) (bl e.path);rw[<-ar e.path]at h4;refine⟨?_,h2, ?_, ?_, ?_, ?_⟩
 ·show ByteArray.size ⟨_⟩<=_
  simp only[ByteArray.size,List.size_toArray];omega
 ·show(if e.kind=1 then(eP c e.data).map (aV k gs)else []).length<=_
  split
  ·rw[List.length_map];have:=qb hc e.data;omega
  ·simp
 ·show ∀r∈(if e.kind=1 then(eP c e.data).map (aV k gs)else []),_
  intro r hr
  split at hr
  ·obtain⟨x,_,rfl⟩:=List.mem_map.1 hr;rw[iW]; omega
  ·simp at hr
 ·show(if e.kind=2 then nd else bq).name.size<=32
  split
  ·exact hn
  ·decide
 ·have:=hok.tim;simp[Lit.wf,IntKind.min,IntKind.max,IntKind.signed,IntKind.bits]at this
  show e.time<_
  omega
theorem eU {k:bu} {gs:List (ByteArray×Int)} (hgs: ∀p∈gs,0<=p.2/\p.2<=1099511627776) {x:List UInt8} (hx:x.length<=1048576):bo (aV k gs x):=by
 have h1:=px gs hgs (kn k 0 x);refine⟨by rw[iW]; unfold maxLen; omega,WalkArith.wf_i64 ?_,WalkArith.wf_i64 ?_⟩
 ·show _<=iJ gs _/\iJ gs _<=_
  omega
 ·show -9223372036854775808<=(x.length:Int)/\(x.length:Int)<=_
  omega
theorem yi {k:bu} {gs:List (ByteArray×Int)} {c:de} {tree:List bi} : ∀ {n:Nat} {d:ByteArray} {p:List UInt8×List (List UInt8)},bW k gs c tree n d= .ok p->p.1.length<=32768
 | 0,_,_,h=>by simp[bW]at h
 | n+1,d,p,h=>by
  rw[bW]at h
  split at h
  ·cases h
  ·split at h
   ·split at h
    ·simp only[Except.ok.injEq]at h;subst h
     assumption
    ·cases h
   ·cases h
theorem pj {k:bu} {gs:List (ByteArray×Int)} {c:de} {rec:ByteArray->Except Int (List UInt8×List (List UInt8))} {dir:ByteArray} {e:bi} {r:List bi} {its:List aE} {cs:List (List UInt8)} (h:e.kind=1):cM k gs c rec dir (e::r) its cs=cM k gs c rec dir r (its++[cO k gs c dir e bq]) (cs++eP c e.data):=by rw[cM,if_pos h]
theorem nb {k:bu} {gs:List (ByteArray×Int)} {c:de} {rec:ByteArray->Except Int (List UInt8×List (List UInt8))} {dir:ByteArray} {e:bi} {r:List bi} {its:List aE} {cs:List (List UInt8)} (h:e.kind=2):cM k gs c rec dir (e::r) its cs=match rec e.path with
  | .error x=> .error x
  | .ok p=>cM k gs c rec dir r (its++[cO k gs c dir e (aV k gs p.1)]) (cs++p.2):=by
 rw[cM,if_neg (by omega),if_pos h]
 cases rec e.path<;> rfl
theorem vW {k:bu} {gs:List (ByteArray×Int)} {c:de} {rec:ByteArray->Except Int (List UInt8×List (List UInt8))} {dir:ByteArray} {e:bi} {r:List bi} {its:List aE} {cs:List (List UInt8)} (h1:e.kind≠1) (h:e.kind≠2):cM k gs c rec dir (e::r) its cs=cM k gs c rec dir r (its++[cO k gs c dir e bq]) cs:=by rw[cM,if_neg h1,if_neg h]
theorem yj {base bb kb im:Nat} {k:bu} {c:de} {gs:List (ByteArray×Int)} {tree:List bi} {gv:Value} {UR:List aN} (n:Nat) (hX:xF base bb kb im k c gs tree UR) (hn514:n+1<=514) (IH:zM base bb kb im k c gs tree gv UR n):zM base bb kb im k c gs tree gv UR (n+1):=by
 intro path v bs w hn hp h hg hgr hu hE hbz;have HX':=ab hX;have HIH:=ab IH;have HPA:=ab hp;have HH:=ab h;have HG:=ab hg;have HGR:=ab hgr;have HU:=ab hu;have HE:=ab hE;have hps:path.size<=512:=by
  rcases hp with h | ⟨e,he,rfl⟩
  ·omega
  ·have:=fz (bD (hX.val e he));rw[<-ar]at this;exact this
 obtain⟨W0,hW0⟩: ∃W0,W0=w.alloc (.cells #[.string ⟨#[]⟩, .int .i64 0, .int .i64 0] 26):=⟨_,rfl⟩;have hb0:Below w.heap.size w W0:=by rw[hW0]; exact(Below.refl _ _).alloc (Nat.le_refl _) _
 have hkp0:=cy.ofBelow (bb:=bb) (kb:=kb) (v:=v) hb0 hbz;obtain⟨ev,ys,hlk,hys,hrow,hdat⟩:=yt (hgr.keep h hkp0 hX.ikb) (d:=path) (by unfold maxLen; omega);obtain⟨ea,ec,hev,hen,hem⟩:=aj hrow;subst hev;unfold maxLen at hem;obtain⟨m,hm⟩: ∃m,m=ys.length:=⟨_,rfl⟩;have HDR0:=ab (show sR w base bb im kb k c gv v (.slice ea m ec) ys W0 v (.slice none 0 0) bs []from⟨h.below hb0,hkp0,gN.nil _ _,by rw[hm]; exact hrow,by rw[hW0]; exact bI w _⟩)
 rw[<-hm]at hlk hen;have HM:=ab hm;have HYS:=ab hys;have HDAT:=ab (show ∀y∈ys,bt (· <base) w y.1 y.2.data/\fR y.2 from fun y hy=>⟨aJ.same (hdat y hy).1 (fun i hi=>(hb0.block i (Nat.lt_of_lt_of_le hi hbz)).symm),(hdat y hy).2⟩);have HBOX:=ab HDR0.out.bd.box;have hm4:m<=4096:=by
  rw[hm,<-List.length_map (f:=Prod.snd),hys];exact Nat.le_trans (List.length_filter_le _ _) hX.len
 have k0:=aa (k:=0) HBOX.out;have k1:=aa (k:=1) HBOX.out;have k2:=aa (k:=2) HBOX.out;have k3:=aa (k:=3) HBOX.out;have k4:=aa (k:=4) HBOX.out;have k10:=aa (k:=10) HBOX.out;have k11:=aa (k:=11) HBOX.out;have k12:=aa (k:=12) HBOX.out;have k13:=aa (k:=13) HBOX.out;simp only[fj,cD,cR,List.cons_append,List.nil_append,aW]at k0 k1 k2 k3 k4 k10 k11 k12 k13
 clear hX IH hp h hg hgr hu hE hrow hdat hys hm hb0 hkp0
 go_enter Tryz.func73,Tryz.ntmps73
 go_upto_region 2 with(fail)
 rw[<-hW0];clear hW0;go_wp2_with fail
 go_loopw [6,20] (fun iv i wr=> ∃(j:Nat) (v2:Value) (its:List aE) (cs2:List (List UInt8)),j<=m/\i= .int .i64 (j:Int)/\its.length=j/\cM k gs c (bW k gs c tree n) path ((bO tree path).drop j) its cs2=cM k gs c (bW k gs c tree n) path (bO tree path) [] []/\ut UR (bw k gs cs2 bs)/\(∀it∈its,sT it)/\sR w base bb im kb k c gv v (.slice ea m ec) ys wr v2 iv (bw k gs cs2 bs) its) (fun _ i _=>m-(intOf i).toNat)
 case atStart=>exact⟨0,v,[],[],Nat.zero_le _,rfl,rfl,rfl,HU.out,by simp,HDR0.out⟩
 case round=>
  obtain⟨j,v2,its,cs2,hj,rfl,hlj,hkd,hiu,hsm,hin⟩:=hrel;have HLJ:=ab hlj;have HKD:=ab hkd;have HIU:=ab hiu;have HSM:=ab hsm;have HIN:=ab hin;obtain⟨zs,hzs,hzr,hzd⟩:=hin.its.row;obtain⟨ia,ic,hiv,-,-⟩:=aj hzr;subst hiv;have hzl:zs.length=j:=by rw[<-hlj,<-hzs,List.length_map]
  have HZS:=ab hzs;have HZR:=ab hzr;have HZD:=ab hzd;rw[hzl]at HIN HZR ⊢;have HZL:=ab hzl;clear hlj hkd hiu hsm hin hzs hzr hzd hzl HDR0 HBOX
  by_cases hlt:j<m
  ·obtain⟨⟨dv,e⟩,hy⟩: ∃y,ys[j]? =some y:=⟨ys[j]'(by rw[<-HM.out]; exact hlt),by simp⟩;have hdy:=HDAT.out (dv,e) (List.mem_of_getElem? hy);obtain⟨da,dc,hdv,hdn,hdm⟩:=bt.slice hdy.1;simp only at hdv;subst hdv;obtain⟨b,rfl,hbb,hbl,-,p0,p1,p2,p3,p4,p5⟩:=Az HIN.out.ents hy;simp only at p0 p1 p2 p3 p4 p5;have hKj:(bO tree path)[j]? =some e:=by rw[<-HYS.out,List.getElem?_map,hy]; rfl
   have hmem:=List.mem_filter.1 (List.mem_of_getElem? hKj);have het:e∈tree:=hmem.1;have hpar:aL (bl e.path)=bl path:=by have:=hmem.2; simpa using this
   have hval:=HX'.out.val e het;have hep:=bD hval;have hes:e.path.size<=512:=by have:=fz hep; rw[<-ar]at this; exact this
   have hpl:path.size<e.path.size:=by
    have h1:=jQ (l:=bl e.path) (fun h=>by have:=il hep; rw[h]at this; simp at this);rw[hpar,<-ar,<-ar]at h1;exact h1
   have HET:=ab het;have HEP:=ab hep;have HVE:=ab hval;have HDY:=ab hdy;have HKJ:=ab hKj;have HDP:=ab (oP hKj);have HBZ:=ab (Nat.le_trans hbz HIN.out.kp.below.size);clear hdy hy hKj hmem het hpar hval hep
   go_upto_region 5 with(fail)
   obtain⟨W1,hW1⟩: ∃W1:World,W1=(wr.alloc (.cells #[.string e.path, .int .i64 e.kind, .int .i64 e.mode, .int .i64 e.time, .slice da e.data.length dc, .string e.link] 79)).drew:=⟨_,rfl⟩;have hb1:Below wr.heap.size wr W1:=by rw[hW1]; exact((Below.refl _ _).alloc (Nat.le_refl _) _).drew
   have HB1:=ab hb1;have HX1:=ab (show W1.heap[wr.heap.size]? =some (.cells #[.string e.path, .int .i64 e.kind, .int .i64 e.mode, .int .i64 e.time, .slice da e.data.length dc, .string e.link] 79 (0,0)) by rw[hW1]; exact bI wr _);have hz1:W1.heap.size=wr.heap.size+1:=by rw[hW1]; simp[World.drew]
   have d0:=aa (k:=0) HX1.out;have d1:=aa (k:=1) HX1.out;have d2:=aa (k:=2) HX1.out;have d3:=aa (k:=3) HX1.out;have d5:=aa (k:=5) HX1.out;simp only[aW]at d0 d1 d2 d3 d5;clear p0 p1 p2 p3 p4 p5 hb1;refine bH (fun w'=>w'.cell? ⟨wr.heap.size,0,none⟩=some (.string e.path)/\w'.cell? ⟨wr.heap.size,1,none⟩=some (.int .i64 e.kind)/\w'.cell? ⟨wr.heap.size,2,none⟩=some (.int .i64 e.mode)/\w'.cell? ⟨wr.heap.size,3,none⟩=some (.int .i64 e.time)/\w'.cell? ⟨wr.heap.size,5,none⟩=some (.string e.link)) (by kernel_rfl) (by kernel_rfl) ?_
   simp only[List.dropLast_cons_cons,List.dropLast_singleton,List.length_cons,List.length_nil,Nat.reduceAdd,Nat.reduceSub];rw[<-hW1];clear hW1;refine af 0 rfl (by kernel_rfl) (by kernel_rfl) (by kernel_rfl) (fun _ _ _ h=>h) rfl ⟨d0,d1,d2,d3,d5⟩ (by rintro w' ⟨hw1,hw2,hw3,hw4,hw5⟩; go_simp; rfl) ?_;simp only[Act.put,az,aA,aB];refine af 1 rfl (by kernel_rfl) (by kernel_rfl) (by kernel_rfl) (fun _ _ _ h=>h) rfl ⟨d0,d1,d2,d3,d5⟩ (by rintro w' ⟨hw1,hw2,hw3,hw4,hw5⟩; go_simp; rfl) ?_
   simp only[Act.put,az,aA,aB];refine af 2 rfl (by kernel_rfl) (by kernel_rfl) (by kernel_rfl) (fun _ _ _ h=>h) rfl ⟨d0,d1,d2,d3,d5⟩ (by rintro w' ⟨hw1,hw2,hw3,hw4,hw5⟩; go_simp; rfl) ?_;simp only[Act.put,az,aA,aB];refine af 4 rfl (by kernel_rfl) (by kernel_rfl) (by kernel_rfl) (fun _ _ _ h=>h) rfl ⟨d0,d1,d2,d3,d5⟩ (by rintro w' ⟨hw1,hw2,hw3,hw4,hw5⟩; go_simp; rfl) ?_
   simp only[Act.put,az,aA,aB];refine af 5 rfl (by kernel_rfl) (by kernel_rfl) (by kernel_rfl) (fun _ _ _ h=>h) rfl ⟨d0,d1,d2,d3,d5⟩ (by rintro w' ⟨hw1,hw2,hw3,hw4,hw5⟩; go_simp; rfl) ?_;simp only[Act.put,az,aA,aB];refine af 6 rfl (by kernel_rfl) (by kernel_rfl) (by kernel_rfl) (fun _ _ _ h=>h) rfl ⟨d0,d1,d2,d3,d5⟩ (by rintro w' ⟨hw1,hw2,hw3,hw4,hw5⟩; go_simp; rfl) ?_
   simp only[Act.put,az,aA,aB];refine af 7 rfl (by kernel_rfl) (by kernel_rfl) (by kernel_rfl) (fun _ _ _ h=>h) rfl ⟨d0,d1,d2,d3,d5⟩ (by rintro w' ⟨hw1,hw2,hw3,hw4,hw5⟩; go_simp; rfl) ?_;simp only[Act.put,az,aA,aB];refine af 8 rfl (by kernel_rfl) (by kernel_rfl) (by kernel_rfl) (fun _ _ _ h=>h) rfl ⟨d0,d1,d2,d3,d5⟩ (by rintro w' ⟨hw1,hw2,hw3,hw4,hw5⟩; go_simp; rfl) ?_
   simp only[Act.put,az,aA,aB];refine af 9 rfl (by kernel_rfl) (by kernel_rfl) (by kernel_rfl) (fun _ _ _ h=>h) rfl ⟨d0,d1,d2,d3,d5⟩ (by rintro w' ⟨hw1,hw2,hw3,hw4,hw5⟩; go_simp; rfl) ?_;simp only[Act.put,az,aA,aB];refine af 10 rfl (by kernel_rfl) (by kernel_rfl) (by kernel_rfl) (fun _ _ _ h=>h) rfl ⟨d0,d1,d2,d3,d5⟩ (by rintro w' ⟨hw1,hw2,hw3,hw4,hw5⟩; go_simp; rfl) ?_
   simp only[Act.put,az,aA,aB];refine af 11 rfl (by kernel_rfl) (by kernel_rfl) (by kernel_rfl) (fun _ _ _ h=>h) rfl ⟨d0,d1,d2,d3,d5⟩ (by rintro w' ⟨hw1,hw2,hw3,hw4,hw5⟩; go_simp; rfl) ?_;simp only[Act.put,az,aA,aB];obtain⟨W2,hW2⟩: ∃W2:World,W2=W1.alloc (.cells #[.string ⟨#[]⟩, .int .i64 0, .int .i64 0, .int .i64 0, .int .i64 0, .string ⟨#[]⟩, .slice none 0 0, .string ⟨#[]⟩, .int .i64 0, .int .i64 0] 28):=⟨_,rfl⟩
   have hb2:Below W1.heap.size W1 W2:=by rw[hW2]; exact(Below.refl _ _).alloc (Nat.le_refl _) _
   have hx2:=(hb2.block _ (lt_of_block HX1.out)).trans HX1.out;have hy2:W2.heap[wr.heap.size+1]? =some (.cells #[.string ⟨#[]⟩, .int .i64 0, .int .i64 0, .int .i64 0, .int .i64 0, .string ⟨#[]⟩, .slice none 0 0, .string ⟨#[]⟩, .int .i64 0, .int .i64 0] 28 (0,0)):=by rw[hW2,<-hz1]; exact bI W1 _
   have HX2:=ab hx2;have HY2:=ab hy2;have HB2:=ab (ag HB1.out hb2);have HW2:=ab hW2;obtain⟨nm,hnm⟩: ∃nm:ByteArray,nm=⟨(lw (bl path) (bl e.path)).toArray⟩:=⟨_,rfl⟩;have HNM:=ab hnm;have d0':=aa (k:=0) hx2;have d1':=aa (k:=1) hx2;have d2':=aa (k:=2) hx2;have d3':=aa (k:=3) hx2;have d5':=aa (k:=5) hx2;simp only[aW]at d0' d1' d2' d3' d5'
   clear hW2 hb2 hx2 hy2 hnm;refine yw 3 13 rfl rfl (by kernel_rfl) rfl rfl (fun K hK=> ?ca) (fun K hK=> ?al)
   case' ca=>
    go_wp2_with fail;refine(rR path e.path W1 (by omega)).mono ?_;rintro e' w' ⟨rfl,rfl⟩;rw[<-HNM.out];go_wp2_with fail;refine⟨⟨d0,d1,d2,d3,d5⟩, ?_⟩;refine af 12 rfl (by kernel_rfl) (by kernel_rfl) (by kernel_rfl) (fun _ _ _ h=>h) rfl ⟨d0,d1,d2,d3,d5⟩ (by rintro w' ⟨hw1,hw2,hw3,hw4,hw5⟩; go_simp; rfl) ?_;simp only[Act.put,az,aA,aB];refine am 13 rfl (by kernel_rfl) rfl (fun K hK=> ?_)
    go_wp2_with fail;rw[<-HW2.out]
    (first | (refine⟨⟨d0',d1',d2',d3',d5'⟩, ?_⟩) | skip)
   case' al=>
    go_wp2_with fail;rw[<-HW2.out]
    (first | (refine⟨⟨d0',d1',d2',d3',d5'⟩, ?_⟩) | skip)
    refine am 3 rfl (by kernel_rfl) rfl (fun K hK=> ?_);go_wp2_with fail;refine(rR path e.path W2 (by omega)).mono ?_;rintro e' w' ⟨rfl,rfl⟩;rw[<-HNM.out];go_wp2_with fail;refine⟨⟨d0',d1',d2',d3',d5'⟩, ?_⟩;refine af 12 rfl (by kernel_rfl) (by kernel_rfl) (by kernel_rfl) (fun _ _ _ h=>h) rfl ⟨d0',d1',d2',d3',d5'⟩ (by rintro w' ⟨hw1,hw2,hw3,hw4,hw5⟩; go_simp; rfl) ?_
    simp only[Act.put,az,aA,aB]
   all_goals
    refine aQ (by kernel_rfl) ?_;clear d0 d1 d2 d3 d5 d0' d1' d2' d3' d5' HX1;refine bM rfl rfl (fun K hK=> ?_);have i0:=aa (k:=0) HY2.out;have i1:=aa (k:=1) HY2.out;have i2:=aa (k:=2) HY2.out;have i3:=aa (k:=3) HY2.out;have i4:=aa (k:=4) HY2.out;have i5:=aa (k:=5) HY2.out;have i6:=aa (k:=6) HY2.out;have i7:=aa (k:=7) HY2.out
    have i8:=aa (k:=8) HY2.out;have i9:=aa (k:=9) HY2.out;have g0:=ah (k:=0) HY2.out;have g1:=ah (k:=1) HY2.out;have g2:=ah (k:=2) HY2.out;have g3:=ah (k:=3) HY2.out;have g4:=ah (k:=4) HY2.out;have g5:=ah (k:=5) HY2.out;have g6:=ah (k:=6) HY2.out;have g7:=ah (k:=7) HY2.out;have g8:=ah (k:=8) HY2.out;have g9:=ah (k:=9) HY2.out
    simp only[aW]at i0 i1 i2 i3 i4 i5 i6 i7 i8 i9
    go_upto_region 6 with(fail)
    obtain⟨W3,hW3⟩: ∃W3:World,W3=((((((((((W2.setCell ⟨wr.heap.size+1,0,none⟩ (.string nm)).setCell ⟨wr.heap.size+1,1,none⟩ (.int .i64 e.kind)).setCell ⟨wr.heap.size+1,2,none⟩ (.int .i64 e.mode)).setCell ⟨wr.heap.size+1,3,none⟩ (.int .i64 e.time)).setCell ⟨wr.heap.size+1,4,none⟩ (.int .i64 0)).setCell ⟨wr.heap.size+1,5,none⟩ (.string e.link)).setCell ⟨wr.heap.size+1,6,none⟩ (.slice none 0 0)).setCell ⟨wr.heap.size+1,7,none⟩ (.string ⟨#[]⟩)).setCell ⟨wr.heap.size+1,8,none⟩ (.int .i64 0)).setCell ⟨wr.heap.size+1,9,none⟩ (.int .i64 0)):=⟨_,rfl⟩
    rw[<-hW3];have HB3:=ab (show Below wr.heap.size wr W3 by rw[hW3]; exact cU HB2.out (by show wr.heap.size<=wr.heap.size+1; omega));have HX:=ab (show W3.heap[wr.heap.size]? =some (.cells #[.string e.path, .int .i64 e.kind, .int .i64 e.mode, .int .i64 e.time, .slice da e.data.length dc, .string e.link] 79 (0,0)) by rw[hW3]; exact(jM (show wr.heap.size≠wr.heap.size+1 by omega)).trans HX2.out)
    have HY:=ab (show W3.heap[wr.heap.size+1]? =some (.cells #[.string nm, .int .i64 e.kind, .int .i64 e.mode, .int .i64 e.time, .int .i64 0, .string e.link, .slice none 0 0, .string ⟨#[]⟩, .int .i64 0, .int .i64 0] 28 (0,0)) by rw[hW3]; exact zb HY2.out);have HIN3:=ab (HIN.out.below HB3.out HBZ.out);have hz3:wr.heap.size+1<W3.heap.size:=lt_of_block HY.out;clear hW3 i0 i1 i2 i3 i4 i5 i6 i7 i8 i9 g0 g1 g2 g3 g4 g5 g6 g7 g8 g9 hz1 HX2 HY2
    have d0:=aa (k:=0) HX.out;have d1:=aa (k:=1) HX.out;have d4:=aa (k:=4) HX.out;simp only[aW]at d0 d1 d4;have i0:=aa (k:=0) HY.out;have i1:=aa (k:=1) HY.out;have i2:=aa (k:=2) HY.out;have i3:=aa (k:=3) HY.out;have i4:=aa (k:=4) HY.out;have i5:=aa (k:=5) HY.out;have i6:=aa (k:=6) HY.out;have i7:=aa (k:=7) HY.out
    have i8:=aa (k:=8) HY.out;have i9:=aa (k:=9) HY.out;have g0:=ah (k:=0) HY.out;have g1:=ah (k:=1) HY.out;have g2:=ah (k:=2) HY.out;have g3:=ah (k:=3) HY.out;have g4:=ah (k:=4) HY.out;have g5:=ah (k:=5) HY.out;have g6:=ah (k:=6) HY.out;have g7:=ah (k:=7) HY.out;have g8:=ah (k:=8) HY.out;have g9:=ah (k:=9) HY.out
    simp only[aW]at i0 i1 i2 i3 i4 i5 i6 i7 i8 i9
    by_cases hk1:e.kind=1
    ·have e1:(e.kind == 1)=true:=by simp[hk1]
     have HK1:=ab hk1;clear hk1
     go_upto_region 10 with(fail)
     obtain⟨W4,hW4⟩: ∃W4:World,W4=W3.setCell ⟨wr.heap.size+1,4,none⟩ (.int .i64 (e.data.length:Int)):=⟨_,rfl⟩;rw[<-hW4];have hb4:Below wr.heap.size wr W4:=by rw[hW4]; exact Below.setCell HB3.out (by show wr.heap.size<=wr.heap.size+1; omega) _
     have HX4:=ab (show W4.heap[wr.heap.size]? =some (.cells #[.string e.path, .int .i64 e.kind, .int .i64 e.mode, .int .i64 e.time, .slice da e.data.length dc, .string e.link] 79 (0,0)) by rw[hW4]; exact(Below.heap_setCell _ _ _ _ (by show wr.heap.size≠wr.heap.size+1; omega)).trans HX.out);have hy4:=cQ (k:=4) HY.out (.int .i64 (e.data.length:Int));simp only[List.setIfInBounds_toArray,List.set_cons_succ,List.set_cons_zero]at hy4
     rw[<-hW4]at hy4;have HYA:=ab hy4;have HIN4:=ab (HIN.out.below hb4 HBZ.out);have hdl:=(gB HVE.out).2.2;have hul:=HIU.out.len HIN.out.bd;have hus:=HX'.out.usz;have hcl:=qb HX'.out.cut e.data;have hfl:=vo (· <base) base bb kb im k c gs gv v2 (.slice da e.data.length dc) (bw k gs cs2 bs) e.data W4 HIN4.out.bd HX'.out.keys HX'.out.cut HX'.out.seed (HG.out.keep (fun i h1 _=>HIN4.out.kp.below.block i h1)) HX'.out.gens
      (gT HDY.out.1 HIN4.out.kp.below) hdl (HE.out.keep HIN4.out.kp.below HX'.out.seven) HX'.out.bbb HX'.out.bkb (Nat.le_trans hbz HIN4.out.kp.below.size) HX'.out.seven (by omega)
     have HFL:=ab hfl;clear hW4 hb4 hy4 hdl hul hus hcl hfl d0 d1 d4 i0 i1 i2 i3 i4 i5 i6 i7 i8 i9 g0 g1 g2 g3 g4 g5 g6 g7 g8 g9;have d0:=aa (k:=0) HX4.out;have d1:=aa (k:=1) HX4.out;have d4:=aa (k:=4) HX4.out;simp only[aW]at d0 d1 d4;go_wp2_with fail;refine HFL.out.mono ?_;rintro e' w5 ⟨rv,v5,rfl,hrv5,hbd5,hkp5⟩;obtain⟨ra,rc,rfl,-,-⟩:=aj hrv5;have HIN5:=ab (HIN4.out.step hbd5 hkp5)
     have hy5:=hkp5.blk HIN4.out.bd HYA.out (by decide) (by decide);have hx5:=hkp5.blk HIN4.out.bd HX4.out (by decide) (by decide);obtain⟨rn,hrn⟩: ∃rn,rn=((eP c e.data).map (aV k gs)).length:=⟨_,rfl⟩;have HRN:=ab hrn;rw[<-hrn]at hrv5 ⊢;have i6:=aa (k:=6) hy5;have g6:=ah (k:=6) hy5;simp only[aW]at i6;have HRV5:=ab hrv5;have HY5:=ab hy5;clear hbd5 hkp5 hx5 hy5 hrn hrv5 d0 d1 d4
     go_upto_region 15 with(fail)
     obtain⟨W6,hW6⟩: ∃W6:World,W6=w5.setCell ⟨wr.heap.size+1,6,none⟩ (.slice ra rn rc):=⟨_,rfl⟩;rw[<-hW6];have hy6:=cQ (k:=6) HY5.out (.slice ra rn rc);simp only[List.setIfInBounds_toArray,List.set_cons_succ,List.set_cons_zero]at hy6;rw[<-hW6]at hy6;have HI4:=ab (show sR w base bb im kb k c gv v (.slice (some ⟨b,0,none⟩) m ec) ys W6 v5 (.slice ia j ic) (bw k gs (eP c e.data) (bw k gs cs2 bs)) its by
      rw[hW6];exact HIN5.out.otherSet HY5.out (by decide) (by decide) (by decide) (by decide) (by decide) (fun e'=>by have:=(HZR.out.lt _ e').2; omega) (by have:=HIN.out.kp.below.size; omega) hbz)
     have HRV5':=ab (show W6.ownsRow w.heap.size 26 3 (.slice ra rn rc) rn (((eP c e.data).map (aV k gs)).flatMap dj) by
      rw[hW6];have hlow:=HIN4.out.kp.below.size;refine(bS HRV5.out hlow).kept (aD _ _ _ _) (.inr (fun e'=> ?_));obtain⟨cs2',hc2'⟩:=ay HRV5.out e';exact absurd (aF HY5.out hc2') (by decide))
     clear i6 g6;obtain⟨it,hit⟩: ∃it,it=cO k gs c path e bq:=⟨_,rfl⟩;have hch:it.chunks=(eP c e.data).map (aV k gs):=by rw[hit]; unfold cO; simp only[if_pos HK1.out]
     have HY4:=ab (show W6.heap[wr.heap.size+1]? =some (.cells #[.string it.name, .int .i64 it.kind, .int .i64 it.mode, .int .i64 it.time, .int .i64 it.size, .string it.link, .slice ra rn rc, .string it.node.name, .int .i64 it.node.gen, .int .i64 it.node.size] 28 (0,0)) by
      rw[hy6,HNM.out,hit];unfold cO;simp only[if_pos HK1.out,if_neg (show ¬e.kind=2 by rw[HK1.out]; decide)]
      rfl)
     have HRV4:=ab (show W6.ownsRow w.heap.size 26 3 (.slice ra rn rc) it.chunks.length (it.chunks.flatMap dj) by rw[hch,<-HRN.out]; exact HRV5'.out);have HSI:=ab (show sT it by rw[hit]; exact gV HX'.out.cut HVE.out HDY.out.2 (by decide));have HOK4:=ab (show bU it from⟨by have:=HSI.out.nm; unfold maxLen; omega,by have:=HSI.out.lk; unfold maxLen; omega,by rw[hit]; unfold cO; simp only[if_neg (show ¬e.kind=2 by rw[HK1.out]; decide)]; exact kq⟩)
     have HRS4:=ab (show ∀r∈it.chunks,bo r by
      rw[hch];intro r hr;obtain⟨x,hx,rfl⟩:=List.mem_map.1 hr;have:=(qc HX'.out.cut e.data x hx).2;exact eU HX'.out.gens (by omega))
     have HKE:=ab (show cM k gs c (bW k gs c tree n) path (e::(bO tree path).drop (j+1)) its cs2=cM k gs c (bW k gs c tree n) path ((bO tree path).drop (j+1)) (its++[it]) (cs2++eP c e.data) by rw[hit]; exact pj HK1.out);have HIU4:=ab (show ut UR (bw k gs (cs2++eP c e.data) bs) by rw[cI]; exact HIU.out.puts (HX'.out.u1 e HET.out));rw[<-cI]at HI4
     clear hit hch HY hW6 hy6;obtain⟨zs4,hzs4,hzr4,hzd4⟩:=HI4.out.its.row;have hzl4:zs4.length=j:=by rw[<-HLJ.out,<-hzs4,List.length_map]
     have HZS4:=ab hzs4;have HZR4:=ab hzr4;have HZD4:=ab hzd4;have HZL4:=ab hzl4;have hz4:w.heap.size<=(W6).heap.size:=HI4.out.kp.below.size;have hj4:j<1099511627775:=by omega
     rw[hzl4]at hzr4;have HZRJ:=ab hzr4;clear hzs4 hzr4 hzd4 hzl4;have i0:=aa (k:=0) HY4.out;have i1:=aa (k:=1) HY4.out;have i2:=aa (k:=2) HY4.out;have i3:=aa (k:=3) HY4.out;have i4:=aa (k:=4) HY4.out;have i5:=aa (k:=5) HY4.out;have i6:=aa (k:=6) HY4.out;have i7:=aa (k:=7) HY4.out;have i8:=aa (k:=8) HY4.out;have i9:=aa (k:=9) HY4.out
     have g0:=ah (k:=0) HY4.out;have g1:=ah (k:=1) HY4.out;have g2:=ah (k:=2) HY4.out;have g3:=ah (k:=3) HY4.out;have g4:=ah (k:=4) HY4.out;have g5:=ah (k:=5) HY4.out;have g6:=ah (k:=6) HY4.out;have g7:=ah (k:=7) HY4.out;have g8:=ah (k:=8) HY4.out;have g9:=ah (k:=9) HY4.out;simp only[aW]at i0 i1 i2 i3 i4 i5 i6 i7 i8 i9
     go_wp2_with (at_builtin; go_must (refine aH Tryz.appItems rfl _ _ rfl w.heap.size (.slice ia j ic) j (kL zs4) rfl (W6) [.string it.name, .int .i64 it.kind, .int .i64 it.mode, .int .i64 it.time, .int .i64 it.size, .string it.link, .slice ra rn rc, .string it.node.name, .int .i64 it.node.gen, .int .i64 it.node.size] _ rfl rfl (fw (it:=it)) HZRJ.out hj4 hz4 ?_); intro v' wc hown' hgrow' _ _; obtain⟨ae,ce,rfl,-,-⟩:=aj hown'; have HPU:=ab (HI4.out.push (it:=it) HZS4.out HZR4.out HZD4.out (by rw[HZL4.out]; exact hown') hgrow' HRV4.out HOK4.out HRS4.out hbz); clear hown' hgrow')
     clear i0 i1 i2 i3 i4 i5 i6 i7 i8 i9 g0 g1 g2 g3 g4 g5 g6 g7 g8 g9
     go_roundw
     case rel=>exact⟨j+1,_,its++[it],(cs2++eP c e.data),by omega,by go_num,by simp[HLJ.out],by rw[<-HKD.out,HDP.out,HKE.out],HIU4.out,fun y hy=>by
      rcases List.mem_append.1 hy with hy | hy
      ·exact HSM.out y hy
      ·rw[List.mem_singleton]at hy; subst hy; exact HSI.out,HPU.out⟩
     case measure=>simp[intOf]; omega
    ·have e1:(e.kind == 1)=false:=by simp[hk1]
     have HK1:=ab hk1;clear hk1
     by_cases hk2:e.kind=2
     ·have e2:(e.kind == 2)=true:=by simp[hk2]
      have HK2:=ab hk2;have hrc:=HIH.out e.path v2 (bw k gs cs2 bs) W3 (by omega) (.inr ⟨e,HET.out,rfl⟩) HIN3.out.bd (HG.out.keep (fun i h1 _=>HIN3.out.kp.below.block i h1)) (HGR.out.keep HH.out HIN3.out.kp HX'.out.ikb) HIU.out (HE.out.keep HIN3.out.kp.below HX'.out.seven) (Nat.le_trans hbz HIN3.out.kp.below.size);unfold pO at hrc;clear hk2
      cases hdp:bW k gs c tree n e.path with
      | error x=>
       rw[hdp]at hrc;have HRC:=ab hrc;have HRESX:=ab (show cM k gs c (bW k gs c tree n) path (bO tree path) [] []= .error x by rw[<-HKD.out,HDP.out,nb HK2.out,hdp]);clear hrc hdp;go_wp2_with fail;refine HRC.out.mono ?_;rintro e' w5 ⟨rfl,hx,v5,bs5,hbd5,hkp5⟩;have HIN5:=ab (HIN3.out.step hbd5 hkp5);have e4:(x != 0)=true:=by simp[hx]
       have HXN:=ab hx;clear hx d0 d1 d4 i0 i1 i2 i3 i4 i5 i6 i7 i8 i9 g0 g1 g2 g3 g4 g5 g6 g7 g8 g9;have hy5:=hkp5.blk HIN3.out.bd HY.out (by decide) (by decide);have hnb:(Value.slice ia j ic).ownBlock≠some (wr.heap.size+1):=fun e'=>by have:=(HZR.out.lt _ e').2; omega
       have hlo:w.heap.size<=wr.heap.size+1:=by have:=HIN.out.kp.below.size; omega
       have a1:=HIN5.out.otherSet (q:=7) (u:= .string ⟨#[]⟩) hy5 (by decide) (by decide) (by decide) (by decide) (by decide) hnb hlo hbz;have y1:=cQ (k:=7) hy5 (.string ⟨#[]⟩);have a2:=a1.otherSet (q:=8) (u:= .int .i64 0) y1 (by decide) (by decide) (by decide) (by decide) (by decide) hnb hlo hbz;have y2:=cQ (k:=8) y1 (.int .i64 0);have a3:=a2.otherSet (q:=9) (u:= .int .i64 0) y2 (by decide) (by decide) (by decide) (by decide) (by decide) hnb hlo hbz
       have y3:=cQ (k:=9) y2 (.int .i64 0);simp only[List.setIfInBounds_toArray,List.set_cons_succ,List.set_cons_zero]at y3;have i7:=aa (k:=7) hy5;have i8:=aa (k:=8) hy5;have i9:=aa (k:=9) hy5;have g7:=ah (k:=7) hy5;have g8:=ah (k:=8) hy5;have g9:=ah (k:=9) hy5;simp only[aW]at i7 i8 i9;obtain⟨W6,hW6⟩: ∃W6:World,W6=((w5.setCell ⟨wr.heap.size+1,7,none⟩ (.string ⟨#[]⟩)).setCell ⟨wr.heap.size+1,8,none⟩ (.int .i64 0)).setCell ⟨wr.heap.size+1,9,none⟩ (.int .i64 0):=⟨_,rfl⟩
       rw[<-hW6]at a3 y3;have HI4:=ab a3;have HY6:=ab y3;clear a1 y1 a2 y2 a3 y3 hy5 hnb hlo
       go_upto_region 13 with(fail)
       rw[<-hW6];clear hW6 i7 i8 i9 g7 g8 g9;have HRZ:=ab HI4.out.res;have z0:=aa (k:=0) HRZ.out;have z1:=aa (k:=1) HRZ.out;have z2:=aa (k:=2) HRZ.out;have y0:=ah (k:=0) HRZ.out;have y1:=ah (k:=1) HRZ.out;have y2:=ah (k:=2) HRZ.out;simp only[aW]at z0 z1 z2;go_wp2_with fail;refine me HRZ.out rfl rfl rfl ?_;have HDE:=ab (show bW k gs c tree (n+1) path= .error x by rw[bW,HRESX.out])
       rw[HDE.out];exact⟨rfl,HXN.out,v5,bs5,HI4.out.bd.other HRZ.out (by decide) (by decide) (by decide) (fun i hi _=>bC hi),((HI4.out.kp.setNew (Nat.le_refl _) hbz).setNew (Nat.le_refl _) hbz).setNew (Nat.le_refl _) hbz⟩
      | ok p=>
       rw[hdp]at hrc
       dsimp only at hrc
       have HRC:=ab hrc;have HKE0:=ab (show cM k gs c (bW k gs c tree n) path (e::(bO tree path).drop (j+1)) its cs2=cM k gs c (bW k gs c tree n) path ((bO tree path).drop (j+1)) (its++[cO k gs c path e (aV k gs p.1)]) (cs2++p.2) by rw[nb HK2.out,hdp]);have HDPL:=ab (yi hdp);have HDU:=ab (HX'.out.u2 n e.path p (by omega) (.inr ⟨e,HET.out,rfl⟩) hdp)
       obtain⟨r,hr⟩: ∃r,r=aV k gs p.1:=⟨_,rfl⟩;have HRE:=ab hr;have HRO:=ab (show bo r by rw[hr]; exact eU HX'.out.gens (by have:=HDPL.out; omega));have HRZN:=ab (show r.name.size=32 by rw[hr]; exact iW _ _ _);rw[<-hr]at HRC HKE0;unfold bB at HRC;clear hrc hdp hr;go_wp2_with fail;refine HRC.out.mono ?_;rintro e' w5 ⟨rfl,hiu5,v5,hbd5,hkp5⟩;have HIU5:=ab hiu5
       have HIN5:=ab (HIN3.out.step hbd5 hkp5);clear hiu5 d0 d1 d4 i0 i1 i2 i3 i4 i5 i6 i7 i8 i9 g0 g1 g2 g3 g4 g5 g6 g7 g8 g9;have hy5:=hkp5.blk HIN3.out.bd HY.out (by decide) (by decide);have hnb:(Value.slice ia j ic).ownBlock≠some (wr.heap.size+1):=fun e'=>by have:=(HZR.out.lt _ e').2; omega
       have hlo:w.heap.size<=wr.heap.size+1:=by have:=HIN.out.kp.below.size; omega
       have a1:=HIN5.out.otherSet (q:=7) (u:= .string r.name) hy5 (by decide) (by decide) (by decide) (by decide) (by decide) hnb hlo hbz;have y1:=cQ (k:=7) hy5 (.string r.name);have a2:=a1.otherSet (q:=8) (u:= .int .i64 r.gen) y1 (by decide) (by decide) (by decide) (by decide) (by decide) hnb hlo hbz;have y2:=cQ (k:=8) y1 (.int .i64 r.gen);have a3:=a2.otherSet (q:=9) (u:= .int .i64 r.size) y2 (by decide) (by decide) (by decide) (by decide) (by decide) hnb hlo hbz
       have y3:=cQ (k:=9) y2 (.int .i64 r.size);simp only[List.setIfInBounds_toArray,List.set_cons_succ,List.set_cons_zero]at y3;have i7:=aa (k:=7) hy5;have i8:=aa (k:=8) hy5;have i9:=aa (k:=9) hy5;have g7:=ah (k:=7) hy5;have g8:=ah (k:=8) hy5;have g9:=ah (k:=9) hy5;simp only[aW]at i7 i8 i9;obtain⟨W6,hW6⟩: ∃W6:World,W6=((w5.setCell ⟨wr.heap.size+1,7,none⟩ (.string r.name)).setCell ⟨wr.heap.size+1,8,none⟩ (.int .i64 r.gen)).setCell ⟨wr.heap.size+1,9,none⟩ (.int .i64 r.size):=⟨_,rfl⟩
       rw[<-hW6]at a3 y3;have HI4:=ab a3;have HY6:=ab y3;clear a1 y1 a2 y2 a3 y3 hy5 hnb hlo
       go_upto_region 13 with(fail)
       rw[<-hW6];clear hW6 i7 i8 i9 g7 g8 g9
       go_upto_region 15 with(fail)
       obtain⟨it,hit⟩: ∃it,it=cO k gs c path e r:=⟨_,rfl⟩;have hch:it.chunks=[]:=by rw[hit]; unfold cO; simp only[if_neg HK1.out]
       have HY4:=ab (show W6.heap[wr.heap.size+1]? =some (.cells #[.string it.name, .int .i64 it.kind, .int .i64 it.mode, .int .i64 it.time, .int .i64 it.size, .string it.link, .slice none 0 0, .string it.node.name, .int .i64 it.node.gen, .int .i64 it.node.size] 28 (0,0)) by
        rw[HY6.out,HNM.out,hit];unfold cO;simp only[if_neg HK1.out,if_pos HK2.out])
       have HRV4:=ab (show W6.ownsRow w.heap.size 26 3 (.slice none 0 0) it.chunks.length (it.chunks.flatMap dj) by rw[hch]; exact World.ownsRow_nil _ _ _ _);have HSI:=ab (show sT it by rw[hit]; exact gV HX'.out.cut HVE.out HDY.out.2 (by rw[HRZN.out]; decide));have HOK4:=ab (show bU it from⟨by have:=HSI.out.nm; unfold maxLen; omega,by have:=HSI.out.lk; unfold maxLen; omega,by rw[hit]; unfold cO; simp only[if_pos HK2.out]; exact HRO.out⟩)
       have HRS4:=ab (show ∀r∈it.chunks,bo r by rw[hch]; simp);have HKE:=ab (show cM k gs c (bW k gs c tree n) path (e::(bO tree path).drop (j+1)) its cs2=cM k gs c (bW k gs c tree n) path ((bO tree path).drop (j+1)) (its++[it]) (cs2++p.2) by rw[hit]; exact HKE0.out);have HIU4:=ab (show ut UR (bw k gs (cs2++p.2) bs) by rw[cI]; exact HIU5.out)
       rw[<-cI]at HI4;clear hit hch;obtain⟨zs4,hzs4,hzr4,hzd4⟩:=HI4.out.its.row;have hzl4:zs4.length=j:=by rw[<-HLJ.out,<-hzs4,List.length_map]
       have HZS4:=ab hzs4;have HZR4:=ab hzr4;have HZD4:=ab hzd4;have HZL4:=ab hzl4;have hz4:w.heap.size<=(W6).heap.size:=HI4.out.kp.below.size;have hj4:j<1099511627775:=by omega
       rw[hzl4]at hzr4;have HZRJ:=ab hzr4;clear hzs4 hzr4 hzd4 hzl4;have i0:=aa (k:=0) HY4.out;have i1:=aa (k:=1) HY4.out;have i2:=aa (k:=2) HY4.out;have i3:=aa (k:=3) HY4.out;have i4:=aa (k:=4) HY4.out;have i5:=aa (k:=5) HY4.out;have i6:=aa (k:=6) HY4.out;have i7:=aa (k:=7) HY4.out;have i8:=aa (k:=8) HY4.out;have i9:=aa (k:=9) HY4.out
       have g0:=ah (k:=0) HY4.out;have g1:=ah (k:=1) HY4.out;have g2:=ah (k:=2) HY4.out;have g3:=ah (k:=3) HY4.out;have g4:=ah (k:=4) HY4.out;have g5:=ah (k:=5) HY4.out;have g6:=ah (k:=6) HY4.out;have g7:=ah (k:=7) HY4.out;have g8:=ah (k:=8) HY4.out;have g9:=ah (k:=9) HY4.out;simp only[aW]at i0 i1 i2 i3 i4 i5 i6 i7 i8 i9
       go_wp2_with (at_builtin; go_must (refine aH Tryz.appItems rfl _ _ rfl w.heap.size (.slice ia j ic) j (kL zs4) rfl (W6) [.string it.name, .int .i64 it.kind, .int .i64 it.mode, .int .i64 it.time, .int .i64 it.size, .string it.link, .slice none 0 0, .string it.node.name, .int .i64 it.node.gen, .int .i64 it.node.size] _ rfl rfl (fw (it:=it)) HZRJ.out hj4 hz4 ?_); intro v' wc hown' hgrow' _ _; obtain⟨ae,ce,rfl,-,-⟩:=aj hown'; have HPU:=ab (HI4.out.push (it:=it) HZS4.out HZR4.out HZD4.out (by rw[HZL4.out]; exact hown') hgrow' HRV4.out HOK4.out HRS4.out hbz); clear hown' hgrow')
       clear i0 i1 i2 i3 i4 i5 i6 i7 i8 i9 g0 g1 g2 g3 g4 g5 g6 g7 g8 g9
       go_roundw
       case rel=>exact⟨j+1,_,its++[it],(cs2++p.2),by omega,by go_num,by simp[HLJ.out],by rw[<-HKD.out,HDP.out,HKE.out],HIU4.out,fun y hy=>by
        rcases List.mem_append.1 hy with hy | hy
        ·exact HSM.out y hy
        ·rw[List.mem_singleton]at hy; subst hy; exact HSI.out,HPU.out⟩
       case measure=>simp[intOf]; omega
     ·have e2:(e.kind == 2)=false:=by simp[hk2]
      have HK2:=ab hk2;clear hk2
      go_upto_region 15 with(fail)
      clear i0 i1 i2 i3 i4 i5 i6 i7 i8 i9 g0 g1 g2 g3 g4 g5 g6 g7 g8 g9 d0 d1 d4;obtain⟨it,hit⟩: ∃it,it=cO k gs c path e bq:=⟨_,rfl⟩;have HI4:=HIN3;have HY4:=ab (show W3.heap[wr.heap.size+1]? =some (.cells #[.string it.name, .int .i64 it.kind, .int .i64 it.mode, .int .i64 it.time, .int .i64 it.size, .string it.link, .slice none 0 0, .string it.node.name, .int .i64 it.node.gen, .int .i64 it.node.size] 28 (0,0)) by
       rw[HY.out,HNM.out,hit];unfold cO;simp only[if_neg HK1.out,if_neg HK2.out]
       rfl)
      have hch:it.chunks=[]:=by rw[hit]; unfold cO; simp only[if_neg HK1.out]
      have HRV4:=ab (show W3.ownsRow w.heap.size 26 3 (.slice none 0 0) it.chunks.length (it.chunks.flatMap dj) by rw[hch]; exact World.ownsRow_nil _ _ _ _);have HSI:=ab (show sT it by rw[hit]; exact gV HX'.out.cut HVE.out HDY.out.2 (by decide));have HOK4:=ab (show bU it from⟨by have:=HSI.out.nm; unfold maxLen; omega,by have:=HSI.out.lk; unfold maxLen; omega,by rw[hit]; unfold cO; simp only[if_neg HK2.out]; exact kq⟩)
      have HRS4:=ab (show ∀r∈it.chunks,bo r by rw[hch]; simp);have HKE:=ab (show cM k gs c (bW k gs c tree n) path (e::(bO tree path).drop (j+1)) its cs2=cM k gs c (bW k gs c tree n) path ((bO tree path).drop (j+1)) (its++[it]) cs2 by rw[hit]; exact vW HK1.out HK2.out);have HIU4:=HIU;clear hit hch HY;obtain⟨zs4,hzs4,hzr4,hzd4⟩:=HI4.out.its.row
      have hzl4:zs4.length=j:=by rw[<-HLJ.out,<-hzs4,List.length_map]
      have HZS4:=ab hzs4;have HZR4:=ab hzr4;have HZD4:=ab hzd4;have HZL4:=ab hzl4;have hz4:w.heap.size<=(W3).heap.size:=HI4.out.kp.below.size;have hj4:j<1099511627775:=by omega
      rw[hzl4]at hzr4;have HZRJ:=ab hzr4;clear hzs4 hzr4 hzd4 hzl4;have i0:=aa (k:=0) HY4.out;have i1:=aa (k:=1) HY4.out;have i2:=aa (k:=2) HY4.out;have i3:=aa (k:=3) HY4.out;have i4:=aa (k:=4) HY4.out;have i5:=aa (k:=5) HY4.out;have i6:=aa (k:=6) HY4.out;have i7:=aa (k:=7) HY4.out;have i8:=aa (k:=8) HY4.out;have i9:=aa (k:=9) HY4.out
      have g0:=ah (k:=0) HY4.out;have g1:=ah (k:=1) HY4.out;have g2:=ah (k:=2) HY4.out;have g3:=ah (k:=3) HY4.out;have g4:=ah (k:=4) HY4.out;have g5:=ah (k:=5) HY4.out;have g6:=ah (k:=6) HY4.out;have g7:=ah (k:=7) HY4.out;have g8:=ah (k:=8) HY4.out;have g9:=ah (k:=9) HY4.out;simp only[aW]at i0 i1 i2 i3 i4 i5 i6 i7 i8 i9
      go_wp2_with (at_builtin; go_must (refine aH Tryz.appItems rfl _ _ rfl w.heap.size (.slice ia j ic) j (kL zs4) rfl (W3) [.string it.name, .int .i64 it.kind, .int .i64 it.mode, .int .i64 it.time, .int .i64 it.size, .string it.link, .slice none 0 0, .string it.node.name, .int .i64 it.node.gen, .int .i64 it.node.size] _ rfl rfl (fw (it:=it)) HZRJ.out hj4 hz4 ?_); intro v' wc hown' hgrow' _ _; obtain⟨ae,ce,rfl,-,-⟩:=aj hown'; have HPU:=ab (HI4.out.push (it:=it) HZS4.out HZR4.out HZD4.out (by rw[HZL4.out]; exact hown') hgrow' HRV4.out HOK4.out HRS4.out hbz); clear hown' hgrow')
      clear i0 i1 i2 i3 i4 i5 i6 i7 i8 i9 g0 g1 g2 g3 g4 g5 g6 g7 g8 g9
      go_roundw
      case rel=>exact⟨j+1,_,its++[it],cs2,by omega,by go_num,by simp[HLJ.out],by rw[<-HKD.out,HDP.out,HKE.out],HIU4.out,fun y hy=>by
       rcases List.mem_append.1 hy with hy | hy
       ·exact HSM.out y hy
       ·rw[List.mem_singleton]at hy; subst hy; exact HSI.out,HPU.out⟩
      case measure=>simp[intOf]; omega
  ·have hk2:j=m:=by omega
   have HKF:=ab (show cM k gs c (bW k gs c tree n) path (bO tree path) [] []= .ok (its,cs2) by
    rw[<-HKD.out,List.drop_of_length_le (by rw[<-HYS.out,List.length_map,<-HM.out]; omega)]; rfl)
   have hnd:=rP (fun _=>True) its (.slice ia j ic) wr HIN.out.its.at (HE.out.keep HIN.out.kp.below HX'.out.seven).env (yI HSM.out (by rw[HLJ.out]; omega)) (fun it hit=>(HSM.out it hit).tm);unfold mq at hnd
   by_cases hv:dZ its=true
   ·simp only[if_pos hv]at hnd
    by_cases hl:(dg its).length<=32768
    ·simp only[if_pos hl]at hnd;have HDE:=ab (show bW k gs c tree (n+1) path= .ok (dg its,cs2++[dg its]) by rw[bW,HKF.out]; simp only[if_pos hv,if_pos hl]);have HND:=ab hnd;have HUN:=ab (HX'.out.u2 (n+1) path _ hn514 HPA.out HDE.out);have HLN:=ab hl;clear hnd hv hl hk2;go_wp2_with fail;refine HND.out.mono ?_;rintro e' w5 ⟨hb5,cv,rfl,hcv⟩;obtain⟨ca,cc,rfl,-,-⟩:=aj hcv
     have HIN5:=ab (HIN.out.below hb5 (Nat.le_trans hbz HIN.out.kp.below.size));have hul:=HIU.out.len HIN.out.bd;have hus:=HX'.out.usz;have had:=uz (fun _=>True) base bb kb im k c gs gv v2 _ (bw k gs cs2 bs) (dg its) w5 HIN5.out.bd HX'.out.keys (HG.out.keep (fun i h1 _=>HIN5.out.kp.below.block i h1)) HX'.out.gens
      (aJ.weak (bm hcv) (fun _ _=>trivial)) HLN.out (HE.out.keep HIN5.out.kp.below HX'.out.seven) HX'.out.bbb HX'.out.bkb (Nat.le_trans hbz HIN5.out.kp.below.size) HX'.out.seven (by omega)
     unfold sQ bB at had;obtain⟨r,hr⟩: ∃r,r=aV k gs (dg its):=⟨_,rfl⟩;rw[<-hr]at had;have HRE:=ab hr;have HAD:=ab had;obtain⟨nl,hnl⟩: ∃nl,nl=(dg its).length:=⟨_,rfl⟩;rw[<-hnl]at HAD ⊢;clear hb5 hcv hul hus had hr hnl;go_wp2_with fail;refine HAD.out.mono ?_;rintro e' w6 ⟨rfl,v6,hbd6,hkp6⟩;have HIN6:=ab (HIN5.out.step hbd6 hkp6);have HRZ:=ab HIN6.out.res
     clear hbd6 hkp6;have z0:=aa (k:=0) HRZ.out;have z1:=aa (k:=1) HRZ.out;have z2:=aa (k:=2) HRZ.out;have y0:=ah (k:=0) HRZ.out;have y1:=ah (k:=1) HRZ.out;have y2:=ah (k:=2) HRZ.out;simp only[aW]at z0 z1 z2;go_wp2_with fail;refine me HRZ.out rfl rfl rfl ?_;rw[HDE.out];refine⟨by rw[<-HRE.out]; rfl, ?_,v6, ?_, ?_⟩
     ·rw[cI];exact HIU.out.put HUN.out
     ·rw[cI];exact HIN6.out.bd.other HRZ.out (by decide) (by decide) (by decide) (fun i hi _=>bC hi)
     ·exact((HIN6.out.kp.setNew (Nat.le_refl _) hbz).setNew (Nat.le_refl _) hbz).setNew (Nat.le_refl _) hbz
    ·simp only[if_neg hl]at hnd;have HDE:=ab (show bW k gs c tree (n+1) path= .error 2 by rw[bW,HKF.out]; simp only[if_pos hv,if_neg hl]);have HND:=ab hnd;clear hnd hv hl hk2;go_wp2_with fail;refine HND.out.mono ?_;rintro e' w5 ⟨hb5,rfl⟩;have HIN5:=ab (HIN.out.below hb5 (Nat.le_trans hbz HIN.out.kp.below.size));have HRZ:=ab HIN5.out.res;clear hb5;have z0:=aa (k:=0) HRZ.out
     have z1:=aa (k:=1) HRZ.out;have z2:=aa (k:=2) HRZ.out;have y0:=ah (k:=0) HRZ.out;have y1:=ah (k:=1) HRZ.out;have y2:=ah (k:=2) HRZ.out;simp only[aW]at z0 z1 z2;go_wp2_with fail;refine me HRZ.out rfl rfl rfl ?_;rw[HDE.out];exact⟨rfl,by decide,v2,_,HIN5.out.bd.other HRZ.out (by decide) (by decide) (by decide) (fun i hi _=>bC hi),((HIN5.out.kp.setNew (Nat.le_refl _) hbz).setNew (Nat.le_refl _) hbz).setNew (Nat.le_refl _) hbz⟩
   ·simp only[if_neg hv]at hnd;have HDE:=ab (show bW k gs c tree (n+1) path= .error 1 by rw[bW,HKF.out]; simp only[if_neg hv]);have hl:=hv;have HND:=ab hnd;clear hnd hv hl hk2;go_wp2_with fail;refine HND.out.mono ?_;rintro e' w5 ⟨hb5,rfl⟩;have HIN5:=ab (HIN.out.below hb5 (Nat.le_trans hbz HIN.out.kp.below.size));have HRZ:=ab HIN5.out.res;clear hb5;have z0:=aa (k:=0) HRZ.out
    have z1:=aa (k:=1) HRZ.out;have z2:=aa (k:=2) HRZ.out;have y0:=ah (k:=0) HRZ.out;have y1:=ah (k:=1) HRZ.out;have y2:=ah (k:=2) HRZ.out;simp only[aW]at z0 z1 z2;go_wp2_with fail;refine me HRZ.out rfl rfl rfl ?_;rw[HDE.out];exact⟨rfl,by decide,v2,_,HIN5.out.bd.other HRZ.out (by decide) (by decide) (by decide) (fun i hi _=>bC hi),((HIN5.out.kp.setNew (Nat.le_refl _) hbz).setNew (Nat.le_refl _) hbz).setNew (Nat.le_refl _) hbz⟩
theorem qe {base bb kb im:Nat} {k:bu} {c:de} {gs:List (ByteArray×Int)} {tree:List bi} {gv:Value} {UR:List aN} (hX:xF base bb kb im k c gs tree UR): ∀n,n<=514->zM base bb kb im k c gs tree gv UR n
 | 0,_=>yk hX
 | n+1,h=>yj n hX h (qe hX n (by omega))
end Go.Proofs.YtpffpjbkbaleiaaGreatDoor
namespace Go.Proofs.YtpffpjbkbaleiaaGreatDoor
open Go Go.RowKit Go.Maps
theorem br.hitM {S:Nat->Prop} {w:World} {cv:Value} {cs:List (ByteArray×List UInt8)} (h:br S w cv cs) {n:ByteArray} {bs:List UInt8} (hn:n.size<=maxLen) (hf:cB cs n=some bs):
  ∃v,(Instr.lookup 55 cv (.string n) true).run Tryz.prog w= .ok (.tuple #[v, .bool true]) w/\aC S w v bs:=by
 rcases h with⟨_,rfl⟩ | ⟨b,m,rfl,_,h2,h3⟩
 ·simp[cB]at hf
 ·obtain⟨v,hv,hb⟩:=h3.hit hf;exact⟨v,h2.hit iO (t:=55) (e:=29) (by kernel_rfl) (kM hn) hv true,hb⟩
theorem br.missM {S:Nat->Prop} {w:World} {cv:Value} {cs:List (ByteArray×List UInt8)} (h:br S w cv cs) {n:ByteArray} (hn:n.size<=maxLen) (hf:cB cs n=none):
  (Instr.lookup 55 cv (.string n) true).run Tryz.prog w= .ok (.tuple #[.slice none 0 0, .bool false]) w:=by
 obtain⟨l,hl⟩:=kM hn
 rcases h with⟨rfl,_⟩ | ⟨b,m,rfl,_,h2,h3⟩
 ·exact Maps.look_nil true iO (t:=55) (e:=29) (by kernel_rfl) (by kernel_rfl) hl
 ·exact h2.miss iO (t:=55) (e:=29) (by kernel_rfl) (by kernel_rfl) (kM hn) (h3.miss hf) true
theorem pw (r:aN) (w:World) (hr:bo r):Calls Tryz.prog 79 #[bB r] w fun e w'=>e= .returned (.bool (eA r))/\Below w.heap.size w w':=by
 obtain⟨n,g,s⟩:=r;obtain⟨h1,h2,h3⟩:=hr;unfold maxLen at h1;simp only[bB,eA]at *
 go_enter Tryz.func79,Tryz.ntmps79
 go_wp2_with fail
 all_goals (go_ret; refine⟨ak ?_,(Below.refl _ _).alloc (Nat.le_refl _) _⟩; rw[Bool.eq_iff_iff]; simp; omega)
theorem ny (r:aN) (b:Bool) (w:World) (hr:bo r) (h:eA r=b):Calls Tryz.prog 79 #[bB r] w fun e w'=>e= .returned (.bool b)/\Below w.heap.size w w':=by rw[<-h]; exact pw r w hr
theorem vP (S:Nat->Prop) (cv:Value) (cs:List (ByteArray×List UInt8)) (r:aN) (w:World) (hc:br S w cv cs) (hr:bo r):Calls Tryz.prog 98 #[bB r,cv] w (jX cs r S w):=by
 have hnm:=hr.nm;have HC:=ab (hc.below ((Below.refl _ _).alloc (Nat.le_refl _) (.cells #[.string r.name, .int .i64 r.gen, .int .i64 r.size] 26)));have HB:=ab ((Below.refl w.heap.size w).alloc (Nat.le_refl _) (.cells #[.string r.name, .int .i64 r.gen, .int .i64 r.size] 26));unfold bB;clear hc hr
 cases hf:cB cs r.name with
 | none=>
  have hlk:=HC.out.missM hnm hf;have HF:=ab (show bR cs r= .error 10 by unfold bR; rw[hf]);clear hf hnm
  go_enter Tryz.func98,Tryz.ntmps98
  go_wp2_with fail
  go_ret2
  exact⟨HB.out,by rw[HF.out]; exact⟨rfl,by decide⟩⟩
 | some bs=>
  obtain⟨v,hlk,hv⟩:=HC.out.hitM hnm hf;have HV:=ab hv;obtain⟨_,a,cap,rfl,hn,hm,-⟩:=hv;unfold maxLen at hm
  by_cases hl:(bs.length:Int)=r.size
  ·have HF:=ab (show bR cs r= .ok bs by unfold bR; rw[hf]; simp only[if_pos hl]);have e1:((bs.length:Int) != r.size)=false:=by simp[hl]
   clear hf hnm hl
   go_enter Tryz.func98,Tryz.ntmps98
   go_wp2_with fail
   go_ret2
   exact⟨HB.out,by rw[HF.out]; exact⟨_,rfl,HV.out⟩⟩
  ·have HF:=ab (show bR cs r= .error 9 by unfold bR; rw[hf]; simp only[if_neg hl]);have e1:((bs.length:Int) != r.size)=true:=by simp[hl]
   clear hf hnm hl
   go_enter Tryz.func98,Tryz.ntmps98
   go_wp2_with fail
   go_ret2
   exact⟨HB.out,by rw[HF.out]; exact⟨rfl,by decide⟩⟩
end Go.Proofs.YtpffpjbkbaleiaaGreatDoor
namespace Go.Proofs.YtpffpjbkbaleiaaGreatDoor
open Go Go.RowKit Go.Maps
def el (cs:List (ByteArray×List UInt8)) (r:aN):Except Int (List aE):=match dh cs r with
 | .error x=>if x=10 then .ok []else .error x
 | .ok l=> .ok l
def zT (cs:List (ByteArray×List UInt8)) (r:aN) (w:World) (e:Ending) (w':World):Prop:=Below w.heap.size w w'/\match el cs r with
 | .error x=>e= .returned (.tuple #[.slice none 0 0, .int .i64 x])/\x≠0
 | .ok l=> ∃v,e= .returned (.tuple #[v, .int .i64 0])/\bn (w.heap.size<= ·) w' v l
theorem rX (S:Nat->Prop) (cv:Value) (cs:List (ByteArray×List UInt8)) (r:aN) (w:World) (hc:br S w cv cs) (hr:bo r) (henv:fN w):Calls Tryz.prog 95 #[cv,bB r] w (zT cs r w):=by
 have HB:=ab ((Below.refl w.heap.size w).alloc (Nat.le_refl _) (.cells #[.string r.name, .int .i64 r.gen, .int .i64 r.size] 26));have HC:=ab (hc.below HB.out);have HR:=ab hr;have HE:=ab (henv.below HB.out);unfold bB;clear hc hr henv
 go_enter Tryz.func95,Tryz.ntmps95
 go_wp2_with fail;refine(kr S cv cs r _ HC.out HR.out HE.out).mono ?_;rintro e w1 ⟨hb1,hres⟩;have HB1:=ab (ag HB.out hb1);have hz:=hb1.size;simp at hz;clear hb1
 cases hnd:dh cs r with
 | error x=>
  rw[hnd]at hres;obtain⟨rfl,hx⟩:=hres
  by_cases h10:x=10
  ·subst h10;have HN:=ab (show el cs r= .ok [] by unfold el; rw[hnd]; rfl);clear hnd hx;go_wp2_with fail
   go_ret2
   exact⟨HB1.out,by rw[HN.out]; exact⟨_,rfl,aO.nil⟩⟩
  ·have HN:=ab (show el cs r= .error x by unfold el; rw[hnd]; simp only[if_neg h10]);have e1:(x == 10)=false:=by simp[h10]
   have HX:=ab hx;clear hnd hx h10;go_wp2_with fail
   go_ret2
   exact⟨HB1.out,by rw[HN.out]; exact⟨rfl,HX.out⟩⟩
 | ok l=>
  rw[hnd]at hres;obtain⟨v,rfl,hv⟩:=hres;have HN:=ab (show el cs r= .ok l by unfold el; rw[hnd]);have HV:=ab hv;have HV2:=ab (show bn (w.heap.size<= ·) w1 v l from by
   obtain⟨cells,h1,h2⟩:=hv;have hwz:w.heap.size<=(w.alloc (.cells #[.string r.name, .int .i64 r.gen, .int .i64 r.size] 26)).heap.size:=by simp
   exact⟨cells,h1.weak (fun k hk=>Nat.le_trans hwz hk),h2.mono (fun c x _ hx=>hx.same (fun k _ hS=>⟨Nat.le_trans hwz hS,rfl⟩))⟩)
  obtain⟨a,cap,rfl,-,-,-⟩:=aO.shape hv ei.len;clear hnd hv;go_wp2_with fail
  go_ret2
  exact⟨HB1.out,by rw[HN.out]; exact⟨_,rfl,HV2.out⟩⟩
end Go.Proofs.YtpffpjbkbaleiaaGreatDoor
namespace Go.Proofs.YtpffpjbkbaleiaaGreatDoor
open Go.RowKit
def uu :Prop:= ∀(S:Nat->Prop) (it:aE) (cv:Value) (w:World),aT S w cv it.chunks->bU it->Calls Tryz.prog 54 #[dr cv it] w fun e w'=>e= .returned (.bool (bT it))/\Below w.heap.size w w'
theorem yy (HI:uu) (S:Nat->Prop) (it:aE) (cv:Value) (b:Bool) (w:World) (hcv:aT S w cv it.chunks) (hok:bU it) (h:bT it=b):Calls Tryz.prog 54 #[dr cv it] w fun e w'=>e= .returned (.bool b)/\Below w.heap.size w w':=by
 rw[<-h]; exact HI S it cv w hcv hok
end Go.Proofs.YtpffpjbkbaleiaaGreatDoor
namespace Go.Proofs.YtpffpjbkbaleiaaGreatDoor
open Go.RowKit
theorem AD (l:List UInt8):(qr l).length<=4*l.length:=by
 have h1:=ol l;have: ∀rs:List Int,(rs.flatMap Lib.encodeRune).length<=4*rs.length:=by
  intro rs
  induction rs with
  | nil=>simp
  | cons r rs ih=>rw[List.flatMap_cons,List.length_append,List.length_cons]; have:=mN r; omega
 have h2:=this (kS l);unfold qr; omega
theorem qZ (s:ByteArray) (pos:Nat):Lib.decodeL ((bl s).drop pos)=Utf8.decode s pos:=Lib.decodeL_drop s pos
theorem Aj {s:ByteArray} {pos:Nat} (h:pos<s.size):(bl s).drop pos≠[]:=by
 intro e; have:=List.drop_eq_nil_iff.1 e; rw[<-ar]at this; omega
theorem xy {s o:ByteArray} {pos:Nat} (hp:pos<s.size) (h:bl o++qr ((bl s).drop pos)=qr (bl s)):
  bl (o++Utf8.encode ((Utf8.decode s pos).1:Int))++qr ((bl s).drop (pos+(Utf8.decode s pos).2))=qr (bl s):=by
 rw[vr,<-h,sk _ (Aj hp),qZ,List.drop_drop,<-ti,Ag,List.append_assoc]
theorem tW (s:ByteArray) (w:World) (hs:s.size<=16777216):
  Calls Tryz.prog 164 #[.string s] w fun e w'=>e= .returned (.bool (Lib.validD (bl s)))/\Below w.heap.size w w':=by
 go_enter Tryz.func164,Tryz.ntmps164
 go_wp2
 go_loopw [3] (fun v wr=> ∃(pos:Nat) (o:ByteArray),v= .string o/\wr=w.iter s pos/\o.size<=67108864/\bl o++qr ((bl s).drop pos)=qr (bl s)) (fun _ wr=>s.size-wr.iterPos w.heap.size)
 case atStart=>exact⟨0,⟨#[]⟩,rfl,rfl,by simp[ByteArray.size],by simp[bl]⟩
 case round=>
  obtain⟨pos,o,rfl,rfl,ho,hrel2⟩:=hrel;have HR:=ab hrel2;clear hrel2
  by_cases hp:pos<s.size
  ·have hnx: ∀ty,(Instr.next (.pointer (some ⟨w.heap.size,0,none⟩)) true ty).run Tryz.prog (w.iter s pos)=_:=fun ty=>run_next_any w s pos ty hp
   obtain⟨r,hr⟩: ∃r,r=(Utf8.decode s pos).1:=⟨_,rfl⟩;obtain⟨E,hE⟩: ∃E,E=Utf8.encode (r:Int):=⟨_,rfl⟩;have hcv: ∀w',(convert 21 9 (.int .i32 (r:Int))).run Tryz.prog w'= .ok (.string E) w':=fun w'=>by rw[hE]; exact run_convert_int_string w' _ _ .i32 _ (by rw[Tryz.underlying21]; rfl) Tryz.underlying9
   have hE4:E.size<=4:=by rw[hE]; exact encode_size_le _
   simp only[<-hr]at hnx;have HE:=ab hE;have HRR:=ab hr;clear hE hr
   go_wp2
   go_roundw
   case rel=>
    have hn:bl (o++E)++qr ((bl s).drop (pos+(Utf8.decode s pos).2))=qr (bl s):=by rw[HE.out,HRR.out]; exact xy hp HR.out
    refine⟨pos+(Utf8.decode s pos).2,o++E,rfl,rfl, ?_,hn⟩;have h1:=congrArg List.length hn;have h2:=AD (bl s);rw[List.length_append,<-ar]at h1;rw[<-ar]at h2;omega
   case measure=>
    rw[World.iterPos_iter,World.iterPos_iter];have:=Lib.width_pos s pos;omega
  ·have hnx: ∀ty,(Instr.next (.pointer (some ⟨w.heap.size,0,none⟩)) true ty).run Tryz.prog (w.iter s pos)=_:=fun ty=>run_next_end w s pos ty hp
   go_wp2
   go_ret;refine⟨ak ?_,(Below.refl _ _).alloc (Nat.le_refl _) _⟩;have h1:bl o=qr (bl s):=by
    rw[<-HR.out,List.drop_eq_nil_of_le (by rw[<-ar]; omega),qs,List.append_nil]
   rw[bZ,bZ,h1];exact wI (bl s)
theorem rL {s:ByteArray} {j:Nat} (hj:j<s.size) (h:(s[j].toNat:Int)<32):jm (bl s)=false:=by
 refine rM hj ?_;rw[jK s j hj,<-et s j hj]; omega
theorem rZ (s:ByteArray) (w:World) (hs:s.size<=16777216):
  Calls Tryz.prog 138 #[.string s] w fun e w'=>e= .returned (.bool (nJ (bl s)))/\Below w.heap.size w w':=by
 go_enter Tryz.func138,Tryz.ntmps138
 go_wp2
 go_loop [3] (fun i=> ∃k:Nat,k<=s.size/\i= .int .i64 k/\ ∀j,j<k->j<s.size->32<=(s.get! j).toNat) (fun i=>s.size-(intOf i).toNat)
 case atStart=>exact⟨0,Nat.zero_le _,rfl,fun j hj=>by omega⟩
 case round=>
  obtain⟨k,hk,rfl,hlow⟩:=hrel;have HL:=ab hlow;clear hlow
  by_cases hp:k<s.size
  ·go_wp2
   ·have hlt:(s[k].toNat:Int)<32:=by assumption
    go_ret;exact⟨ak (by simp[nJ,rL hp hlt]),Below.refl _ _⟩
   ·have hge:(32:Int)<=(s[k].toNat:Int):=by assumption
    go_round
    case rel=>
     refine⟨k+1,by omega,by go_num,fun j hj hjs=> ?_⟩
     rcases Nat.lt_or_ge j k with h | h
     ·exact HL.out j h hjs
     ·obtain rfl:j=k:=by omega
      rw[jK s j hp,<-et s j hp]; omega
    case measure=>simp[intOf]<;> omega
  ·go_wp2_with (go_at_call 164; refine(tW s _ hs).mono ?_; rintro e w' ⟨rfl,hb⟩);go_ret;refine⟨ak ?_,hb⟩;simp only[nJ,uT (fun j hj=>HL.out j (by omega) hj),Bool.true_and]
def xG (c:UInt8) (s:ByteArray) (w:World) (e:Ending) (w':World):Prop:=
 ∃v xs,e= .returned v/\xs.map bl=aM c (bl s)/\gO (w.heap.size<= ·) w' v xs/\Below w.heap.size w w'
theorem rg {s:ByteArray} {c:UInt8} {ys:List ByteArray} {f k:Nat} (hk:k<s.size) (hf:f<=k) (h:aM c (bl s)=ys.map bl++aM c ((bl s).drop f)) (hn: ∀j,f<=j->j<k->(s.get! j)≠c) (hc:s[k]=c):
  aM c (bl s)=(ys++[s.extract f k]).map bl++aM c ((bl s).drop (k+1)):=by
 have hk2:k<(bl s).length:=by rw[<-ar]; exact hk
 have e:(bl s).drop f=bl (s.extract f k)++c::(bl s).drop (k+1):=by
  rw[gR,<-hc,et s k hk,List.getElem_cons_drop,List.drop_take];have h2:=List.take_append_drop (k-f) ((bl s).drop f);rw[List.drop_drop,show f+(k-f)=k by omega]at h2;exact h2.symm
 have hm:c∉bl (s.extract f k):=by
  intro hm;obtain⟨j,hj,ej⟩:=List.getElem_of_mem hm;simp only[gR]at hj ej;rw[List.length_drop,List.length_take]at hj;rw[List.getElem_drop,List.getElem_take]at ej;exact hn (f+j) (by omega) (by omega) (by rw[jK s _ (by omega)]; exact ej)
 rw[h,e,go _ _ _ hm]; simp
theorem rf {s:ByteArray} {c:UInt8} {ys:List ByteArray} {f:Nat} (hf:f<=s.size) (h:aM c (bl s)=ys.map bl++aM c ((bl s).drop f)) (hn: ∀j,f<=j->j<s.size->(s.get! j)≠c):
  aM c (bl s)=(ys++[s.extract f s.size]).map bl:=by
 have e:(bl s).drop f=bl (s.extract f s.size):=by rw[gR,ar,List.take_length]
 have hm:c∉(bl s).drop f:=by
  intro hm;obtain⟨j,hj,ej⟩:=List.getElem_of_mem hm;rw[List.length_drop,<-ar]at hj;rw[List.getElem_drop]at ej;exact hn (f+j) (by omega) (by omega) (by rw[jK s _ (by omega)]; exact ej)
 rw[h,dG _ _ hm,e]; simp
theorem qq (s:ByteArray) (w:World) (hs:s.size<=16777216):Calls Tryz.prog 87 #[.string s] w (xG 47 s w):=by
 go_enter Tryz.func87,Tryz.ntmps87
 go_wp2_with fail
 go_loopw [3,4,5] (fun v fr i wr=> ∃(k f:Nat) (ys:List ByteArray),k<=s.size+1/\f<=k/\ys.length<=k/\i= .int .i64 k/\fr= .int .i64 f/\wr.ownsRow w.heap.size 9 1 v ys.length (ys.map Value.string)/\Below w.heap.size w wr/\
   (k<=s.size->aM 47 (bl s)=ys.map bl++aM 47 ((bl s).drop f)/\ ∀j,f<=j->j<k->(s.get! j)≠47)/\(k=s.size+1->aM 47 (bl s)=ys.map bl)) (fun _ _ i _=>s.size+1-(intOf i).toNat)
 case atStart=>exact⟨0,0,[],Nat.zero_le _,Nat.le_refl _,Nat.le_refl _,rfl,rfl,World.ownsRow_nil _ _ _ _,Below.refl _ _,fun _=>⟨by simp,fun j _ hj=>by omega⟩,fun h=>by omega⟩
 case round=>
  obtain⟨k,f,ys,hk,hf,hy,rfl,rfl,hown,hb,hr1,hr2⟩:=hrel;have HO:=ab hown;have HB:=ab hb;have HR1:=ab hr1;have HR2:=ab hr2;have hsz:w.heap.size<=wr.heap.size:=hb.size;clear hown hb hr1 hr2
  by_cases hle:k<=s.size
  ·by_cases hlt:k<s.size
   ·have e1:((k:Int) == (s.size:Int))=false:=by rw[beq_eq_false_iff_ne]; omega
    by_cases hc:s[k]=47
    ·have e2:((s[k].toNat:Int) == (47:UInt8).toNat)=true:=by rw[hc]; rfl
     have e2':((s[k].toNat:Int) == 47)=true:=e2;have HCC:=ab hc;clear hc e2;go_wp2_with (at_builtin; go_must (refine lI Tryz.appStrings rfl _ _ rfl w.heap.size u3 ys.length (ys.map Value.string) rfl wr [.string (s.extract f k)] _ rfl rfl (by simp; rfl) HO.out (by omega) hsz ?_); intro v' w1 hown1 hgrow1 _);have HO1:=ab hown1;have HG1:=ab hgrow1;clear hown1 hgrow1;go_wp2_with fail
     go_roundw
     case rel=>
      refine⟨k+1,k+1,ys++[s.extract f k],by omega,Nat.le_refl _,by simp; omega,by go_num,by go_num, ?_,dw HB.out HO.out HG1.out (Nat.le_refl _) hsz,fun _=>⟨rg hlt hf (HR1.out hle).1 (HR1.out hle).2 HCC.out,fun j h1 h2=>by omega⟩,fun h=>by omega⟩;have:=HO1.out; simpa using this
     case measure=>simp[intOf]<;> omega
    ·have e2':((s[k].toNat:Int) == 47)=false:=by
      rw[beq_eq_false_iff_ne]; intro e; apply hc; apply UInt8.toNat_inj.1; have:s[k].toNat=47:=by omega
      rw[this]; rfl
     have HCC:=ab hc;clear hc;go_wp2_with fail
     go_roundw
     case rel=>
      refine⟨k+1,f,ys,by omega,by omega,by omega,by go_num,rfl,HO.out,HB.out,fun _=>⟨(HR1.out hle).1,fun j h1 h2=> ?_⟩,fun h=>by omega⟩
      rcases Nat.lt_or_ge j k with h | h
      ·exact(HR1.out hle).2 j h1 h
      ·obtain rfl:j=k:=by omega
       rw[jK s j hlt,<-et s j hlt]; exact HCC.out
     case measure=>simp[intOf]<;> omega
   ·obtain rfl:k=s.size:=by omega
    have e1:((s.size:Int) == (s.size:Int))=true:=by simp
    go_wp2_with (at_builtin; go_must (refine lI Tryz.appStrings rfl _ _ rfl w.heap.size u3 ys.length (ys.map Value.string) rfl wr [.string (s.extract f s.size)] _ rfl rfl (by simp; rfl) HO.out (by omega) hsz ?_); intro v' w1 hown1 hgrow1 _);have HO1:=ab hown1;have HG1:=ab hgrow1;clear hown1 hgrow1;go_wp2_with fail
    go_roundw
    case rel=>
     refine⟨s.size+1,s.size+1,ys++[s.extract f s.size],by omega,Nat.le_refl _,by simp; omega,by go_num,by go_num, ?_,dw HB.out HO.out HG1.out (Nat.le_refl _) hsz,fun h=>by omega,fun _=>rf hf (HR1.out hle).1 (HR1.out hle).2⟩;have:=HO1.out; simpa using this
    case measure=>simp[intOf]<;> omega
  ·obtain⟨a,cap,rfl,hn,hm⟩:=aj HO.out;go_wp2_with fail;go_ret;exact⟨_,ys,rfl,(HR2.out (by omega)).symm,(bm HO.out).weak (fun k hk=>hk.1),HB.out⟩
end Go.Proofs.YtpffpjbkbaleiaaGreatDoor
namespace Go.Proofs.YtpffpjbkbaleiaaGreatDoor
open Go.RowKit
theorem uN {xs:List ByteArray} {s:ByteArray} (hx:xs.map bl=aM 47 (bl s)):((xs.length:Int) == 1)= !(bl s).contains 47:=by
 rw[<-qU,<-hx,List.length_map,Bool.eq_iff_iff,beq_iff_eq,beq_iff_eq]; omega
theorem lO (s:ByteArray) (w:World) (hs:s.size<=16777216):
  Calls Tryz.prog 102 #[.string s] w fun e w'=>e= .returned (.bool (cV (bl s)))/\Below w.heap.size w w':=by
 go_enter Tryz.func102,Tryz.ntmps102
 go_wp2_with (first
  | (go_at_call 138; refine(rZ s _ hs).mono ?_; rintro e w1 ⟨rfl,hb1⟩)
  | (go_at_call 87; refine(qq s _ hs).mono ?_; rintro e w2 ⟨v2,xs2,rfl,hx2,hv2,hb2⟩; obtain⟨a2,c2,rfl,-,-,-⟩:=hv2.shape; have HX2:=ab hx2; clear hx2 hv2))
 all_goals (go_ret; refine⟨ak ?_,by first | exact Below.refl _ _ | exact ag hb1 hb2 | exact hb1⟩)
 all_goals (rw[Bool.eq_iff_iff]; simp only[bZ]at *)
 all_goals (first | (have hq:=uN HX2.out; simp_all [cV,ar]; done) | (simp_all [cV,ar]; done) | (simp_all [cV,ar]; omega) | (have hq:=uN HX2.out; simp_all [cV,ar]; intro _; omega))
end Go.Proofs.YtpffpjbkbaleiaaGreatDoor
namespace Go.Proofs.YtpffpjbkbaleiaaGreatDoor
open Go.RowKit
theorem nU (s:ByteArray) (w:World) (hs:64<s.size) (hm:s.size<=maxLen):Calls Tryz.prog 102 #[.string s] w fun e w'=>e= .returned (.bool (cV (bl s)))/\Below w.heap.size w w':=by
 have HF:=ab (show cV (bl s)=false by
  have h1:decide ((bl s).length<=64)=false:=by rw[<-ar]; simp; omega
  unfold cV; rw[h1]; simp)
 unfold maxLen at hm
 go_enter Tryz.func102,Tryz.ntmps102
 go_wp2_with fail
 all_goals (go_ret; exact⟨ak HF.out.symm,Below.refl _ _⟩)
theorem ba (s:ByteArray) (b:Bool) (w:World) (hs:s.size<=maxLen) (h:cV (bl s)=b):Calls Tryz.prog 102 #[.string s] w fun e w'=>e= .returned (.bool b)/\Below w.heap.size w w':=by
 rw[<-h]
 by_cases h64:s.size<=64
 ·exact lO s w (by omega)
 ·exact nU s w (by omega) hs
theorem jU (it:aE):bT it=(cV (bl it.name) && (decide (0<=it.mode) && decide (it.mode<=511) && decide (0<=it.time)) && bF it):=by
 unfold bT lF; rw[mH]
theorem tB :uu:=by
 intro S it cv w hcv hok;obtain⟨a,cap,rfl,hc,hm,-⟩:=aO.shape hcv fP.len;unfold maxLen at hm;have HV:=ab hcv;have HO:=ab hok;have hq1:=hok.nm;have hq2:=hok.lk;unfold maxLen at hq1 hq2;have heq: ∀w,(Op.equalIn 10000 26 (.agg #[.string it.node.name, .int .i64 it.node.gen, .int .i64 it.node.size]) (.agg #[.string ⟨#[]⟩, .int .i64 0, .int .i64 0])).run Tryz.prog w= .ok (decide (it.node=bq)) w:=fun w=>Bb it.node bq w
 have HL:=ab (show it.link.toList=[]<->it.link.size=0 by rw[bZ,ar]; simp);clear hcv hok;unfold dr
 cases hv:cV (bl it.name)
 ·have HVP:=ab hv;clear hv
  go_enter Tryz.func54,Tryz.ntmps54
  go_wp2_with fail;obtain⟨W,hW⟩: ∃W,W=w.alloc (.cells #[.string it.name, .int .i64 it.kind, .int .i64 it.mode, .int .i64 it.time, .int .i64 it.size, .string it.link, .slice a it.chunks.length cap, .string it.node.name, .int .i64 it.node.gen, .int .i64 it.node.size] 28):=⟨_,rfl⟩;rw[<-hW];have HBW:=ab (show Below w.heap.size w W by rw[hW]; exact(Below.refl _ _).alloc (Nat.le_refl _) _)
  have HBX:=ab (show W.heap[w.heap.size]? =some (.cells #[.string it.name, .int .i64 it.kind, .int .i64 it.mode, .int .i64 it.time, .int .i64 it.size, .string it.link, .slice a it.chunks.length cap, .string it.node.name, .int .i64 it.node.gen, .int .i64 it.node.size] 28 (0,0)) by rw[hW]; exact heap_alloc_new w _);clear hW;refine(ba it.name false _ HO.out.nm HVP.out).mono ?_;rintro e w1 ⟨rfl,hb1⟩
  have HBXr:=ab ((hb1.block w.heap.size ((Array.getElem?_eq_some_iff.1 HBX.out).1)).trans HBX.out);have HB1:=ab (ag HBW.out hb1);have hlt1:w.heap.size<w1.heap.size:=(Array.getElem?_eq_some_iff.1 HBXr.out).1;have c0:=ai (k:=0) HBXr.out;have c1:=ai (k:=1) HBXr.out;have c2:=ai (k:=2) HBXr.out;have c3:=ai (k:=3) HBXr.out;have c4:=ai (k:=4) HBXr.out
  have c5:=ai (k:=5) HBXr.out;have c6:=ai (k:=6) HBXr.out;have c7:=ai (k:=7) HBXr.out;have c8:=ai (k:=8) HBXr.out;have c9:=ai (k:=9) HBXr.out;simp only[aW]at c0 c1 c2 c3 c4 c5 c6 c7 c8 c9;clear hb1 HBX;go_wp2_with fail;go_ret;exact⟨ak (by rw[jU,HVP.out]; rfl),HB1.out⟩
 ·have HVP:=ab hv;clear hv
  by_cases hmt:0<=it.mode/\it.mode<=511/\0<=it.time
  ·have HH:=ab (show bT it=bF it by obtain⟨x1,x2,x3⟩:=hmt; rw[jU,HVP.out]; simp[x1,x2,x3]);obtain⟨hm1,hm2,hm3⟩:=hmt
   by_cases hk2:it.kind=2
   ·have hvb:bF it=(decide (it.link.size=0) && decide (it.size=0) && decide (it.chunks.length=0) && eA it.node):=by unfold bF; rw[if_neg (by omega),if_pos hk2]
    have e1:(it.kind == 1)=false:=by simp[hk2]
    have e5:(it.kind == 2)=true:=by simp[hk2]
    have e2:(it.kind != 1)=true:=by simp[hk2]
    have e3:(it.kind != 2)=false:=by simp[hk2]
    have e4:(it.kind != 3)=true:=by simp[hk2]
    clear hk2
    by_cases hch:it.chunks.length=0
    ·have hc0: ¬0<it.chunks.length:=by omega
     by_cases hsz:it.size=0
     ·have es:(it.size != 0)=false:=by simp[hsz]
      by_cases hl:it.link.size=0
      ·have hl2:it.link.toList=[]:=HL.out.2 hl;have HK:=ab (show bF it=eA it.node by rw[hvb,hch,hsz,hl]; simp);clear hvb hch hsz hl
       go_enter Tryz.func54,Tryz.ntmps54
       go_wp2_with fail;obtain⟨W,hW⟩: ∃W,W=w.alloc (.cells #[.string it.name, .int .i64 it.kind, .int .i64 it.mode, .int .i64 it.time, .int .i64 it.size, .string it.link, .slice a it.chunks.length cap, .string it.node.name, .int .i64 it.node.gen, .int .i64 it.node.size] 28):=⟨_,rfl⟩;rw[<-hW];have HBW:=ab (show Below w.heap.size w W by rw[hW]; exact(Below.refl _ _).alloc (Nat.le_refl _) _)
       have HBX:=ab (show W.heap[w.heap.size]? =some (.cells #[.string it.name, .int .i64 it.kind, .int .i64 it.mode, .int .i64 it.time, .int .i64 it.size, .string it.link, .slice a it.chunks.length cap, .string it.node.name, .int .i64 it.node.gen, .int .i64 it.node.size] 28 (0,0)) by rw[hW]; exact heap_alloc_new w _);clear hW;refine(ba it.name true _ HO.out.nm HVP.out).mono ?_;rintro e w1 ⟨rfl,hb1⟩
       have HBXr:=ab ((hb1.block w.heap.size ((Array.getElem?_eq_some_iff.1 HBX.out).1)).trans HBX.out);have HB1:=ab (ag HBW.out hb1);have hlt1:w.heap.size<w1.heap.size:=(Array.getElem?_eq_some_iff.1 HBXr.out).1;have c0:=ai (k:=0) HBXr.out;have c1:=ai (k:=1) HBXr.out;have c2:=ai (k:=2) HBXr.out;have c3:=ai (k:=3) HBXr.out;have c4:=ai (k:=4) HBXr.out
       have c5:=ai (k:=5) HBXr.out;have c6:=ai (k:=6) HBXr.out;have c7:=ai (k:=7) HBXr.out;have c8:=ai (k:=8) HBXr.out;have c9:=ai (k:=9) HBXr.out;simp only[aW]at c0 c1 c2 c3 c4 c5 c6 c7 c8 c9;clear hb1 HBX;go_wp2_with fail;refine(pw it.node _ HO.out.nd).mono ?_;rintro e w2 ⟨rfl,hb2⟩;have HB2:=ab (ag HB1.out hb2);clear hb2;go_wp2_with fail;go_ret
       exact⟨ak (by rw[HH.out,HK.out]),HB2.out⟩
      ·have hl2: ¬it.link.toList=[]:=fun h=>hl (HL.out.1 h)
       have hl3:it.link.toList.isEmpty=false:=by rw[List.isEmpty_eq_false_iff]; exact hl2
       have HK:=ab (show bF it=false by rw[hvb]; simp[hl]);clear hvb hch hsz hl
       go_enter Tryz.func54,Tryz.ntmps54
       go_wp2_with fail;obtain⟨W,hW⟩: ∃W,W=w.alloc (.cells #[.string it.name, .int .i64 it.kind, .int .i64 it.mode, .int .i64 it.time, .int .i64 it.size, .string it.link, .slice a it.chunks.length cap, .string it.node.name, .int .i64 it.node.gen, .int .i64 it.node.size] 28):=⟨_,rfl⟩;rw[<-hW];have HBW:=ab (show Below w.heap.size w W by rw[hW]; exact(Below.refl _ _).alloc (Nat.le_refl _) _)
       have HBX:=ab (show W.heap[w.heap.size]? =some (.cells #[.string it.name, .int .i64 it.kind, .int .i64 it.mode, .int .i64 it.time, .int .i64 it.size, .string it.link, .slice a it.chunks.length cap, .string it.node.name, .int .i64 it.node.gen, .int .i64 it.node.size] 28 (0,0)) by rw[hW]; exact heap_alloc_new w _);clear hW;refine(ba it.name true _ HO.out.nm HVP.out).mono ?_;rintro e w1 ⟨rfl,hb1⟩
       have HBXr:=ab ((hb1.block w.heap.size ((Array.getElem?_eq_some_iff.1 HBX.out).1)).trans HBX.out);have HB1:=ab (ag HBW.out hb1);have hlt1:w.heap.size<w1.heap.size:=(Array.getElem?_eq_some_iff.1 HBXr.out).1;have c0:=ai (k:=0) HBXr.out;have c1:=ai (k:=1) HBXr.out;have c2:=ai (k:=2) HBXr.out;have c3:=ai (k:=3) HBXr.out;have c4:=ai (k:=4) HBXr.out
       have c5:=ai (k:=5) HBXr.out;have c6:=ai (k:=6) HBXr.out;have c7:=ai (k:=7) HBXr.out;have c8:=ai (k:=8) HBXr.out;have c9:=ai (k:=9) HBXr.out;simp only[aW]at c0 c1 c2 c3 c4 c5 c6 c7 c8 c9;clear hb1 HBX;go_wp2_with fail
       all_goals (go_ret; exact⟨ak (by rw[HH.out,HK.out]),HB1.out⟩)
     ·have es:(it.size != 0)=true:=by simp[hsz]
      have HK:=ab (show bF it=false by rw[hvb]; simp[hsz]);clear hvb hch hsz
      go_enter Tryz.func54,Tryz.ntmps54
      go_wp2_with fail;obtain⟨W,hW⟩: ∃W,W=w.alloc (.cells #[.string it.name, .int .i64 it.kind, .int .i64 it.mode, .int .i64 it.time, .int .i64 it.size, .string it.link, .slice a it.chunks.length cap, .string it.node.name, .int .i64 it.node.gen, .int .i64 it.node.size] 28):=⟨_,rfl⟩;rw[<-hW];have HBW:=ab (show Below w.heap.size w W by rw[hW]; exact(Below.refl _ _).alloc (Nat.le_refl _) _)
      have HBX:=ab (show W.heap[w.heap.size]? =some (.cells #[.string it.name, .int .i64 it.kind, .int .i64 it.mode, .int .i64 it.time, .int .i64 it.size, .string it.link, .slice a it.chunks.length cap, .string it.node.name, .int .i64 it.node.gen, .int .i64 it.node.size] 28 (0,0)) by rw[hW]; exact heap_alloc_new w _);clear hW;refine(ba it.name true _ HO.out.nm HVP.out).mono ?_;rintro e w1 ⟨rfl,hb1⟩
      have HBXr:=ab ((hb1.block w.heap.size ((Array.getElem?_eq_some_iff.1 HBX.out).1)).trans HBX.out);have HB1:=ab (ag HBW.out hb1);have hlt1:w.heap.size<w1.heap.size:=(Array.getElem?_eq_some_iff.1 HBXr.out).1;have c0:=ai (k:=0) HBXr.out;have c1:=ai (k:=1) HBXr.out;have c2:=ai (k:=2) HBXr.out;have c3:=ai (k:=3) HBXr.out;have c4:=ai (k:=4) HBXr.out
      have c5:=ai (k:=5) HBXr.out;have c6:=ai (k:=6) HBXr.out;have c7:=ai (k:=7) HBXr.out;have c8:=ai (k:=8) HBXr.out;have c9:=ai (k:=9) HBXr.out;simp only[aW]at c0 c1 c2 c3 c4 c5 c6 c7 c8 c9;clear hb1 HBX;go_wp2_with fail
      all_goals (go_ret; exact⟨ak (by rw[HH.out,HK.out]),HB1.out⟩)
    ·have hc0:0<it.chunks.length:=by omega
     have HK:=ab (show bF it=false by rw[hvb]; simp[hch]);clear hvb hch
     go_enter Tryz.func54,Tryz.ntmps54
     go_wp2_with fail;obtain⟨W,hW⟩: ∃W,W=w.alloc (.cells #[.string it.name, .int .i64 it.kind, .int .i64 it.mode, .int .i64 it.time, .int .i64 it.size, .string it.link, .slice a it.chunks.length cap, .string it.node.name, .int .i64 it.node.gen, .int .i64 it.node.size] 28):=⟨_,rfl⟩;rw[<-hW];have HBW:=ab (show Below w.heap.size w W by rw[hW]; exact(Below.refl _ _).alloc (Nat.le_refl _) _)
     have HBX:=ab (show W.heap[w.heap.size]? =some (.cells #[.string it.name, .int .i64 it.kind, .int .i64 it.mode, .int .i64 it.time, .int .i64 it.size, .string it.link, .slice a it.chunks.length cap, .string it.node.name, .int .i64 it.node.gen, .int .i64 it.node.size] 28 (0,0)) by rw[hW]; exact heap_alloc_new w _);clear hW;refine(ba it.name true _ HO.out.nm HVP.out).mono ?_;rintro e w1 ⟨rfl,hb1⟩
     have HBXr:=ab ((hb1.block w.heap.size ((Array.getElem?_eq_some_iff.1 HBX.out).1)).trans HBX.out);have HB1:=ab (ag HBW.out hb1);have hlt1:w.heap.size<w1.heap.size:=(Array.getElem?_eq_some_iff.1 HBXr.out).1;have c0:=ai (k:=0) HBXr.out;have c1:=ai (k:=1) HBXr.out;have c2:=ai (k:=2) HBXr.out;have c3:=ai (k:=3) HBXr.out;have c4:=ai (k:=4) HBXr.out
     have c5:=ai (k:=5) HBXr.out;have c6:=ai (k:=6) HBXr.out;have c7:=ai (k:=7) HBXr.out;have c8:=ai (k:=8) HBXr.out;have c9:=ai (k:=9) HBXr.out;simp only[aW]at c0 c1 c2 c3 c4 c5 c6 c7 c8 c9;clear hb1 HBX;go_wp2_with fail
     all_goals (go_ret; exact⟨ak (by rw[HH.out,HK.out]),HB1.out⟩)
   ·by_cases hn:it.node=bq
    ·have en:decide (it.node=bq)=true:=by simp[hn]
     have HN:=ab hn;clear hn
     by_cases hk1:it.kind=1
     ·have hvb:bF it=(decide (it.link.size=0) && decide (it.node=bq) && bL it):=by unfold bF; rw[if_pos hk1]
      have e1:(it.kind == 1)=true:=by simp[hk1]
      have e2:(it.kind != 1)=false:=by simp[hk1]
      have e3:(it.kind != 2)=true:=by simp[hk1]
      have e4:(it.kind != 3)=true:=by simp[hk1]
      clear hk1 hk2
      by_cases hl:it.link.size=0
      ·have hl2:it.link.toList=[]:=HL.out.2 hl;have HK:=ab (show bF it=bL it by rw[hvb,HN.out,hl]; simp);clear hvb hl
       go_enter Tryz.func54,Tryz.ntmps54
       go_wp2_with fail;obtain⟨W,hW⟩: ∃W,W=w.alloc (.cells #[.string it.name, .int .i64 it.kind, .int .i64 it.mode, .int .i64 it.time, .int .i64 it.size, .string it.link, .slice a it.chunks.length cap, .string it.node.name, .int .i64 it.node.gen, .int .i64 it.node.size] 28):=⟨_,rfl⟩;rw[<-hW];have HBW:=ab (show Below w.heap.size w W by rw[hW]; exact(Below.refl _ _).alloc (Nat.le_refl _) _)
       have HBX:=ab (show W.heap[w.heap.size]? =some (.cells #[.string it.name, .int .i64 it.kind, .int .i64 it.mode, .int .i64 it.time, .int .i64 it.size, .string it.link, .slice a it.chunks.length cap, .string it.node.name, .int .i64 it.node.gen, .int .i64 it.node.size] 28 (0,0)) by rw[hW]; exact heap_alloc_new w _);clear hW;refine(ba it.name true _ HO.out.nm HVP.out).mono ?_;rintro e w1 ⟨rfl,hb1⟩
       have HBXr:=ab ((hb1.block w.heap.size ((Array.getElem?_eq_some_iff.1 HBX.out).1)).trans HBX.out);have HB1:=ab (ag HBW.out hb1);have hlt1:w.heap.size<w1.heap.size:=(Array.getElem?_eq_some_iff.1 HBXr.out).1;have c0:=ai (k:=0) HBXr.out;have c1:=ai (k:=1) HBXr.out;have c2:=ai (k:=2) HBXr.out;have c3:=ai (k:=3) HBXr.out;have c4:=ai (k:=4) HBXr.out
       have c5:=ai (k:=5) HBXr.out;have c6:=ai (k:=6) HBXr.out;have c7:=ai (k:=7) HBXr.out;have c8:=ai (k:=8) HBXr.out;have c9:=ai (k:=9) HBXr.out;simp only[aW]at c0 c1 c2 c3 c4 c5 c6 c7 c8 c9;clear hb1 HBX;go_wp2_with fail;clear c0 c1 c2 c3 c4 c5 c6 c7 c8 c9 e1 e2 e3 e4 en hl2
       go_loopw [3,4] (fun sm i wr=> ∃k:Nat,k<=it.chunks.length/\i= .int .i64 k/\sm= .int .i64 (eK (it.chunks.take k))/\(it.chunks.take k).all eL=true/\Below w1.heap.size w1 wr) (fun _ i _=>it.chunks.length-(intOf i).toNat)
       case atStart=>exact⟨0,Nat.zero_le _,rfl,rfl,rfl,Below.refl _ _⟩
       case round=>
        obtain⟨k,hk,rfl,rfl,hal,hb⟩:=hrel;have HB:=ab hb;have HA:=ab hal;clear hb hal;have HBXw:=ab ((HB.out.block w.heap.size hlt1).trans HBXr.out);have c4:=ai (k:=4) HBXw.out;have c6:=ai (k:=6) HBXw.out;simp only[aW]at c4 c6
        by_cases hlt:k<it.chunks.length
        ·obtain⟨r,hr⟩: ∃r,it.chunks[k]? =some r:=⟨it.chunks[k],by simp[hlt]⟩;obtain⟨b,o,rfl,hok,q0,q1,q2⟩:=fp HV.out (ag HB1.out HB.out) hr;have HR:=ab hr;have HRO:=ab hok;have HS:=ab (show eK (it.chunks.take (k+1))=wrap64 (eK (it.chunks.take k)+r.size) by rw[bV hr,kV]);clear hr hok
         cases hvr:eA r
         ·have HF:=ab (show bL it=false by unfold bL; rw[pS HR.out (by simp[eL,hvr])]; rfl);have HVR:=ab hvr;clear hvr;go_wp2_with fail;refine(ny r false _ HRO.out HVR.out).mono ?_;rintro e w2 ⟨rfl,hb2⟩;have HB2:=ab (ag HB.out hb2);clear hb2;go_wp2_with fail;go_ret;exact⟨ak (by rw[HH.out,HK.out,HF.out]),ag HB1.out HB2.out⟩
         ·have HVR:=ab hvr;have hrs:0<=r.size:=by
           simp only[eA,Bool.and_eq_true,decide_eq_true_eq]at hvr;exact hvr.1.2
          clear hvr
          by_cases hs:r.size=0
          ·have HF:=ab (show bL it=false by unfold bL; rw[pS HR.out (by simp[eL,HVR.out]; omega)]; rfl);have es:(r.size == 0)=true:=by simp[hs]
           clear hs;go_wp2_with fail;refine(ny r true _ HRO.out HVR.out).mono ?_;rintro e w2 ⟨rfl,hb2⟩;have HB2:=ab (ag HB.out hb2);have d2:=(hb2.cell (aK q2)).trans q2;have d6:=(hb2.cell (aK c6)).trans c6;clear hb2 q0 q1 q2;go_wp2_with fail;go_ret;exact⟨ak (by rw[HH.out,HK.out,HF.out]),ag HB1.out HB2.out⟩
          ·have es:(r.size == 0)=false:=by simp[hs]
           have HP:=ab (show eL r=true by simp[eL,HVR.out]; omega);clear hs hrs;go_wp2_with fail;refine(ny r true _ HRO.out HVR.out).mono ?_;rintro e w2 ⟨rfl,hb2⟩;have HB2:=ab (ag HB.out hb2);have d2:=(hb2.cell (aK q2)).trans q2;have d6:=(hb2.cell (aK c6)).trans c6;clear hb2 q0 q1 q2;go_wp2_with fail
           go_roundw
           case rel=>exact⟨k+1,by omega,by go_num,by rw[HS.out],qF HA.out HR.out HP.out,HB2.out⟩
           case measure=>simp[intOf]; omega
        ·obtain rfl:k=it.chunks.length:=by omega
         have hall:it.chunks.all eL=true:=by
          have:=HA.out
          rwa [List.take_of_length_le (Nat.le_refl _)]at this
         have HALL:=ab hall;have HTK:=ab (show it.chunks.take it.chunks.length=it.chunks from List.take_of_length_le (Nat.le_refl _));obtain⟨tw,htw⟩: ∃tw:Int,tw=eK (it.chunks.take it.chunks.length):=⟨_,rfl⟩;rw[<-htw];have HTW:=ab htw;clear hall htw
         by_cases hsz:tw=it.size
         ·have e5:(tw == it.size)=true:=by simp[hsz]
          have HSZ:=ab hsz;clear hsz
          by_cases hmx:tw<=1048576
          ·have HVC:=ab (show bL it=true by
            unfold bL; rw[HALL.out];have h1:=HTW.out;rw[HTK.out]at h1;have h2:=HSZ.out;simp only[Bool.true_and,Bool.and_eq_true,decide_eq_true_eq]
            omega)
           go_wp2_with fail;go_ret;exact⟨ak (by rw[HH.out,HK.out,HVC.out]),ag HB1.out HB.out⟩
          ·have HVC:=ab (show bL it=false by
            unfold bL; rw[HALL.out];have h1:=HTW.out;rw[HTK.out]at h1;have h2:=HSZ.out;rw[Bool.eq_false_iff];simp only[Bool.true_and,ne_eq,Bool.and_eq_true,decide_eq_true_eq]
            omega)
           go_wp2_with fail;go_ret;exact⟨ak (by rw[HH.out,HK.out,HVC.out]),ag HB1.out HB.out⟩
         ·have e5:(tw == it.size)=false:=by simp[hsz]
          have HVC:=ab (show bL it=false by
           unfold bL; rw[HALL.out];have h1:=HTW.out;rw[HTK.out]at h1;rw[Bool.eq_false_iff];simp only[Bool.true_and,ne_eq,Bool.and_eq_true,decide_eq_true_eq]
           omega)
          clear hsz;go_wp2_with fail;go_ret;exact⟨ak (by rw[HH.out,HK.out,HVC.out]),ag HB1.out HB.out⟩
      ·have hl2: ¬it.link.toList=[]:=fun h=>hl (HL.out.1 h)
       have hl3:it.link.toList.isEmpty=false:=by rw[List.isEmpty_eq_false_iff]; exact hl2
       have HK:=ab (show bF it=false by rw[hvb]; simp[hl]);clear hvb hl
       go_enter Tryz.func54,Tryz.ntmps54
       go_wp2_with fail;obtain⟨W,hW⟩: ∃W,W=w.alloc (.cells #[.string it.name, .int .i64 it.kind, .int .i64 it.mode, .int .i64 it.time, .int .i64 it.size, .string it.link, .slice a it.chunks.length cap, .string it.node.name, .int .i64 it.node.gen, .int .i64 it.node.size] 28):=⟨_,rfl⟩;rw[<-hW];have HBW:=ab (show Below w.heap.size w W by rw[hW]; exact(Below.refl _ _).alloc (Nat.le_refl _) _)
       have HBX:=ab (show W.heap[w.heap.size]? =some (.cells #[.string it.name, .int .i64 it.kind, .int .i64 it.mode, .int .i64 it.time, .int .i64 it.size, .string it.link, .slice a it.chunks.length cap, .string it.node.name, .int .i64 it.node.gen, .int .i64 it.node.size] 28 (0,0)) by rw[hW]; exact heap_alloc_new w _);clear hW;refine(ba it.name true _ HO.out.nm HVP.out).mono ?_;rintro e w1 ⟨rfl,hb1⟩
       have HBXr:=ab ((hb1.block w.heap.size ((Array.getElem?_eq_some_iff.1 HBX.out).1)).trans HBX.out);have HB1:=ab (ag HBW.out hb1);have hlt1:w.heap.size<w1.heap.size:=(Array.getElem?_eq_some_iff.1 HBXr.out).1;have c0:=ai (k:=0) HBXr.out;have c1:=ai (k:=1) HBXr.out;have c2:=ai (k:=2) HBXr.out;have c3:=ai (k:=3) HBXr.out;have c4:=ai (k:=4) HBXr.out
       have c5:=ai (k:=5) HBXr.out;have c6:=ai (k:=6) HBXr.out;have c7:=ai (k:=7) HBXr.out;have c8:=ai (k:=8) HBXr.out;have c9:=ai (k:=9) HBXr.out;simp only[aW]at c0 c1 c2 c3 c4 c5 c6 c7 c8 c9;clear hb1 HBX;go_wp2_with fail
       all_goals (go_ret; exact⟨ak (by rw[HH.out,HK.out]),HB1.out⟩)
     ·have e1:(it.kind == 1)=false:=by simp[hk1]
      have e5:(it.kind == 2)=false:=by simp[hk2]
      have e2:(it.kind != 1)=true:=by simp[hk1]
      have e3:(it.kind != 2)=true:=by simp[hk2]
      by_cases hk3:it.kind=3
      ·have hvb:bF it=((decide (it.size=0) && decide (it.chunks.length=0) && decide (it.node=bq)) && (decide (1<=it.link.size) && decide (it.link.size<=512) && !(bl it.link).contains 0)):=by unfold bF; rw[if_neg hk1,if_neg hk2,if_pos hk3]
       have e6:(it.kind == 3)=true:=by simp[hk3]
       have e4:(it.kind != 3)=false:=by simp[hk3]
       clear hk1 hk2 hk3
       by_cases hch:it.chunks.length=0
       ·have hc0: ¬0<it.chunks.length:=by omega
        by_cases hsz:it.size=0
        ·have es:(it.size != 0)=false:=by simp[hsz]
         have HK:=ab (show bF it=(decide (1<=it.link.size) && decide (it.link.size<=512) && !(bl it.link).contains 0) by rw[hvb,HN.out,hch,hsz]; simp);clear hvb hch hsz
         go_enter Tryz.func54,Tryz.ntmps54
         go_wp2_with fail;obtain⟨W,hW⟩: ∃W,W=w.alloc (.cells #[.string it.name, .int .i64 it.kind, .int .i64 it.mode, .int .i64 it.time, .int .i64 it.size, .string it.link, .slice a it.chunks.length cap, .string it.node.name, .int .i64 it.node.gen, .int .i64 it.node.size] 28):=⟨_,rfl⟩;rw[<-hW];have HBW:=ab (show Below w.heap.size w W by rw[hW]; exact(Below.refl _ _).alloc (Nat.le_refl _) _)
         have HBX:=ab (show W.heap[w.heap.size]? =some (.cells #[.string it.name, .int .i64 it.kind, .int .i64 it.mode, .int .i64 it.time, .int .i64 it.size, .string it.link, .slice a it.chunks.length cap, .string it.node.name, .int .i64 it.node.gen, .int .i64 it.node.size] 28 (0,0)) by rw[hW]; exact heap_alloc_new w _);clear hW;refine(ba it.name true _ HO.out.nm HVP.out).mono ?_;rintro e w1 ⟨rfl,hb1⟩
         have HBXr:=ab ((hb1.block w.heap.size ((Array.getElem?_eq_some_iff.1 HBX.out).1)).trans HBX.out);have HB1:=ab (ag HBW.out hb1);have hlt1:w.heap.size<w1.heap.size:=(Array.getElem?_eq_some_iff.1 HBXr.out).1;have c0:=ai (k:=0) HBXr.out;have c1:=ai (k:=1) HBXr.out;have c2:=ai (k:=2) HBXr.out;have c3:=ai (k:=3) HBXr.out;have c4:=ai (k:=4) HBXr.out
         have c5:=ai (k:=5) HBXr.out;have c6:=ai (k:=6) HBXr.out;have c7:=ai (k:=7) HBXr.out;have c8:=ai (k:=8) HBXr.out;have c9:=ai (k:=9) HBXr.out;simp only[aW]at c0 c1 c2 c3 c4 c5 c6 c7 c8 c9;clear hb1 HBX;go_wp2_with fail;clear c0 c1 c2 c3 c4 c5 c6 c7 c8 c9 e1 e2 e3 e4 e5 e6 en es hc0
         go_loopw [5] (fun i wr=> ∃k:Nat,k<=it.link.size/\i= .int .i64 k/\((bl it.link).take k).contains 0=false/\wr=w1) (fun i _=>it.link.size-(intOf i).toNat)
         case atStart=>exact⟨0,Nat.zero_le _,rfl,rfl,rfl⟩
         case round=>
          obtain⟨k,hk,rfl,hct,rfl⟩:=hrel;have HCT:=ab hct;clear hct;have c5:=ai (k:=5) HBXr.out;simp only[aW]at c5;have hsb:it.link.size=(bl it.link).length:=ar _;have HSB:=ab hsb;clear hsb
          by_cases hlt:k<it.link.size
          ·have HGB:=ab (show(bl it.link)[k]? =some it.link[k] by rw[et,List.getElem?_eq_getElem (by rw[<-HSB.out]; exact hlt)])
           by_cases hz:it.link[k]=0
           ·have ez:(((it.link[k]).toNat:Int) == 0)=true:=by simp[hz]
            have HC:=ab (show(bl it.link).contains 0=true by
             have h1:=HGB.out;rw[hz]at h1;rw[List.contains_iff_mem];exact List.mem_of_getElem? h1)
            clear hz;go_wp2_with fail;go_ret;exact⟨ak (by rw[HH.out,HK.out,HC.out]; simp),HB1.out⟩
           ·have ez:(((it.link[k]).toNat:Int) == 0)=false:=by
             simp only[beq_eq_false_iff_ne,ne_eq];intro h;exact hz (UInt8.toNat_inj.1 (by simpa using h))
            have HC:=ab (show((bl it.link).take (k+1)).contains 0=false by
             have h2:=HCT.out;rw[bV HGB.out,Bool.eq_false_iff,ne_eq,List.contains_iff_mem,List.mem_append,List.mem_singleton];rintro(h | h)
             ·rw[Bool.eq_false_iff,ne_eq,List.contains_iff_mem]at h2;exact h2 h
             ·exact hz h.symm)
            clear hz;go_wp2_with fail
            go_roundw
            case rel=>exact⟨k+1,by omega,by go_num,HC.out,by first | rfl | trivial⟩
            case measure=>simp[intOf]; omega
          ·obtain rfl:k=it.link.size:=by omega
           have HC:=ab (show(bl it.link).contains 0=false by
            have:=HCT.out
            rwa [List.take_of_length_le (by rw[HSB.out]; exact Nat.le_refl _)]at this)
           by_cases h1:1<=it.link.size
           ·by_cases h2:it.link.size<=512
            ·have HV2:=ab (show bF it=true by rw[HK.out,HC.out]; simp[h1,h2]);go_wp2_with fail;go_ret;exact⟨ak (by rw[HH.out,HV2.out]<;> (first | (simp; done) | (simp; omega))),HB1.out⟩
            ·have HV2:=ab (show bF it=false by rw[HK.out,HC.out]; simp[h2]);go_wp2_with fail;go_ret;exact⟨ak (by rw[HH.out,HV2.out]<;> (first | (simp; done) | (simp; omega))),HB1.out⟩
           ·have HV2:=ab (show bF it=false by rw[HK.out,HC.out]; simp[h1]);go_wp2_with fail;go_ret;exact⟨ak (by rw[HH.out,HV2.out]<;> (first | (simp; done) | (simp; omega))),HB1.out⟩
        ·have es:(it.size != 0)=true:=by simp[hsz]
         have HK:=ab (show bF it=false by rw[hvb]; simp[hsz]);clear hvb hch hsz
         go_enter Tryz.func54,Tryz.ntmps54
         go_wp2_with fail;obtain⟨W,hW⟩: ∃W,W=w.alloc (.cells #[.string it.name, .int .i64 it.kind, .int .i64 it.mode, .int .i64 it.time, .int .i64 it.size, .string it.link, .slice a it.chunks.length cap, .string it.node.name, .int .i64 it.node.gen, .int .i64 it.node.size] 28):=⟨_,rfl⟩;rw[<-hW];have HBW:=ab (show Below w.heap.size w W by rw[hW]; exact(Below.refl _ _).alloc (Nat.le_refl _) _)
         have HBX:=ab (show W.heap[w.heap.size]? =some (.cells #[.string it.name, .int .i64 it.kind, .int .i64 it.mode, .int .i64 it.time, .int .i64 it.size, .string it.link, .slice a it.chunks.length cap, .string it.node.name, .int .i64 it.node.gen, .int .i64 it.node.size] 28 (0,0)) by rw[hW]; exact heap_alloc_new w _);clear hW;refine(ba it.name true _ HO.out.nm HVP.out).mono ?_;rintro e w1 ⟨rfl,hb1⟩
         have HBXr:=ab ((hb1.block w.heap.size ((Array.getElem?_eq_some_iff.1 HBX.out).1)).trans HBX.out);have HB1:=ab (ag HBW.out hb1);have hlt1:w.heap.size<w1.heap.size:=(Array.getElem?_eq_some_iff.1 HBXr.out).1;have c0:=ai (k:=0) HBXr.out;have c1:=ai (k:=1) HBXr.out;have c2:=ai (k:=2) HBXr.out;have c3:=ai (k:=3) HBXr.out;have c4:=ai (k:=4) HBXr.out
         have c5:=ai (k:=5) HBXr.out;have c6:=ai (k:=6) HBXr.out;have c7:=ai (k:=7) HBXr.out;have c8:=ai (k:=8) HBXr.out;have c9:=ai (k:=9) HBXr.out;simp only[aW]at c0 c1 c2 c3 c4 c5 c6 c7 c8 c9;clear hb1 HBX;go_wp2_with fail
         all_goals (go_ret; exact⟨ak (by rw[HH.out,HK.out]),HB1.out⟩)
       ·have hc0:0<it.chunks.length:=by omega
        have HK:=ab (show bF it=false by rw[hvb]; simp[hch]);clear hvb hch
        go_enter Tryz.func54,Tryz.ntmps54
        go_wp2_with fail;obtain⟨W,hW⟩: ∃W,W=w.alloc (.cells #[.string it.name, .int .i64 it.kind, .int .i64 it.mode, .int .i64 it.time, .int .i64 it.size, .string it.link, .slice a it.chunks.length cap, .string it.node.name, .int .i64 it.node.gen, .int .i64 it.node.size] 28):=⟨_,rfl⟩;rw[<-hW];have HBW:=ab (show Below w.heap.size w W by rw[hW]; exact(Below.refl _ _).alloc (Nat.le_refl _) _)
        have HBX:=ab (show W.heap[w.heap.size]? =some (.cells #[.string it.name, .int .i64 it.kind, .int .i64 it.mode, .int .i64 it.time, .int .i64 it.size, .string it.link, .slice a it.chunks.length cap, .string it.node.name, .int .i64 it.node.gen, .int .i64 it.node.size] 28 (0,0)) by rw[hW]; exact heap_alloc_new w _);clear hW;refine(ba it.name true _ HO.out.nm HVP.out).mono ?_;rintro e w1 ⟨rfl,hb1⟩
        have HBXr:=ab ((hb1.block w.heap.size ((Array.getElem?_eq_some_iff.1 HBX.out).1)).trans HBX.out);have HB1:=ab (ag HBW.out hb1);have hlt1:w.heap.size<w1.heap.size:=(Array.getElem?_eq_some_iff.1 HBXr.out).1;have c0:=ai (k:=0) HBXr.out;have c1:=ai (k:=1) HBXr.out;have c2:=ai (k:=2) HBXr.out;have c3:=ai (k:=3) HBXr.out;have c4:=ai (k:=4) HBXr.out
        have c5:=ai (k:=5) HBXr.out;have c6:=ai (k:=6) HBXr.out;have c7:=ai (k:=7) HBXr.out;have c8:=ai (k:=8) HBXr.out;have c9:=ai (k:=9) HBXr.out;simp only[aW]at c0 c1 c2 c3 c4 c5 c6 c7 c8 c9;clear hb1 HBX;go_wp2_with fail
        all_goals (go_ret; exact⟨ak (by rw[HH.out,HK.out]),HB1.out⟩)
      ·have HK:=ab (show bF it=false by unfold bF; rw[if_neg hk1,if_neg hk2,if_neg hk3]);have e6:(it.kind == 3)=false:=by simp[hk3]
       have e4:(it.kind != 3)=true:=by simp[hk3]
       clear hk1 hk2 hk3
       by_cases hch:it.chunks.length=0
       ·have hc0: ¬0<it.chunks.length:=by omega
        by_cases hsz:it.size=0
        ·have es:(it.size != 0)=false:=by simp[hsz]
         clear hch hsz
         by_cases hl:it.link.size=0
         ·have hl2:it.link.toList=[]:=HL.out.2 hl;clear hl
          go_enter Tryz.func54,Tryz.ntmps54
          go_wp2_with fail;obtain⟨W,hW⟩: ∃W,W=w.alloc (.cells #[.string it.name, .int .i64 it.kind, .int .i64 it.mode, .int .i64 it.time, .int .i64 it.size, .string it.link, .slice a it.chunks.length cap, .string it.node.name, .int .i64 it.node.gen, .int .i64 it.node.size] 28):=⟨_,rfl⟩;rw[<-hW];have HBW:=ab (show Below w.heap.size w W by rw[hW]; exact(Below.refl _ _).alloc (Nat.le_refl _) _)
          have HBX:=ab (show W.heap[w.heap.size]? =some (.cells #[.string it.name, .int .i64 it.kind, .int .i64 it.mode, .int .i64 it.time, .int .i64 it.size, .string it.link, .slice a it.chunks.length cap, .string it.node.name, .int .i64 it.node.gen, .int .i64 it.node.size] 28 (0,0)) by rw[hW]; exact heap_alloc_new w _);clear hW;refine(ba it.name true _ HO.out.nm HVP.out).mono ?_
          rintro e w1 ⟨rfl,hb1⟩;have HBXr:=ab ((hb1.block w.heap.size ((Array.getElem?_eq_some_iff.1 HBX.out).1)).trans HBX.out);have HB1:=ab (ag HBW.out hb1);have hlt1:w.heap.size<w1.heap.size:=(Array.getElem?_eq_some_iff.1 HBXr.out).1;have c0:=ai (k:=0) HBXr.out;have c1:=ai (k:=1) HBXr.out;have c2:=ai (k:=2) HBXr.out;have c3:=ai (k:=3) HBXr.out;have c4:=ai (k:=4) HBXr.out
          have c5:=ai (k:=5) HBXr.out;have c6:=ai (k:=6) HBXr.out;have c7:=ai (k:=7) HBXr.out;have c8:=ai (k:=8) HBXr.out;have c9:=ai (k:=9) HBXr.out;simp only[aW]at c0 c1 c2 c3 c4 c5 c6 c7 c8 c9;clear hb1 HBX;go_wp2_with fail
          all_goals (go_ret; exact⟨ak (by rw[HH.out,HK.out]),HB1.out⟩)
         ·have hl2: ¬it.link.toList=[]:=fun h=>hl (HL.out.1 h)
          have hl3:it.link.toList.isEmpty=false:=by rw[List.isEmpty_eq_false_iff]; exact hl2
          clear hl
          go_enter Tryz.func54,Tryz.ntmps54
          go_wp2_with fail;obtain⟨W,hW⟩: ∃W,W=w.alloc (.cells #[.string it.name, .int .i64 it.kind, .int .i64 it.mode, .int .i64 it.time, .int .i64 it.size, .string it.link, .slice a it.chunks.length cap, .string it.node.name, .int .i64 it.node.gen, .int .i64 it.node.size] 28):=⟨_,rfl⟩;rw[<-hW];have HBW:=ab (show Below w.heap.size w W by rw[hW]; exact(Below.refl _ _).alloc (Nat.le_refl _) _)
          have HBX:=ab (show W.heap[w.heap.size]? =some (.cells #[.string it.name, .int .i64 it.kind, .int .i64 it.mode, .int .i64 it.time, .int .i64 it.size, .string it.link, .slice a it.chunks.length cap, .string it.node.name, .int .i64 it.node.gen, .int .i64 it.node.size] 28 (0,0)) by rw[hW]; exact heap_alloc_new w _);clear hW;refine(ba it.name true _ HO.out.nm HVP.out).mono ?_
          rintro e w1 ⟨rfl,hb1⟩;have HBXr:=ab ((hb1.block w.heap.size ((Array.getElem?_eq_some_iff.1 HBX.out).1)).trans HBX.out);have HB1:=ab (ag HBW.out hb1);have hlt1:w.heap.size<w1.heap.size:=(Array.getElem?_eq_some_iff.1 HBXr.out).1;have c0:=ai (k:=0) HBXr.out;have c1:=ai (k:=1) HBXr.out;have c2:=ai (k:=2) HBXr.out;have c3:=ai (k:=3) HBXr.out;have c4:=ai (k:=4) HBXr.out
          have c5:=ai (k:=5) HBXr.out;have c6:=ai (k:=6) HBXr.out;have c7:=ai (k:=7) HBXr.out;have c8:=ai (k:=8) HBXr.out;have c9:=ai (k:=9) HBXr.out;simp only[aW]at c0 c1 c2 c3 c4 c5 c6 c7 c8 c9;clear hb1 HBX;go_wp2_with fail
          all_goals (go_ret; exact⟨ak (by rw[HH.out,HK.out]),HB1.out⟩)
        ·have es:(it.size != 0)=true:=by simp[hsz]
         clear hch hsz
         go_enter Tryz.func54,Tryz.ntmps54
         go_wp2_with fail;obtain⟨W,hW⟩: ∃W,W=w.alloc (.cells #[.string it.name, .int .i64 it.kind, .int .i64 it.mode, .int .i64 it.time, .int .i64 it.size, .string it.link, .slice a it.chunks.length cap, .string it.node.name, .int .i64 it.node.gen, .int .i64 it.node.size] 28):=⟨_,rfl⟩;rw[<-hW];have HBW:=ab (show Below w.heap.size w W by rw[hW]; exact(Below.refl _ _).alloc (Nat.le_refl _) _)
         have HBX:=ab (show W.heap[w.heap.size]? =some (.cells #[.string it.name, .int .i64 it.kind, .int .i64 it.mode, .int .i64 it.time, .int .i64 it.size, .string it.link, .slice a it.chunks.length cap, .string it.node.name, .int .i64 it.node.gen, .int .i64 it.node.size] 28 (0,0)) by rw[hW]; exact heap_alloc_new w _);clear hW;refine(ba it.name true _ HO.out.nm HVP.out).mono ?_;rintro e w1 ⟨rfl,hb1⟩
         have HBXr:=ab ((hb1.block w.heap.size ((Array.getElem?_eq_some_iff.1 HBX.out).1)).trans HBX.out);have HB1:=ab (ag HBW.out hb1);have hlt1:w.heap.size<w1.heap.size:=(Array.getElem?_eq_some_iff.1 HBXr.out).1;have c0:=ai (k:=0) HBXr.out;have c1:=ai (k:=1) HBXr.out;have c2:=ai (k:=2) HBXr.out;have c3:=ai (k:=3) HBXr.out;have c4:=ai (k:=4) HBXr.out
         have c5:=ai (k:=5) HBXr.out;have c6:=ai (k:=6) HBXr.out;have c7:=ai (k:=7) HBXr.out;have c8:=ai (k:=8) HBXr.out;have c9:=ai (k:=9) HBXr.out;simp only[aW]at c0 c1 c2 c3 c4 c5 c6 c7 c8 c9;clear hb1 HBX;go_wp2_with fail
         all_goals (go_ret; exact⟨ak (by rw[HH.out,HK.out]),HB1.out⟩)
       ·have hc0:0<it.chunks.length:=by omega
        clear hch
        go_enter Tryz.func54,Tryz.ntmps54
        go_wp2_with fail;obtain⟨W,hW⟩: ∃W,W=w.alloc (.cells #[.string it.name, .int .i64 it.kind, .int .i64 it.mode, .int .i64 it.time, .int .i64 it.size, .string it.link, .slice a it.chunks.length cap, .string it.node.name, .int .i64 it.node.gen, .int .i64 it.node.size] 28):=⟨_,rfl⟩;rw[<-hW];have HBW:=ab (show Below w.heap.size w W by rw[hW]; exact(Below.refl _ _).alloc (Nat.le_refl _) _)
        have HBX:=ab (show W.heap[w.heap.size]? =some (.cells #[.string it.name, .int .i64 it.kind, .int .i64 it.mode, .int .i64 it.time, .int .i64 it.size, .string it.link, .slice a it.chunks.length cap, .string it.node.name, .int .i64 it.node.gen, .int .i64 it.node.size] 28 (0,0)) by rw[hW]; exact heap_alloc_new w _);clear hW;refine(ba it.name true _ HO.out.nm HVP.out).mono ?_;rintro e w1 ⟨rfl,hb1⟩
        have HBXr:=ab ((hb1.block w.heap.size ((Array.getElem?_eq_some_iff.1 HBX.out).1)).trans HBX.out);have HB1:=ab (ag HBW.out hb1);have hlt1:w.heap.size<w1.heap.size:=(Array.getElem?_eq_some_iff.1 HBXr.out).1;have c0:=ai (k:=0) HBXr.out;have c1:=ai (k:=1) HBXr.out;have c2:=ai (k:=2) HBXr.out;have c3:=ai (k:=3) HBXr.out;have c4:=ai (k:=4) HBXr.out
        have c5:=ai (k:=5) HBXr.out;have c6:=ai (k:=6) HBXr.out;have c7:=ai (k:=7) HBXr.out;have c8:=ai (k:=8) HBXr.out;have c9:=ai (k:=9) HBXr.out;simp only[aW]at c0 c1 c2 c3 c4 c5 c6 c7 c8 c9;clear hb1 HBX;go_wp2_with fail
        all_goals (go_ret; exact⟨ak (by rw[HH.out,HK.out]),HB1.out⟩)
    ·have en:decide (it.node=bq)=false:=by simp[hn]
     have e3:(it.kind != 2)=true:=by simp[hk2]
     have HK:=ab (show bF it=false by unfold bF; rw[if_neg hk2]; simp[hn]);clear hn hk2
     go_enter Tryz.func54,Tryz.ntmps54
     go_wp2_with fail;obtain⟨W,hW⟩: ∃W,W=w.alloc (.cells #[.string it.name, .int .i64 it.kind, .int .i64 it.mode, .int .i64 it.time, .int .i64 it.size, .string it.link, .slice a it.chunks.length cap, .string it.node.name, .int .i64 it.node.gen, .int .i64 it.node.size] 28):=⟨_,rfl⟩;rw[<-hW];have HBW:=ab (show Below w.heap.size w W by rw[hW]; exact(Below.refl _ _).alloc (Nat.le_refl _) _)
     have HBX:=ab (show W.heap[w.heap.size]? =some (.cells #[.string it.name, .int .i64 it.kind, .int .i64 it.mode, .int .i64 it.time, .int .i64 it.size, .string it.link, .slice a it.chunks.length cap, .string it.node.name, .int .i64 it.node.gen, .int .i64 it.node.size] 28 (0,0)) by rw[hW]; exact heap_alloc_new w _);clear hW;refine(ba it.name true _ HO.out.nm HVP.out).mono ?_;rintro e w1 ⟨rfl,hb1⟩
     have HBXr:=ab ((hb1.block w.heap.size ((Array.getElem?_eq_some_iff.1 HBX.out).1)).trans HBX.out);have HB1:=ab (ag HBW.out hb1);have hlt1:w.heap.size<w1.heap.size:=(Array.getElem?_eq_some_iff.1 HBXr.out).1;have c0:=ai (k:=0) HBXr.out;have c1:=ai (k:=1) HBXr.out;have c2:=ai (k:=2) HBXr.out;have c3:=ai (k:=3) HBXr.out;have c4:=ai (k:=4) HBXr.out
     have c5:=ai (k:=5) HBXr.out;have c6:=ai (k:=6) HBXr.out;have c7:=ai (k:=7) HBXr.out;have c8:=ai (k:=8) HBXr.out;have c9:=ai (k:=9) HBXr.out;simp only[aW]at c0 c1 c2 c3 c4 c5 c6 c7 c8 c9;clear hb1 HBX;go_wp2_with fail
     all_goals (go_ret; exact⟨ak (by rw[HH.out,HK.out]),HB1.out⟩)
  ·have HF:=ab (show bT it=false by
    have:(decide (0<=it.mode) && decide (it.mode<=511) && decide (0<=it.time))=false:=by
     rw[Bool.eq_false_iff]; simp; omega
    rw[jU,this]; simp)
   go_enter Tryz.func54,Tryz.ntmps54
   go_wp2_with fail;obtain⟨W,hW⟩: ∃W,W=w.alloc (.cells #[.string it.name, .int .i64 it.kind, .int .i64 it.mode, .int .i64 it.time, .int .i64 it.size, .string it.link, .slice a it.chunks.length cap, .string it.node.name, .int .i64 it.node.gen, .int .i64 it.node.size] 28):=⟨_,rfl⟩;rw[<-hW];have HBW:=ab (show Below w.heap.size w W by rw[hW]; exact(Below.refl _ _).alloc (Nat.le_refl _) _)
   have HBX:=ab (show W.heap[w.heap.size]? =some (.cells #[.string it.name, .int .i64 it.kind, .int .i64 it.mode, .int .i64 it.time, .int .i64 it.size, .string it.link, .slice a it.chunks.length cap, .string it.node.name, .int .i64 it.node.gen, .int .i64 it.node.size] 28 (0,0)) by rw[hW]; exact heap_alloc_new w _);clear hW;refine(ba it.name true _ HO.out.nm HVP.out).mono ?_;rintro e w1 ⟨rfl,hb1⟩
   have HBXr:=ab ((hb1.block w.heap.size ((Array.getElem?_eq_some_iff.1 HBX.out).1)).trans HBX.out);have HB1:=ab (ag HBW.out hb1);have hlt1:w.heap.size<w1.heap.size:=(Array.getElem?_eq_some_iff.1 HBXr.out).1;have c0:=ai (k:=0) HBXr.out;have c1:=ai (k:=1) HBXr.out;have c2:=ai (k:=2) HBXr.out;have c3:=ai (k:=3) HBXr.out;have c4:=ai (k:=4) HBXr.out
   have c5:=ai (k:=5) HBXr.out;have c6:=ai (k:=6) HBXr.out;have c7:=ai (k:=7) HBXr.out;have c8:=ai (k:=8) HBXr.out;have c9:=ai (k:=9) HBXr.out;simp only[aW]at c0 c1 c2 c3 c4 c5 c6 c7 c8 c9;clear hb1 HBX;have HM3:=ab hmt;clear hmt
   rcases Int.lt_or_le it.mode 0 with h1 | h1
   ·go_wp2_with fail;go_ret;exact⟨ak (by rw[HF.out]),HB1.out⟩
   ·rcases Int.lt_or_le 511 it.mode with h2 | h2
    ·go_wp2_with fail;go_ret;exact⟨ak (by rw[HF.out]),HB1.out⟩
    ·have h3:it.time<0:=by have:=HM3.out; omega
     go_wp2_with fail;go_ret;exact⟨ak (by rw[HF.out]),HB1.out⟩
end Go.Proofs.YtpffpjbkbaleiaaGreatDoor
namespace Go.Proofs.YtpffpjbkbaleiaaGreatDoor
open Go.RowKit
theorem ul (visit:aN->Except Int (List aE)) (cv:Value) (I:World->Prop) (B n:Nat) (hI:uv I B) (hV:xP visit 95 cv I) (IH:xQ visit 95 cv I B n):xQ visit 95 cv I B (n+1):=by
 intro r st x st' base wb eb sb v w hw hlen h hr hi hB hbase;have HI:=ab hI;have HV:=ab hV;have HIH:=ab IH;have HB:=ab hB;have HR:=ab hr;have H:=ab h;have HIW:=ab hi;have HLEN:=ab hlen;have HWP:=ab hw;have hmen:(aY r st.2).length<=st'.2.length:=by
  rw[dK]at hw
  split at hw
  ·simp only[Option.some.injEq,Prod.mk.injEq]at hw;obtain⟨_,rfl⟩:=hw;exact Nat.le_refl _
  ·split at hw
   ·simp only[Option.some.injEq,Prod.mk.injEq]at hw;obtain⟨_,rfl⟩:=hw;exact Nat.le_refl _
   ·exact fH (gJ visit n) _ _ x st' hw
 have hml:=iQ r st.2;have HB0:=ab ((Below.refl w.heap.size w).alloc (Nat.le_refl _) (.cells #[.string r.name, .int .i64 r.gen, .int .i64 r.size] 26));have HK0:=ab (h.below HB0.out);have HBX0:=ab (heap_alloc_new w (.cells #[.string r.name, .int .i64 r.gen, .int .i64 r.size] 26));have hwb:wb<w.heap.size:=lt_of_block h.box;unfold bB;clear hw h hr hi hI hV IH hB
 go_enter Tryz.func133,Tryz.ntmps133
 go_wp2_with fail;refine(lz base wb eb sb _ v st.1 st.2 r _ HK0.out HR.out (by omega) (by simp; omega)).mono ?_;rintro e w1 ⟨rfl,v1,hk1,hg1,ho1⟩;have HK1:=ab hk1;have HBX1:=ab (show w1.heap[w.heap.size]? =some (.cells #[.string r.name, .int .i64 r.gen, .int .i64 r.size] 26 (0,0))from(hg1.block w.heap.size (by simp) (fun ho=>by
  rcases ho with e | e | e | e
  ·omega
  ·have:=H.out.exs.map.lt; omega
  ·have:=H.out.see.map.lt; omega
  ·have:=(H.out.row.lt _ e).2; omega)).trans HBX0.out)
 have hz1:=hg1.size;simp at hz1;have HG1:=ab (show bP (gy wb eb sb v) w w1 from(bP.of_below HB0.out (S:=gy wb eb sb v)).trans hg1 (fun _ _ h=>h));have HO1:=ab (show ∀k,v1.ownBlock=some k->v.ownBlock=some k\/w.heap.size<=k from fun k hk=>by
  rcases ho1 k hk with e | e
  ·exact .inl e
  ·simp at e; exact .inr (by omega))
 clear hk1 hg1 ho1 HK0 HBX0;have c1:=ai (k:=1) HK1.out.box;have q0:=ai (k:=0) HBX1.out;have q1:=ai (k:=1) HBX1.out;have q2:=ai (k:=2) HBX1.out;simp only[aW]at c1 q0 q1 q2;go_wp2_with fail;refine au [some 6] (by kernel_rfl) (by kernel_rfl) (by kernel_rfl) ?_;simp only[bh,List.take_succ_cons,List.take_zero];obtain⟨W1,hW1⟩: ∃W1:World,W1=w1.drew:=⟨_,rfl⟩
 rw[<-hW1];have hbw1:Below w1.heap.size w1 W1:=by rw[hW1]; exact(Below.refl _ _).drew
 have HK2:=ab (HK1.out.below hbw1);have HBX2:=ab ((hbw1.block w.heap.size (by omega)).trans HBX1.out);have HG2:=ab (HG1.out.trans (bP.of_below hbw1 (S:=fun _=>False)) (fun _ _ h=>False.elim h));have hz2:=hbw1.size;clear hbw1 HK1 HBX1 HG1 c1 q0 q1 q2;have c1:=ai (k:=1) HK2.out.box;have q0:=ai (k:=0) HBX2.out;have q1:=ai (k:=1) HBX2.out;have q2:=ai (k:=2) HBX2.out
 have hlk:=HK2.out.exs.look HR.out;unfold bB at hlk;simp only[aW]at c1 q0 q1 q2;clear hW1
 by_cases hm:r∈st.1
 ·have e1:decide (r∈st.1)=true:=by simp[hm]
  rw[e1]at hlk;have HRES:=ab (show(x,st')=(0,(st.1,aY r st.2)) by have:=HWP.out; rw[dK,if_pos hm]at this; exact(Option.some.inj this).symm);clear e1 hm
  repeat (first | (refine aG rfl ?_; simp only[Act.put,az,aA,aB]) | (refine aS rfl (fun K hK=> ?_); go_simp; refine hK _ ?_; clear hK K))
  refine aR ?_;go_wp2_with fail;go_ret;obtain⟨e1,e2⟩:=Prod.mk.inj HRES.out;exact⟨bQ e1.symm,v1,by rw[e2]; exact HK2.out,HG2.out,HO1.out⟩
 ·have e1:decide (r∈st.1)=false:=by simp[hm]
  rw[e1]at hlk;have HNM:=ab hm;have HWQ:=ab (show(match visit r with | .error x=>some (x,(st.1++[r],aY r st.2)) | .ok l=>eT (dK visit n) l (st.1++[r],aY r st.2))=some (x,st') by have:=HWP.out; rw[dK,if_neg hm]at this; exact this);clear e1 hm HWP
  repeat (first | (refine aG rfl ?_; simp only[Act.put,az,aA,aB]) | (refine aS rfl (fun K hK=> ?_); go_simp; refine hK _ ?_; clear hK K))
  refine aR ?_;go_wp2_with fail;refine au [some 5,none] (by kernel_rfl) (by kernel_rfl) (by kernel_rfl) ?_;simp only[bh,List.take_succ_cons,List.take_zero,List.drop_succ_cons,List.drop_zero]
  repeat (first | (refine aG rfl ?_; simp only[Act.put,az,aA,aB]) | (refine aS rfl (fun K hK=> ?_); go_simp; refine hK _ ?_; clear hK K))
  refine aR ?_;refine bJ rfl (fun K hK=> ?_);have HKd:=ab (HK2.out.below ((Below.refl _ W1).drew));go_wp2_with (at_mapUpdate; go_must (refine eO rfl _ _ _ rfl eb st.1 HKd.out.exs rfl r HR.out rfl rfl HNM.out ?_); intro w2 hset hg2);have heb:eb<w.heap.size:=H.out.exs.map.lt;have hsb:sb<w.heap.size:=H.out.see.map.lt;have hne1:=H.out.wne;have hne2:=H.out.ne;refine au [some 5,none,some 5] (by kernel_rfl) (by kernel_rfl) (by kernel_rfl) ?_
  simp only[bh,List.take_succ_cons,List.take_zero,List.drop_succ_cons,List.drop_zero];obtain⟨W2,hW2⟩: ∃W2:World,W2=w2.drew:=⟨_,rfl⟩;rw[<-hW2];have hg3:W1.grownBy W2 (some eb):=by rw[hW2]; exact aw (b:=W1.drew) ⟨rfl,rfl,rfl,Nat.le_refl _,fun _ _ _=>rfl⟩ (aw hg2 ⟨rfl,rfl,rfl,Nat.le_refl _,fun _ _ _=>rfl⟩)
  have hset3:cT W2 eb (st.1++[r]):=by rw[hW2]; exact hset.same rfl
  have HK3:=ab (show fh W2 base wb eb sb (.func (.func 95) #[cv] #[]) v1 (st.1++[r]) (aY r st.2)from⟨fg hg3 HK2.out.box hne1.1,hset3,HK2.out.see.same (hg3.block sb HK2.out.see.map.lt (by simp; exact Ne.symm hne2)),HK2.out.row.kept hg3 (.inr (fun e=>(HK2.out.own e).2.1 rfl)),hne2⟩);have HBX3:=ab (fg hg3 HBX2.out (by omega));have HG3:=ab (show bP (gy wb eb sb v) w W2 from HG2.out.trans (bP.of_grown (S:=fun k=>k=eb) hg3 (fun k hk=>by cases hk; rfl)) (fun i _ h=> .inr (.inl h)))
  have hz3:=hg3.size;have HI3:=ab (HI.out w W2 HIW.out (mV HG3.out (fun k hk=>tR H.out HB.out hk)));clear hW2 hg3 hset3 hset hg2 HKd HK2 HBX2 HG2 c1 q0 q1 q2 hlk;have c0:=ai (k:=0) HK3.out.box;have q0:=ai (k:=0) HBX3.out;have q1:=ai (k:=1) HBX3.out;have q2:=ai (k:=2) HBX3.out;simp only[aW]at c0 q0 q1 q2
  repeat (first | (refine aG rfl ?_; simp only[Act.put,az,aA,aB]) | (refine aS rfl (fun K hK=> ?_); go_simp; refine hK _ ?_; clear hK K))
  refine aR ?_;refine bJ rfl (fun K hK=> ?_);go_wp2_with fail;refine(HV.out W2 r HI3.out HR.out).mono ?_;rintro e w3 ⟨hb3,hres⟩;have HK4:=ab (HK3.out.below hb3);have HG4:=ab (HG3.out.trans (bP.of_below hb3 (S:=fun _=>False)) (fun _ _ h=>False.elim h));have HB3:=ab hb3;have hz4:=hb3.size;clear hb3 c0 q0 q1 q2
  cases hvr:visit r with
  | error y=>
   rw[hvr]at hres;obtain⟨rfl,hy⟩:=hres;have HRES:=ab (show(x,st')=(y,(st.1++[r],aY r st.2)) by have:=HWQ.out; rw[hvr]at this; exact(Option.some.inj this).symm);have e1:(y != 0)=true:=by simp[hy]
   clear hvr hy;go_wp2_with fail
   repeat (first | (refine aG rfl ?_; simp only[Act.put,az,aA,aB]) | (refine aS rfl (fun K hK=> ?_); go_simp; refine hK _ ?_; clear hK K))
   refine aR ?_;go_wp2_with fail;go_ret;obtain⟨e1,e2⟩:=Prod.mk.inj HRES.out;exact⟨bQ e1.symm,v1,by rw[e2]; exact HK4.out,HG4.out,HO1.out⟩
  | ok l=>
   rw[hvr]at hres;obtain⟨itv,rfl,hits⟩:=hres;have HOV:=ab (show eT (dK visit n) l (st.1++[r],aY r st.2)=some (x,st') by have:=HWQ.out; rw[hvr]at this; exact this);obtain⟨ia,ic,rfl,hil,him,-⟩:=aO.shape hits ei.len;unfold maxLen at him;have HIN:=ab (show ms w B W2.heap.size w3.heap.size base wb eb sb (.func (.func 95) #[cv] #[]) v (.slice ia l.length ic) l w3 v1 (st.1++[r]) (aY r st.2)from
    ⟨HK4.out,HG4.out,HO1.out,fun k hk=> .inl (HK3.out.row.lt k hk).2,⟨by omega,by omega,by omega⟩,⟨by omega,hz4,Nat.le_refl _⟩,bn.lt hits⟩)
   clear hvr hits HWQ HK3 HK4 HG3 HG4 HBX3;go_wp2_with fail
   repeat (first | (refine aG rfl ?_; simp only[Act.put,az,aA,aB]) | (refine aS rfl (fun K hK=> ?_); go_simp; refine hK _ ?_; clear hK K))
   refine aR ?_;go_wp2_with fail
   go_loopw [40] (fun i wr=> ∃(k:Nat) (v2:Value) (ex2 rs2:List aN),k<=l.length/\i= .int .i64 k/\eT (dK visit n) (l.drop k) (ex2,rs2)=some (x,st')/\ms w B W2.heap.size w3.heap.size base wb eb sb (.func (.func 95) #[cv] #[]) v (.slice ia l.length ic) l wr v2 ex2 rs2) (fun i _=>l.length-(intOf i).toNat)
   case atStart=>exact⟨0,v1,_,_,Nat.zero_le _,rfl,HOV.out,HIN.out⟩
   case round=>
    obtain⟨k,v2,ex2,rs2,hk,rfl,hov,hin⟩:=hrel;have HV2:=ab hov;have HN2:=ab hin;clear hov hin
    by_cases hlt:k<l.length
    ·obtain⟨it,hr2⟩: ∃it,l[k]? =some it:=⟨l[k],by simp[hlt]⟩;obtain⟨b,o,ca,cc,rfl,hok,hrf,-,-,hcl⟩:=fF HN2.out.its (Below.refl _ _) hr2;have HOV2:=ab (show eT (dK visit n) (it::l.drop (k+1)) (ex2,rs2)=some (x,st') by
      obtain⟨hk',rfl⟩:=List.getElem?_eq_some_iff.1 hr2;rw[<-List.drop_eq_getElem_cons hk']; exact HV2.out)
     have hmb:=wB HOV2.out;have HOK:=ab hok;have q0:=hcl 0 (by omega);have q1:=hcl 1 (by omega);have q2:=hcl 2 (by omega);have q3:=hcl 3 (by omega);have q4:=hcl 4 (by omega);have q5:=hcl 5 (by omega);have q6:=hcl 6 (by omega);have q7:=hcl 7 (by omega);have q8:=hcl 8 (by omega);have q9:=hcl 9 (by omega);simp only[dy,Am,Nat.add_zero]at q0 q1 q2 q3 q4 q5 q6 q7 q8 q9
     obtain⟨wo,hwo⟩: ∃wo:World,wo=wr:=⟨_,rfl⟩;subst hwo;have HAL:=ab ((Below.refl wo.heap.size wo).alloc (Nat.le_refl _) (.cells #[.string it.name, .int .i64 it.kind, .int .i64 it.mode, .int .i64 it.time, .int .i64 it.size, .string it.link, .slice ca it.chunks.length cc, .string it.node.name, .int .i64 it.node.gen, .int .i64 it.node.size] 28));have HN3:=ab (HN2.out.below HAL.out)
     have HRF:=ab (show aT (fun k=>W2.heap.size<=k/\k<w3.heap.size) _ (.slice ca it.chunks.length cc) it.chunks from aO.below hrf (by omega) HAL.out (fun _ _ _ h=>h));obtain⟨a',cap',hv',hcl1,hcl2,-⟩:=aO.shape hrf fP.len
     cases hv'
     unfold maxLen at hcl2;clear hr2 hok hrf hcl;have HBX5:=ab (heap_alloc_new wo (.cells #[.string it.name, .int .i64 it.kind, .int .i64 it.mode, .int .i64 it.time, .int .i64 it.size, .string it.link, .slice ca it.chunks.length cc, .string it.node.name, .int .i64 it.node.gen, .int .i64 it.node.size] 28));go_wp2_with fail;clear q0 q1 q2 q3 q4 q5 q6 q7 q8 q9
     go_loopw [47] (fun i wq=> ∃(j:Nat) (v3:Value),j<=it.chunks.length/\i= .int .i64 j/\ms w B W2.heap.size w3.heap.size base wb eb sb (.func (.func 95) #[cv] #[]) v (.slice (some ⟨b,o,none⟩) l.length ic) l wq v3 ex2 (bY (it.chunks.take j) rs2)/\aT (fun k=>W2.heap.size<=k/\k<w3.heap.size) wq (.slice ca it.chunks.length cc) it.chunks/\wq.heap[wo.heap.size]? =some (.cells #[.string it.name, .int .i64 it.kind, .int .i64 it.mode, .int .i64 it.time, .int .i64 it.size, .string it.link, .slice ca it.chunks.length cc, .string it.node.name, .int .i64 it.node.gen, .int .i64 it.node.size] 28 (0,0))) (fun i _=>it.chunks.length-(intOf i).toNat)
     case atStart=>exact⟨0,v2,Nat.zero_le _,rfl,HN3.out,HRF.out,HBX5.out⟩
     case round=>
      obtain⟨j,v3,hj,rfl,hin3,hrf3,hbx3⟩:=hrel;have HN4:=ab hin3;have HRF4:=ab hrf3;have HBX6:=ab hbx3;clear hin3 hrf3 hbx3 HN3 HRF HBX5 HAL
      by_cases hlt2:j<it.chunks.length
      ·obtain⟨c,hc⟩: ∃c,it.chunks[j]? =some c:=⟨it.chunks[j],by simp[hlt2]⟩;obtain⟨b2,o2,rfl,hcok,p0,p1,p2⟩:=fp HRF4.out (Below.refl _ _) hc;have HCO:=ab hcok;have HSN:=ab (show bY (it.chunks.take (j+1)) rs2=aY c (bY (it.chunks.take j) rs2) by rw[bV hc,rQ]);have hjl:=nh it.chunks rs2 j;have HAL2:=ab ((Below.refl wr.heap.size wr).alloc (Nat.le_refl _) (.cells #[.string c.name, .int .i64 c.gen, .int .i64 c.size] 26))
       have HN5:=ab (HN4.out.below HAL2.out);have hbz:base<=(wr.alloc (.cells #[.string c.name, .int .i64 c.gen, .int .i64 c.size] 26)).heap.size:=Nat.le_trans hbase (Nat.le_trans HN4.out.gr.size HAL2.out.size);have HBZ:=ab hbz;clear hc hcok hbz;go_wp2_with fail;refine(lz base wb eb sb _ v3 ex2 _ c _ HN5.out.at' HCO.out (by omega) HBZ.out).mono ?_;rintro e w4 ⟨rfl,hres⟩;obtain⟨v4,hin4,hg4⟩:=HN5.out.step hres
       have HN6:=ab hin4;have hzz:=HAL2.out.size;have HRF6:=ab (show aT (fun k=>W2.heap.size<=k/\k<w3.heap.size) w4 (.slice (some ⟨b2,o2,none⟩) it.chunks.length cc) it.chunks from aT.same HRF4.out (fun k hk hS=>⟨hS,(hg4.block k (Nat.lt_of_lt_of_le hk hzz) (HN5.out.notown hS)).trans (HAL2.out.block k hk)⟩));have hbk:=gQ HBX6.out (.cells #[.string c.name, .int .i64 c.gen, .int .i64 c.size] 26)
       have HBX7:=ab ((hg4.block wo.heap.size ((Array.getElem?_eq_some_iff.1 hbk).1) (HN5.out.at'.notown hbk (by decide) (by decide))).trans hbk);clear hres hin4 hg4 hbk p0 p1 p2;go_wp2_with fail
       go_roundw
       case rel=>exact⟨j+1,v4,by omega,by go_num,by rw[HSN.out]; exact HN6.out,HRF6.out,HBX7.out⟩
       case measure=>simp[intOf]; omega
      ·obtain rfl:j=it.chunks.length:=by omega
       rw[List.take_of_length_le (Nat.le_refl _)]at HN4;have c1:=ai (k:=1) HBX6.out;have c7:=ai (k:=7) HBX6.out;have c8:=ai (k:=8) HBX6.out;have c9:=ai (k:=9) HBX6.out;simp only[aW]at c1 c7 c8 c9
       rcases no HOV2.out with⟨hk2,h2⟩ | ⟨hk2,y,st2,h1,h2⟩
       ·have e2:(it.kind != 2)=true:=by simp[hk2]
        have H2:=ab h2;clear hk2 h2;go_wp2_with fail
        go_roundw
        case rel=>exact⟨k+1,v3,_,_,by omega,by go_num,H2.out,HN4.out⟩
        case measure=>simp[intOf]; omega
       ·have e2:(it.kind != 2)=false:=by simp[hk2]
        have H1:=ab h1;have H2:=ab h2;have hle2:st2.2.length<=st'.2.length:=by
         rcases h2 with⟨_,h2⟩ | ⟨_,h2⟩
         ·obtain⟨_,rfl⟩:=Prod.mk.inj h2;exact Nat.le_refl _
         ·exact fH (gJ visit n) _ _ x st' h2
        have HI4:=ab (HI.out w wr HIW.out (mV HN4.out.gr (fun k hk=>tR H.out HB.out hk)));have HBZ:=ab (Nat.le_trans hbase HN4.out.gr.size);clear hk2 h1 h2;go_wp2_with fail;refine(HIH.out it.node (ex2,bY it.chunks rs2) y st2 base wb eb sb v3 wr H1.out (by omega) HN4.out.at' HOK.out.nd HI4.out HB.out HBZ.out).mono ?_;rintro e w4 ⟨rfl,hres⟩;obtain⟨v4,hin4,-⟩:=HN4.out.step hres
        have HN6:=ab hin4;clear hres hin4 c1 c7 c8 c9
        rcases H2.out with⟨hy,h2⟩ | ⟨hy,h2⟩
        ·have e3:(y != 0)=true:=by simp[hy]
         have HRES:=ab h2;clear hy h2;go_wp2_with fail;go_ret;obtain⟨e1,e2⟩:=Prod.mk.inj HRES.out;exact⟨bQ e1.symm,v4,by rw[e2]; exact HN6.out.at',HN6.out.gr,HN6.out.own⟩
        ·subst hy;have H3:=ab h2;clear h2;go_wp2_with fail
         go_roundw
         case rel=>exact⟨k+1,v4,st2.1,st2.2,by omega,by go_num,H3.out,HN6.out⟩
         case measure=>simp[intOf]; omega
    ·obtain rfl:k=l.length:=by omega
     have HRES:=ab (show(x,st')=(0,(ex2,rs2)) by have:=HV2.out; rw[List.drop_of_length_le (Nat.le_refl _)]at this; exact(Option.some.inj this).symm);go_wp2_with fail;go_ret;obtain⟨e1,e2⟩:=Prod.mk.inj HRES.out;exact⟨bQ e1.symm,v2,by rw[e2]; exact HN2.out.at',HN2.out.gr,HN2.out.own⟩
theorem pJ (visit:aN->Except Int (List aE)) (cv:Value) (I:World->Prop) (B:Nat) (hI:uv I B) (hV:xP visit 95 cv I): ∀n,xQ visit 95 cv I B n
 | 0=>by intro r st x st' base wb eb sb v w hw; simp[dK]at hw
 | n+1=>ul visit cv I B n hI hV (pJ visit cv I B hI hV n)
end Go.Proofs.YtpffpjbkbaleiaaGreatDoor
namespace Go.Proofs.YtpffpjbkbaleiaaGreatDoor
open Go Go.RowKit Go.Maps
theorem tO (visit:aN->Except Int (List aE)) (cv:Value) (I:World->Prop) (n:Nat) (root:aN) (res:Except Int (List aN)) (w:World) (hI:uv I w.heap.size) (hV:xP visit 95 cv I) (hi:I w) (hr:bo root)
  (hn:ko visit n root=some res) (hl: ∀p,dK visit n root ([],[])=some p->p.2.2.length<1099511627775):
  Calls Tryz.prog 94 #[bB root, .func (.func 95) #[cv] #[]] w (pQ res w):=by
 have HI:=ab hI;have HV:=ab hV;have HIW:=ab hi;have HR:=ab hr;have HL:=ab hl;have hmm:= @run_makeMap Tryz.prog;have HB0:=ab ((Below.refl w.heap.size w).alloc (Nat.le_refl _) (.cells #[.string root.name, .int .i64 root.gen, .int .i64 root.size] 26));have HBX0:=ab (heap_alloc_new w (.cells #[.string root.name, .int .i64 root.gen, .int .i64 root.size] 26));unfold bB;clear hI hV hi hr hl
 cases hv:eA root
 ·have HRES:=ab (show res= .error 1 by rw[ko,if_neg (by rw[hv]; simp)]at hn; exact(Option.some.inj hn).symm);have HVR:=ab hv;clear hv hn
  go_enter Tryz.func94,Tryz.ntmps94
  go_wp2_with fail;refine(cF root false _ HR.out HVR.out).mono ?_;rintro e w1 ⟨rfl,hb1⟩;have HB1:=ab (ag HB0.out hb1);clear hb1;go_wp2_with fail
  go_ret2
  exact⟨HB1.out,by rw[HRES.out]; exact⟨rfl,by decide⟩⟩
 ·have HVR:=ab hv;obtain⟨⟨x,st⟩,hwp,hres⟩: ∃p,dK visit n root ([],[])=some p/\res=(if p.1=0 then .ok p.2.2 else .error p.1):=by
   rw[ko,if_pos hv,Option.map_eq_some_iff]at hn;obtain⟨p,h1,h2⟩:=hn;exact⟨p,h1,h2.symm⟩
  have HWP:=ab hwp;have HRES:=ab hres;have HLN:=ab (HL.out _ hwp);clear hv hn hwp hres
  go_enter Tryz.func94,Tryz.ntmps94
  go_wp2_with fail;refine(cF root true _ HR.out HVR.out).mono ?_;rintro e w1 ⟨rfl,hb1⟩;have HB1:=ab (ag HB0.out hb1);have hbx1:=(hb1.block w.heap.size (by simp)).trans HBX0.out;have HBX1:=ab hbx1;have hz1:=lt_of_block hbx1;clear hb1 hbx1 HBX0;obtain⟨W,hW⟩: ∃W:World,W=((w1.alloc (.map #[] 0)).alloc (.map #[] 0)).alloc (.cells #[.func (.func 95) #[cv] #[], .map (some w1.heap.size), .map (some (w1.heap.size+1)), .slice none 0 0] 191):=⟨_,rfl⟩
  have HK:=ab (show fh W w.heap.size (w1.heap.size+1+1) w1.heap.size (w1.heap.size+1) (.func (.func 95) #[cv] #[]) (.slice none 0 0) [] [] by rw[hW]; exact zD);have hbw:Below w1.heap.size w1 W:=by rw[hW]; exact(((Below.refl _ _).alloc (Nat.le_refl _) _).alloc (by simp) _).alloc (by simp; omega) _
  have HBW:=ab (ag HB1.out hbw);have HBX2:=ab ((hbw.block w.heap.size hz1).trans HBX1.out);have q0:=ai (k:=0) HBX2.out;have q1:=ai (k:=1) HBX2.out;have q2:=ai (k:=2) HBX2.out;have r0:=ai (k:=0) HBX1.out;have r1:=ai (k:=1) HBX1.out;have r2:=ai (k:=2) HBX1.out;simp only[aW]at q0 q1 q2 r0 r1 r2;have HI2:=ab (HI.out w W HIW.out (bP.of_below HBW.out))
  clear hbw
  go_upto_region 4 with(fail)
  rw[<-hW];clear hW;go_wp2_with fail;refine(pJ visit cv I w.heap.size HI.out HV.out n root ([],[]) x st w.heap.size (w1.heap.size+1+1) w1.heap.size (w1.heap.size+1) (.slice none 0 0) W HWP.out HLN.out HK.out HR.out HI2.out ⟨Nat.le_refl _,by omega,by omega,by omega⟩ HBW.out.size).mono ?_;rintro e w2 ⟨rfl,v2,hk2,hg2,ho2⟩;have HK2:=ab hk2;have HB2:=ab (show Below w.heap.size w w2 from HBW.out.trans (hg2.below HBW.out.size (fun k hk=>tR HK.out ⟨Nat.le_refl _,by omega,by omega,by omega⟩ hk)))
  obtain⟨a2,c2,rfl⟩:=hk2.shape;have d3:=ai (k:=3) hk2.box;simp only[aW]at d3;clear hk2 hg2 ho2 q0 q1 q2 r0 r1 r2
  by_cases hx:x=0
  ·subst hx;have HRS:=ab (show res= .ok st.2 by rw[HRES.out]; simp);go_wp2_with fail
   go_ret2
   exact⟨HB2.out,by rw[HRS.out]; exact⟨_,rfl,aT.same (ij HK2.out.row HK2.out.ok) (fun k _ hS=>⟨hS.1,rfl⟩)⟩⟩
  ·have e1:(x != 0)=true:=by simp[hx]
   have HRS:=ab (show res= .error x by rw[HRES.out]; simp[hx]);have HX:=ab hx;clear hx;go_wp2_with fail
   go_ret2
   exact⟨HB2.out,by rw[HRS.out]; exact⟨rfl,HX.out⟩⟩
theorem eo.pres {B:Nat} {cv:Value} {cs:List (ByteArray×List UInt8)} :xP (el cs) 95 cv (eo B cv cs):=fun W r hI hr=>(rX (· <B) cv cs r W hI.cont hr hI.env).mono fun _ _ h=>h
def dS (cs:List (ByteArray×List UInt8)) (rs:List aN):List aN:=rs.filter fun r=>(cB cs r.name).isNone
def Bd (cs:List (ByteArray×List UInt8)) (res:Except Int (List aN)):Except Int (List aN):=match res with
 | .error x=> .error x
 | .ok rs=> .ok (dS cs rs)
end Go.Proofs.YtpffpjbkbaleiaaGreatDoor
namespace Go.Proofs.YtpffpjbkbaleiaaGreatDoor
open Go Go.RowKit Go.Maps
theorem qw {P:Program} {ops:Array Oper} {rest:List Oper} {o:Oper} {a:Act} {Q:Exit->Act->World->Prop} {t e:TypeId} {sz bytes:Nat} (T:eh P t e sz bytes) (hgd:o.guard=none) (s x:Operand)
  (ho:o.op= .call {callee:= .builtin .append,args:= #[s,x],argTypes:= #[t,t]}) (base:Nat) (v:Value) (n:Nat) (xs:List Value) (hs:a.eval s=v) (w0:World) (news:List Value) (e2:TypeId)
  (hx:a.eval x= .slice (some ⟨w0.heap.size,0,none⟩) 1 1) (hl:news.length=sz) (h1: ∀u∈news,u.oneCell'=true) (hown:w0.ownsRow base e sz v n xs) (h63:n+1<=maxLen) (hby:(n+1)*bytes<=140737488355328) (hbase:base<=w0.heap.size)
  (h: ∀v' w',w'.ownsRow base e sz v' (n+1) (xs++news)->w0.grownBy w' v.ownBlock->v'≠ .slice none 0 0->wpList P ops Q rest (a.put o.dst v') w'):wpList P ops Q (o::rest) a (w0.alloc (.cells news.toArray e2)):=by
 obtain⟨ht,⟨i,z,h11,h12,h13,h14,h15⟩,hpos,hsm⟩:=T;have hnews: ∀(j:Nat) u,news[j]? =some u->(w0.alloc (.cells news.toArray e2)).cell? ((⟨w0.heap.size,0,none⟩:Addr).add j)=some u:=by
  intro j u hj;rw[lX,Nat.zero_add];have hh:=heap_alloc_new w0 (.cells news.toArray e2);simp only[World.cell?,hh];simp[hj]
 have hl1:news.length=1*sz:=by rw[hl,Nat.one_mul]
 obtain⟨v',w',hr,h2,hg,hv⟩:=run_append_own (P:=P) (w0.alloc (.cells news.toArray e2)) base t o.type e i z sz bytes ht h11 h12 h13 h14 h15 hpos v n xs (hown.alloc _) ⟨w0.heap.size,0,none⟩ 1 1 news hl1 hnews h1 h63 hby (by simp; omega);refine wpList_plain hgd fun K hK=> ?_
 unfold Oper.wp execOp;simp only[ho,resolve,invoke,builtin,Sem.run_bind,Sem.run_pure,Result.andThen_ok,List.map_toArray,List.map_cons,List.map_nil,hs,hx,hr];refine hK _ _ (h v' w' h2 ⟨hg.os,hg.tape,hg.output,by have:=hg.size; simp at this; omega,fun k hk hne=> ?_⟩ (fun e=>by have:=(hv.1 e).2; omega));rw[hg.block k (by simp; omega) hne];exact Below.heap_alloc _ _ _ hk
theorem tn (cs:List (ByteArray×List UInt8)) (rs:List aN) (r:aN):dS cs (rs++[r])=if(cB cs r.name).isNone=true then dS cs rs++[r]else dS cs rs:=by
 unfold dS; rw[List.filter_append]
 by_cases h:(cB cs r.name).isNone=true<;> simp[List.filter,h]
theorem yr (cs:List (ByteArray×List UInt8)) (rs:List aN):(dS cs rs).length<=rs.length:=List.length_filter_le _ _
theorem qj (S:Nat->Prop) (cv:Value) (cs:List (ByteArray×List UInt8)) (n:Nat) (root:aN) (res:Except Int (List aN)) (w:World) (hc:br S w cv cs) (henv:fN w) (hr:bo root)
  (hn:ko (el cs) n root=some res) (hl: ∀p,dK (el cs) n root ([],[])=some p->p.2.2.length<1099511627775) (hle: ∀rs,res= .ok rs->rs.length<1099511627775):
  Calls Tryz.prog 37 #[bB root,cv] w (pQ (Bd cs res) w):=by
 have hmf: ∀(fn:Fn) (first cap:Array Value) (w:World),(Instr.makeFunc fn first cap).run Tryz.prog w= .ok (.func fn first cap) w:=fun _ _ _ _=>rfl
 have HB0:=ab ((Below.refl w.heap.size w).alloc (Nat.le_refl _) (.cells #[.string root.name, .int .i64 root.gen, .int .i64 root.size] 26));have HC:=ab hc;have HI:=ab (eo.start (hc.below HB0.out) (henv.below HB0.out));have HR:=ab hr;have HN:=ab hn;have HL:=ab hl;unfold bB;clear hc henv hr hn hl
 go_enter Tryz.func37,Tryz.ntmps37
 go_wp2_with fail;refine(tO (el cs) cv _ n root res _ eo.keep eo.pres HI.out HR.out HN.out HL.out).mono ?_;rintro e w1 ⟨hb1,hres⟩;have HB1:=ab (ag HB0.out hb1);clear hb1
 cases res with
 | error x=>
  obtain⟨rfl,hx⟩:=hres;have HX:=ab hx;have e1:(x != 0)=true:=by simp[hx]
  clear hx;go_wp2_with fail
  go_ret2
  exact⟨HB1.out,rfl,HX.out⟩
 | ok rs=>
  obtain⟨v,rfl,hv⟩:=hres;have hrl:=hle rs rfl;obtain⟨a,cap,rfl,hcp,hm,-⟩:=aO.shape hv fP.len;unfold maxLen at hm;have HV:=ab hv;clear hv hle;go_wp2_with fail
  go_loopw [8,25] (fun o i wr=> ∃k:Nat,k<=rs.length/\i= .int .i64 k/\wr.ownsRow w1.heap.size 26 3 o (dS cs (rs.take k)).length ((dS cs (rs.take k)).flatMap dj)/\Below w1.heap.size w1 wr/\ ∀r∈dS cs (rs.take k),bo r) (fun _ i _=>rs.length-(intOf i).toNat)
  case atStart=>exact⟨0,Nat.zero_le _,rfl,World.ownsRow_nil _ _ _ _,Below.refl _ _,by simp[dS]⟩
  case round=>
   obtain⟨k,hk,rfl,hown,hb,hok⟩:=hrel;have HO:=ab hown;have HB:=ab hb;have HOK:=ab hok;obtain⟨ao,co,rfl,hn2,hm2⟩:=aj hown;have hlk0:=yr cs (rs.take k);rw[List.length_take]at hlk0;clear hown hb hok
   by_cases hlt:k<rs.length
   ·obtain⟨r,hr⟩: ∃r,rs[k]? =some r:=⟨rs[k],by simp[hlt]⟩;obtain⟨b,o,rfl,hrok,q0,q1,q2⟩:=fp HV.out HB.out hr;have HRO:=ab hrok;have HSN:=ab (show dS cs (rs.take (k+1))=if(cB cs r.name).isNone=true then dS cs (rs.take k)++[r]else dS cs (rs.take k) by rw[bV hr,tn]);have hnm:=hrok.nm;clear hr hrok
    go_upto_region 8 with(fail)
    obtain⟨W,hW⟩: ∃W:World,W=wr.alloc (.cells #[.string r.name, .int .i64 r.gen, .int .i64 r.size] 26):=⟨_,rfl⟩;rw[<-hW];have hbw:Below wr.heap.size wr W:=by rw[hW]; exact(Below.refl _ _).alloc (Nat.le_refl _) _
    have HBX:=ab (show W.heap[wr.heap.size]? =some (.cells #[.string r.name, .int .i64 r.gen, .int .i64 r.size] 26 (0,0)) by rw[hW]; exact heap_alloc_new wr _);have HBW:=ab (ag HB.out hbw);have HOW:=ab (tS HO.out hbw);have HCW:=ab (HC.out.below (ag HB1.out HBW.out));have hz1:=HBW.out.size;have p0:=ai (k:=0) HBX.out;have p1:=ai (k:=1) HBX.out;have p2:=ai (k:=2) HBX.out
    simp only[aW]at p0 p1 p2;clear hW hbw q0 q1 q2
    cases hf:cB cs r.name with
    | none=>
     have hlk:=HCW.out.missM hnm hf;have HSN2:=ab (HSN.out.trans (if_pos (by rw[hf]; rfl)));clear hf hnm;go_wp2_with (at_builtin; go_must (refine qw Tryz.appRefs rfl _ _ rfl w1.heap.size (.slice ao (dS cs (rs.take k)).length co) (dS cs (rs.take k)).length ((dS cs (rs.take k)).flatMap dj) rfl W [.string r.name, .int .i64 r.gen, .int .i64 r.size] _ rfl rfl (ku (r:=r)) HOW.out (by unfold maxLen; omega) (by omega) hz1 ?_); intro v' wc hown' hgrow' _; have HB2:=ab (dw HBW.out HOW.out hgrow' (Nat.le_refl _) hz1); have HO2:=ab (show wc.ownsRow w1.heap.size 26 3 v' (dS cs (rs.take (k+1))).length ((dS cs (rs.take (k+1))).flatMap dj) by rw[HSN2.out,List.length_append,List.flatMap_append]; simpa [dj]using hown'); obtain⟨ae,ce,rfl,-,-⟩:=aj hown'; clear hown' hgrow')
     go_roundw
     case rel=>
      refine⟨k+1,by omega,by go_num,HO2.out,HB2.out, ?_⟩;rw[HSN2.out];intro x hx
      rcases List.mem_append.1 hx with hx | hx
      ·exact HOK.out x hx
      ·simp only[List.mem_singleton]at hx; subst hx; exact HRO.out
     case measure=>simp[intOf]; omega
    | some bs=>
     obtain⟨v,hlk,-⟩:=HCW.out.hitM hnm hf;have HSN2:=ab (HSN.out.trans (if_neg (by rw[hf]; simp)));clear hf hnm;go_wp2_with fail
     go_roundw
     case rel=>exact⟨k+1,by omega,by go_num,by rw[HSN2.out]; exact HOW.out,HBW.out,by rw[HSN2.out]; exact HOK.out⟩
     case measure=>simp[intOf]; omega
   ·obtain rfl:k=rs.length:=by omega
    have HTK:=ab (show dS cs (rs.take rs.length)=dS cs rs by rw[List.take_of_length_le (Nat.le_refl _)]);have hz:=HB1.out.size;go_wp2_with fail
    go_ret2
    refine⟨ag HB1.out HB.out, ?_⟩
    show ∃v,_/\aT _ _ v (dS cs rs)
    rw[<-HTK.out];exact⟨_,rfl,aT.same (ij HO.out HOK.out) (fun k _ hS=>⟨Nat.le_trans hz hS.1,rfl⟩)⟩
end Go.Proofs.YtpffpjbkbaleiaaGreatDoor
namespace Go.Proofs.YtpffpjbkbaleiaaGreatDoor
open Go.RowKit
def zS (cs:List (ByteArray×List UInt8)) (miss:aN->Except Int (List aN)):Prop:= ∀(S:Nat->Prop) (cv:Value) (root:aN) (w:World),br S w cv cs->fN w->bo root->Calls Tryz.prog 37 #[bB root,cv] w (pQ (miss root) w)
end Go.Proofs.YtpffpjbkbaleiaaGreatDoor
namespace Go.Proofs.YtpffpjbkbaleiaaGreatDoor
open Go Go.RowKit Go.Maps
theorem tV {cs:List (ByteArray×List UInt8)} {r:aN} {l:List aE} (h:el cs r= .ok l) {it:aE} (hit:it∈l): ∀c∈iL it,c∈jH cs:=by
 unfold el at h
 cases hn:dh cs r with
 | error x=>
  rw[hn]at h;simp only at h
  split at h
  ·simp only[Except.ok.injEq]at h; subst h; simp at hit
  ·simp at h
 | ok l'=>
  rw[hn]at h;simp only[Except.ok.injEq]at h;subst h;exact tP hn hit
theorem nN {cs:List (ByteArray×List UInt8)} {U:List aN} (hU: ∀c∈jH cs,c∈U): ∀n,Ba U (dK (el cs) n) n
 | 0=>fun r st hr hi hn=>by
  have:=ks hi.e1 hi.e2;omega
 | n+1=>fun r st hr hi hn=>by
  have hm:nS U (st.1,aY r st.2):=⟨hi.e1,hi.e2,iR hi.l1,fun x hx=>by
   rcases km.1 hx with hx | rfl
   ·exact hi.l2 x hx
   ·exact hr⟩
  rw[dK]
  split
  ·exact⟨0,_,rfl,hm,Nat.le_refl _⟩
  ·rename_i hne;have he:nS U (st.1++[r],aY r st.2):=⟨List.nodup_append.2 ⟨hi.e1,by simp,fun a ha b hb e=>by simp only[List.mem_singleton]at hb; subst hb e; exact hne ha⟩,fun x hx=>by
    rcases List.mem_append.1 hx with hx | hx
    ·exact hi.e2 x hx
    ·simp only[List.mem_singleton]at hx; subst hx; exact hr,hm.l1,hm.l2⟩
   cases hv:el cs r with
   | error x=>exact⟨x,_,rfl,he,by simp⟩
   | ok l=>
    obtain⟨x,st',h1,h2,h3⟩:=jP (nN hU n) l (st.1++[r],aY r st.2) (fun it hit c hc=>hU c (tV hv hit c hc)) he (by simp; omega);exact⟨x,st',h1,h2,by simp at h3; omega⟩
theorem nt (cs:List (ByteArray×List UInt8)) (r:aN): ∃x st',dK (el cs) (lq cs) r ([],[])=some (x,st')/\nS (r::jH cs) st':=by
 obtain⟨x,st',h1,h2,_⟩:=nN (cs:=cs) (U:=r::jH cs) (fun c hc=>by simp[hc]) (lq cs) r ([],[]) (by simp) ⟨by simp,by simp,by simp,by simp⟩ (by simp[lq]);exact⟨x,st',h1,h2⟩
def uV (cs:List (ByteArray×List UInt8)) (r:aN):Except Int (List aN):=(ko (el cs) (lq cs) r).getD (.error 0)
def yC (cs:List (ByteArray×List UInt8)) (r:aN):Except Int (List aN):=Bd cs (uV cs r)
theorem ns {cs:List (ByteArray×List UInt8)} (h:cs.length<=80) (r:aN):ko (el cs) (lq cs) r=some (uV cs r)/\ ∀p,dK (el cs) (lq cs) r ([],[])=some p->p.2.2.length<=1000000000:=by
 obtain⟨x,st',h1,h2⟩:=nt cs r;refine⟨?_,fun p hp=> ?_⟩
 ·unfold uV;have: ∃y,ko (el cs) (lq cs) r=some y:=by
   unfold ko
   split
   ·rw[h1]; exact⟨_,rfl⟩
   ·exact⟨_,rfl⟩
  obtain⟨y,hy⟩:=this;rw[hy]; rfl
 ·rw[h1]at hp;simp only[Option.some.injEq]at hp;subst hp;have h3:=ks h2.l1 h2.l2;have h4:=vL (cs:=cs);have h5:cs.length*3948544<=80*3948544:=Nat.mul_le_mul_right _ h;simp only[List.length_cons]at h3;simp only;omega
theorem yN {cs:List (ByteArray×List UInt8)} (h:cs.length<=80) {r:aN} {l:List aN} (hl:uV cs r= .ok l):l.length<=1000000000:=by
 obtain⟨h1,h2⟩:=ns h r;obtain⟨x,st',h3,_⟩:=nt cs r;have h4:=h2 _ h3;rw[hl]at h1;unfold ko at h1
 split at h1
 ·rw[h3]at h1;simp only[Option.map_some,Option.some.injEq]at h1
  split at h1
  ·simp only[Except.ok.injEq]at h1; subst h1; exact h4
  ·simp at h1
 ·simp at h1
theorem oa {cs:List (ByteArray×List UInt8)} (h:cs.length<=80):zS cs (yC cs):=fun S cv root w hc he hr=>by
 obtain⟨h1,h2⟩:=ns h root;exact qj S cv cs (lq cs) root _ w hc he hr h1 (fun p hp=>by have:=h2 p hp; omega) (fun rs hrs=>by have:=yN h hrs; omega)
end Go.Proofs.YtpffpjbkbaleiaaGreatDoor
namespace Go.Proofs.YtpffpjbkbaleiaaGreatDoor
open Go.RowKit
def na (c:UInt8):ByteArray:=⟨#[c,49,50,51,52,53,54,55,56,57,97,98,99,100,101,102,48,49,50,51,52,53,54,55,56,57,97,98,99,100,101,102]⟩
def cC :bu:=⟨na 110,na 115,na 99,na 105,na 116⟩
def iH :de:=⟨2,6,1,1,0⟩
def gg :List bi:=[⟨⟨#[97]⟩,1,0,0,[],⟨#[]⟩⟩,⟨⟨#[100]⟩,2,0,0,[],⟨#[]⟩⟩,⟨⟨#[100,47,108]⟩,3,5,6,[],⟨#[97]⟩⟩]
def ju :List UInt8:=[1,1,108,3,5,6,1,97]
def iV :aN:=aV cC [] ju
def ki :aE:=⟨⟨#[97]⟩,1,0,0,0,⟨#[]⟩,[],bq⟩
def xE :aE:=⟨⟨#[100]⟩,2,0,0,0,⟨#[]⟩,[],iV⟩
def itL :aE:=⟨⟨#[108]⟩,3,5,6,0,⟨#[97]⟩,[],bq⟩
def kJ :List UInt8:=dg [ki,xE]
def fd :aN:=aV cC [] kJ
def mK :List (ByteArray×List UInt8):=[(fd.name,kJ)]
theorem rE :eW cC=true:=by decide+kernel
theorem uM :gp iH=true:=by decide+kernel
theorem zu :cu gg=0:=by decide+kernel
theorem Af :dg [itL]=ju:=by decide+kernel
theorem Bv :bO gg ⟨#[]⟩=[⟨⟨#[97]⟩,1,0,0,[],⟨#[]⟩⟩,⟨⟨#[100]⟩,2,0,0,[],⟨#[]⟩⟩]:=by decide+kernel
theorem Bw :bO gg ⟨#[100]⟩=[⟨⟨#[100,47,108]⟩,3,5,6,[],⟨#[97]⟩⟩]:=by decide+kernel
theorem Bt :cK [0]=some []:=by kernel_rfl
theorem vn0 :dZ []=true:=by decide+kernel
theorem vnL :dZ [itL]=true:=by decide+kernel
theorem vnT :dZ [ki,xE]=true:=by decide+kernel
theorem Cc :iV≠fd:=by decide+kernel
theorem BD :iV.name≠fd.name:=by decide+kernel
theorem Ch (n:Nat):bW cC [] iH [] (n+1) ⟨#[]⟩= .ok ([0],[[0]]):=by
 rw[bW,show cM cC [] iH (bW cC [] iH [] n) ⟨#[]⟩ (bO [] ⟨#[]⟩) [] []= .ok ([],[])from rfl];simp only[if_pos vn0];rw[if_pos (show(dg []).length<=32768 by decide)]
 rfl
theorem Cm :bw cC [] [[0]] []=[⟨aV cC [] [0],[0]⟩]:=by
 show fJ cC [] [] [0]=_
 unfold fJ;rw[if_neg (by simp),List.nil_append]
theorem Bn :cr cC iH [] []= .ok (aV cC [] [0],[⟨aV cC [] [0],[0]⟩]):=by
 unfold cr;rw[if_pos ⟨rE,uM⟩,if_pos (show([]:List (ByteArray×Int)).all (fun p=>decide (0<=p.2) && decide (p.2<=1099511627776))=true from rfl),if_pos (show cu []=0 from rfl),Ch 513]
 dsimp only
 rw[Cm]
theorem Cb :bw cC [] [ju,kJ] []=[⟨iV,ju⟩,⟨fd,kJ⟩]:=by
 unfold bw;rw[List.foldl_cons,List.foldl_cons,List.foldl_nil];have h1:fJ cC [] [] ju=[⟨iV,ju⟩]:=by
  unfold fJ;rw[if_neg (by simp),List.nil_append]
  rfl
 rw[h1];unfold fJ;rw[if_neg]
 ·rfl
 ·intro h;simp only[List.map_cons,List.map_nil,List.mem_singleton]at h;exact Cc h.symm
theorem Ci (n:Nat):bW cC [] iH gg (n+1) ⟨#[100]⟩= .ok (ju,[ju]):=by
 have h:cM cC [] iH (bW cC [] iH gg n) ⟨#[100]⟩ (bO gg ⟨#[100]⟩) [] []= .ok ([itL],[]):=by
  rw[Bw]; rfl
 rw[bW,h];simp only[if_pos vnL,Af]
 rfl
theorem Cj (n:Nat):bW cC [] iH gg (n+2) ⟨#[]⟩= .ok (kJ,[ju,kJ]):=by
 have h:cM cC [] iH (bW cC [] iH gg (n+1)) ⟨#[]⟩ (bO gg ⟨#[]⟩) [] []= .ok ([ki,xE],[ju]):=by
  rw[Bv];rw[pj (by rfl),nb (by rfl),show bW cC [] iH gg (n+1) ⟨#[100]⟩= .ok (ju,[ju])from Ci n]
  rfl
 rw[bW,h];simp only[if_pos vnT];rw[if_pos (show(dg [ki,xE]).length<=32768 by decide+kernel)]
 rfl
theorem Bo :cr cC iH gg []= .ok (fd,[⟨iV,ju⟩,⟨fd,kJ⟩]):=by
 unfold cr;rw[if_pos ⟨rE,uM⟩,if_pos (by rfl),if_pos zu,show(514:Nat)=512+2 from rfl,Cj 512]
 show Except.ok (fd,bw cC [] [ju,kJ] [])=_
 rw[Cb]
theorem Bu :cK kJ=some [ki,xE]:=by kernel_rfl
theorem Cl :((kJ.length:Nat):Int)=fd.size:=by kernel_rfl
theorem yJ :dh mK fd= .ok [ki,xE]:=by
 have h:bR mK fd= .ok kJ:=by
  unfold bR mK;rw[cB,if_pos rfl]
  show(if((kJ.length:Nat):Int)=fd.size then Except.ok kJ else .error 9)=_
  rw[if_pos Cl]
 unfold dh;rw[h];simp only[Bu]
theorem Bf :dh mK iV= .error 10:=by
 have h:bR mK iV= .error 10:=by
  unfold bR mK;rw[cB,if_neg (fun e=>BD e.symm),cB]
 unfold dh;rw[h]
theorem zz :eA fd=true:=by decide+kernel
theorem BT (n:Nat):dJ mK (cE mK (n+1)) ⟨#[]⟩ [ki,xE] []=(10,[⟨⟨#[97]⟩,1,0,0,[],⟨#[]⟩⟩,⟨⟨#[100]⟩,2,0,0,[],⟨#[]⟩⟩]):=by
 rw[jT (p:=⟨#[97]⟩) (bs:=[]) rfl (by decide+kernel) (by decide) rfl rfl,kT (p:=⟨#[100]⟩) rfl (by decide+kernel) (by decide) rfl];have h1: ∀X,cE mK (n+1) ⟨#[100]⟩ xE.node X=(10,X):=fun X=>by
  rw[cE,show xE.node=iV from rfl,Bf]
 rw[h1]
 rfl
theorem BU (n:Nat):cE mK (n+2) ⟨#[]⟩ fd []=(10,[⟨⟨#[97]⟩,1,0,0,[],⟨#[]⟩⟩,⟨⟨#[100]⟩,2,0,0,[],⟨#[]⟩⟩]):=by
 rw[cE,yJ];exact BT n
theorem BS :ly mK fd= .error 10:=by
 unfold ly;rw[if_pos zz,show(514:Nat)=512+2 from rfl,BU 512]
 rfl
theorem BV :dU mK fd ⟨#[97]⟩= .ok ki:=by
 unfold dU;rw[if_pos ⟨by decide+kernel,zz⟩,show ii (bl ⟨#[97]⟩)=[⟨#[97]⟩] by decide+kernel];rw[gE,if_pos (show(fm fd).kind=2 from rfl),show(fm fd).node=fd from rfl,yJ]
 rfl
theorem BA :dU mK fd ⟨#[100,47,108]⟩= .error 10:=by
 unfold dU;rw[if_pos ⟨by decide+kernel,zz⟩,show ii (bl ⟨#[100,47,108]⟩)=[⟨#[100]⟩,⟨#[108]⟩] by decide+kernel];rw[gE,if_pos (show(fm fd).kind=2 from rfl),show(fm fd).node=fd from rfl,yJ]
 show gE mK [⟨#[108]⟩] xE=_
 rw[gE,if_pos (show xE.kind=2 from rfl),show xE.node=iV from rfl,Bf]
theorem BW :yC mK fd= .ok [iV]:=by kernel_rfl
end Go.Proofs.YtpffpjbkbaleiaaGreatDoor
namespace Go.Proofs.YtpffpjbkbaleiaaGreatDoor
open Go Go.RowKit Go.Maps
theorem fZ {tree:List bi} {j:Nat} {e:bi} (h:tree[j]? =some e) (d:ByteArray):bO (tree.take (j+1)) d=bO (tree.take j) d++(if aL (bl e.path)=bl d then [e]else []):=by
 unfold bO;rw[bV h,List.filter_append]
 congr 1
 by_cases hp:aL (bl e.path)=bl d
 ·simp[hp]
 ·simp[hp]
theorem ln {G:List qy} {d:ByteArray} (h:G.find? (fun g=>decide (g.dir=d))=none):eG G d=[]:=by unfold eG; rw[h]
theorem fU {G:List qy} {d:ByteArray} {g:qy} (h:G.find? (fun g=>decide (g.dir=d))=some g):eG G d=g.ents.map Prod.snd:=by unfold eG; rw[h]
theorem lp {A B:List qy} {g g':qy} (hd:g'.dir=g.dir) (hA: ∀x∈A,x.dir≠g.dir) (d:ByteArray):eG (A++g'::B) d=if g.dir=d then g'.ents.map Prod.snd else eG (A++g::B) d:=by
 by_cases h:g.dir=d
 ·rw[if_pos h];refine fU ?_;rw[List.find?_append,List.find?_eq_none.2 (fun x hx=>by rw[decide_eq_true_eq]; intro e; exact hA x hx (e.trans h.symm))];simp[hd,h]
 ·rw[if_neg h];unfold eG;rw[List.find?_append,List.find?_append,List.find?_cons,List.find?_cons,decide_eq_false (show ¬g'.dir=d by rw[hd]; exact h),decide_eq_false h]
theorem mT {G:List qy} {g:qy} (h:G.find? (fun x=>decide (x.dir=g.dir))=none) (d:ByteArray):eG (G++[g]) d=if g.dir=d then g.ents.map Prod.snd else eG G d:=by
 by_cases hd:g.dir=d
 ·rw[if_pos hd];refine fU ?_;rw[<-hd,List.find?_append,h];simp
 ·rw[if_neg hd];unfold eG;rw[List.find?_append]
  cases G.find? (fun x=>decide (x.dir=d))with
  | none=>simp[hd]
  | some x=>simp
section
variable {w w1 w2 : World} {base im : Nat} {A B G : List qy} {g : qy} {v' : Value} {y : gP} {q : ByteArray}
theorem iA.over (h:iA w base im (A++g::B)) (hb:base<=im) (hd:bt (· <base) w y.1 y.2.data/\fR y.2) (hown:w1.ownsRow base 79 6 v' (g.ents.length+1) (cA g.ents++mR y.1 y.2)) (hg:w.grownBy w1 g.val.ownBlock) (hpl: ∀i,v'.ownBlock=some i->g.val.ownBlock=some i\/w.heap.size<=i)
  (hm:ci Tryz.prog 9 w2 im (A.map fD++(.string g.dir,v')::B.map fD)) (hg2:w1.grownBy w2 (some im)):iA w2 base im (A++⟨g.dir,v',g.ents++[y]⟩::B):=by
 have hgo:w.ownsRow base 79 6 g.val g.ents.length (cA g.ents):=h.own g (by simp);have him:w.heap[im]? =w1.heap[im]? ->True:=fun _=>trivial
 have hmc: ∀ {u:Value} {n:Nat} {xs:List Value} {t:TypeId} {sz:Nat},w1.ownsRow base t sz u n xs->w2.ownsRow base t sz u n xs:=fun {u n xs t sz} hr=>by
  refine hr.kept hg2 (.inr (fun e=> ?_));obtain⟨cs,hc⟩:=ay hr e;have h0:=h.map.lt;have hi:w1.heap[im]? =w.heap[im]? :=hg.block im h0 (fun e2=>by
   obtain⟨cs2,hc2⟩:=ay hgo e2.symm;exact h.map.ncells hc2)
  exact h.map.ncells (hi.symm.trans hc)
 have hoth: ∀x,x∈A\/x∈B-> ∀i,x.val.ownBlock=some i->g.val.ownBlock≠some i:=by
  intro x hx i hi;have hp:=List.pairwise_append.1 h.apart
  rcases hx with hx | hx
  ·exact hp.2.2 x hx g (by simp) i hi
  ·intro e;exact(List.pairwise_cons.1 hp.2.1).1 x hx i e hi
 have hdat: ∀ {u:Value} {bs:List UInt8},bt (· <base) w u bs->bt (· <base) w2 u bs:=fun {u bs} hu=>by
  refine aJ.same hu (fun i hi=>(hg2.block i ?_ ?_).trans (hg.block i ?_ ?_))
  ·by_cases hlt:i<w.heap.size
   ·exact Nat.lt_of_lt_of_le hlt hg.size
   ·exact absurd h.map.lt (by omega)
  ·intro e;have:i=im:=by simpa using e
   omega
  ·have:=h.map.lt;omega
  ·intro e;have:=(hgo.lt i e.symm).1;omega
 have hmem: ∀x,x∈A++g::B->(x∈A\/x∈B)\/x=g:=by
  intro x hx;simp only[List.mem_append,List.mem_cons]at hx
  rcases hx with hx | hx | hx
  ·exact .inl (.inl hx)
  ·exact .inr hx
  ·exact .inl (.inr hx)
 refine⟨by simpa [fD]using hm,fun x hx=> ?_,fun x hx z hz=> ?_, ?_,fun x hx=> ?_⟩
 ·simp only[List.mem_append,List.mem_cons]at hx
  rcases hx with hx | hx | hx
  ·refine hmc ((h.own x (by simp[hx])).kept hg ?_)
   cases hv:x.val.ownBlock with
   | none=>exact .inl rfl
   | some i=>exact .inr (fun e=>hoth x (.inl hx) i hv e.symm)
  ·subst hx;simp only;rw[List.length_append,List.length_singleton,mS];exact hmc hown
  ·refine hmc ((h.own x (by simp[hx])).kept hg ?_)
   cases hv:x.val.ownBlock with
   | none=>exact .inl rfl
   | some i=>exact .inr (fun e=>hoth x (.inr hx) i hv e.symm)
 ·simp only[List.mem_append,List.mem_cons]at hx
  rcases hx with hx | hx | hx
  ·have:=h.dat x (by simp[hx]) z hz;exact⟨hdat this.1,this.2⟩
  ·subst hx
   rcases List.mem_append.1 hz with hz | hz
   ·have:=h.dat g (by simp) z hz;exact⟨hdat this.1,this.2⟩
   ·rw[List.mem_singleton]at hz;subst hz;exact⟨hdat hd.1,hd.2⟩
  ·have:=h.dat x (by simp[hx]) z hz;exact⟨hdat this.1,this.2⟩
 ·have hp:=List.pairwise_append.1 h.apart;have hc:=List.pairwise_cons.1 hp.2.1;have hlow: ∀x,x∈A\/x∈B-> ∀i,x.val.ownBlock=some i->i<w.heap.size:=by
   intro x hx i hi;have hx2:x∈A++g::B:=by rcases hx with hx | hx<;> simp[hx]
   exact((h.own x hx2).lt i hi).2
  refine List.pairwise_append.2 ⟨hp.1,List.pairwise_cons.2 ⟨fun x hx i hi e=> ?_,hc.2⟩,fun x hx z hz i hi e=> ?_⟩
  ·rcases hpl i hi with h2 | h2
   ·exact hc.1 x hx i h2 e
   ·have:=hlow x (.inr hx) i e;omega
  ·rcases List.mem_cons.1 hz with hz | hz
   ·subst hz
    rcases hpl i e with h2 | h2
    ·exact hoth x (.inl hx) i hi h2
    ·have:=hlow x (.inl hx) i hi;omega
   ·exact hp.2.2 x hx z (by simp[hz]) i hi e
 ·simp only[List.mem_append,List.mem_cons]at hx
  rcases hx with hx | hx | hx
  ·exact h.key x (by simp[hx])
  ·subst hx;exact h.key g (by simp)
  ·exact h.key x (by simp[hx])
theorem iA.new (h:iA w base im G) (hb:base<=im) (hq:q.size<=maxLen) (hd:bt (· <base) w y.1 y.2.data/\fR y.2) (hown:w1.ownsRow base 79 6 v' 1 (mR y.1 y.2)) (hg:w.grownBy w1 none) (hpl: ∀i,v'.ownBlock=some i->w.heap.size<=i)
  (hm:ci Tryz.prog 9 w2 im (G.map fD++[(.string q,v')])) (hg2:w1.grownBy w2 (some im)):iA w2 base im (G++[⟨q,v',[y]⟩]):=by
 have hmc: ∀ {u:Value} {n:Nat} {xs:List Value} {t:TypeId} {sz:Nat},w1.ownsRow base t sz u n xs->w2.ownsRow base t sz u n xs:=fun {u n xs t sz} hr=>by
  refine hr.kept hg2 (.inr (fun e=> ?_));obtain⟨cs,hc⟩:=ay hr e;have h0:=h.map.lt;have hi:w1.heap[im]? =w.heap[im]? :=hg.block im h0 (by simp);exact h.map.ncells (hi.symm.trans hc)
 have hdat: ∀ {u:Value} {bs:List UInt8},bt (· <base) w u bs->bt (· <base) w2 u bs:=fun {u bs} hu=>by
  have h0:=h.map.lt;refine aJ.same hu (fun i hi=>(hg2.block i ?_ ?_).trans (hg.block i ?_ (by simp)))
  ·have:=hg.size;omega
  ·intro e;have:i=im:=by simpa using e
   omega
  ·skip
   omega
 refine⟨by simpa [fD]using hm,fun x hx=> ?_,fun x hx z hz=> ?_,List.pairwise_append.2 ⟨h.apart,by simp,fun x hx z hz i hi e=> ?_⟩,fun x hx=> ?_⟩
 ·rcases List.mem_append.1 hx with hx | hx
  ·exact hmc ((h.own x hx).kept hg (by cases hv:x.val.ownBlock<;> simp))
  ·rw[List.mem_singleton]at hx;subst hx
   simpa [cA]using hmc hown
 ·rcases List.mem_append.1 hx with hx | hx
  ·have:=h.dat x hx z hz;exact⟨hdat this.1,this.2⟩
  ·rw[List.mem_singleton]at hx;subst hx;simp only[List.mem_singleton]at hz;subst hz;exact⟨hdat hd.1,hd.2⟩
 ·rw[List.mem_singleton]at hz;subst hz;have h1:=hpl i e;have h2:=((h.own x hx).lt i hi).2;omega
 ·rcases List.mem_append.1 hx with hx | hx
  ·exact h.key x hx
  ·rw[List.mem_singleton]at hx;subst hx;exact hq
end
def vn (k:bu) (gs:List (ByteArray×Int)) (c:de) (tree:List bi):List aN:=
 (tree.flatMap fun e=>(eP c e.data).map (aV k gs))++(List.range 515).flatMap fun n=>(⟨#[]⟩::tree.map bi.path).flatMap fun d=>match bW k gs c tree n d with
  | .ok p=>[aV k gs p.1]
  | .error _=>[]
theorem uA {k:bu} {gs:List (ByteArray×Int)} {c:de} {tree:List bi} (hc:gp c=true) (hl:tree.length<=4096) (hv: ∀e∈tree,gq e=true):(vn k gs c tree).length<=100000000000:=by
 have h1:=eR (fun e:bi=>(eP c e.data).map (aV k gs)) 1048576 tree (fun e he=>by
  rw[List.length_map];have:=qb hc e.data;have:=(gB (hv e he)).2.2
  omega)
 have h2:=eR (fun n:Nat=>(⟨#[]⟩::tree.map bi.path).flatMap fun d=>match bW k gs c tree n d with
  | .ok p=>[aV k gs p.1]
  | .error _=>[]) 4097 (List.range 515) (fun n _=>by
   have h3:=eR (fun d=>match bW k gs c tree n d with
    | .ok p=>[aV k gs p.1]
    | .error _=>[]) 1 (⟨#[]⟩::tree.map bi.path) (fun d _=>by
     cases bW k gs c tree n d<;> simp)
   simp only[List.length_cons,List.length_map]at h3
   omega)
 rw[List.length_range]at h2;have h4:tree.length*1048576<=4096*1048576:=Nat.mul_le_mul_right _ hl;unfold vn;rw[List.length_append];omega
theorem uB {k:bu} {gs:List (ByteArray×Int)} {c:de} {tree:List bi} : ∀e∈tree,∀y∈eP c e.data,aV k gs y∈vn k gs c tree:=fun e he y hy=>
 List.mem_append.2 (.inl (List.mem_flatMap.2 ⟨e,he,List.mem_map.2 ⟨y,hy,rfl⟩⟩))
theorem uC {k:bu} {gs:List (ByteArray×Int)} {c:de} {tree:List bi} : ∀(n:Nat) (d:ByteArray) (p:List UInt8×List (List UInt8)),n<=514->(d.size=0\/ ∃e∈tree,e.path=d)->bW k gs c tree n d= .ok p->aV k gs p.1∈vn k gs c tree:=fun n d p hn hd hp=>by
 refine List.mem_append.2 (.inr (List.mem_flatMap.2 ⟨n,List.mem_range.2 (by omega),List.mem_flatMap.2 ⟨d, ?_, ?_⟩⟩))
 ·rcases hd with hd | ⟨e,he,rfl⟩
  ·have:d=⟨#[]⟩:=by
    apply eE
    exact List.eq_nil_of_length_eq_zero (by rw[<-ar]; exact hd)
   simp[this]
  ·exact List.mem_cons_of_mem _ (List.mem_map.2 ⟨e,he,rfl⟩)
 ·rw[hp]; simp
end Go.Proofs.YtpffpjbkbaleiaaGreatDoor
