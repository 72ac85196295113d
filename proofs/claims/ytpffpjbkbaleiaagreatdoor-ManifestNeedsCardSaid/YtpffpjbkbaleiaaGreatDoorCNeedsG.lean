/- Texts of this proof, one after the other: BldE, RGet, RWkA, RWkB, Pres, RGood, RefA, RefB, RItem, RNode, RIts, RWkC. -/
import Derived.Test.YtpffpjbkbaleiaaGreatDoorCNeedsF
set_option maxRecDepth 100000
set_option maxHeartbeats 8000000
namespace Go.Proofs.YtpffpjbkbaleiaaGreatDoor
open Go Go.RowKit Go.Maps
theorem ED {a:Act} {w:World} {b:Nat} {x0 x1 x2 e5:Value} (h:w.heap[b]? =some (.cells #[x0,x1,x2] 26 (0,0)))
  (h4:a.tmps[4]? =some (.pointer (some ⟨b,0,none⟩))) (h5:a.tmps[5]? =some e5):(results Tryz.f73 a.tmps).run Tryz.prog w= .ok (.tuple #[.agg #[x0,x1,x2],e5]) w:=by
 have m0:=ah (k:=0) h;have m1:=ah (k:=1) h;have m2:=ah (k:=2) h;simp only[aN]at m0 m1 m2;simp[results,Tryz.results73,go_sem,h4,h5,m0,m1,m2]
theorem nV {a:Act} {w:World} {b:Nat} {a0 a1 a2 x0 x1 x2 e5:Value} {Q:Ending->World->Prop} (h:w.heap[b]? =some (.cells #[a0,a1,a2] 26 (0,0)))
  (h4:a.tmps[4]? =some (.pointer (some ⟨b,0,none⟩))) (h5:a.tmps[5]? =some e5) (hd:a.defers=[])
  (hQ:Q (.returned (.tuple #[.agg #[x0,x1,x2],e5])) (((w.setCell ⟨b,0,none⟩ x0).setCell ⟨b,1,none⟩ x1).setCell ⟨b,2,none⟩ x2)):
  bodyPost Tryz.prog Tryz.f73 Q Exit.ret a (((w.setCell ⟨b,0,none⟩ x0).setCell ⟨b,1,none⟩ x1).setCell ⟨b,2,none⟩ x2):=bodyPost_ret (ED (Dv h) h4 h5) hd hQ
structure BB (base bb kb im : Nat) (k : bI) (c : dN) (gs : List (ByteArray × Int)) (tree : List bD) (UR : List aG) : Prop where
 keys:fP k=true
 cut:iI c=true
 seed:c.seed<18446744073709551616
 gens: ∀p∈gs,0<=p.2/\p.2<=1099511627776
 bbb:base<=bb
 bkb:base<=kb
 seven:7<=base
 ikb:im≠kb
 val: ∀e∈tree,iJ e=true
 len:tree.length<=4096
 usz:UR.length<=100000000000
 u1: ∀e∈tree,∀y∈fG c e.data,be k gs y∈UR
 u2: ∀(n:Nat) (d:ByteArray) (p:List UInt8×List (List UInt8)),n<=514->(d.size=0\/ ∃e∈tree,e.path=d)->cE k gs c tree n d= .ok p->be k gs p.1∈UR
def ym (UR:List aG) (bs:List bM):Prop:= ∀b∈bs,b.ref∈UR
theorem ym.put {UR:List aG} {bs:List bM} {k:bI} {gs:List (ByteArray×Int)} {x:List UInt8} (h:ym UR bs) (hx:be k gs x∈UR):ym UR (gI k gs bs x):=by
 unfold gI
 split
 ·exact h
 ·intro b hb
  rcases List.mem_append.1 hb with hb | hb
  ·exact h b hb
  ·rw[List.mem_singleton]at hb; subst hb; exact hx
theorem ym.puts {UR:List aG} {k:bI} {gs:List (ByteArray×Int)} : ∀ {cs:List (List UInt8)} {bs:List bM},ym UR bs->(∀x∈cs,be k gs x∈UR)->ym UR (bJ k gs cs bs)
 | [],_,h,_=>h
 | x::cs,bs,h,hx=>ym.puts (cs:=cs) (bs:=gI k gs bs x) (h.put (hx x (by simp))) (fun y hy=>hx y (by simp[hy]))
theorem ym.len {UR:List aG} {bs:List bM} {w:World} {base bb im kb:Nat} {k:bI} {c:dN} {gv v:Value} (h:ym UR bs) (hb:ep w base bb k c gv im kb v bs):bs.length<=UR.length:=by
 have h1:=iX (l:=bs.map bM.ref) (U:=UR) hb.known.nodup (fun x hx=>by
  obtain⟨b,hb2,rfl⟩:=List.mem_map.1 hx;exact h b hb2)
 rwa [List.length_map]at h1
def sM (base bb kb im:Nat) (k:bI) (c:dN) (gs:List (ByteArray×Int)) (gv v:Value) (bs:List bM) (UR:List aG) (res:Except Int (List UInt8×List (List UInt8))) (w:World) (e:Ending) (w':World):Prop:=match res with
 | .error x=>e= .returned (.tuple #[.agg #[.string ⟨#[]⟩, .int .i64 0, .int .i64 0], .int .i64 x])/\x≠0/\ ∃v' bs',ep w' base bb k c gv im kb v' bs'/\cZ base bb kb v v' w w'
 | .ok p=>e= .returned (.tuple #[aX (be k gs p.1), .int .i64 0])/\ym UR (bJ k gs p.2 bs)/\ ∃v',ep w' base bb k c gv im kb v' (bJ k gs p.2 bs)/\cZ base bb kb v v' w w'
def Ec (base bb kb im:Nat) (k:bI) (c:dN) (gs:List (ByteArray×Int)) (tree:List bD) (gv:Value) (UR:List aG) (n:Nat):Prop:= ∀(path:ByteArray) (v:Value) (bs:List bM) (w:World),
 514<=path.size+n->(path.size=0\/ ∃e∈tree,e.path=path)->ep w base bb k c gv im kb v bs->iu (· <base) w gv gs->wH w base im tree->ym UR bs->kS w->base<=w.heap.size->
 Calls Tryz.prog 73 #[.pointer (some ⟨bb,0,none⟩), .string path] w (sM base bb kb im k c gs gv v bs UR (cE k gs c tree n path) w)
theorem Cl {base bb kb im:Nat} {k:bI} {c:dN} {gs:List (ByteArray×Int)} {tree:List bD} {gv:Value} {UR:List aG} (hX:BB base bb kb im k c gs tree UR):Ec base bb kb im k c gs tree gv UR 0:=by
 intro path v bs w hn hp
 exfalso
 rcases hp with h | ⟨e,he,rfl⟩
 ·omega
 ·have:=gt (bQ (hX.val e he));rw[<-ay]at this;omega
theorem lq {l:List UInt8} (h:l≠[]):(aT l).length<l.length:=by
 by_cases hp:aT l=[]
 ·rw[hp];exact List.length_pos_iff.2 h
 ·obtain⟨t,ht⟩:=nw hp;have:=congrArg List.length ht;rw[List.length_append,List.length_cons]at this;omega
theorem tf {c:dN} (hc:iI c=true) (x:List UInt8):(fG c x).length<=x.length:=by
 have h1:(fG c x).flatten=x:=xH;have h2: ∀(l:List (List UInt8)),(∀y∈l,1<=y.length)->l.length<=l.flatten.length:=by
  intro l
  induction l with
  | nil=>simp
  | cons y l ih=>
   intro h;have:=ih (fun z hz=>h z (by simp[hz]));have:=h y (by simp);simp only[List.length_cons,List.flatten_cons,List.length_append];omega
 have h3:=h2 (fG c x) (fun y hy=>(tg hc x y hy).1)
 rwa [h1]at h3
section
variable {P : Program} {ops : Array Oper} {Q : Exit → Act → World → Prop} {S : World → Prop}
theorem Ct {dst dst2:Option Tmp} {op op2:Op} {ty ty2:TypeId} {pos pos2:String} {aft aft2:Array Edge} {g g2:Option (Nat×Bool)} {fuel:Nat} {listed:Array Bool} {a:Act} {w:World} (i j:Nat) (hi:ops[i]? =some ⟨dst,op,ty,pos,aft,g⟩) (hj:ops[j]? =some ⟨dst2,op2,ty2,pos2,aft2,g2⟩) (hr:Region.ready .any ops listed=[i,j])
  (hw:Region.wanted ⟨dst,op,ty,pos,aft,g⟩ (yielded ops a.tmps)=true) (hw2:Region.wanted ⟨dst2,op2,ty2,pos2,aft2,g2⟩ (yielded ops a.tmps)=true)
  (h: ∀K:Act->World->Prop,(∀a w,S w/\lD P ops Q S fuel (listed.setIfInBounds i true) a w->K a w)->wpList P #[] (Exit.then K Q) [⟨dst,op,ty,pos, #[],none⟩] a w)
  (h2: ∀K:Act->World->Prop,(∀a w,S w/\lD P ops Q S fuel (listed.setIfInBounds j true) a w->K a w)->wpList P #[] (Exit.then K Q) [⟨dst2,op2,ty2,pos2, #[],none⟩] a w):lD P ops Q S (fuel+1) listed a w:=by
 refine lD.of (wpAnyH_all hr (by simp) fun m hm=> ?_);have hmm:m=i\/m=j:=by simpa using hm
 rcases hmm with rfl | rfl
 ·have hb:nP P ops (fun a' w'=>S w'/\wpAnyH P .any ops Q S fuel (listed.setIfInBounds m true) a' w') Q [⟨dst,op,ty,pos,aft,g⟩] a w:=
   bw hw (fun K hK=>h K (fun a w hh=>hK a w ⟨hh.1,hh.2.out⟩))
  unfold wpOp;simp only[hi];exact nP.out hb
 ·have hb:nP P ops (fun a' w'=>S w'/\wpAnyH P .any ops Q S fuel (listed.setIfInBounds m true) a' w') Q [⟨dst2,op2,ty2,pos2,aft2,g2⟩] a w:=
   bw hw2 (fun K hK=>h2 K (fun a w hh=>hK a w ⟨hh.1,hh.2.out⟩))
  unfold wpOp;simp only[hj];exact nP.out hb
end
structure wJ (it : aE) : Prop where
 nm:it.name.size<=512
 lk:it.link.size<=512
 ch:it.chunks.length<=1048576
 rs: ∀r∈it.chunks,r.name.size<=32
 nd:it.node.name.size<=32
 tm:it.time<9223372036854775808
theorem ry {r:aG} (h:r.name.size<=32):(dL r).length<=60:=by
 unfold dL;have h1:=cD r.gen.toNat
 have h2:=cD r.size.toNat
 rw[List.length_append,List.length_append,<-ay];omega
theorem wW {it:aE} (h:wJ it):(dJ it).length<=70000000:=by
 have h1:=cD it.name.size;have h2:=cD it.kind.toNat
 have h3:=cD it.mode.toNat
 have h4:=cD it.time.toNat
 have h5:=cD it.chunks.length;have h6:=cD it.link.size;have h7:=fI dL 60 it.chunks (fun r hr=>ry (h.rs r hr));have h8:=ry h.nd;have hn:=h.nm;have hl:=h.lk;have hc:=h.ch;unfold dJ lN;simp only[List.length_append,<-ay]
 split
 ·simp only[List.length_append];omega
 ·split
  ·omega
  ·simp only[List.length_append,<-ay];omega
theorem CM {l:List aE} (h: ∀it∈l,wJ it) (hl:l.length<=4096):(dR l).length<1000000000000:=by
 have h1:=fI dJ 70000000 l (fun it hit=>wW (h it hit));have h2:=cD l.length;unfold dR;rw[List.length_append];have h3:l.length*70000000<=4096*70000000:=Nat.mul_le_mul_right _ hl;omega
theorem CA (d p:List UInt8):(no d p).length<=p.length:=by
 unfold no
 split
 ·rw[List.length_tail,List.length_drop]; omega
 ·rw[List.length_drop]; omega
theorem iR {e:bD} (h:iJ e=true):e.path.size<=512/\e.link.size<=512/\e.data.length<=1048576:=by
 have h1:=gt (bQ h);rw[<-ay]at h1;unfold iJ kn at h;rw[Bool.and_eq_true]at h;refine⟨h1, ?_⟩;have h2:=h.2
 split at h2
 ·simp only[Bool.and_eq_true,decide_eq_true_eq]at h2;omega
 ·split at h2
  ·simp only[Bool.and_eq_true,decide_eq_true_eq]at h2;omega
  ·split at h2
   ·simp only[Bool.and_eq_true,decide_eq_true_eq,mP]at h2;have:=h2.2.1.2;rw[<-ay]at this;omega
   ·cases h2
theorem kf (k:bI) (gs:List (ByteArray×Int)) (x:List UInt8):(be k gs x).name.size=32:=lp _ _ _
theorem jo {k:bI} {gs:List (ByteArray×Int)} {c:dN} {dir:ByteArray} {e:bD} {nd:aG} (hc:iI c=true) (h:iJ e=true) (hok:gS e) (hn:nd.name.size<=32):wJ (dx k gs c dir e nd):=by
 obtain⟨h1,h2,h3⟩:=iR h;have h4:=CA (bl dir) (bl e.path);rw[<-ay e.path]at h4;refine⟨?_,h2, ?_, ?_, ?_, ?_⟩
 ·show ByteArray.size ⟨_⟩<=_
  simp only[ByteArray.size,List.size_toArray];omega
 ·show(if e.kind=1 then(fG c e.data).map (be k gs)else []).length<=_
  split
  ·rw[List.length_map];have:=tf hc e.data;omega
  ·simp
 ·show ∀r∈(if e.kind=1 then(fG c e.data).map (be k gs)else []),_
  intro r hr
  split at hr
  ·obtain⟨x,_,rfl⟩:=List.mem_map.1 hr;rw[kf]; omega
  ·simp at hr
 ·show(if e.kind=2 then nd else bi).name.size<=32
  split
  ·exact hn
  ·decide
 ·have:=hok.tim;simp[Lit.wf,IntKind.min,IntKind.max,IntKind.signed,IntKind.bits]at this
  show e.time<_
  omega
theorem fN {k:bI} {gs:List (ByteArray×Int)} (hgs: ∀p∈gs,0<=p.2/\p.2<=1099511627776) {x:List UInt8} (hx:x.length<=1048576):aW (be k gs x):=by
 have h1:=rY gs hgs (lT k 0 x);refine⟨by rw[kf]; unfold maxLen; omega,WalkArith.wf_i64 ?_,WalkArith.wf_i64 ?_⟩
 ·show _<=jP gs _/\jP gs _<=_
  omega
 ·show -9223372036854775808<=(x.length:Int)/\(x.length:Int)<=_
  omega
theorem Cj {k:bI} {gs:List (ByteArray×Int)} {c:dN} {tree:List bD} : ∀ {n:Nat} {d:ByteArray} {p:List UInt8×List (List UInt8)},cE k gs c tree n d= .ok p->p.1.length<=32768
 | 0,_,_,h=>by simp[cE]at h
 | n+1,d,p,h=>by
  rw[cE]at h
  split at h
  ·cases h
  ·split at h
   ·split at h
    ·simp only[Except.ok.injEq]at h;subst h
     assumption
    ·cases h
   ·cases h
theorem rO {k:bI} {gs:List (ByteArray×Int)} {c:dN} {rec:ByteArray->Except Int (List UInt8×List (List UInt8))} {dir:ByteArray} {e:bD} {r:List bD} {its:List aE} {cs:List (List UInt8)} (h:e.kind=1):du k gs c rec dir (e::r) its cs=du k gs c rec dir r (its++[dx k gs c dir e bi]) (cs++fG c e.data):=by rw[du,if_pos h]
theorem pC {k:bI} {gs:List (ByteArray×Int)} {c:dN} {rec:ByteArray->Except Int (List UInt8×List (List UInt8))} {dir:ByteArray} {e:bD} {r:List bD} {its:List aE} {cs:List (List UInt8)} (h:e.kind=2):du k gs c rec dir (e::r) its cs=match rec e.path with
  | .error x=> .error x
  | .ok p=>du k gs c rec dir r (its++[dx k gs c dir e (be k gs p.1)]) (cs++p.2):=by
 rw[du,if_neg (by omega),if_pos h]
 cases rec e.path<;> rfl
theorem zY {k:bI} {gs:List (ByteArray×Int)} {c:dN} {rec:ByteArray->Except Int (List UInt8×List (List UInt8))} {dir:ByteArray} {e:bD} {r:List bD} {its:List aE} {cs:List (List UInt8)} (h1:e.kind≠1) (h:e.kind≠2):du k gs c rec dir (e::r) its cs=du k gs c rec dir r (its++[dx k gs c dir e bi]) cs:=by rw[du,if_neg h1,if_neg h]
theorem Ck {base bb kb im:Nat} {k:bI} {c:dN} {gs:List (ByteArray×Int)} {tree:List bD} {gv:Value} {UR:List aG} (n:Nat) (hX:BB base bb kb im k c gs tree UR) (hn514:n+1<=514) (IH:Ec base bb kb im k c gs tree gv UR n):Ec base bb kb im k c gs tree gv UR (n+1):=by
 intro path v bs w hn hp h hg hgr hu hE hbz;have HX':=ab hX;have HIH:=ab IH;have HPA:=ab hp;have HH:=ab h;have HG:=ab hg;have HGR:=ab hgr;have HU:=ab hu;have HE:=ab hE;have hps:path.size<=512:=by
  rcases hp with h | ⟨e,he,rfl⟩
  ·omega
  ·have:=gt (bQ (hX.val e he));rw[<-ay]at this;exact this
 obtain⟨W0,hW0⟩: ∃W0,W0=w.alloc (.cells #[.string ⟨#[]⟩, .int .i64 0, .int .i64 0] 26):=⟨_,rfl⟩;have hb0:Below w.heap.size w W0:=by rw[hW0]; exact(Below.refl _ _).alloc (Nat.le_refl _) _
 have hkp0:=cZ.ofBelow (bb:=bb) (kb:=kb) (v:=v) hb0 hbz;obtain⟨ev,ys,hlk,hys,hrow,hdat⟩:=Cr (hgr.keep h hkp0 hX.ikb) (d:=path) (by unfold maxLen; omega);obtain⟨ea,ec,hev,hen,hem⟩:=aj hrow;subst hev;unfold maxLen at hem;obtain⟨m,hm⟩: ∃m,m=ys.length:=⟨_,rfl⟩;have HDR0:=ab (show wG w base bb im kb k c gv v (.slice ea m ec) ys W0 v (.slice none 0 0) bs []from⟨h.below hb0,hkp0,jf.nil _ _,by rw[hm]; exact hrow,by rw[hW0]; exact bZ w _⟩)
 rw[<-hm]at hlk hen;have HM:=ab hm;have HYS:=ab hys;have HDAT:=ab (show ∀y∈ys,bH (· <base) w y.1 y.2.data/\gS y.2 from fun y hy=>⟨aS.same (hdat y hy).1 (fun i hi=>(hb0.block i (Nat.lt_of_lt_of_le hi hbz)).symm),(hdat y hy).2⟩);have HBOX:=ab HDR0.out.bd.box;have hm4:m<=4096:=by
  rw[hm,<-List.length_map (f:=Prod.snd),hys];exact Nat.le_trans (List.length_filter_le _ _) hX.len
 have k0:=aa (k:=0) HBOX.out;have k1:=aa (k:=1) HBOX.out;have k2:=aa (k:=2) HBOX.out;have k3:=aa (k:=3) HBOX.out;have k4:=aa (k:=4) HBOX.out;have k10:=aa (k:=10) HBOX.out;have k11:=aa (k:=11) HBOX.out;have k12:=aa (k:=12) HBOX.out;have k13:=aa (k:=13) HBOX.out;simp only[fZ,dh,dA,List.cons_append,List.nil_append,aN]at k0 k1 k2 k3 k4 k10 k11 k12 k13
 clear hX IH hp h hg hgr hu hE hrow hdat hys hm hb0 hkp0
 go_enter Tryz.func73,Tryz.ntmps73
 go_upto_region 2 with(fail)
 rw[<-hW0];clear hW0;go_wp2_with fail
 go_loopw [6,20] (fun iv i wr=> ∃(j:Nat) (v2:Value) (its:List aE) (cs2:List (List UInt8)),j<=m/\i= .int .i64 (j:Int)/\its.length=j/\du k gs c (cE k gs c tree n) path ((ci tree path).drop j) its cs2=du k gs c (cE k gs c tree n) path (ci tree path) [] []/\ym UR (bJ k gs cs2 bs)/\(∀it∈its,wJ it)/\wG w base bb im kb k c gv v (.slice ea m ec) ys wr v2 iv (bJ k gs cs2 bs) its) (fun _ i _=>m-(intOf i).toNat)
 case atStart=>exact⟨0,v,[],[],Nat.zero_le _,rfl,rfl,rfl,HU.out,by simp,HDR0.out⟩
 case round=>
  obtain⟨j,v2,its,cs2,hj,rfl,hlj,hkd,hiu,hsm,hin⟩:=hrel;have HLJ:=ab hlj;have HKD:=ab hkd;have HIU:=ab hiu;have HSM:=ab hsm;have HIN:=ab hin;obtain⟨zs,hzs,hzr,hzd⟩:=hin.its.row;obtain⟨ia,ic,hiv,-,-⟩:=aj hzr;subst hiv;have hzl:zs.length=j:=by rw[<-hlj,<-hzs,List.length_map]
  have HZS:=ab hzs;have HZR:=ab hzr;have HZD:=ab hzd;rw[hzl]at HIN HZR ⊢;have HZL:=ab hzl;clear hlj hkd hiu hsm hin hzs hzr hzd hzl HDR0 HBOX
  by_cases hlt:j<m
  ·obtain⟨⟨dv,e⟩,hy⟩: ∃y,ys[j]? =some y:=⟨ys[j]'(by rw[<-HM.out]; exact hlt),by simp⟩;have hdy:=HDAT.out (dv,e) (List.mem_of_getElem? hy);obtain⟨da,dc,hdv,hdn,hdm⟩:=bH.slice hdy.1;simp only at hdv;subst hdv;obtain⟨b,rfl,hbb,hbl,-,p0,p1,p2,p3,p4,p5⟩:=EU HIN.out.ents hy;simp only at p0 p1 p2 p3 p4 p5;have hKj:(ci tree path)[j]? =some e:=by rw[<-HYS.out,List.getElem?_map,hy]; rfl
   have hmem:=List.mem_filter.1 (List.mem_of_getElem? hKj);have het:e∈tree:=hmem.1;have hpar:aT (bl e.path)=bl path:=by have:=hmem.2; simpa using this
   have hval:=HX'.out.val e het;have hep:=bQ hval;have hes:e.path.size<=512:=by have:=gt hep; rw[<-ay]at this; exact this
   have hpl:path.size<e.path.size:=by
    have h1:=lq (l:=bl e.path) (fun h=>by have:=jy hep; rw[h]at this; simp at this);rw[hpar,<-ay,<-ay]at h1;exact h1
   have HET:=ab het;have HEP:=ab hep;have HVE:=ab hval;have HDY:=ab hdy;have HKJ:=ab hKj;have HDP:=ab (ru hKj);have HBZ:=ab (Nat.le_trans hbz HIN.out.kp.below.size);clear hdy hy hKj hmem het hpar hval hep
   go_upto_region 5 with(fail)
   obtain⟨W1,hW1⟩: ∃W1:World,W1=(wr.alloc (.cells #[.string e.path, .int .i64 e.kind, .int .i64 e.mode, .int .i64 e.time, .slice da e.data.length dc, .string e.link] 79)).drew:=⟨_,rfl⟩;have hb1:Below wr.heap.size wr W1:=by rw[hW1]; exact((Below.refl _ _).alloc (Nat.le_refl _) _).drew
   have HB1:=ab hb1;have HX1:=ab (show W1.heap[wr.heap.size]? =some (.cells #[.string e.path, .int .i64 e.kind, .int .i64 e.mode, .int .i64 e.time, .slice da e.data.length dc, .string e.link] 79 (0,0)) by rw[hW1]; exact bZ wr _);have hz1:W1.heap.size=wr.heap.size+1:=by rw[hW1]; simp[World.drew]
   have d0:=aa (k:=0) HX1.out;have d1:=aa (k:=1) HX1.out;have d2:=aa (k:=2) HX1.out;have d3:=aa (k:=3) HX1.out;have d5:=aa (k:=5) HX1.out;simp only[aN]at d0 d1 d2 d3 d5;clear p0 p1 p2 p3 p4 p5 hb1;refine bP (fun w'=>w'.cell? ⟨wr.heap.size,0,none⟩=some (.string e.path)/\w'.cell? ⟨wr.heap.size,1,none⟩=some (.int .i64 e.kind)/\w'.cell? ⟨wr.heap.size,2,none⟩=some (.int .i64 e.mode)/\w'.cell? ⟨wr.heap.size,3,none⟩=some (.int .i64 e.time)/\w'.cell? ⟨wr.heap.size,5,none⟩=some (.string e.link)) (by kernel_rfl) (by kernel_rfl) ?_
   simp only[List.dropLast_cons_cons,List.dropLast_singleton,List.length_cons,List.length_nil,Nat.reduceAdd,Nat.reduceSub];rw[<-hW1];clear hW1;refine af 0 rfl (by kernel_rfl) (by kernel_rfl) (by kernel_rfl) (fun _ _ _ h=>h) rfl ⟨d0,d1,d2,d3,d5⟩ (by rintro w' ⟨hw1,hw2,hw3,hw4,hw5⟩; go_simp; rfl) ?_;simp only[Act.put,aA,aB,aC];refine af 1 rfl (by kernel_rfl) (by kernel_rfl) (by kernel_rfl) (fun _ _ _ h=>h) rfl ⟨d0,d1,d2,d3,d5⟩ (by rintro w' ⟨hw1,hw2,hw3,hw4,hw5⟩; go_simp; rfl) ?_
   simp only[Act.put,aA,aB,aC];refine af 2 rfl (by kernel_rfl) (by kernel_rfl) (by kernel_rfl) (fun _ _ _ h=>h) rfl ⟨d0,d1,d2,d3,d5⟩ (by rintro w' ⟨hw1,hw2,hw3,hw4,hw5⟩; go_simp; rfl) ?_;simp only[Act.put,aA,aB,aC];refine af 4 rfl (by kernel_rfl) (by kernel_rfl) (by kernel_rfl) (fun _ _ _ h=>h) rfl ⟨d0,d1,d2,d3,d5⟩ (by rintro w' ⟨hw1,hw2,hw3,hw4,hw5⟩; go_simp; rfl) ?_
   simp only[Act.put,aA,aB,aC];refine af 5 rfl (by kernel_rfl) (by kernel_rfl) (by kernel_rfl) (fun _ _ _ h=>h) rfl ⟨d0,d1,d2,d3,d5⟩ (by rintro w' ⟨hw1,hw2,hw3,hw4,hw5⟩; go_simp; rfl) ?_;simp only[Act.put,aA,aB,aC];refine af 6 rfl (by kernel_rfl) (by kernel_rfl) (by kernel_rfl) (fun _ _ _ h=>h) rfl ⟨d0,d1,d2,d3,d5⟩ (by rintro w' ⟨hw1,hw2,hw3,hw4,hw5⟩; go_simp; rfl) ?_
   simp only[Act.put,aA,aB,aC];refine af 7 rfl (by kernel_rfl) (by kernel_rfl) (by kernel_rfl) (fun _ _ _ h=>h) rfl ⟨d0,d1,d2,d3,d5⟩ (by rintro w' ⟨hw1,hw2,hw3,hw4,hw5⟩; go_simp; rfl) ?_;simp only[Act.put,aA,aB,aC];refine af 8 rfl (by kernel_rfl) (by kernel_rfl) (by kernel_rfl) (fun _ _ _ h=>h) rfl ⟨d0,d1,d2,d3,d5⟩ (by rintro w' ⟨hw1,hw2,hw3,hw4,hw5⟩; go_simp; rfl) ?_
   simp only[Act.put,aA,aB,aC];refine af 9 rfl (by kernel_rfl) (by kernel_rfl) (by kernel_rfl) (fun _ _ _ h=>h) rfl ⟨d0,d1,d2,d3,d5⟩ (by rintro w' ⟨hw1,hw2,hw3,hw4,hw5⟩; go_simp; rfl) ?_;simp only[Act.put,aA,aB,aC];refine af 10 rfl (by kernel_rfl) (by kernel_rfl) (by kernel_rfl) (fun _ _ _ h=>h) rfl ⟨d0,d1,d2,d3,d5⟩ (by rintro w' ⟨hw1,hw2,hw3,hw4,hw5⟩; go_simp; rfl) ?_
   simp only[Act.put,aA,aB,aC];refine af 11 rfl (by kernel_rfl) (by kernel_rfl) (by kernel_rfl) (fun _ _ _ h=>h) rfl ⟨d0,d1,d2,d3,d5⟩ (by rintro w' ⟨hw1,hw2,hw3,hw4,hw5⟩; go_simp; rfl) ?_;simp only[Act.put,aA,aB,aC];obtain⟨W2,hW2⟩: ∃W2:World,W2=W1.alloc (.cells #[.string ⟨#[]⟩, .int .i64 0, .int .i64 0, .int .i64 0, .int .i64 0, .string ⟨#[]⟩, .slice none 0 0, .string ⟨#[]⟩, .int .i64 0, .int .i64 0] 28):=⟨_,rfl⟩
   have hb2:Below W1.heap.size W1 W2:=by rw[hW2]; exact(Below.refl _ _).alloc (Nat.le_refl _) _
   have hx2:=(hb2.block _ (lt_of_block HX1.out)).trans HX1.out;have hy2:W2.heap[wr.heap.size+1]? =some (.cells #[.string ⟨#[]⟩, .int .i64 0, .int .i64 0, .int .i64 0, .int .i64 0, .string ⟨#[]⟩, .slice none 0 0, .string ⟨#[]⟩, .int .i64 0, .int .i64 0] 28 (0,0)):=by rw[hW2,<-hz1]; exact bZ W1 _
   have HX2:=ab hx2;have HY2:=ab hy2;have HB2:=ab (ag HB1.out hb2);have HW2:=ab hW2;obtain⟨nm,hnm⟩: ∃nm:ByteArray,nm=⟨(no (bl path) (bl e.path)).toArray⟩:=⟨_,rfl⟩;have HNM:=ab hnm;have d0':=aa (k:=0) hx2;have d1':=aa (k:=1) hx2;have d2':=aa (k:=2) hx2;have d3':=aa (k:=3) hx2;have d5':=aa (k:=5) hx2;simp only[aN]at d0' d1' d2' d3' d5'
   clear hW2 hb2 hx2 hy2 hnm;refine Ct 3 13 rfl rfl (by kernel_rfl) rfl rfl (fun K hK=> ?ca) (fun K hK=> ?al)
   case' ca=>
    go_wp2_with fail;refine(vA path e.path W1 (by omega)).mono ?_;rintro e' w' ⟨rfl,rfl⟩;rw[<-HNM.out];go_wp2_with fail;refine⟨⟨d0,d1,d2,d3,d5⟩, ?_⟩;refine af 12 rfl (by kernel_rfl) (by kernel_rfl) (by kernel_rfl) (fun _ _ _ h=>h) rfl ⟨d0,d1,d2,d3,d5⟩ (by rintro w' ⟨hw1,hw2,hw3,hw4,hw5⟩; go_simp; rfl) ?_;simp only[Act.put,aA,aB,aC];refine ar 13 rfl (by kernel_rfl) rfl (fun K hK=> ?_)
    go_wp2_with fail;rw[<-HW2.out]
    (first | (refine⟨⟨d0',d1',d2',d3',d5'⟩, ?_⟩) | skip)
   case' al=>
    go_wp2_with fail;rw[<-HW2.out]
    (first | (refine⟨⟨d0',d1',d2',d3',d5'⟩, ?_⟩) | skip)
    refine ar 3 rfl (by kernel_rfl) rfl (fun K hK=> ?_);go_wp2_with fail;refine(vA path e.path W2 (by omega)).mono ?_;rintro e' w' ⟨rfl,rfl⟩;rw[<-HNM.out];go_wp2_with fail;refine⟨⟨d0',d1',d2',d3',d5'⟩, ?_⟩;refine af 12 rfl (by kernel_rfl) (by kernel_rfl) (by kernel_rfl) (fun _ _ _ h=>h) rfl ⟨d0',d1',d2',d3',d5'⟩ (by rintro w' ⟨hw1,hw2,hw3,hw4,hw5⟩; go_simp; rfl) ?_
    simp only[Act.put,aA,aB,aC]
   all_goals
    refine aV (by kernel_rfl) ?_;clear d0 d1 d2 d3 d5 d0' d1' d2' d3' d5' HX1;refine bX rfl rfl (fun K hK=> ?_);have i0:=aa (k:=0) HY2.out;have i1:=aa (k:=1) HY2.out;have i2:=aa (k:=2) HY2.out;have i3:=aa (k:=3) HY2.out;have i4:=aa (k:=4) HY2.out;have i5:=aa (k:=5) HY2.out;have i6:=aa (k:=6) HY2.out;have i7:=aa (k:=7) HY2.out
    have i8:=aa (k:=8) HY2.out;have i9:=aa (k:=9) HY2.out;have g0:=ai (k:=0) HY2.out;have g1:=ai (k:=1) HY2.out;have g2:=ai (k:=2) HY2.out;have g3:=ai (k:=3) HY2.out;have g4:=ai (k:=4) HY2.out;have g5:=ai (k:=5) HY2.out;have g6:=ai (k:=6) HY2.out;have g7:=ai (k:=7) HY2.out;have g8:=ai (k:=8) HY2.out;have g9:=ai (k:=9) HY2.out
    simp only[aN]at i0 i1 i2 i3 i4 i5 i6 i7 i8 i9
    go_upto_region 6 with(fail)
    obtain⟨W3,hW3⟩: ∃W3:World,W3=((((((((((W2.setCell ⟨wr.heap.size+1,0,none⟩ (.string nm)).setCell ⟨wr.heap.size+1,1,none⟩ (.int .i64 e.kind)).setCell ⟨wr.heap.size+1,2,none⟩ (.int .i64 e.mode)).setCell ⟨wr.heap.size+1,3,none⟩ (.int .i64 e.time)).setCell ⟨wr.heap.size+1,4,none⟩ (.int .i64 0)).setCell ⟨wr.heap.size+1,5,none⟩ (.string e.link)).setCell ⟨wr.heap.size+1,6,none⟩ (.slice none 0 0)).setCell ⟨wr.heap.size+1,7,none⟩ (.string ⟨#[]⟩)).setCell ⟨wr.heap.size+1,8,none⟩ (.int .i64 0)).setCell ⟨wr.heap.size+1,9,none⟩ (.int .i64 0)):=⟨_,rfl⟩
    rw[<-hW3];have HB3:=ab (show Below wr.heap.size wr W3 by rw[hW3]; exact dC HB2.out (by show wr.heap.size<=wr.heap.size+1; omega));have HX:=ab (show W3.heap[wr.heap.size]? =some (.cells #[.string e.path, .int .i64 e.kind, .int .i64 e.mode, .int .i64 e.time, .slice da e.data.length dc, .string e.link] 79 (0,0)) by rw[hW3]; exact(ll (show wr.heap.size≠wr.heap.size+1 by omega)).trans HX2.out)
    have HY:=ab (show W3.heap[wr.heap.size+1]? =some (.cells #[.string nm, .int .i64 e.kind, .int .i64 e.mode, .int .i64 e.time, .int .i64 0, .string e.link, .slice none 0 0, .string ⟨#[]⟩, .int .i64 0, .int .i64 0] 28 (0,0)) by rw[hW3]; exact Dt HY2.out);have HIN3:=ab (HIN.out.below HB3.out HBZ.out);have hz3:wr.heap.size+1<W3.heap.size:=lt_of_block HY.out;clear hW3 i0 i1 i2 i3 i4 i5 i6 i7 i8 i9 g0 g1 g2 g3 g4 g5 g6 g7 g8 g9 hz1 HX2 HY2
    have d0:=aa (k:=0) HX.out;have d1:=aa (k:=1) HX.out;have d4:=aa (k:=4) HX.out;simp only[aN]at d0 d1 d4;have i0:=aa (k:=0) HY.out;have i1:=aa (k:=1) HY.out;have i2:=aa (k:=2) HY.out;have i3:=aa (k:=3) HY.out;have i4:=aa (k:=4) HY.out;have i5:=aa (k:=5) HY.out;have i6:=aa (k:=6) HY.out;have i7:=aa (k:=7) HY.out
    have i8:=aa (k:=8) HY.out;have i9:=aa (k:=9) HY.out;have g0:=ai (k:=0) HY.out;have g1:=ai (k:=1) HY.out;have g2:=ai (k:=2) HY.out;have g3:=ai (k:=3) HY.out;have g4:=ai (k:=4) HY.out;have g5:=ai (k:=5) HY.out;have g6:=ai (k:=6) HY.out;have g7:=ai (k:=7) HY.out;have g8:=ai (k:=8) HY.out;have g9:=ai (k:=9) HY.out
    simp only[aN]at i0 i1 i2 i3 i4 i5 i6 i7 i8 i9
    by_cases hk1:e.kind=1
    ·have e1:(e.kind == 1)=true:=by simp[hk1]
     have HK1:=ab hk1;clear hk1
     go_upto_region 10 with(fail)
     obtain⟨W4,hW4⟩: ∃W4:World,W4=W3.setCell ⟨wr.heap.size+1,4,none⟩ (.int .i64 (e.data.length:Int)):=⟨_,rfl⟩;rw[<-hW4];have hb4:Below wr.heap.size wr W4:=by rw[hW4]; exact Below.setCell HB3.out (by show wr.heap.size<=wr.heap.size+1; omega) _
     have HX4:=ab (show W4.heap[wr.heap.size]? =some (.cells #[.string e.path, .int .i64 e.kind, .int .i64 e.mode, .int .i64 e.time, .slice da e.data.length dc, .string e.link] 79 (0,0)) by rw[hW4]; exact(Below.heap_setCell _ _ _ _ (by show wr.heap.size≠wr.heap.size+1; omega)).trans HX.out);have hy4:=cI (k:=4) HY.out (.int .i64 (e.data.length:Int));simp only[List.setIfInBounds_toArray,List.set_cons_succ,List.set_cons_zero]at hy4
     rw[<-hW4]at hy4;have HYA:=ab hy4;have HIN4:=ab (HIN.out.below hb4 HBZ.out);have hdl:=(iR HVE.out).2.2;have hul:=HIU.out.len HIN.out.bd;have hus:=HX'.out.usz;have hcl:=tf HX'.out.cut e.data;have hfl:=zu (· <base) base bb kb im k c gs gv v2 (.slice da e.data.length dc) (bJ k gs cs2 bs) e.data W4 HIN4.out.bd HX'.out.keys HX'.out.cut HX'.out.seed (HG.out.keep (fun i h1 _=>HIN4.out.kp.below.block i h1)) HX'.out.gens
      (jm HDY.out.1 HIN4.out.kp.below) hdl (HE.out.keep HIN4.out.kp.below HX'.out.seven) HX'.out.bbb HX'.out.bkb (Nat.le_trans hbz HIN4.out.kp.below.size) HX'.out.seven (by omega)
     have HFL:=ab hfl;clear hW4 hb4 hy4 hdl hul hus hcl hfl d0 d1 d4 i0 i1 i2 i3 i4 i5 i6 i7 i8 i9 g0 g1 g2 g3 g4 g5 g6 g7 g8 g9;have d0:=aa (k:=0) HX4.out;have d1:=aa (k:=1) HX4.out;have d4:=aa (k:=4) HX4.out;simp only[aN]at d0 d1 d4;go_wp2_with fail;refine HFL.out.mono ?_;rintro e' w5 ⟨rv,v5,rfl,hrv5,hbd5,hkp5⟩;obtain⟨ra,rc,rfl,-,-⟩:=aj hrv5;have HIN5:=ab (HIN4.out.step hbd5 hkp5)
     have hy5:=hkp5.blk HIN4.out.bd HYA.out (by decide) (by decide);have hx5:=hkp5.blk HIN4.out.bd HX4.out (by decide) (by decide);obtain⟨rn,hrn⟩: ∃rn,rn=((fG c e.data).map (be k gs)).length:=⟨_,rfl⟩;have HRN:=ab hrn;rw[<-hrn]at hrv5 ⊢;have i6:=aa (k:=6) hy5;have g6:=ai (k:=6) hy5;simp only[aN]at i6;have HRV5:=ab hrv5;have HY5:=ab hy5;clear hbd5 hkp5 hx5 hy5 hrn hrv5 d0 d1 d4
     go_upto_region 15 with(fail)
     obtain⟨W6,hW6⟩: ∃W6:World,W6=w5.setCell ⟨wr.heap.size+1,6,none⟩ (.slice ra rn rc):=⟨_,rfl⟩;rw[<-hW6];have hy6:=cI (k:=6) HY5.out (.slice ra rn rc);simp only[List.setIfInBounds_toArray,List.set_cons_succ,List.set_cons_zero]at hy6;rw[<-hW6]at hy6;have HI4:=ab (show wG w base bb im kb k c gv v (.slice (some ⟨b,0,none⟩) m ec) ys W6 v5 (.slice ia j ic) (bJ k gs (fG c e.data) (bJ k gs cs2 bs)) its by
      rw[hW6];exact HIN5.out.otherSet HY5.out (by decide) (by decide) (by decide) (by decide) (by decide) (fun e'=>by have:=(HZR.out.lt _ e').2; omega) (by have:=HIN.out.kp.below.size; omega) hbz)
     have HRV5':=ab (show W6.ownsRow w.heap.size 26 3 (.slice ra rn rc) rn (((fG c e.data).map (be k gs)).flatMap cG) by
      rw[hW6];have hlow:=HIN4.out.kp.below.size;refine(cN HRV5.out hlow).kept (aF _ _ _ _) (.inr (fun e'=> ?_));obtain⟨cs2',hc2'⟩:=az HRV5.out e';exact absurd (aO HY5.out hc2') (by decide))
     clear i6 g6;obtain⟨it,hit⟩: ∃it,it=dx k gs c path e bi:=⟨_,rfl⟩;have hch:it.chunks=(fG c e.data).map (be k gs):=by rw[hit]; unfold dx; simp only[if_pos HK1.out]
     have HY4:=ab (show W6.heap[wr.heap.size+1]? =some (.cells #[.string it.name, .int .i64 it.kind, .int .i64 it.mode, .int .i64 it.time, .int .i64 it.size, .string it.link, .slice ra rn rc, .string it.node.name, .int .i64 it.node.gen, .int .i64 it.node.size] 28 (0,0)) by
      rw[hy6,HNM.out,hit];unfold dx;simp only[if_pos HK1.out,if_neg (show ¬e.kind=2 by rw[HK1.out]; decide)]
      rfl)
     have HRV4:=ab (show W6.ownsRow w.heap.size 26 3 (.slice ra rn rc) it.chunks.length (it.chunks.flatMap cG) by rw[hch,<-HRN.out]; exact HRV5'.out);have HSI:=ab (show wJ it by rw[hit]; exact jo HX'.out.cut HVE.out HDY.out.2 (by decide));have HOK4:=ab (show cB it from⟨by have:=HSI.out.nm; unfold maxLen; omega,by have:=HSI.out.lk; unfold maxLen; omega,by rw[hit]; unfold dx; simp only[if_neg (show ¬e.kind=2 by rw[HK1.out]; decide)]; exact gG⟩)
     have HRS4:=ab (show ∀r∈it.chunks,aW r by
      rw[hch];intro r hr;obtain⟨x,hx,rfl⟩:=List.mem_map.1 hr;have:=(tg HX'.out.cut e.data x hx).2;exact fN HX'.out.gens (by omega))
     have HKE:=ab (show du k gs c (cE k gs c tree n) path (e::(ci tree path).drop (j+1)) its cs2=du k gs c (cE k gs c tree n) path ((ci tree path).drop (j+1)) (its++[it]) (cs2++fG c e.data) by rw[hit]; exact rO HK1.out);have HIU4:=ab (show ym UR (bJ k gs (cs2++fG c e.data) bs) by rw[dn]; exact HIU.out.puts (HX'.out.u1 e HET.out));rw[<-dn]at HI4
     clear hit hch HY hW6 hy6;obtain⟨zs4,hzs4,hzr4,hzd4⟩:=HI4.out.its.row;have hzl4:zs4.length=j:=by rw[<-HLJ.out,<-hzs4,List.length_map]
     have HZS4:=ab hzs4;have HZR4:=ab hzr4;have HZD4:=ab hzd4;have HZL4:=ab hzl4;have hz4:w.heap.size<=(W6).heap.size:=HI4.out.kp.below.size;have hj4:j<1099511627775:=by omega
     rw[hzl4]at hzr4;have HZRJ:=ab hzr4;clear hzs4 hzr4 hzd4 hzl4;have i0:=aa (k:=0) HY4.out;have i1:=aa (k:=1) HY4.out;have i2:=aa (k:=2) HY4.out;have i3:=aa (k:=3) HY4.out;have i4:=aa (k:=4) HY4.out;have i5:=aa (k:=5) HY4.out;have i6:=aa (k:=6) HY4.out;have i7:=aa (k:=7) HY4.out;have i8:=aa (k:=8) HY4.out;have i9:=aa (k:=9) HY4.out
     have g0:=ai (k:=0) HY4.out;have g1:=ai (k:=1) HY4.out;have g2:=ai (k:=2) HY4.out;have g3:=ai (k:=3) HY4.out;have g4:=ai (k:=4) HY4.out;have g5:=ai (k:=5) HY4.out;have g6:=ai (k:=6) HY4.out;have g7:=ai (k:=7) HY4.out;have g8:=ai (k:=8) HY4.out;have g9:=ai (k:=9) HY4.out;simp only[aN]at i0 i1 i2 i3 i4 i5 i6 i7 i8 i9
     go_wp2_with (at_builtin; go_must (refine aK Tryz.appItems rfl _ _ rfl w.heap.size (.slice ia j ic) j (mC zs4) rfl (W6) [.string it.name, .int .i64 it.kind, .int .i64 it.mode, .int .i64 it.time, .int .i64 it.size, .string it.link, .slice ra rn rc, .string it.node.name, .int .i64 it.node.gen, .int .i64 it.node.size] _ rfl rfl (dV (it:=it)) HZRJ.out hj4 hz4 ?_); intro v' wc hown' hgrow' _ _; obtain⟨ae,ce,rfl,-,-⟩:=aj hown'; have HPU:=ab (HI4.out.push (it:=it) HZS4.out HZR4.out HZD4.out (by rw[HZL4.out]; exact hown') hgrow' HRV4.out HOK4.out HRS4.out hbz); clear hown' hgrow')
     clear i0 i1 i2 i3 i4 i5 i6 i7 i8 i9 g0 g1 g2 g3 g4 g5 g6 g7 g8 g9
     go_roundw
     case rel=>exact⟨j+1,_,its++[it],(cs2++fG c e.data),by omega,by go_num,by simp[HLJ.out],by rw[<-HKD.out,HDP.out,HKE.out],HIU4.out,fun y hy=>by
      rcases List.mem_append.1 hy with hy | hy
      ·exact HSM.out y hy
      ·rw[List.mem_singleton]at hy; subst hy; exact HSI.out,HPU.out⟩
     case measure=>simp[intOf]; omega
    ·have e1:(e.kind == 1)=false:=by simp[hk1]
     have HK1:=ab hk1;clear hk1
     by_cases hk2:e.kind=2
     ·have e2:(e.kind == 2)=true:=by simp[hk2]
      have HK2:=ab hk2;have hrc:=HIH.out e.path v2 (bJ k gs cs2 bs) W3 (by omega) (.inr ⟨e,HET.out,rfl⟩) HIN3.out.bd (HG.out.keep (fun i h1 _=>HIN3.out.kp.below.block i h1)) (HGR.out.keep HH.out HIN3.out.kp HX'.out.ikb) HIU.out (HE.out.keep HIN3.out.kp.below HX'.out.seven) (Nat.le_trans hbz HIN3.out.kp.below.size);unfold sM at hrc;clear hk2
      cases hdp:cE k gs c tree n e.path with
      | error x=>
       rw[hdp]at hrc;have HRC:=ab hrc;have HRESX:=ab (show du k gs c (cE k gs c tree n) path (ci tree path) [] []= .error x by rw[<-HKD.out,HDP.out,pC HK2.out,hdp]);clear hrc hdp;go_wp2_with fail;refine HRC.out.mono ?_;rintro e' w5 ⟨rfl,hx,v5,bs5,hbd5,hkp5⟩;have HIN5:=ab (HIN3.out.step hbd5 hkp5);have e4:(x != 0)=true:=by simp[hx]
       have HXN:=ab hx;clear hx d0 d1 d4 i0 i1 i2 i3 i4 i5 i6 i7 i8 i9 g0 g1 g2 g3 g4 g5 g6 g7 g8 g9;have hy5:=hkp5.blk HIN3.out.bd HY.out (by decide) (by decide);have hnb:(Value.slice ia j ic).ownBlock≠some (wr.heap.size+1):=fun e'=>by have:=(HZR.out.lt _ e').2; omega
       have hlo:w.heap.size<=wr.heap.size+1:=by have:=HIN.out.kp.below.size; omega
       have a1:=HIN5.out.otherSet (q:=7) (u:= .string ⟨#[]⟩) hy5 (by decide) (by decide) (by decide) (by decide) (by decide) hnb hlo hbz;have y1:=cI (k:=7) hy5 (.string ⟨#[]⟩);have a2:=a1.otherSet (q:=8) (u:= .int .i64 0) y1 (by decide) (by decide) (by decide) (by decide) (by decide) hnb hlo hbz;have y2:=cI (k:=8) y1 (.int .i64 0);have a3:=a2.otherSet (q:=9) (u:= .int .i64 0) y2 (by decide) (by decide) (by decide) (by decide) (by decide) hnb hlo hbz
       have y3:=cI (k:=9) y2 (.int .i64 0);simp only[List.setIfInBounds_toArray,List.set_cons_succ,List.set_cons_zero]at y3;have i7:=aa (k:=7) hy5;have i8:=aa (k:=8) hy5;have i9:=aa (k:=9) hy5;have g7:=ai (k:=7) hy5;have g8:=ai (k:=8) hy5;have g9:=ai (k:=9) hy5;simp only[aN]at i7 i8 i9;obtain⟨W6,hW6⟩: ∃W6:World,W6=((w5.setCell ⟨wr.heap.size+1,7,none⟩ (.string ⟨#[]⟩)).setCell ⟨wr.heap.size+1,8,none⟩ (.int .i64 0)).setCell ⟨wr.heap.size+1,9,none⟩ (.int .i64 0):=⟨_,rfl⟩
       rw[<-hW6]at a3 y3;have HI4:=ab a3;have HY6:=ab y3;clear a1 y1 a2 y2 a3 y3 hy5 hnb hlo
       go_upto_region 13 with(fail)
       rw[<-hW6];clear hW6 i7 i8 i9 g7 g8 g9;have HRZ:=ab HI4.out.res;have z0:=aa (k:=0) HRZ.out;have z1:=aa (k:=1) HRZ.out;have z2:=aa (k:=2) HRZ.out;have y0:=ai (k:=0) HRZ.out;have y1:=ai (k:=1) HRZ.out;have y2:=ai (k:=2) HRZ.out;simp only[aN]at z0 z1 z2;go_wp2_with fail;refine nV HRZ.out rfl rfl rfl ?_;have HDE:=ab (show cE k gs c tree (n+1) path= .error x by rw[cE,HRESX.out])
       rw[HDE.out];exact⟨rfl,HXN.out,v5,bs5,HI4.out.bd.other HRZ.out (by decide) (by decide) (by decide) (fun i hi _=>bO hi),((HI4.out.kp.setNew (Nat.le_refl _) hbz).setNew (Nat.le_refl _) hbz).setNew (Nat.le_refl _) hbz⟩
      | ok p=>
       rw[hdp]at hrc
       dsimp only at hrc
       have HRC:=ab hrc;have HKE0:=ab (show du k gs c (cE k gs c tree n) path (e::(ci tree path).drop (j+1)) its cs2=du k gs c (cE k gs c tree n) path ((ci tree path).drop (j+1)) (its++[dx k gs c path e (be k gs p.1)]) (cs2++p.2) by rw[pC HK2.out,hdp]);have HDPL:=ab (Cj hdp);have HDU:=ab (HX'.out.u2 n e.path p (by omega) (.inr ⟨e,HET.out,rfl⟩) hdp)
       obtain⟨r,hr⟩: ∃r,r=be k gs p.1:=⟨_,rfl⟩;have HRE:=ab hr;have HRO:=ab (show aW r by rw[hr]; exact fN HX'.out.gens (by have:=HDPL.out; omega));have HRZN:=ab (show r.name.size=32 by rw[hr]; exact kf _ _ _);rw[<-hr]at HRC HKE0;unfold aX at HRC;clear hrc hdp hr;go_wp2_with fail;refine HRC.out.mono ?_;rintro e' w5 ⟨rfl,hiu5,v5,hbd5,hkp5⟩;have HIU5:=ab hiu5
       have HIN5:=ab (HIN3.out.step hbd5 hkp5);clear hiu5 d0 d1 d4 i0 i1 i2 i3 i4 i5 i6 i7 i8 i9 g0 g1 g2 g3 g4 g5 g6 g7 g8 g9;have hy5:=hkp5.blk HIN3.out.bd HY.out (by decide) (by decide);have hnb:(Value.slice ia j ic).ownBlock≠some (wr.heap.size+1):=fun e'=>by have:=(HZR.out.lt _ e').2; omega
       have hlo:w.heap.size<=wr.heap.size+1:=by have:=HIN.out.kp.below.size; omega
       have a1:=HIN5.out.otherSet (q:=7) (u:= .string r.name) hy5 (by decide) (by decide) (by decide) (by decide) (by decide) hnb hlo hbz;have y1:=cI (k:=7) hy5 (.string r.name);have a2:=a1.otherSet (q:=8) (u:= .int .i64 r.gen) y1 (by decide) (by decide) (by decide) (by decide) (by decide) hnb hlo hbz;have y2:=cI (k:=8) y1 (.int .i64 r.gen);have a3:=a2.otherSet (q:=9) (u:= .int .i64 r.size) y2 (by decide) (by decide) (by decide) (by decide) (by decide) hnb hlo hbz
       have y3:=cI (k:=9) y2 (.int .i64 r.size);simp only[List.setIfInBounds_toArray,List.set_cons_succ,List.set_cons_zero]at y3;have i7:=aa (k:=7) hy5;have i8:=aa (k:=8) hy5;have i9:=aa (k:=9) hy5;have g7:=ai (k:=7) hy5;have g8:=ai (k:=8) hy5;have g9:=ai (k:=9) hy5;simp only[aN]at i7 i8 i9;obtain⟨W6,hW6⟩: ∃W6:World,W6=((w5.setCell ⟨wr.heap.size+1,7,none⟩ (.string r.name)).setCell ⟨wr.heap.size+1,8,none⟩ (.int .i64 r.gen)).setCell ⟨wr.heap.size+1,9,none⟩ (.int .i64 r.size):=⟨_,rfl⟩
       rw[<-hW6]at a3 y3;have HI4:=ab a3;have HY6:=ab y3;clear a1 y1 a2 y2 a3 y3 hy5 hnb hlo
       go_upto_region 13 with(fail)
       rw[<-hW6];clear hW6 i7 i8 i9 g7 g8 g9
       go_upto_region 15 with(fail)
       obtain⟨it,hit⟩: ∃it,it=dx k gs c path e r:=⟨_,rfl⟩;have hch:it.chunks=[]:=by rw[hit]; unfold dx; simp only[if_neg HK1.out]
       have HY4:=ab (show W6.heap[wr.heap.size+1]? =some (.cells #[.string it.name, .int .i64 it.kind, .int .i64 it.mode, .int .i64 it.time, .int .i64 it.size, .string it.link, .slice none 0 0, .string it.node.name, .int .i64 it.node.gen, .int .i64 it.node.size] 28 (0,0)) by
        rw[HY6.out,HNM.out,hit];unfold dx;simp only[if_neg HK1.out,if_pos HK2.out])
       have HRV4:=ab (show W6.ownsRow w.heap.size 26 3 (.slice none 0 0) it.chunks.length (it.chunks.flatMap cG) by rw[hch]; exact World.ownsRow_nil _ _ _ _);have HSI:=ab (show wJ it by rw[hit]; exact jo HX'.out.cut HVE.out HDY.out.2 (by rw[HRZN.out]; decide));have HOK4:=ab (show cB it from⟨by have:=HSI.out.nm; unfold maxLen; omega,by have:=HSI.out.lk; unfold maxLen; omega,by rw[hit]; unfold dx; simp only[if_pos HK2.out]; exact HRO.out⟩)
       have HRS4:=ab (show ∀r∈it.chunks,aW r by rw[hch]; simp);have HKE:=ab (show du k gs c (cE k gs c tree n) path (e::(ci tree path).drop (j+1)) its cs2=du k gs c (cE k gs c tree n) path ((ci tree path).drop (j+1)) (its++[it]) (cs2++p.2) by rw[hit]; exact HKE0.out);have HIU4:=ab (show ym UR (bJ k gs (cs2++p.2) bs) by rw[dn]; exact HIU5.out)
       rw[<-dn]at HI4;clear hit hch;obtain⟨zs4,hzs4,hzr4,hzd4⟩:=HI4.out.its.row;have hzl4:zs4.length=j:=by rw[<-HLJ.out,<-hzs4,List.length_map]
       have HZS4:=ab hzs4;have HZR4:=ab hzr4;have HZD4:=ab hzd4;have HZL4:=ab hzl4;have hz4:w.heap.size<=(W6).heap.size:=HI4.out.kp.below.size;have hj4:j<1099511627775:=by omega
       rw[hzl4]at hzr4;have HZRJ:=ab hzr4;clear hzs4 hzr4 hzd4 hzl4;have i0:=aa (k:=0) HY4.out;have i1:=aa (k:=1) HY4.out;have i2:=aa (k:=2) HY4.out;have i3:=aa (k:=3) HY4.out;have i4:=aa (k:=4) HY4.out;have i5:=aa (k:=5) HY4.out;have i6:=aa (k:=6) HY4.out;have i7:=aa (k:=7) HY4.out;have i8:=aa (k:=8) HY4.out;have i9:=aa (k:=9) HY4.out
       have g0:=ai (k:=0) HY4.out;have g1:=ai (k:=1) HY4.out;have g2:=ai (k:=2) HY4.out;have g3:=ai (k:=3) HY4.out;have g4:=ai (k:=4) HY4.out;have g5:=ai (k:=5) HY4.out;have g6:=ai (k:=6) HY4.out;have g7:=ai (k:=7) HY4.out;have g8:=ai (k:=8) HY4.out;have g9:=ai (k:=9) HY4.out;simp only[aN]at i0 i1 i2 i3 i4 i5 i6 i7 i8 i9
       go_wp2_with (at_builtin; go_must (refine aK Tryz.appItems rfl _ _ rfl w.heap.size (.slice ia j ic) j (mC zs4) rfl (W6) [.string it.name, .int .i64 it.kind, .int .i64 it.mode, .int .i64 it.time, .int .i64 it.size, .string it.link, .slice none 0 0, .string it.node.name, .int .i64 it.node.gen, .int .i64 it.node.size] _ rfl rfl (dV (it:=it)) HZRJ.out hj4 hz4 ?_); intro v' wc hown' hgrow' _ _; obtain⟨ae,ce,rfl,-,-⟩:=aj hown'; have HPU:=ab (HI4.out.push (it:=it) HZS4.out HZR4.out HZD4.out (by rw[HZL4.out]; exact hown') hgrow' HRV4.out HOK4.out HRS4.out hbz); clear hown' hgrow')
       clear i0 i1 i2 i3 i4 i5 i6 i7 i8 i9 g0 g1 g2 g3 g4 g5 g6 g7 g8 g9
       go_roundw
       case rel=>exact⟨j+1,_,its++[it],(cs2++p.2),by omega,by go_num,by simp[HLJ.out],by rw[<-HKD.out,HDP.out,HKE.out],HIU4.out,fun y hy=>by
        rcases List.mem_append.1 hy with hy | hy
        ·exact HSM.out y hy
        ·rw[List.mem_singleton]at hy; subst hy; exact HSI.out,HPU.out⟩
       case measure=>simp[intOf]; omega
     ·have e2:(e.kind == 2)=false:=by simp[hk2]
      have HK2:=ab hk2;clear hk2
      go_upto_region 15 with(fail)
      clear i0 i1 i2 i3 i4 i5 i6 i7 i8 i9 g0 g1 g2 g3 g4 g5 g6 g7 g8 g9 d0 d1 d4;obtain⟨it,hit⟩: ∃it,it=dx k gs c path e bi:=⟨_,rfl⟩;have HI4:=HIN3;have HY4:=ab (show W3.heap[wr.heap.size+1]? =some (.cells #[.string it.name, .int .i64 it.kind, .int .i64 it.mode, .int .i64 it.time, .int .i64 it.size, .string it.link, .slice none 0 0, .string it.node.name, .int .i64 it.node.gen, .int .i64 it.node.size] 28 (0,0)) by
       rw[HY.out,HNM.out,hit];unfold dx;simp only[if_neg HK1.out,if_neg HK2.out]
       rfl)
      have hch:it.chunks=[]:=by rw[hit]; unfold dx; simp only[if_neg HK1.out]
      have HRV4:=ab (show W3.ownsRow w.heap.size 26 3 (.slice none 0 0) it.chunks.length (it.chunks.flatMap cG) by rw[hch]; exact World.ownsRow_nil _ _ _ _);have HSI:=ab (show wJ it by rw[hit]; exact jo HX'.out.cut HVE.out HDY.out.2 (by decide));have HOK4:=ab (show cB it from⟨by have:=HSI.out.nm; unfold maxLen; omega,by have:=HSI.out.lk; unfold maxLen; omega,by rw[hit]; unfold dx; simp only[if_neg HK2.out]; exact gG⟩)
      have HRS4:=ab (show ∀r∈it.chunks,aW r by rw[hch]; simp);have HKE:=ab (show du k gs c (cE k gs c tree n) path (e::(ci tree path).drop (j+1)) its cs2=du k gs c (cE k gs c tree n) path ((ci tree path).drop (j+1)) (its++[it]) cs2 by rw[hit]; exact zY HK1.out HK2.out);have HIU4:=HIU;clear hit hch HY;obtain⟨zs4,hzs4,hzr4,hzd4⟩:=HI4.out.its.row
      have hzl4:zs4.length=j:=by rw[<-HLJ.out,<-hzs4,List.length_map]
      have HZS4:=ab hzs4;have HZR4:=ab hzr4;have HZD4:=ab hzd4;have HZL4:=ab hzl4;have hz4:w.heap.size<=(W3).heap.size:=HI4.out.kp.below.size;have hj4:j<1099511627775:=by omega
      rw[hzl4]at hzr4;have HZRJ:=ab hzr4;clear hzs4 hzr4 hzd4 hzl4;have i0:=aa (k:=0) HY4.out;have i1:=aa (k:=1) HY4.out;have i2:=aa (k:=2) HY4.out;have i3:=aa (k:=3) HY4.out;have i4:=aa (k:=4) HY4.out;have i5:=aa (k:=5) HY4.out;have i6:=aa (k:=6) HY4.out;have i7:=aa (k:=7) HY4.out;have i8:=aa (k:=8) HY4.out;have i9:=aa (k:=9) HY4.out
      have g0:=ai (k:=0) HY4.out;have g1:=ai (k:=1) HY4.out;have g2:=ai (k:=2) HY4.out;have g3:=ai (k:=3) HY4.out;have g4:=ai (k:=4) HY4.out;have g5:=ai (k:=5) HY4.out;have g6:=ai (k:=6) HY4.out;have g7:=ai (k:=7) HY4.out;have g8:=ai (k:=8) HY4.out;have g9:=ai (k:=9) HY4.out;simp only[aN]at i0 i1 i2 i3 i4 i5 i6 i7 i8 i9
      go_wp2_with (at_builtin; go_must (refine aK Tryz.appItems rfl _ _ rfl w.heap.size (.slice ia j ic) j (mC zs4) rfl (W3) [.string it.name, .int .i64 it.kind, .int .i64 it.mode, .int .i64 it.time, .int .i64 it.size, .string it.link, .slice none 0 0, .string it.node.name, .int .i64 it.node.gen, .int .i64 it.node.size] _ rfl rfl (dV (it:=it)) HZRJ.out hj4 hz4 ?_); intro v' wc hown' hgrow' _ _; obtain⟨ae,ce,rfl,-,-⟩:=aj hown'; have HPU:=ab (HI4.out.push (it:=it) HZS4.out HZR4.out HZD4.out (by rw[HZL4.out]; exact hown') hgrow' HRV4.out HOK4.out HRS4.out hbz); clear hown' hgrow')
      clear i0 i1 i2 i3 i4 i5 i6 i7 i8 i9 g0 g1 g2 g3 g4 g5 g6 g7 g8 g9
      go_roundw
      case rel=>exact⟨j+1,_,its++[it],cs2,by omega,by go_num,by simp[HLJ.out],by rw[<-HKD.out,HDP.out,HKE.out],HIU4.out,fun y hy=>by
       rcases List.mem_append.1 hy with hy | hy
       ·exact HSM.out y hy
       ·rw[List.mem_singleton]at hy; subst hy; exact HSI.out,HPU.out⟩
      case measure=>simp[intOf]; omega
  ·have hk2:j=m:=by omega
   have HKF:=ab (show du k gs c (cE k gs c tree n) path (ci tree path) [] []= .ok (its,cs2) by
    rw[<-HKD.out,List.drop_of_length_le (by rw[<-HYS.out,List.length_map,<-HM.out]; omega)]; rfl)
   have hnd:=vy (fun _=>True) its (.slice ia j ic) wr HIN.out.its.at (HE.out.keep HIN.out.kp.below HX'.out.seven).env (CM HSM.out (by rw[HLJ.out]; omega)) (fun it hit=>(HSM.out it hit).tm);unfold om at hnd
   by_cases hv:cd its=true
   ·simp only[if_pos hv]at hnd
    by_cases hl:(dR its).length<=32768
    ·simp only[if_pos hl]at hnd;have HDE:=ab (show cE k gs c tree (n+1) path= .ok (dR its,cs2++[dR its]) by rw[cE,HKF.out]; simp only[if_pos hv,if_pos hl]);have HND:=ab hnd;have HUN:=ab (HX'.out.u2 (n+1) path _ hn514 HPA.out HDE.out);have HLN:=ab hl;clear hnd hv hl hk2;go_wp2_with fail;refine HND.out.mono ?_;rintro e' w5 ⟨hb5,cv,rfl,hcv⟩;obtain⟨ca,cc,rfl,-,-⟩:=aj hcv
     have HIN5:=ab (HIN.out.below hb5 (Nat.le_trans hbz HIN.out.kp.below.size));have hul:=HIU.out.len HIN.out.bd;have hus:=HX'.out.usz;have had:=yt (fun _=>True) base bb kb im k c gs gv v2 _ (bJ k gs cs2 bs) (dR its) w5 HIN5.out.bd HX'.out.keys (HG.out.keep (fun i h1 _=>HIN5.out.kp.below.block i h1)) HX'.out.gens
      (aS.weak (bq hcv) (fun _ _=>trivial)) HLN.out (HE.out.keep HIN5.out.kp.below HX'.out.seven) HX'.out.bbb HX'.out.bkb (Nat.le_trans hbz HIN5.out.kp.below.size) HX'.out.seven (by omega)
     unfold wF aX at had;obtain⟨r,hr⟩: ∃r,r=be k gs (dR its):=⟨_,rfl⟩;rw[<-hr]at had;have HRE:=ab hr;have HAD:=ab had;obtain⟨nl,hnl⟩: ∃nl,nl=(dR its).length:=⟨_,rfl⟩;rw[<-hnl]at HAD ⊢;clear hb5 hcv hul hus had hr hnl;go_wp2_with fail;refine HAD.out.mono ?_;rintro e' w6 ⟨rfl,v6,hbd6,hkp6⟩;have HIN6:=ab (HIN5.out.step hbd6 hkp6);have HRZ:=ab HIN6.out.res
     clear hbd6 hkp6;have z0:=aa (k:=0) HRZ.out;have z1:=aa (k:=1) HRZ.out;have z2:=aa (k:=2) HRZ.out;have y0:=ai (k:=0) HRZ.out;have y1:=ai (k:=1) HRZ.out;have y2:=ai (k:=2) HRZ.out;simp only[aN]at z0 z1 z2;go_wp2_with fail;refine nV HRZ.out rfl rfl rfl ?_;rw[HDE.out];refine⟨by rw[<-HRE.out]; rfl, ?_,v6, ?_, ?_⟩
     ·rw[dn];exact HIU.out.put HUN.out
     ·rw[dn];exact HIN6.out.bd.other HRZ.out (by decide) (by decide) (by decide) (fun i hi _=>bO hi)
     ·exact((HIN6.out.kp.setNew (Nat.le_refl _) hbz).setNew (Nat.le_refl _) hbz).setNew (Nat.le_refl _) hbz
    ·simp only[if_neg hl]at hnd;have HDE:=ab (show cE k gs c tree (n+1) path= .error 2 by rw[cE,HKF.out]; simp only[if_pos hv,if_neg hl]);have HND:=ab hnd;clear hnd hv hl hk2;go_wp2_with fail;refine HND.out.mono ?_;rintro e' w5 ⟨hb5,rfl⟩;have HIN5:=ab (HIN.out.below hb5 (Nat.le_trans hbz HIN.out.kp.below.size));have HRZ:=ab HIN5.out.res;clear hb5;have z0:=aa (k:=0) HRZ.out
     have z1:=aa (k:=1) HRZ.out;have z2:=aa (k:=2) HRZ.out;have y0:=ai (k:=0) HRZ.out;have y1:=ai (k:=1) HRZ.out;have y2:=ai (k:=2) HRZ.out;simp only[aN]at z0 z1 z2;go_wp2_with fail;refine nV HRZ.out rfl rfl rfl ?_;rw[HDE.out];exact⟨rfl,by decide,v2,_,HIN5.out.bd.other HRZ.out (by decide) (by decide) (by decide) (fun i hi _=>bO hi),((HIN5.out.kp.setNew (Nat.le_refl _) hbz).setNew (Nat.le_refl _) hbz).setNew (Nat.le_refl _) hbz⟩
   ·simp only[if_neg hv]at hnd;have HDE:=ab (show cE k gs c tree (n+1) path= .error 1 by rw[cE,HKF.out]; simp only[if_neg hv]);have hl:=hv;have HND:=ab hnd;clear hnd hv hl hk2;go_wp2_with fail;refine HND.out.mono ?_;rintro e' w5 ⟨hb5,rfl⟩;have HIN5:=ab (HIN.out.below hb5 (Nat.le_trans hbz HIN.out.kp.below.size));have HRZ:=ab HIN5.out.res;clear hb5;have z0:=aa (k:=0) HRZ.out
    have z1:=aa (k:=1) HRZ.out;have z2:=aa (k:=2) HRZ.out;have y0:=ai (k:=0) HRZ.out;have y1:=ai (k:=1) HRZ.out;have y2:=ai (k:=2) HRZ.out;simp only[aN]at z0 z1 z2;go_wp2_with fail;refine nV HRZ.out rfl rfl rfl ?_;rw[HDE.out];exact⟨rfl,by decide,v2,_,HIN5.out.bd.other HRZ.out (by decide) (by decide) (by decide) (fun i hi _=>bO hi),((HIN5.out.kp.setNew (Nat.le_refl _) hbz).setNew (Nat.le_refl _) hbz).setNew (Nat.le_refl _) hbz⟩
theorem ti {base bb kb im:Nat} {k:bI} {c:dN} {gs:List (ByteArray×Int)} {tree:List bD} {gv:Value} {UR:List aG} (hX:BB base bb kb im k c gs tree UR): ∀n,n<=514->Ec base bb kb im k c gs tree gv UR n
 | 0,_=>Cl hX
 | n+1,h=>Ck n hX h (ti hX n (by omega))
theorem bt.hitM {S:Nat->Prop} {w:World} {cv:Value} {cs:List (ByteArray×List UInt8)} (h:bt S w cv cs) {n:ByteArray} {bs:List UInt8} (hn:n.size<=maxLen) (hf:cV cs n=some bs):
  ∃v,(Instr.lookup 55 cv (.string n) true).run Tryz.prog w= .ok (.tuple #[v, .bool true]) w/\aD S w v bs:=by
 rcases h with⟨_,rfl⟩ | ⟨b,m,rfl,_,h2,h3⟩
 ·simp[cV]at hf
 ·obtain⟨v,hv,hb⟩:=h3.hit hf;exact⟨v,h2.hit jW (t:=55) (e:=29) (by kernel_rfl) (mD hn) hv true,hb⟩
theorem bt.missM {S:Nat->Prop} {w:World} {cv:Value} {cs:List (ByteArray×List UInt8)} (h:bt S w cv cs) {n:ByteArray} (hn:n.size<=maxLen) (hf:cV cs n=none):
  (Instr.lookup 55 cv (.string n) true).run Tryz.prog w= .ok (.tuple #[.slice none 0 0, .bool false]) w:=by
 obtain⟨l,hl⟩:=mD hn
 rcases h with⟨rfl,_⟩ | ⟨b,m,rfl,_,h2,h3⟩
 ·exact Maps.look_nil true jW (t:=55) (e:=29) (by kernel_rfl) (by kernel_rfl) hl
 ·exact h2.miss jW (t:=55) (e:=29) (by kernel_rfl) (by kernel_rfl) (mD hn) (h3.miss hf) true
theorem rX (r:aG) (w:World) (hr:aW r):Calls Tryz.prog 79 #[aX r] w fun e w'=>e= .returned (.bool (dw r))/\Below w.heap.size w w':=by
 obtain⟨n,g,s⟩:=r;obtain⟨h1,h2,h3⟩:=hr;unfold maxLen at h1;simp only[aX,dw]at *
 go_enter Tryz.func79,Tryz.ntmps79
 go_wp2_with fail
 all_goals (go_ret; refine⟨an ?_,(Below.refl _ _).alloc (Nat.le_refl _) _⟩; rw[Bool.eq_iff_iff]; simp; omega)
theorem gK (r:aG) (b:Bool) (w:World) (hr:aW r) (h:dw r=b):Calls Tryz.prog 79 #[aX r] w fun e w'=>e= .returned (.bool b)/\Below w.heap.size w w':=by rw[<-h]; exact rX r w hr
theorem zQ (S:Nat->Prop) (cv:Value) (cs:List (ByteArray×List UInt8)) (r:aG) (w:World) (hc:bt S w cv cs) (hr:aW r):Calls Tryz.prog 98 #[aX r,cv] w (og cs r S w):=by
 have hnm:=hr.nm;have HC:=ab (hc.below ((Below.refl _ _).alloc (Nat.le_refl _) (.cells #[.string r.name, .int .i64 r.gen, .int .i64 r.size] 26)));have HB:=ab ((Below.refl w.heap.size w).alloc (Nat.le_refl _) (.cells #[.string r.name, .int .i64 r.gen, .int .i64 r.size] 26));unfold aX;clear hc hr
 cases hf:cV cs r.name with
 | none=>
  have hlk:=HC.out.missM hnm hf;have HF:=ab (show cC cs r= .error 10 by unfold cC; rw[hf]);clear hf hnm
  go_enter Tryz.func98,Tryz.ntmps98
  go_wp2_with fail
  go_ret2
  exact⟨HB.out,by rw[HF.out]; exact⟨rfl,by decide⟩⟩
 | some bs=>
  obtain⟨v,hlk,hv⟩:=HC.out.hitM hnm hf;have HV:=ab hv;obtain⟨_,a,cap,rfl,hn,hm,-⟩:=hv;unfold maxLen at hm
  by_cases hl:(bs.length:Int)=r.size
  ·have HF:=ab (show cC cs r= .ok bs by unfold cC; rw[hf]; simp only[if_pos hl]);have e1:((bs.length:Int) != r.size)=false:=by simp[hl]
   clear hf hnm hl
   go_enter Tryz.func98,Tryz.ntmps98
   go_wp2_with fail
   go_ret2
   exact⟨HB.out,by rw[HF.out]; exact⟨_,rfl,HV.out⟩⟩
  ·have HF:=ab (show cC cs r= .error 9 by unfold cC; rw[hf]; simp only[if_neg hl]);have e1:((bs.length:Int) != r.size)=true:=by simp[hl]
   clear hf hnm hl
   go_enter Tryz.func98,Tryz.ntmps98
   go_wp2_with fail
   go_ret2
   exact⟨HB.out,by rw[HF.out]; exact⟨rfl,by decide⟩⟩
end Go.Proofs.YtpffpjbkbaleiaaGreatDoor
namespace Go.Proofs.YtpffpjbkbaleiaaGreatDoor
open Go.RowKit
structure fR (w : World) (base wb eb sb : Nat) (ln : Bool) (v : Value) (ex rs : List aG) : Prop where
 box:w.heap[wb]? =some (.cells #[v, .map (some sb), .map (some eb), .bool ln] 157 (0,0))
 exs:cb w eb ex
 see:cb w sb rs
 row:w.ownsRow base 26 3 v rs.length (rs.flatMap cG)
 ne:eb≠sb
section
variable {w w' : World} {base wb eb sb : Nat} {ln : Bool} {v : Value} {ex rs : List aG}
theorem fR.wne (h:fR w base wb eb sb ln v ex rs):wb≠eb/\wb≠sb:=⟨fun e=>h.exs.cells (e▸h.box),fun e=>h.see.cells (e▸h.box)⟩
theorem fR.own (h:fR w base wb eb sb ln v ex rs) {k:Nat} (hk:v.ownBlock=some k):k≠wb/\k≠eb/\k≠sb:=by
 obtain⟨cs,hc⟩:=az h.row hk;refine⟨fun e=> ?_,fun e=> ?_,fun e=> ?_⟩
 ·subst e;have:=hc.symm.trans h.box;simp at this
 ·subst e; exact h.exs.cells hc
 ·subst e; exact h.see.cells hc
theorem fR.keep (h:fR w base wb eb sb ln v ex rs) (hs: ∀k,k<w.heap.size->de wb eb sb v k->w'.heap[k]? =w.heap[k]?):fR w' base wb eb sb ln v ex rs:=by
 refine⟨(hs wb (lt_of_block h.box) (.inl rfl)).trans h.box,h.exs.same (hs eb h.exs.map.lt (.inr (.inl rfl))),h.see.same (hs sb h.see.map.lt (.inr (.inr (.inl rfl)))), ?_,h.ne⟩;obtain⟨hl,h2⟩:=h.row;refine⟨hl, ?_⟩
 rcases h2 with h2 | ⟨g,cap,cur,rfl,hg,hh,h3⟩
 ·exact .inl h2
 ·exact .inr ⟨g,cap,cur,rfl,hg,(hs g (lt_of_block hh) (.inr (.inr (.inr rfl)))).trans hh,h3⟩
theorem fR.below (h:fR w base wb eb sb ln v ex rs) (hb:Below w.heap.size w w'):fR w' base wb eb sb ln v ex rs:=h.keep (fun k hk _=>hb.block k hk)
theorem fR.ok (h:fR w base wb eb sb ln v ex rs): ∀r∈rs,aW r:=h.see.ok
theorem fR.shape (h:fR w base wb eb sb ln v ex rs): ∃a cap,v= .slice a rs.length cap:=by
 obtain⟨a,cap,h1,_⟩:=aj h.row;exact⟨a,cap,h1⟩
end
def BK (base wb eb sb:Nat) (ln:Bool) (v:Value) (ex rs:List aG) (w w':World):Prop:=
 ∃v',fR w' base wb eb sb ln v' ex rs/\bg (de wb eb sb v) w w'/\ ∀k,v'.ownBlock=some k->v.ownBlock=some k\/w.heap.size<=k
theorem pH (base wb eb sb:Nat) (ln:Bool) (v:Value) (ex rs:List aG) (r:aG) (w:World) (h:fR w base wb eb sb ln v ex rs) (hr:aW r) (hl:rs.length<1099511627775) (hbase:base<=w.heap.size):
  Calls Tryz.prog 137 #[.pointer (some ⟨wb,0,none⟩),aX r] w fun e w'=>e= .returned (.tuple #[])/\BK base wb eb sb ln v ex (aH r rs) w w':=by
 obtain⟨av,cv,rfl⟩:=h.shape;obtain⟨W,hW⟩: ∃W:World,W=(w.alloc (.cells #[.string r.name, .int .i64 r.gen, .int .i64 r.size] 26)).drew:=⟨_,rfl⟩;have hbW:Below w.heap.size w W:=by rw[hW]; exact((Below.refl _ _).alloc (Nat.le_refl _) _).drew
 have HBW:=ab hbW;have HK:=ab (h.below hbW);have bx:W.heap[w.heap.size]? =some (.cells #[.string r.name, .int .i64 r.gen, .int .i64 r.size] 26 (0,0)):=by rw[hW]; exact heap_alloc_new w _
 have HBX:=ab bx;have HR:=ab hr;have HW:=ab hW;have q0:=ah (k:=0) bx;have q1:=ah (k:=1) bx;have q2:=ah (k:=2) bx;have c2:=ah (k:=1) HK.out.box;have hlk:=HK.out.see.look hr;simp only[aN]at q0 q1 q2 c2;have hwb:wb<w.heap.size:=lt_of_block h.box;have H0:=ab h;unfold aX at hlk ⊢;clear h hr bx hbW
 by_cases hm:r∈rs
 ·have e1:decide (r∈rs)=true:=by simp[hm]
  have HM:=ab (show aH r rs=rs by unfold aH; rw[if_pos hm]);rw[e1]at hlk;clear e1 hm
  go_enter Tryz.func137,Tryz.ntmps137
  go_wp2_with fail;refine am [some 7] (by kernel_rfl) (by kernel_rfl) (by kernel_rfl) ?_;simp only[aZ,List.take_succ_cons,List.take_zero];rw[<-HW.out];clear hW
  repeat (first | (refine aw rfl ?_; simp only[Act.put,aA,aB,aC]) | (refine aJ rfl (fun K hK=> ?_); go_simp; refine hK _ ?_; clear hK K))
  refine aI ?_;go_wp2_with fail
  go_end0
  exact⟨rfl, .slice av rs.length cv,by rw[HM.out]; exact HK.out,bg.of_below HBW.out,fun k hk=> .inl hk⟩
 ·have e1:decide (r∈rs)=false:=by simp[hm]
  have HM:=ab (show aH r rs=rs++[r] by unfold aH; rw[if_neg hm]);have HNM:=ab hm;rw[e1]at hlk;clear e1 hm
  go_enter Tryz.func137,Tryz.ntmps137
  go_wp2_with fail;refine am [some 7] (by kernel_rfl) (by kernel_rfl) (by kernel_rfl) ?_;simp only[aZ,List.take_succ_cons,List.take_zero];rw[<-HW.out];clear hW
  repeat (first | (refine aw rfl ?_; simp only[Act.put,aA,aB,aC]) | (refine aJ rfl (fun K hK=> ?_); go_simp; refine hK _ ?_; clear hK K))
  refine aI ?_;go_wp2_with fail;refine am [some 5,none] (by kernel_rfl) (by kernel_rfl) (by kernel_rfl) ?_;simp only[aZ,List.take_succ_cons,List.take_zero,List.drop_succ_cons,List.drop_zero];have HK1:=ab (HK.out.below ((Below.refl _ W).drew))
  repeat (first | (refine aw rfl ?_; simp only[Act.put,aA,aB,aC]) | (refine aJ rfl (fun K hK=> ?_); go_simp; refine hK _ ?_; clear hK K))
  refine aI ?_;refine bw rfl (fun K hK=> ?_);go_wp2_with (at_mapUpdate; go_must (refine cL rfl _ _ _ rfl sb rs HK1.out.see rfl r HR.out rfl rfl HNM.out ?_); intro w2 hset hg2);have hsb:sb<w.heap.size:=H0.out.see.map.lt;have heb:eb<w.heap.size:=H0.out.exs.map.lt;have hbs:=HBW.out.size;obtain⟨W3,hW3⟩: ∃W3:World,W3=w2.drew:=⟨_,rfl⟩;have hg3:W.grownBy W3 (some sb):=by rw[hW3]; exact ak (b:=W.drew) ⟨rfl,rfl,rfl,Nat.le_refl _,fun _ _ _=>rfl⟩ (ak hg2 ⟨rfl,rfl,rfl,Nat.le_refl _,fun _ _ _=>rfl⟩)
  have hz3:=hg3.size;have HSET:=ab (show cb W3 sb (rs++[r]) by rw[hW3]; exact hset.same rfl);have HEX:=ab (HK.out.exs.same (w':=W3) (hg3.block eb HK.out.exs.map.lt (by simp; exact HK.out.ne)));have HROW:=ab (HK.out.row.kept hg3 (.inr (fun e=>(HK.out.own e).2.2 rfl)));have HWB:=ab (dE hg3 HK.out.box HK.out.wne.2);have HRB:=ab (dE hg3 HBX.out (by omega));have HG3:=ab hg3
  have c3:=ah (k:=0) HWB.out;have f3:=ai (k:=0) HWB.out;have r0:=ah (k:=0) HRB.out;have r1:=ah (k:=1) HRB.out;have r2:=ah (k:=2) HRB.out;simp only[aN]at c3 r0 r1 r2;clear q0 q1 q2 c2 hlk hset hg2 hg3;refine bP (fun w'=>w'.cell? ⟨wb,0,none⟩=some (.slice av rs.length cv)/\w'.cell? ⟨w.heap.size,0,none⟩=some (.string r.name)/\w'.cell? ⟨w.heap.size,1,none⟩=some (.int .i64 r.gen)/\w'.cell? ⟨w.heap.size,2,none⟩=some (.int .i64 r.size)) (by kernel_rfl) (by kernel_rfl) ?_
  simp only[List.dropLast_cons_cons,List.dropLast_singleton,List.length_cons,List.length_nil,Nat.reduceAdd,Nat.reduceSub];rw[<-hW3];clear hW3;refine af 0 rfl (by kernel_rfl) (by kernel_rfl) (by kernel_rfl) (fun _ _ _ h=>h) rfl (by go_simp) (by rintro w' ⟨hw1,hw2,hw3,hw4⟩; go_simp; rfl) ?_;simp only[Act.put,aA,aB,aC];refine af 1 rfl (by kernel_rfl) (by kernel_rfl) (by kernel_rfl) (fun _ _ _ h=>h) rfl (by go_simp) (by rintro w' ⟨hw1,hw2,hw3,hw4⟩; go_simp; rfl) ?_
  simp only[Act.put,aA,aB,aC];refine af 2 rfl (by kernel_rfl) (by kernel_rfl) (by kernel_rfl) (fun _ _ _ h=>h) rfl (by go_simp) (by rintro w' ⟨hw1,hw2,hw3,hw4⟩; go_simp; rfl) ?_;simp only[Act.put,aA,aB,aC];refine af 3 rfl (by kernel_rfl) (by kernel_rfl) (by kernel_rfl) (fun _ _ _ h=>h) rfl (by go_simp) (by rintro w' ⟨hw1,hw2,hw3,hw4⟩; go_simp; rfl) ?_;simp only[Act.put,aA,aB,aC]
  refine af 4 rfl (by kernel_rfl) (by kernel_rfl) (by kernel_rfl) (fun _ _ _ h=>h) rfl (by go_simp) (by rintro w' ⟨hw1,hw2,hw3,hw4⟩; go_simp; rfl) ?_;simp only[Act.put,aA,aB,aC];refine af 5 rfl (by kernel_rfl) (by kernel_rfl) (by kernel_rfl) (fun _ _ _ h=>h) rfl (by go_simp) (by rintro w' ⟨hw1,hw2,hw3,hw4⟩; go_simp; rfl) ?_;simp only[Act.put,aA,aB,aC];have hltw:wb<W3.heap.size:=lt_of_block HWB.out
  have hltr:w.heap.size<W3.heap.size:=lt_of_block HRB.out;have HAL:=ab ((Below.refl W3.heap.size W3).alloc (Nat.le_refl _) (.cells #[.string r.name, .int .i64 r.gen, .int .i64 r.size] 26));have hS2:=And.intro ((HAL.out.cell (p:=⟨wb,0,none⟩) hltw).trans c3) (And.intro ((HAL.out.cell (p:=⟨w.heap.size,0,none⟩) hltr).trans r0) (And.intro ((HAL.out.cell (p:=⟨w.heap.size,1,none⟩) hltr).trans r1) ((HAL.out.cell (p:=⟨w.heap.size,2,none⟩) hltr).trans r2)))
  have HS2:=ab hS2;clear hS2;refine ar 6 rfl (by kernel_rfl) rfl (fun K hK=> ?_);go_wp2_with fail
  (first | (refine⟨HS2.out, ?_⟩) | skip)
  refine ar 7 rfl (by kernel_rfl) rfl (fun K hK=> ?_);go_wp2_with (at_builtin; go_must (refine aK Tryz.appRefs rfl _ _ rfl base (.slice av rs.length cv) rs.length (rs.flatMap cG) rfl W3 [.string r.name, .int .i64 r.gen, .int .i64 r.size] _ rfl rfl (gL (r:=r)) HROW.out (by omega) (by omega) ?_); intro v' wc hown' hgrow' _ hpl; obtain⟨ae,ce,rfl,-,-⟩:=aj hown')
  have hne: ∀k,(Value.slice av rs.length cv).ownBlock=some k->k≠wb/\k≠eb/\k≠sb:=fun k hk=>H0.out.own hk
  have hner:(Value.slice av rs.length cv).ownBlock≠some w.heap.size:=fun e=>by have:=(H0.out.row.lt _ e).2; omega
  have HWB2:=ab ((hgrow'.block wb hltw (fun e=>(hne wb e.symm).1 rfl)).trans HWB.out);have HRB2:=ab ((hgrow'.block w.heap.size hltr (fun e=>hner e.symm)).trans HRB.out);have HEX2:=ab (HEX.out.same (hgrow'.block eb HEX.out.map.lt (fun e=>(hne eb e.symm).2.1 rfl)));have HSET2:=ab (HSET.out.same (hgrow'.block sb HSET.out.map.lt (fun e=>(hne sb e.symm).2.2 rfl)));have HGR:=ab hgrow'
  have HPL:=ab hpl;have HOW:=ab (show wc.ownsRow base 26 3 (.slice ae (rs.length+1) ce) (rs++[r]).length ((rs++[r]).flatMap cG) by rw[List.length_append,List.flatMap_append]; simpa [cG]using hown');have c4:=ah (k:=0) HWB2.out;have f4:=ai (k:=0) HWB2.out;have s0:=ah (k:=0) HRB2.out;have s1:=ah (k:=1) HRB2.out;have s2:=ah (k:=2) HRB2.out;simp only[aN]at c4 s0 s1 s2
  clear hown' hgrow' hpl c3 f3 r0 r1 r2 hne hner;refine⟨⟨c4,s0,s1,s2⟩, ?_⟩;refine af 8 rfl (by kernel_rfl) (by kernel_rfl) (by kernel_rfl) (fun _ _ _ h=>h) rfl (by go_simp) (by rintro w' ⟨hw1,hw2,hw3,hw4⟩; go_simp; rfl) ?_;simp only[Act.put,aA,aB,aC];refine af 9 rfl (by kernel_rfl) (by kernel_rfl) (by kernel_rfl) (fun _ _ _ h=>h) rfl (by go_simp) (by rintro w' ⟨hw1,hw2,hw3,hw4⟩; go_simp; rfl) ?_
  simp only[Act.put,aA,aB,aC];refine aV (by kernel_rfl) ?_;refine bX rfl rfl (fun K hK=> ?_);go_wp2_with fail
  go_end0
  refine⟨rfl, .slice ae (rs.length+1) ce, ?_, ?_, ?_⟩
  ·rw[HM.out];have hws:=H0.out.wne;have hx:=cI (k:=0) HWB2.out (.slice ae (rs.length+1) ce);simp only[List.setIfInBounds_toArray,List.set_cons_zero]at hx;refine⟨hx,HEX2.out.same (Below.heap_setCell _ _ _ _ (Ne.symm hws.1)),HSET2.out.same (Below.heap_setCell _ _ _ _ (Ne.symm hws.2)),HOW.out.kept (aF _ _ _ _) (.inr (fun e=> ?_)),H0.out.ne⟩
   rcases HPL.out wb e with h1 | h1
   ·exact(H0.out.own h1).1 rfl
   ·omega
  ·refine bg.trans (bg.of_below HBW.out) (bg.trans (S:=de wb eb sb (.slice av rs.length cv)) (bg.of_grown HG3.out (fun k hk=>by cases hk; exact .inr (.inr (.inl rfl)))) (bg.trans (S:=de wb eb sb (.slice av rs.length cv)) (bg.of_grown HGR.out (fun k hk=> .inr (.inr (.inr hk)))) (bg.of_grown (S:=de wb eb sb (.slice av rs.length cv)) (aF wc wb 0 _) (fun k hk=>by cases hk; exact .inl rfl)) (fun i _ h=>h)) (fun i _ h=>h)) (fun i _ h=>h)
  ·intro k hk
   rcases HPL.out k hk with h1 | h1
   ·exact .inl h1
   ·exact .inr (by omega)
theorem fR.notown {w:World} {base wb eb sb:Nat} {ln:Bool} {v:Value} {ex rs:List aG} (h:fR w base wb eb sb ln v ex rs) {k:Nat} {cs:Array Value} {t:TypeId} {z:Nat×Nat} (hb:w.heap[k]? =some (.cells cs t z)) (h1:t≠157) (h2:t≠26): ¬de wb eb sb v k:=by
 rintro(e | e | e | e)
 ·subst e;have:=hb.symm.trans h.box;simp at this;exact h1 this.2.1
 ·subst e; exact h.exs.cells hb
 ·subst e; exact h.see.cells hb
 ·obtain⟨cs',hc⟩:=az h.row e;have:=hb.symm.trans hc;simp at this;exact h2 this.2.1
structure ou (w : World) (B h5 h6 base wb eb sb : Nat) (ln : Bool) (v itv : Value) (l : List aE) (wr : World) (v2 : Value) (ex rs : List aG) : Prop where
 at':fR wr base wb eb sb ln v2 ex rs
 gr:bg (de wb eb sb v) w wr
 own: ∀k,v2.ownBlock=some k->v.ownBlock=some k\/w.heap.size<=k
 apart: ∀k,v2.ownBlock=some k->k<h5\/h6<=k
 lo:wb<h5/\eb<h5/\sb<h5
 ord:w.heap.size<=h5/\h5<=h6/\h6<=wr.heap.size
 its:ba (fun k=>h5<=k/\k<h6) wr itv l
section
variable {w wr w' : World} {B h5 h6 base wb eb sb : Nat} {ln : Bool} {v itv v2 v3 : Value} {l : List aE} {ex rs ex3 rs3 : List aG}
theorem ou.below (h:ou w B h5 h6 base wb eb sb ln v itv l wr v2 ex rs) (hb:Below wr.heap.size wr w'):ou w B h5 h6 base wb eb sb ln v itv l w' v2 ex rs:=
 ⟨h.at'.below hb,h.gr.trans (bg.of_below hb (S:=fun _=>False)) (fun _ _ h=>False.elim h),h.own,h.apart,h.lo,⟨h.ord.1,h.ord.2.1,Nat.le_trans h.ord.2.2 hb.size⟩,h.its.below hb⟩
theorem ou.notown (h:ou w B h5 h6 base wb eb sb ln v itv l wr v2 ex rs) {k:Nat} (hk:h5<=k/\k<h6): ¬de wb eb sb v2 k:=by
 have:=h.lo;rintro(e | e | e | e)
 ·omega
 ·omega
 ·omega
 ·have:=h.apart k e; omega
theorem ou.step (h:ou w B h5 h6 base wb eb sb ln v itv l wr v2 ex rs) (hr:BK base wb eb sb ln v2 ex3 rs3 wr w'): ∃v3,ou w B h5 h6 base wb eb sb ln v itv l w' v3 ex3 rs3/\bg (de wb eb sb v2) wr w':=by
 obtain⟨v3,h1,h2,h3⟩:=hr;have hz:=h.gr.size;refine⟨v3,⟨h1,h.gr.trans h2 (fun i hi ho=> ?_),fun k hk=> ?_,fun k hk=> ?_,h.lo,⟨h.ord.1,h.ord.2.1,Nat.le_trans h.ord.2.2 h2.size⟩,h.its.same (fun k hk hS=>h2.block k hk (h.notown hS))⟩,h2⟩
 ·rcases ho with e | e | e | e
  ·exact .inl e
  ·exact .inr (.inl e)
  ·exact .inr (.inr (.inl e))
  ·rcases h.own i e with e | e
   ·exact .inr (.inr (.inr e))
   ·omega
 ·rcases h3 k hk with e | e
  ·exact h.own k e
  ·exact .inr (by omega)
 ·rcases h3 k hk with e | e
  ·exact h.apart k e
  ·have:=h.ord; exact .inr (by omega)
end
open Go Go.RowKit Go.Maps
def dZ (cs:List (ByteArray×List UInt8)) (r:aG):Except Int (List aE):=match bG cs r with
 | .error x=>if x=10 then .ok []else .error x
 | .ok l=> .ok l
def Em (cs:List (ByteArray×List UInt8)) (r:aG) (w:World) (e:Ending) (w':World):Prop:=Below w.heap.size w w'/\match dZ cs r with
 | .error x=>e= .returned (.tuple #[.slice none 0 0, .int .i64 x])/\x≠0
 | .ok l=> ∃v,e= .returned (.tuple #[v, .int .i64 0])/\ba (w.heap.size<= ·) w' v l
theorem vL (S:Nat->Prop) (cv:Value) (cs:List (ByteArray×List UInt8)) (r:aG) (w:World) (hc:bt S w cv cs) (hr:aW r) (henv:fE w):Calls Tryz.prog 95 #[cv,aX r] w (Em cs r w):=by
 have HB:=ab ((Below.refl w.heap.size w).alloc (Nat.le_refl _) (.cells #[.string r.name, .int .i64 r.gen, .int .i64 r.size] 26));have HC:=ab (hc.below HB.out);have HR:=ab hr;have HE:=ab (henv.below HB.out);unfold aX;clear hc hr henv
 go_enter Tryz.func95,Tryz.ntmps95
 go_wp2_with fail;refine(lU S cv cs r _ HC.out HR.out HE.out).mono ?_;rintro e w1 ⟨hb1,hres⟩;have HB1:=ab (ag HB.out hb1);have hz:=hb1.size;simp at hz;clear hb1
 cases hnd:bG cs r with
 | error x=>
  rw[hnd]at hres;obtain⟨rfl,hx⟩:=hres
  by_cases h10:x=10
  ·subst h10;have HN:=ab (show dZ cs r= .ok [] by unfold dZ; rw[hnd]; rfl);clear hnd hx;go_wp2_with fail
   go_ret2
   exact⟨HB1.out,by rw[HN.out]; exact⟨_,rfl,aL.nil⟩⟩
  ·have HN:=ab (show dZ cs r= .error x by unfold dZ; rw[hnd]; simp only[if_neg h10]);have e1:(x == 10)=false:=by simp[h10]
   have HX:=ab hx;clear hnd hx h10;go_wp2_with fail
   go_ret2
   exact⟨HB1.out,by rw[HN.out]; exact⟨rfl,HX.out⟩⟩
 | ok l=>
  rw[hnd]at hres;obtain⟨v,rfl,hv⟩:=hres;have HN:=ab (show dZ cs r= .ok l by unfold dZ; rw[hnd]);have HV:=ab hv;have HV2:=ab (show ba (w.heap.size<= ·) w1 v l from by
   obtain⟨cells,h1,h2⟩:=hv;have hwz:w.heap.size<=(w.alloc (.cells #[.string r.name, .int .i64 r.gen, .int .i64 r.size] 26)).heap.size:=by simp
   exact⟨cells,h1.weak (fun k hk=>Nat.le_trans hwz hk),h2.mono (fun c x _ hx=>hx.same (fun k _ hS=>⟨Nat.le_trans hwz hS,rfl⟩))⟩)
  obtain⟨a,cap,rfl,-,-,-⟩:=aL.shape hv dO.len;clear hnd hv;go_wp2_with fail
  go_ret2
  exact⟨HB1.out,by rw[HN.out]; exact⟨_,rfl,HV2.out⟩⟩
end Go.Proofs.YtpffpjbkbaleiaaGreatDoor
namespace Go.Proofs.YtpffpjbkbaleiaaGreatDoor
open Go.RowKit
def sQ :Prop:= ∀(S:Nat->Prop) (it:aE) (cv:Value) (w:World),aM S w cv it.chunks->cB it->Calls Tryz.prog 54 #[iT cv it] w fun e w'=>e= .returned (.bool (cy it))/\Below w.heap.size w w'
theorem pj (HI:sQ) (S:Nat->Prop) (it:aE) (cv:Value) (b:Bool) (w:World) (hcv:aM S w cv it.chunks) (hok:cB it) (h:cy it=b):Calls Tryz.prog 54 #[iT cv it] w fun e w'=>e= .returned (.bool b)/\Below w.heap.size w w':=by
 rw[<-h]; exact HI S it cv w hcv hok
theorem Cq (HI:sQ) (S:Nat->Prop) (l:List aE) (v:Value) (w:World) (hv:ba S w v l):Calls Tryz.prog 16 #[v] w fun e w'=>e= .returned (.bool (cd l))/\Below w.heap.size w w':=by
 obtain⟨a,cap,rfl,hc,hm,-⟩:=aL.shape hv dO.len;unfold maxLen at hm;have HV:=ab hv;have HII:=ab HI;clear hv HI
 go_enter Tryz.func16,Tryz.ntmps16
 go_wp2_with fail
 go_loopw [3] (fun i wr=> ∃k:Nat,k<=l.length/\i= .int .i64 k/\cz none l=cz (fM l k) (l.drop k)/\Below w.heap.size w wr) (fun i _=>l.length-(intOf i).toNat)
 case atStart=>exact⟨0,Nat.zero_le _,rfl,rfl,Below.refl _ _⟩
 case round=>
  obtain⟨k,hk,rfl,hal,hb⟩:=hrel;have HB:=ab hb;have HA:=ab hal;clear hb hal
  by_cases hlt:k<l.length
  ·obtain⟨it,hr⟩: ∃it,l[k]? =some it:=⟨l[k],by simp[hlt]⟩;obtain⟨W,hW⟩: ∃W:World,W=wr.drew:=⟨_,rfl⟩;have HBW:=ab (show Below w.heap.size w W by rw[hW]; exact HB.out.drew);obtain⟨b,o,ca,cc,rfl,hok,hrf,hbl,-,hcl⟩:=dy HV.out HBW.out hr;have HR:=ab hr;have HO:=ab hok;have HRF:=ab hrf;have q0:=hcl 0 (by omega);have q1:=hcl 1 (by omega);have q2:=hcl 2 (by omega)
   have q3:=hcl 3 (by omega);have q4:=hcl 4 (by omega);have q5:=hcl 5 (by omega);have q6:=hcl 6 (by omega);have q7:=hcl 7 (by omega);have q8:=hcl 8 (by omega);have q9:=hcl 9 (by omega);simp only[cP,Bw,Nat.add_zero]at q0 q1 q2 q3 q4 q5 q6 q7 q8 q9;clear hr hok hrf hcl
   cases hvi:cy it
   ·have HF:=ab (show cd l=false by unfold cd; rw[HA.out,dH HR.out,hvi]; simp);have HVI:=ab hvi;clear hvi;go_wp2_with fail;refine am [some 4,none,some 19] (by kernel_rfl) (by kernel_rfl) (by kernel_rfl) ?_;simp only[aZ,List.take_succ_cons,List.take_zero,List.drop_succ_cons,List.drop_zero];rw[<-hW];clear hW
    repeat (first | (refine aw rfl ?_; simp only[Act.put,aA,aB,aC]) | (refine aJ rfl (fun K hK=> ?_); go_simp; refine hK _ ?_; clear hK K))
    refine aI ?_;refine bw rfl (fun K hK=> ?_);go_wp2_with (go_at_call 54; refine(pj HII.out S it (.slice ca it.chunks.length cc) false _ HRF.out HO.out HVI.out).mono ?_; rintro e w1 ⟨rfl,hb1⟩);have HB1:=ab (ag HBW.out hb1);clear hb1
    repeat (first | (refine aw rfl ?_; simp only[Act.put,aA,aB,aC]) | (refine aJ rfl (fun K hK=> ?_); go_simp; refine hK _ ?_; clear hK K))
    refine aI ?_;go_wp2_with fail;go_ret;exact⟨an (by rw[HF.out]),HB1.out⟩
   ·have HVI:=ab hvi;clear hvi
    by_cases hk0:k<=0
    ·have HF:=ab (show cz none l=cz (fM l (k+1)) (l.drop (k+1)) by
      obtain rfl:k=0:=by omega
      rw[HA.out,dH HR.out,HVI.out]; simp[fM,gi])
     have ek:decide (0<k)=false:=by simp; omega
     go_wp2_with fail;refine am [some 4,none,some 19] (by kernel_rfl) (by kernel_rfl) (by kernel_rfl) ?_;simp only[aZ,List.take_succ_cons,List.take_zero,List.drop_succ_cons,List.drop_zero];rw[<-hW];clear hW
     repeat (first | (refine aw rfl ?_; simp only[Act.put,aA,aB,aC]) | (refine aJ rfl (fun K hK=> ?_); go_simp; refine hK _ ?_; clear hK K))
     refine aI ?_;refine bw rfl (fun K hK=> ?_);go_wp2_with (go_at_call 54; refine(pj HII.out S it (.slice ca it.chunks.length cc) true _ HRF.out HO.out HVI.out).mono ?_; rintro e w1 ⟨rfl,hb1⟩);have HB1:=ab (ag HBW.out hb1);clear hb1
     repeat (first | (refine aw rfl ?_; simp only[Act.put,aA,aB,aC]) | (refine aJ rfl (fun K hK=> ?_); go_simp; refine hK _ ?_; clear hK K))
     refine aI ?_;go_wp2_with fail
     go_roundw
     case rel=>exact⟨k+1,by omega,by go_num,HF.out,HB1.out⟩
     case measure=>simp[intOf]; omega
    ·obtain⟨ip,hrp⟩: ∃ip,l[k-1]? =some ip:=⟨l[k-1],by simp⟩;have HRP:=ab hrp;have HPR:=ab (show fM l k=some ip.name from rV (by omega) hrp);have hs1:IntKind.i64.wrap ((k:Int)-1)=(k:Int)-1:=IntWalk.i64_in _ (by omega);have hs2:((k:Int)-1).toNat=k-1:=by omega
     have ek:decide (0<k)=true:=by simp; omega
     have hs3:(1:Int)<=(k:Int):=by omega
     have hs4:1<=k:=by omega
     have hs5:0<k:=by omega
     have hs6:(0:Int)<=(k:Int)-1:=by omega
     have hs7:(k:Int)-1<(l.length:Int):=by omega
     clear hrp;go_wp2_with fail;refine am [some 4,none,some 19] (by kernel_rfl) (by kernel_rfl) (by kernel_rfl) ?_;simp only[aZ,List.take_succ_cons,List.take_zero,List.drop_succ_cons,List.drop_zero];rw[<-hW];clear hW
     repeat (first | (refine aw rfl ?_; simp only[Act.put,aA,aB,aC]) | (refine aJ rfl (fun K hK=> ?_); go_simp; refine hK _ ?_; clear hK K))
     refine aI ?_;refine bw rfl (fun K hK=> ?_);go_wp2_with (go_at_call 54; refine(pj HII.out S it (.slice ca it.chunks.length cc) true _ HRF.out HO.out HVI.out).mono ?_; rintro e w1 ⟨rfl,hb1⟩);have HB1:=ab (ag HBW.out hb1);clear hb1;obtain⟨b2,o2,ca2,cc2,e2,-,-,-,-,hcl⟩:=dy HV.out HB1.out HR.out
     cases e2
     have n0:=hcl 0 (by omega);simp only[cP,List.getElem?_cons_zero,Nat.add_zero]at n0;clear hcl;obtain⟨b3,o3,ca3,cc3,e3,-,-,-,-,hcl⟩:=dy HV.out HB1.out HRP.out
     cases e3
     have p0:=hcl 0 (by omega);simp only[cP,List.getElem?_cons_zero,Nat.add_zero]at p0;clear hcl
     cases hlt3:CK ip.name it.name
     ·have HF:=ab (show cd l=false by unfold cd; rw[HA.out,dH HR.out,HPR.out,HVI.out]; simp[gi,hlt3]);unfold CK at hlt3
      repeat (first | (refine aw rfl ?_; simp only[Act.put,aA,aB,aC]) | (refine aJ rfl (fun K hK=> ?_); go_simp; refine hK _ ?_; clear hK K))
      refine aI ?_;go_wp2_with fail;go_ret;exact⟨an (by rw[HF.out]),HB1.out⟩
     ·have HF:=ab (show cz none l=cz (fM l (k+1)) (l.drop (k+1)) by rw[HA.out,dH HR.out,HPR.out,HVI.out]; simp[gi,hlt3]);unfold CK at hlt3
      repeat (first | (refine aw rfl ?_; simp only[Act.put,aA,aB,aC]) | (refine aJ rfl (fun K hK=> ?_); go_simp; refine hK _ ?_; clear hK K))
      refine aI ?_;go_wp2_with fail
      go_roundw
      case rel=>exact⟨k+1,by omega,by go_num,HF.out,HB1.out⟩
      case measure=>simp[intOf]; omega
  ·obtain rfl:k=l.length:=by omega
   have HF:=ab (show cd l=decide (l.length<=4096) by unfold cd; rw[HA.out,List.drop_of_length_le (Nat.le_refl _)]; simp[cz]);go_wp2_with fail;go_ret;exact⟨an (by rw[HF.out,Bool.eq_iff_iff]; simp; omega),HB.out⟩
theorem EY (l:List UInt8):(tG l).length<=4*l.length:=by
 have h1:=qK l;have: ∀rs:List Int,(rs.flatMap Lib.encodeRune).length<=4*rs.length:=by
  intro rs
  induction rs with
  | nil=>simp
  | cons r rs ih=>rw[List.flatMap_cons,List.length_append,List.length_cons]; have:=oU r; omega
 have h2:=this (mK l);unfold tG; omega
theorem uB (s:ByteArray) (pos:Nat):Lib.decodeL ((bl s).drop pos)=Utf8.decode s pos:=Lib.decodeL_drop s pos
theorem EE {s:ByteArray} {pos:Nat} (h:pos<s.size):(bl s).drop pos≠[]:=by
 intro e; have:=List.drop_eq_nil_iff.1 e; rw[<-ay]at this; omega
theorem Bo {s o:ByteArray} {pos:Nat} (hp:pos<s.size) (h:bl o++tG ((bl s).drop pos)=tG (bl s)):
  bl (o++Utf8.encode ((Utf8.decode s pos).1:Int))++tG ((bl s).drop (pos+(Utf8.decode s pos).2))=tG (bl s):=by
 rw[zx,<-h,vP _ (EE hp),uB,List.drop_drop,<-wX,EB,List.append_assoc]
theorem xJ (s:ByteArray) (w:World) (hs:s.size<=16777216):
  Calls Tryz.prog 164 #[.string s] w fun e w'=>e= .returned (.bool (Lib.validD (bl s)))/\Below w.heap.size w w':=by
 go_enter Tryz.func164,Tryz.ntmps164
 go_wp2
 go_loopw [3] (fun v wr=> ∃(pos:Nat) (o:ByteArray),v= .string o/\wr=w.iter s pos/\o.size<=67108864/\bl o++tG ((bl s).drop pos)=tG (bl s)) (fun _ wr=>s.size-wr.iterPos w.heap.size)
 case atStart=>exact⟨0,⟨#[]⟩,rfl,rfl,by simp[ByteArray.size],by simp[bl]⟩
 case round=>
  obtain⟨pos,o,rfl,rfl,ho,hrel2⟩:=hrel;have HR:=ab hrel2;clear hrel2
  by_cases hp:pos<s.size
  ·have hnx: ∀ty,(Instr.next (.pointer (some ⟨w.heap.size,0,none⟩)) true ty).run Tryz.prog (w.iter s pos)=_:=fun ty=>run_next_any w s pos ty hp
   obtain⟨r,hr⟩: ∃r,r=(Utf8.decode s pos).1:=⟨_,rfl⟩;obtain⟨E,hE⟩: ∃E,E=Utf8.encode (r:Int):=⟨_,rfl⟩;have hcv: ∀w',(convert 21 9 (.int .i32 (r:Int))).run Tryz.prog w'= .ok (.string E) w':=fun w'=>by rw[hE]; exact run_convert_int_string w' _ _ .i32 _ (by rw[Tryz.underlying21]; rfl) Tryz.underlying9
   have hE4:E.size<=4:=by rw[hE]; exact encode_size_le _
   simp only[<-hr]at hnx;have HE:=ab hE;have HRR:=ab hr;clear hE hr
   go_wp2
   go_roundw
   case rel=>
    have hn:bl (o++E)++tG ((bl s).drop (pos+(Utf8.decode s pos).2))=tG (bl s):=by rw[HE.out,HRR.out]; exact Bo hp HR.out
    refine⟨pos+(Utf8.decode s pos).2,o++E,rfl,rfl, ?_,hn⟩;have h1:=congrArg List.length hn;have h2:=EY (bl s);rw[List.length_append,<-ay]at h1;rw[<-ay]at h2;omega
   case measure=>
    rw[World.iterPos_iter,World.iterPos_iter];have:=Lib.width_pos s pos;omega
  ·have hnx: ∀ty,(Instr.next (.pointer (some ⟨w.heap.size,0,none⟩)) true ty).run Tryz.prog (w.iter s pos)=_:=fun ty=>run_next_end w s pos ty hp
   go_wp2
   go_ret;refine⟨an ?_,(Below.refl _ _).alloc (Nat.le_refl _) _⟩;have h1:bl o=tG (bl s):=by
    rw[<-HR.out,List.drop_eq_nil_of_le (by rw[<-ay]; omega),tH,List.append_nil]
   rw[cO,cO,h1];exact Au (bl s)
theorem vt {s:ByteArray} {j:Nat} (hj:j<s.size) (h:(s[j].toNat:Int)<32):ky (bl s)=false:=by
 refine vu hj ?_;rw[li s j hj,<-fg s j hj]; omega
theorem vN (s:ByteArray) (w:World) (hs:s.size<=16777216):
  Calls Tryz.prog 138 #[.string s] w fun e w'=>e= .returned (.bool (qf (bl s)))/\Below w.heap.size w w':=by
 go_enter Tryz.func138,Tryz.ntmps138
 go_wp2
 go_loop [3] (fun i=> ∃k:Nat,k<=s.size/\i= .int .i64 k/\ ∀j,j<k->j<s.size->32<=(s.get! j).toNat) (fun i=>s.size-(intOf i).toNat)
 case atStart=>exact⟨0,Nat.zero_le _,rfl,fun j hj=>by omega⟩
 case round=>
  obtain⟨k,hk,rfl,hlow⟩:=hrel;have HL:=ab hlow;clear hlow
  by_cases hp:k<s.size
  ·go_wp2
   ·have hlt:(s[k].toNat:Int)<32:=by assumption
    go_ret;exact⟨an (by simp[qf,vt hp hlt]),Below.refl _ _⟩
   ·have hge:(32:Int)<=(s[k].toNat:Int):=by assumption
    go_round
    case rel=>
     refine⟨k+1,by omega,by go_num,fun j hj hjs=> ?_⟩
     rcases Nat.lt_or_ge j k with h | h
     ·exact HL.out j h hjs
     ·obtain rfl:j=k:=by omega
      rw[li s j hp,<-fg s j hp]; omega
    case measure=>simp[intOf]<;> omega
  ·go_wp2_with (go_at_call 164; refine(xJ s _ hs).mono ?_; rintro e w' ⟨rfl,hb⟩);go_ret;refine⟨an ?_,hb⟩;simp only[qf,yQ (fun j hj=>HL.out j (by omega) hj),Bool.true_and]
def BC (c:UInt8) (s:ByteArray) (w:World) (e:Ending) (w':World):Prop:=
 ∃v xs,e= .returned v/\xs.map bl=aU c (bl s)/\jh (w.heap.size<= ·) w' v xs/\Below w.heap.size w w'
theorem uE {s:ByteArray} {c:UInt8} {ys:List ByteArray} {f k:Nat} (hk:k<s.size) (hf:f<=k) (h:aU c (bl s)=ys.map bl++aU c ((bl s).drop f)) (hn: ∀j,f<=j->j<k->(s.get! j)≠c) (hc:s[k]=c):
  aU c (bl s)=(ys++[s.extract f k]).map bl++aU c ((bl s).drop (k+1)):=by
 have hk2:k<(bl s).length:=by rw[<-ay]; exact hk
 have e:(bl s).drop f=bl (s.extract f k)++c::(bl s).drop (k+1):=by
  rw[jk,<-hc,fg s k hk,List.getElem_cons_drop,List.drop_take];have h2:=List.take_append_drop (k-f) ((bl s).drop f);rw[List.drop_drop,show f+(k-f)=k by omega]at h2;exact h2.symm
 have hm:c∉bl (s.extract f k):=by
  intro hm;obtain⟨j,hj,ej⟩:=List.getElem_of_mem hm;simp only[jk]at hj ej;rw[List.length_drop,List.length_take]at hj;rw[List.getElem_drop,List.getElem_take]at ej;exact hn (f+j) (by omega) (by omega) (by rw[li s _ (by omega)]; exact ej)
 rw[h,e,iH _ _ _ hm]; simp
theorem uD {s:ByteArray} {c:UInt8} {ys:List ByteArray} {f:Nat} (hf:f<=s.size) (h:aU c (bl s)=ys.map bl++aU c ((bl s).drop f)) (hn: ∀j,f<=j->j<s.size->(s.get! j)≠c):
  aU c (bl s)=(ys++[s.extract f s.size]).map bl:=by
 have e:(bl s).drop f=bl (s.extract f s.size):=by rw[jk,ay,List.take_length]
 have hm:c∉(bl s).drop f:=by
  intro hm;obtain⟨j,hj,ej⟩:=List.getElem_of_mem hm;rw[List.length_drop,<-ay]at hj;rw[List.getElem_drop]at ej;exact hn (f+j) (by omega) (by omega) (by rw[li s _ (by omega)]; exact ej)
 rw[h,eA _ _ hm,e]; simp
theorem tF (s:ByteArray) (w:World) (hs:s.size<=16777216):Calls Tryz.prog 87 #[.string s] w (BC 47 s w):=by
 go_enter Tryz.func87,Tryz.ntmps87
 go_wp2_with fail
 go_loopw [3,4,5] (fun v fr i wr=> ∃(k f:Nat) (ys:List ByteArray),k<=s.size+1/\f<=k/\ys.length<=k/\i= .int .i64 k/\fr= .int .i64 f/\wr.ownsRow w.heap.size 9 1 v ys.length (ys.map Value.string)/\Below w.heap.size w wr/\
   (k<=s.size->aU 47 (bl s)=ys.map bl++aU 47 ((bl s).drop f)/\ ∀j,f<=j->j<k->(s.get! j)≠47)/\(k=s.size+1->aU 47 (bl s)=ys.map bl)) (fun _ _ i _=>s.size+1-(intOf i).toNat)
 case atStart=>exact⟨0,0,[],Nat.zero_le _,Nat.le_refl _,Nat.le_refl _,rfl,rfl,World.ownsRow_nil _ _ _ _,Below.refl _ _,fun _=>⟨by simp,fun j _ hj=>by omega⟩,fun h=>by omega⟩
 case round=>
  obtain⟨k,f,ys,hk,hf,hy,rfl,rfl,hown,hb,hr1,hr2⟩:=hrel;have HO:=ab hown;have HB:=ab hb;have HR1:=ab hr1;have HR2:=ab hr2;have hsz:w.heap.size<=wr.heap.size:=hb.size;clear hown hb hr1 hr2
  by_cases hle:k<=s.size
  ·by_cases hlt:k<s.size
   ·have e1:((k:Int) == (s.size:Int))=false:=by rw[beq_eq_false_iff_ne]; omega
    by_cases hc:s[k]=47
    ·have e2:((s[k].toNat:Int) == (47:UInt8).toNat)=true:=by rw[hc]; rfl
     have e2':((s[k].toNat:Int) == 47)=true:=e2;have HCC:=ab hc;clear hc e2;go_wp2_with (at_builtin; go_must (refine ir Tryz.appStrings rfl _ _ rfl w.heap.size u3 ys.length (ys.map Value.string) rfl wr [.string (s.extract f k)] _ rfl rfl (by simp; rfl) HO.out (by omega) hsz ?_); intro v' w1 hown1 hgrow1 _);have HO1:=ab hown1;have HG1:=ab hgrow1;clear hown1 hgrow1;go_wp2_with fail
     go_roundw
     case rel=>
      refine⟨k+1,k+1,ys++[s.extract f k],by omega,Nat.le_refl _,by simp; omega,by go_num,by go_num, ?_,cJ HB.out HO.out HG1.out (Nat.le_refl _) hsz,fun _=>⟨uE hlt hf (HR1.out hle).1 (HR1.out hle).2 HCC.out,fun j h1 h2=>by omega⟩,fun h=>by omega⟩;have:=HO1.out; simpa using this
     case measure=>simp[intOf]<;> omega
    ·have e2':((s[k].toNat:Int) == 47)=false:=by
      rw[beq_eq_false_iff_ne]; intro e; apply hc; apply UInt8.toNat_inj.1; have:s[k].toNat=47:=by omega
      rw[this]; rfl
     have HCC:=ab hc;clear hc;go_wp2_with fail
     go_roundw
     case rel=>
      refine⟨k+1,f,ys,by omega,by omega,by omega,by go_num,rfl,HO.out,HB.out,fun _=>⟨(HR1.out hle).1,fun j h1 h2=> ?_⟩,fun h=>by omega⟩
      rcases Nat.lt_or_ge j k with h | h
      ·exact(HR1.out hle).2 j h1 h
      ·obtain rfl:j=k:=by omega
       rw[li s j hlt,<-fg s j hlt]; exact HCC.out
     case measure=>simp[intOf]<;> omega
   ·obtain rfl:k=s.size:=by omega
    have e1:((s.size:Int) == (s.size:Int))=true:=by simp
    go_wp2_with (at_builtin; go_must (refine ir Tryz.appStrings rfl _ _ rfl w.heap.size u3 ys.length (ys.map Value.string) rfl wr [.string (s.extract f s.size)] _ rfl rfl (by simp; rfl) HO.out (by omega) hsz ?_); intro v' w1 hown1 hgrow1 _);have HO1:=ab hown1;have HG1:=ab hgrow1;clear hown1 hgrow1;go_wp2_with fail
    go_roundw
    case rel=>
     refine⟨s.size+1,s.size+1,ys++[s.extract f s.size],by omega,Nat.le_refl _,by simp; omega,by go_num,by go_num, ?_,cJ HB.out HO.out HG1.out (Nat.le_refl _) hsz,fun h=>by omega,fun _=>uD hf (HR1.out hle).1 (HR1.out hle).2⟩;have:=HO1.out; simpa using this
    case measure=>simp[intOf]<;> omega
  ·obtain⟨a,cap,rfl,hn,hm⟩:=aj HO.out;go_wp2_with fail;go_ret;exact⟨_,ys,rfl,(HR2.out (by omega)).symm,(bq HO.out).weak (fun k hk=>hk.1),HB.out⟩
theorem yH {xs:List ByteArray} {s:ByteArray} (hx:xs.map bl=aU 47 (bl s)):((xs.length:Int) == 1)= !(bl s).contains 47:=by
 rw[<-uv,<-hx,List.length_map,Bool.eq_iff_iff,beq_iff_eq,beq_iff_eq]; omega
theorem nI (s:ByteArray) (w:World) (hs:s.size<=16777216):
  Calls Tryz.prog 102 #[.string s] w fun e w'=>e= .returned (.bool (dD (bl s)))/\Below w.heap.size w w':=by
 go_enter Tryz.func102,Tryz.ntmps102
 go_wp2_with (first
  | (go_at_call 138; refine(vN s _ hs).mono ?_; rintro e w1 ⟨rfl,hb1⟩)
  | (go_at_call 87; refine(tF s _ hs).mono ?_; rintro e w2 ⟨v2,xs2,rfl,hx2,hv2,hb2⟩; obtain⟨a2,c2,rfl,-,-,-⟩:=hv2.shape; have HX2:=ab hx2; clear hx2 hv2))
 all_goals (go_ret; refine⟨an ?_,by first | exact Below.refl _ _ | exact ag hb1 hb2 | exact hb1⟩)
 all_goals (rw[Bool.eq_iff_iff]; simp only[cO]at *)
 all_goals (first | (have hq:=yH HX2.out; simp_all [dD,ay]; done) | (simp_all [dD,ay]; done) | (simp_all [dD,ay]; omega) | (have hq:=yH HX2.out; simp_all [dD,ay]; intro _; omega))
theorem qw (s:ByteArray) (w:World) (hs:64<s.size) (hm:s.size<=maxLen):Calls Tryz.prog 102 #[.string s] w fun e w'=>e= .returned (.bool (dD (bl s)))/\Below w.heap.size w w':=by
 have HF:=ab (show dD (bl s)=false by
  have h1:decide ((bl s).length<=64)=false:=by rw[<-ay]; simp; omega
  unfold dD; rw[h1]; simp)
 unfold maxLen at hm
 go_enter Tryz.func102,Tryz.ntmps102
 go_wp2_with fail
 all_goals (go_ret; exact⟨an HF.out.symm,Below.refl _ _⟩)
theorem br (s:ByteArray) (b:Bool) (w:World) (hs:s.size<=maxLen) (h:dD (bl s)=b):Calls Tryz.prog 102 #[.string s] w fun e w'=>e= .returned (.bool b)/\Below w.heap.size w w':=by
 rw[<-h]
 by_cases h64:s.size<=64
 ·exact nI s w (by omega)
 ·exact qw s w (by omega) hs
theorem lA (it:aE):cy it=(dD (bl it.name) && (decide (0<=it.mode) && decide (it.mode<=511) && decide (0<=it.time)) && bU it):=by
 unfold cy mj; rw[oO]
theorem xj :sQ:=by
 intro S it cv w hcv hok;obtain⟨a,cap,rfl,hc,hm,-⟩:=aL.shape hcv fc.len;unfold maxLen at hm;have HV:=ab hcv;have HO:=ab hok;have hq1:=hok.nm;have hq2:=hok.lk;unfold maxLen at hq1 hq2;have heq: ∀w,(Op.equalIn 10000 26 (.agg #[.string it.node.name, .int .i64 it.node.gen, .int .i64 it.node.size]) (.agg #[.string ⟨#[]⟩, .int .i64 0, .int .i64 0])).run Tryz.prog w= .ok (decide (it.node=bi)) w:=fun w=>yJ it.node bi w
 have HL:=ab (show it.link.toList=[]<->it.link.size=0 by rw[cO,ay]; simp);clear hcv hok;unfold iT
 cases hv:dD (bl it.name)
 ·have HVP:=ab hv;clear hv
  go_enter Tryz.func54,Tryz.ntmps54
  go_wp2_with fail;obtain⟨W,hW⟩: ∃W,W=w.alloc (.cells #[.string it.name, .int .i64 it.kind, .int .i64 it.mode, .int .i64 it.time, .int .i64 it.size, .string it.link, .slice a it.chunks.length cap, .string it.node.name, .int .i64 it.node.gen, .int .i64 it.node.size] 28):=⟨_,rfl⟩;rw[<-hW];have HBW:=ab (show Below w.heap.size w W by rw[hW]; exact(Below.refl _ _).alloc (Nat.le_refl _) _)
  have HBX:=ab (show W.heap[w.heap.size]? =some (.cells #[.string it.name, .int .i64 it.kind, .int .i64 it.mode, .int .i64 it.time, .int .i64 it.size, .string it.link, .slice a it.chunks.length cap, .string it.node.name, .int .i64 it.node.gen, .int .i64 it.node.size] 28 (0,0)) by rw[hW]; exact heap_alloc_new w _);clear hW;refine(br it.name false _ HO.out.nm HVP.out).mono ?_;rintro e w1 ⟨rfl,hb1⟩
  have HBXr:=ab ((hb1.block w.heap.size ((Array.getElem?_eq_some_iff.1 HBX.out).1)).trans HBX.out);have HB1:=ab (ag HBW.out hb1);have hlt1:w.heap.size<w1.heap.size:=(Array.getElem?_eq_some_iff.1 HBXr.out).1;have c0:=ah (k:=0) HBXr.out;have c1:=ah (k:=1) HBXr.out;have c2:=ah (k:=2) HBXr.out;have c3:=ah (k:=3) HBXr.out;have c4:=ah (k:=4) HBXr.out
  have c5:=ah (k:=5) HBXr.out;have c6:=ah (k:=6) HBXr.out;have c7:=ah (k:=7) HBXr.out;have c8:=ah (k:=8) HBXr.out;have c9:=ah (k:=9) HBXr.out;simp only[aN]at c0 c1 c2 c3 c4 c5 c6 c7 c8 c9;clear hb1 HBX;go_wp2_with fail;go_ret;exact⟨an (by rw[lA,HVP.out]; rfl),HB1.out⟩
 ·have HVP:=ab hv;clear hv
  by_cases hmt:0<=it.mode/\it.mode<=511/\0<=it.time
  ·have HH:=ab (show cy it=bU it by obtain⟨x1,x2,x3⟩:=hmt; rw[lA,HVP.out]; simp[x1,x2,x3]);obtain⟨hm1,hm2,hm3⟩:=hmt
   by_cases hk2:it.kind=2
   ·have hvb:bU it=(decide (it.link.size=0) && decide (it.size=0) && decide (it.chunks.length=0) && dw it.node):=by unfold bU; rw[if_neg (by omega),if_pos hk2]
    have e1:(it.kind == 1)=false:=by simp[hk2]
    have e5:(it.kind == 2)=true:=by simp[hk2]
    have e2:(it.kind != 1)=true:=by simp[hk2]
    have e3:(it.kind != 2)=false:=by simp[hk2]
    have e4:(it.kind != 3)=true:=by simp[hk2]
    clear hk2
    by_cases hch:it.chunks.length=0
    ·have hc0: ¬0<it.chunks.length:=by omega
     by_cases hsz:it.size=0
     ·have es:(it.size != 0)=false:=by simp[hsz]
      by_cases hl:it.link.size=0
      ·have hl2:it.link.toList=[]:=HL.out.2 hl;have HK:=ab (show bU it=dw it.node by rw[hvb,hch,hsz,hl]; simp);clear hvb hch hsz hl
       go_enter Tryz.func54,Tryz.ntmps54
       go_wp2_with fail;obtain⟨W,hW⟩: ∃W,W=w.alloc (.cells #[.string it.name, .int .i64 it.kind, .int .i64 it.mode, .int .i64 it.time, .int .i64 it.size, .string it.link, .slice a it.chunks.length cap, .string it.node.name, .int .i64 it.node.gen, .int .i64 it.node.size] 28):=⟨_,rfl⟩;rw[<-hW];have HBW:=ab (show Below w.heap.size w W by rw[hW]; exact(Below.refl _ _).alloc (Nat.le_refl _) _)
       have HBX:=ab (show W.heap[w.heap.size]? =some (.cells #[.string it.name, .int .i64 it.kind, .int .i64 it.mode, .int .i64 it.time, .int .i64 it.size, .string it.link, .slice a it.chunks.length cap, .string it.node.name, .int .i64 it.node.gen, .int .i64 it.node.size] 28 (0,0)) by rw[hW]; exact heap_alloc_new w _);clear hW;refine(br it.name true _ HO.out.nm HVP.out).mono ?_;rintro e w1 ⟨rfl,hb1⟩
       have HBXr:=ab ((hb1.block w.heap.size ((Array.getElem?_eq_some_iff.1 HBX.out).1)).trans HBX.out);have HB1:=ab (ag HBW.out hb1);have hlt1:w.heap.size<w1.heap.size:=(Array.getElem?_eq_some_iff.1 HBXr.out).1;have c0:=ah (k:=0) HBXr.out;have c1:=ah (k:=1) HBXr.out;have c2:=ah (k:=2) HBXr.out;have c3:=ah (k:=3) HBXr.out;have c4:=ah (k:=4) HBXr.out
       have c5:=ah (k:=5) HBXr.out;have c6:=ah (k:=6) HBXr.out;have c7:=ah (k:=7) HBXr.out;have c8:=ah (k:=8) HBXr.out;have c9:=ah (k:=9) HBXr.out;simp only[aN]at c0 c1 c2 c3 c4 c5 c6 c7 c8 c9;clear hb1 HBX;go_wp2_with fail;refine(rX it.node _ HO.out.nd).mono ?_;rintro e w2 ⟨rfl,hb2⟩;have HB2:=ab (ag HB1.out hb2);clear hb2;go_wp2_with fail;go_ret
       exact⟨an (by rw[HH.out,HK.out]),HB2.out⟩
      ·have hl2: ¬it.link.toList=[]:=fun h=>hl (HL.out.1 h)
       have hl3:it.link.toList.isEmpty=false:=by rw[List.isEmpty_eq_false_iff]; exact hl2
       have HK:=ab (show bU it=false by rw[hvb]; simp[hl]);clear hvb hch hsz hl
       go_enter Tryz.func54,Tryz.ntmps54
       go_wp2_with fail;obtain⟨W,hW⟩: ∃W,W=w.alloc (.cells #[.string it.name, .int .i64 it.kind, .int .i64 it.mode, .int .i64 it.time, .int .i64 it.size, .string it.link, .slice a it.chunks.length cap, .string it.node.name, .int .i64 it.node.gen, .int .i64 it.node.size] 28):=⟨_,rfl⟩;rw[<-hW];have HBW:=ab (show Below w.heap.size w W by rw[hW]; exact(Below.refl _ _).alloc (Nat.le_refl _) _)
       have HBX:=ab (show W.heap[w.heap.size]? =some (.cells #[.string it.name, .int .i64 it.kind, .int .i64 it.mode, .int .i64 it.time, .int .i64 it.size, .string it.link, .slice a it.chunks.length cap, .string it.node.name, .int .i64 it.node.gen, .int .i64 it.node.size] 28 (0,0)) by rw[hW]; exact heap_alloc_new w _);clear hW;refine(br it.name true _ HO.out.nm HVP.out).mono ?_;rintro e w1 ⟨rfl,hb1⟩
       have HBXr:=ab ((hb1.block w.heap.size ((Array.getElem?_eq_some_iff.1 HBX.out).1)).trans HBX.out);have HB1:=ab (ag HBW.out hb1);have hlt1:w.heap.size<w1.heap.size:=(Array.getElem?_eq_some_iff.1 HBXr.out).1;have c0:=ah (k:=0) HBXr.out;have c1:=ah (k:=1) HBXr.out;have c2:=ah (k:=2) HBXr.out;have c3:=ah (k:=3) HBXr.out;have c4:=ah (k:=4) HBXr.out
       have c5:=ah (k:=5) HBXr.out;have c6:=ah (k:=6) HBXr.out;have c7:=ah (k:=7) HBXr.out;have c8:=ah (k:=8) HBXr.out;have c9:=ah (k:=9) HBXr.out;simp only[aN]at c0 c1 c2 c3 c4 c5 c6 c7 c8 c9;clear hb1 HBX;go_wp2_with fail
       all_goals (go_ret; exact⟨an (by rw[HH.out,HK.out]),HB1.out⟩)
     ·have es:(it.size != 0)=true:=by simp[hsz]
      have HK:=ab (show bU it=false by rw[hvb]; simp[hsz]);clear hvb hch hsz
      go_enter Tryz.func54,Tryz.ntmps54
      go_wp2_with fail;obtain⟨W,hW⟩: ∃W,W=w.alloc (.cells #[.string it.name, .int .i64 it.kind, .int .i64 it.mode, .int .i64 it.time, .int .i64 it.size, .string it.link, .slice a it.chunks.length cap, .string it.node.name, .int .i64 it.node.gen, .int .i64 it.node.size] 28):=⟨_,rfl⟩;rw[<-hW];have HBW:=ab (show Below w.heap.size w W by rw[hW]; exact(Below.refl _ _).alloc (Nat.le_refl _) _)
      have HBX:=ab (show W.heap[w.heap.size]? =some (.cells #[.string it.name, .int .i64 it.kind, .int .i64 it.mode, .int .i64 it.time, .int .i64 it.size, .string it.link, .slice a it.chunks.length cap, .string it.node.name, .int .i64 it.node.gen, .int .i64 it.node.size] 28 (0,0)) by rw[hW]; exact heap_alloc_new w _);clear hW;refine(br it.name true _ HO.out.nm HVP.out).mono ?_;rintro e w1 ⟨rfl,hb1⟩
      have HBXr:=ab ((hb1.block w.heap.size ((Array.getElem?_eq_some_iff.1 HBX.out).1)).trans HBX.out);have HB1:=ab (ag HBW.out hb1);have hlt1:w.heap.size<w1.heap.size:=(Array.getElem?_eq_some_iff.1 HBXr.out).1;have c0:=ah (k:=0) HBXr.out;have c1:=ah (k:=1) HBXr.out;have c2:=ah (k:=2) HBXr.out;have c3:=ah (k:=3) HBXr.out;have c4:=ah (k:=4) HBXr.out
      have c5:=ah (k:=5) HBXr.out;have c6:=ah (k:=6) HBXr.out;have c7:=ah (k:=7) HBXr.out;have c8:=ah (k:=8) HBXr.out;have c9:=ah (k:=9) HBXr.out;simp only[aN]at c0 c1 c2 c3 c4 c5 c6 c7 c8 c9;clear hb1 HBX;go_wp2_with fail
      all_goals (go_ret; exact⟨an (by rw[HH.out,HK.out]),HB1.out⟩)
    ·have hc0:0<it.chunks.length:=by omega
     have HK:=ab (show bU it=false by rw[hvb]; simp[hch]);clear hvb hch
     go_enter Tryz.func54,Tryz.ntmps54
     go_wp2_with fail;obtain⟨W,hW⟩: ∃W,W=w.alloc (.cells #[.string it.name, .int .i64 it.kind, .int .i64 it.mode, .int .i64 it.time, .int .i64 it.size, .string it.link, .slice a it.chunks.length cap, .string it.node.name, .int .i64 it.node.gen, .int .i64 it.node.size] 28):=⟨_,rfl⟩;rw[<-hW];have HBW:=ab (show Below w.heap.size w W by rw[hW]; exact(Below.refl _ _).alloc (Nat.le_refl _) _)
     have HBX:=ab (show W.heap[w.heap.size]? =some (.cells #[.string it.name, .int .i64 it.kind, .int .i64 it.mode, .int .i64 it.time, .int .i64 it.size, .string it.link, .slice a it.chunks.length cap, .string it.node.name, .int .i64 it.node.gen, .int .i64 it.node.size] 28 (0,0)) by rw[hW]; exact heap_alloc_new w _);clear hW;refine(br it.name true _ HO.out.nm HVP.out).mono ?_;rintro e w1 ⟨rfl,hb1⟩
     have HBXr:=ab ((hb1.block w.heap.size ((Array.getElem?_eq_some_iff.1 HBX.out).1)).trans HBX.out);have HB1:=ab (ag HBW.out hb1);have hlt1:w.heap.size<w1.heap.size:=(Array.getElem?_eq_some_iff.1 HBXr.out).1;have c0:=ah (k:=0) HBXr.out;have c1:=ah (k:=1) HBXr.out;have c2:=ah (k:=2) HBXr.out;have c3:=ah (k:=3) HBXr.out;have c4:=ah (k:=4) HBXr.out
     have c5:=ah (k:=5) HBXr.out;have c6:=ah (k:=6) HBXr.out;have c7:=ah (k:=7) HBXr.out;have c8:=ah (k:=8) HBXr.out;have c9:=ah (k:=9) HBXr.out;simp only[aN]at c0 c1 c2 c3 c4 c5 c6 c7 c8 c9;clear hb1 HBX;go_wp2_with fail
     all_goals (go_ret; exact⟨an (by rw[HH.out,HK.out]),HB1.out⟩)
   ·by_cases hn:it.node=bi
    ·have en:decide (it.node=bi)=true:=by simp[hn]
     have HN:=ab hn;clear hn
     by_cases hk1:it.kind=1
     ·have hvb:bU it=(decide (it.link.size=0) && decide (it.node=bi) && bV it):=by unfold bU; rw[if_pos hk1]
      have e1:(it.kind == 1)=true:=by simp[hk1]
      have e2:(it.kind != 1)=false:=by simp[hk1]
      have e3:(it.kind != 2)=true:=by simp[hk1]
      have e4:(it.kind != 3)=true:=by simp[hk1]
      clear hk1 hk2
      by_cases hl:it.link.size=0
      ·have hl2:it.link.toList=[]:=HL.out.2 hl;have HK:=ab (show bU it=bV it by rw[hvb,HN.out,hl]; simp);clear hvb hl
       go_enter Tryz.func54,Tryz.ntmps54
       go_wp2_with fail;obtain⟨W,hW⟩: ∃W,W=w.alloc (.cells #[.string it.name, .int .i64 it.kind, .int .i64 it.mode, .int .i64 it.time, .int .i64 it.size, .string it.link, .slice a it.chunks.length cap, .string it.node.name, .int .i64 it.node.gen, .int .i64 it.node.size] 28):=⟨_,rfl⟩;rw[<-hW];have HBW:=ab (show Below w.heap.size w W by rw[hW]; exact(Below.refl _ _).alloc (Nat.le_refl _) _)
       have HBX:=ab (show W.heap[w.heap.size]? =some (.cells #[.string it.name, .int .i64 it.kind, .int .i64 it.mode, .int .i64 it.time, .int .i64 it.size, .string it.link, .slice a it.chunks.length cap, .string it.node.name, .int .i64 it.node.gen, .int .i64 it.node.size] 28 (0,0)) by rw[hW]; exact heap_alloc_new w _);clear hW;refine(br it.name true _ HO.out.nm HVP.out).mono ?_;rintro e w1 ⟨rfl,hb1⟩
       have HBXr:=ab ((hb1.block w.heap.size ((Array.getElem?_eq_some_iff.1 HBX.out).1)).trans HBX.out);have HB1:=ab (ag HBW.out hb1);have hlt1:w.heap.size<w1.heap.size:=(Array.getElem?_eq_some_iff.1 HBXr.out).1;have c0:=ah (k:=0) HBXr.out;have c1:=ah (k:=1) HBXr.out;have c2:=ah (k:=2) HBXr.out;have c3:=ah (k:=3) HBXr.out;have c4:=ah (k:=4) HBXr.out
       have c5:=ah (k:=5) HBXr.out;have c6:=ah (k:=6) HBXr.out;have c7:=ah (k:=7) HBXr.out;have c8:=ah (k:=8) HBXr.out;have c9:=ah (k:=9) HBXr.out;simp only[aN]at c0 c1 c2 c3 c4 c5 c6 c7 c8 c9;clear hb1 HBX;go_wp2_with fail;clear c0 c1 c2 c3 c4 c5 c6 c7 c8 c9 e1 e2 e3 e4 en hl2
       go_loopw [3,4] (fun sm i wr=> ∃k:Nat,k<=it.chunks.length/\i= .int .i64 k/\sm= .int .i64 (dt (it.chunks.take k))/\(it.chunks.take k).all fm=true/\Below w1.heap.size w1 wr) (fun _ i _=>it.chunks.length-(intOf i).toNat)
       case atStart=>exact⟨0,Nat.zero_le _,rfl,rfl,rfl,Below.refl _ _⟩
       case round=>
        obtain⟨k,hk,rfl,rfl,hal,hb⟩:=hrel;have HB:=ab hb;have HA:=ab hal;clear hb hal;have HBXw:=ab ((HB.out.block w.heap.size hlt1).trans HBXr.out);have c4:=ah (k:=4) HBXw.out;have c6:=ah (k:=6) HBXw.out;simp only[aN]at c4 c6
        by_cases hlt:k<it.chunks.length
        ·obtain⟨r,hr⟩: ∃r,it.chunks[k]? =some r:=⟨it.chunks[k],by simp[hlt]⟩;obtain⟨b,o,rfl,hok,q0,q1,q2⟩:=cR HV.out (ag HB1.out HB.out) hr;have HR:=ab hr;have HRO:=ab hok;have HS:=ab (show dt (it.chunks.take (k+1))=wrap64 (dt (it.chunks.take k)+r.size) by rw[bh hr,kG]);clear hr hok
         cases hvr:dw r
         ·have HF:=ab (show bV it=false by unfold bV; rw[sS HR.out (by simp[fm,hvr])]; rfl);have HVR:=ab hvr;clear hvr;go_wp2_with fail;refine(gK r false _ HRO.out HVR.out).mono ?_;rintro e w2 ⟨rfl,hb2⟩;have HB2:=ab (ag HB.out hb2);clear hb2;go_wp2_with fail;go_ret;exact⟨an (by rw[HH.out,HK.out,HF.out]),ag HB1.out HB2.out⟩
         ·have HVR:=ab hvr;have hrs:0<=r.size:=by
           simp only[dw,Bool.and_eq_true,decide_eq_true_eq]at hvr;exact hvr.1.2
          clear hvr
          by_cases hs:r.size=0
          ·have HF:=ab (show bV it=false by unfold bV; rw[sS HR.out (by simp[fm,HVR.out]; omega)]; rfl);have es:(r.size == 0)=true:=by simp[hs]
           clear hs;go_wp2_with fail;refine(gK r true _ HRO.out HVR.out).mono ?_;rintro e w2 ⟨rfl,hb2⟩;have HB2:=ab (ag HB.out hb2);have d2:=(hb2.cell (aR q2)).trans q2;have d6:=(hb2.cell (aR c6)).trans c6;clear hb2 q0 q1 q2;go_wp2_with fail;go_ret;exact⟨an (by rw[HH.out,HK.out,HF.out]),ag HB1.out HB2.out⟩
          ·have es:(r.size == 0)=false:=by simp[hs]
           have HP:=ab (show fm r=true by simp[fm,HVR.out]; omega);clear hs hrs;go_wp2_with fail;refine(gK r true _ HRO.out HVR.out).mono ?_;rintro e w2 ⟨rfl,hb2⟩;have HB2:=ab (ag HB.out hb2);have d2:=(hb2.cell (aR q2)).trans q2;have d6:=(hb2.cell (aR c6)).trans c6;clear hb2 q0 q1 q2;go_wp2_with fail
           go_roundw
           case rel=>exact⟨k+1,by omega,by go_num,by rw[HS.out],ue HA.out HR.out HP.out,HB2.out⟩
           case measure=>simp[intOf]; omega
        ·obtain rfl:k=it.chunks.length:=by omega
         have hall:it.chunks.all fm=true:=by
          have:=HA.out
          rwa [List.take_of_length_le (Nat.le_refl _)]at this
         have HALL:=ab hall;have HTK:=ab (show it.chunks.take it.chunks.length=it.chunks from List.take_of_length_le (Nat.le_refl _));obtain⟨tw,htw⟩: ∃tw:Int,tw=dt (it.chunks.take it.chunks.length):=⟨_,rfl⟩;rw[<-htw];have HTW:=ab htw;clear hall htw
         by_cases hsz:tw=it.size
         ·have e5:(tw == it.size)=true:=by simp[hsz]
          have HSZ:=ab hsz;clear hsz
          by_cases hmx:tw<=1048576
          ·have HVC:=ab (show bV it=true by
            unfold bV; rw[HALL.out];have h1:=HTW.out;rw[HTK.out]at h1;have h2:=HSZ.out;simp only[Bool.true_and,Bool.and_eq_true,decide_eq_true_eq]
            omega)
           go_wp2_with fail;go_ret;exact⟨an (by rw[HH.out,HK.out,HVC.out]),ag HB1.out HB.out⟩
          ·have HVC:=ab (show bV it=false by
            unfold bV; rw[HALL.out];have h1:=HTW.out;rw[HTK.out]at h1;have h2:=HSZ.out;rw[Bool.eq_false_iff];simp only[Bool.true_and,ne_eq,Bool.and_eq_true,decide_eq_true_eq]
            omega)
           go_wp2_with fail;go_ret;exact⟨an (by rw[HH.out,HK.out,HVC.out]),ag HB1.out HB.out⟩
         ·have e5:(tw == it.size)=false:=by simp[hsz]
          have HVC:=ab (show bV it=false by
           unfold bV; rw[HALL.out];have h1:=HTW.out;rw[HTK.out]at h1;rw[Bool.eq_false_iff];simp only[Bool.true_and,ne_eq,Bool.and_eq_true,decide_eq_true_eq]
           omega)
          clear hsz;go_wp2_with fail;go_ret;exact⟨an (by rw[HH.out,HK.out,HVC.out]),ag HB1.out HB.out⟩
      ·have hl2: ¬it.link.toList=[]:=fun h=>hl (HL.out.1 h)
       have hl3:it.link.toList.isEmpty=false:=by rw[List.isEmpty_eq_false_iff]; exact hl2
       have HK:=ab (show bU it=false by rw[hvb]; simp[hl]);clear hvb hl
       go_enter Tryz.func54,Tryz.ntmps54
       go_wp2_with fail;obtain⟨W,hW⟩: ∃W,W=w.alloc (.cells #[.string it.name, .int .i64 it.kind, .int .i64 it.mode, .int .i64 it.time, .int .i64 it.size, .string it.link, .slice a it.chunks.length cap, .string it.node.name, .int .i64 it.node.gen, .int .i64 it.node.size] 28):=⟨_,rfl⟩;rw[<-hW];have HBW:=ab (show Below w.heap.size w W by rw[hW]; exact(Below.refl _ _).alloc (Nat.le_refl _) _)
       have HBX:=ab (show W.heap[w.heap.size]? =some (.cells #[.string it.name, .int .i64 it.kind, .int .i64 it.mode, .int .i64 it.time, .int .i64 it.size, .string it.link, .slice a it.chunks.length cap, .string it.node.name, .int .i64 it.node.gen, .int .i64 it.node.size] 28 (0,0)) by rw[hW]; exact heap_alloc_new w _);clear hW;refine(br it.name true _ HO.out.nm HVP.out).mono ?_;rintro e w1 ⟨rfl,hb1⟩
       have HBXr:=ab ((hb1.block w.heap.size ((Array.getElem?_eq_some_iff.1 HBX.out).1)).trans HBX.out);have HB1:=ab (ag HBW.out hb1);have hlt1:w.heap.size<w1.heap.size:=(Array.getElem?_eq_some_iff.1 HBXr.out).1;have c0:=ah (k:=0) HBXr.out;have c1:=ah (k:=1) HBXr.out;have c2:=ah (k:=2) HBXr.out;have c3:=ah (k:=3) HBXr.out;have c4:=ah (k:=4) HBXr.out
       have c5:=ah (k:=5) HBXr.out;have c6:=ah (k:=6) HBXr.out;have c7:=ah (k:=7) HBXr.out;have c8:=ah (k:=8) HBXr.out;have c9:=ah (k:=9) HBXr.out;simp only[aN]at c0 c1 c2 c3 c4 c5 c6 c7 c8 c9;clear hb1 HBX;go_wp2_with fail
       all_goals (go_ret; exact⟨an (by rw[HH.out,HK.out]),HB1.out⟩)
     ·have e1:(it.kind == 1)=false:=by simp[hk1]
      have e5:(it.kind == 2)=false:=by simp[hk2]
      have e2:(it.kind != 1)=true:=by simp[hk1]
      have e3:(it.kind != 2)=true:=by simp[hk2]
      by_cases hk3:it.kind=3
      ·have hvb:bU it=((decide (it.size=0) && decide (it.chunks.length=0) && decide (it.node=bi)) && (decide (1<=it.link.size) && decide (it.link.size<=512) && !(bl it.link).contains 0)):=by unfold bU; rw[if_neg hk1,if_neg hk2,if_pos hk3]
       have e6:(it.kind == 3)=true:=by simp[hk3]
       have e4:(it.kind != 3)=false:=by simp[hk3]
       clear hk1 hk2 hk3
       by_cases hch:it.chunks.length=0
       ·have hc0: ¬0<it.chunks.length:=by omega
        by_cases hsz:it.size=0
        ·have es:(it.size != 0)=false:=by simp[hsz]
         have HK:=ab (show bU it=(decide (1<=it.link.size) && decide (it.link.size<=512) && !(bl it.link).contains 0) by rw[hvb,HN.out,hch,hsz]; simp);clear hvb hch hsz
         go_enter Tryz.func54,Tryz.ntmps54
         go_wp2_with fail;obtain⟨W,hW⟩: ∃W,W=w.alloc (.cells #[.string it.name, .int .i64 it.kind, .int .i64 it.mode, .int .i64 it.time, .int .i64 it.size, .string it.link, .slice a it.chunks.length cap, .string it.node.name, .int .i64 it.node.gen, .int .i64 it.node.size] 28):=⟨_,rfl⟩;rw[<-hW];have HBW:=ab (show Below w.heap.size w W by rw[hW]; exact(Below.refl _ _).alloc (Nat.le_refl _) _)
         have HBX:=ab (show W.heap[w.heap.size]? =some (.cells #[.string it.name, .int .i64 it.kind, .int .i64 it.mode, .int .i64 it.time, .int .i64 it.size, .string it.link, .slice a it.chunks.length cap, .string it.node.name, .int .i64 it.node.gen, .int .i64 it.node.size] 28 (0,0)) by rw[hW]; exact heap_alloc_new w _);clear hW;refine(br it.name true _ HO.out.nm HVP.out).mono ?_;rintro e w1 ⟨rfl,hb1⟩
         have HBXr:=ab ((hb1.block w.heap.size ((Array.getElem?_eq_some_iff.1 HBX.out).1)).trans HBX.out);have HB1:=ab (ag HBW.out hb1);have hlt1:w.heap.size<w1.heap.size:=(Array.getElem?_eq_some_iff.1 HBXr.out).1;have c0:=ah (k:=0) HBXr.out;have c1:=ah (k:=1) HBXr.out;have c2:=ah (k:=2) HBXr.out;have c3:=ah (k:=3) HBXr.out;have c4:=ah (k:=4) HBXr.out
         have c5:=ah (k:=5) HBXr.out;have c6:=ah (k:=6) HBXr.out;have c7:=ah (k:=7) HBXr.out;have c8:=ah (k:=8) HBXr.out;have c9:=ah (k:=9) HBXr.out;simp only[aN]at c0 c1 c2 c3 c4 c5 c6 c7 c8 c9;clear hb1 HBX;go_wp2_with fail;clear c0 c1 c2 c3 c4 c5 c6 c7 c8 c9 e1 e2 e3 e4 e5 e6 en es hc0
         go_loopw [5] (fun i wr=> ∃k:Nat,k<=it.link.size/\i= .int .i64 k/\((bl it.link).take k).contains 0=false/\wr=w1) (fun i _=>it.link.size-(intOf i).toNat)
         case atStart=>exact⟨0,Nat.zero_le _,rfl,rfl,rfl⟩
         case round=>
          obtain⟨k,hk,rfl,hct,rfl⟩:=hrel;have HCT:=ab hct;clear hct;have c5:=ah (k:=5) HBXr.out;simp only[aN]at c5;have hsb:it.link.size=(bl it.link).length:=ay _;have HSB:=ab hsb;clear hsb
          by_cases hlt:k<it.link.size
          ·have HGB:=ab (show(bl it.link)[k]? =some it.link[k] by rw[fg,List.getElem?_eq_getElem (by rw[<-HSB.out]; exact hlt)])
           by_cases hz:it.link[k]=0
           ·have ez:(((it.link[k]).toNat:Int) == 0)=true:=by simp[hz]
            have HC:=ab (show(bl it.link).contains 0=true by
             have h1:=HGB.out;rw[hz]at h1;rw[List.contains_iff_mem];exact List.mem_of_getElem? h1)
            clear hz;go_wp2_with fail;go_ret;exact⟨an (by rw[HH.out,HK.out,HC.out]; simp),HB1.out⟩
           ·have ez:(((it.link[k]).toNat:Int) == 0)=false:=by
             simp only[beq_eq_false_iff_ne,ne_eq];intro h;exact hz (UInt8.toNat_inj.1 (by simpa using h))
            have HC:=ab (show((bl it.link).take (k+1)).contains 0=false by
             have h2:=HCT.out;rw[bh HGB.out,Bool.eq_false_iff,ne_eq,List.contains_iff_mem,List.mem_append,List.mem_singleton];rintro(h | h)
             ·rw[Bool.eq_false_iff,ne_eq,List.contains_iff_mem]at h2;exact h2 h
             ·exact hz h.symm)
            clear hz;go_wp2_with fail
            go_roundw
            case rel=>exact⟨k+1,by omega,by go_num,HC.out,by first | rfl | trivial⟩
            case measure=>simp[intOf]; omega
          ·obtain rfl:k=it.link.size:=by omega
           have HC:=ab (show(bl it.link).contains 0=false by
            have:=HCT.out
            rwa [List.take_of_length_le (by rw[HSB.out]; exact Nat.le_refl _)]at this)
           by_cases h1:1<=it.link.size
           ·by_cases h2:it.link.size<=512
            ·have HV2:=ab (show bU it=true by rw[HK.out,HC.out]; simp[h1,h2]);go_wp2_with fail;go_ret;exact⟨an (by rw[HH.out,HV2.out]<;> (first | (simp; done) | (simp; omega))),HB1.out⟩
            ·have HV2:=ab (show bU it=false by rw[HK.out,HC.out]; simp[h2]);go_wp2_with fail;go_ret;exact⟨an (by rw[HH.out,HV2.out]<;> (first | (simp; done) | (simp; omega))),HB1.out⟩
           ·have HV2:=ab (show bU it=false by rw[HK.out,HC.out]; simp[h1]);go_wp2_with fail;go_ret;exact⟨an (by rw[HH.out,HV2.out]<;> (first | (simp; done) | (simp; omega))),HB1.out⟩
        ·have es:(it.size != 0)=true:=by simp[hsz]
         have HK:=ab (show bU it=false by rw[hvb]; simp[hsz]);clear hvb hch hsz
         go_enter Tryz.func54,Tryz.ntmps54
         go_wp2_with fail;obtain⟨W,hW⟩: ∃W,W=w.alloc (.cells #[.string it.name, .int .i64 it.kind, .int .i64 it.mode, .int .i64 it.time, .int .i64 it.size, .string it.link, .slice a it.chunks.length cap, .string it.node.name, .int .i64 it.node.gen, .int .i64 it.node.size] 28):=⟨_,rfl⟩;rw[<-hW];have HBW:=ab (show Below w.heap.size w W by rw[hW]; exact(Below.refl _ _).alloc (Nat.le_refl _) _)
         have HBX:=ab (show W.heap[w.heap.size]? =some (.cells #[.string it.name, .int .i64 it.kind, .int .i64 it.mode, .int .i64 it.time, .int .i64 it.size, .string it.link, .slice a it.chunks.length cap, .string it.node.name, .int .i64 it.node.gen, .int .i64 it.node.size] 28 (0,0)) by rw[hW]; exact heap_alloc_new w _);clear hW;refine(br it.name true _ HO.out.nm HVP.out).mono ?_;rintro e w1 ⟨rfl,hb1⟩
         have HBXr:=ab ((hb1.block w.heap.size ((Array.getElem?_eq_some_iff.1 HBX.out).1)).trans HBX.out);have HB1:=ab (ag HBW.out hb1);have hlt1:w.heap.size<w1.heap.size:=(Array.getElem?_eq_some_iff.1 HBXr.out).1;have c0:=ah (k:=0) HBXr.out;have c1:=ah (k:=1) HBXr.out;have c2:=ah (k:=2) HBXr.out;have c3:=ah (k:=3) HBXr.out;have c4:=ah (k:=4) HBXr.out
         have c5:=ah (k:=5) HBXr.out;have c6:=ah (k:=6) HBXr.out;have c7:=ah (k:=7) HBXr.out;have c8:=ah (k:=8) HBXr.out;have c9:=ah (k:=9) HBXr.out;simp only[aN]at c0 c1 c2 c3 c4 c5 c6 c7 c8 c9;clear hb1 HBX;go_wp2_with fail
         all_goals (go_ret; exact⟨an (by rw[HH.out,HK.out]),HB1.out⟩)
       ·have hc0:0<it.chunks.length:=by omega
        have HK:=ab (show bU it=false by rw[hvb]; simp[hch]);clear hvb hch
        go_enter Tryz.func54,Tryz.ntmps54
        go_wp2_with fail;obtain⟨W,hW⟩: ∃W,W=w.alloc (.cells #[.string it.name, .int .i64 it.kind, .int .i64 it.mode, .int .i64 it.time, .int .i64 it.size, .string it.link, .slice a it.chunks.length cap, .string it.node.name, .int .i64 it.node.gen, .int .i64 it.node.size] 28):=⟨_,rfl⟩;rw[<-hW];have HBW:=ab (show Below w.heap.size w W by rw[hW]; exact(Below.refl _ _).alloc (Nat.le_refl _) _)
        have HBX:=ab (show W.heap[w.heap.size]? =some (.cells #[.string it.name, .int .i64 it.kind, .int .i64 it.mode, .int .i64 it.time, .int .i64 it.size, .string it.link, .slice a it.chunks.length cap, .string it.node.name, .int .i64 it.node.gen, .int .i64 it.node.size] 28 (0,0)) by rw[hW]; exact heap_alloc_new w _);clear hW;refine(br it.name true _ HO.out.nm HVP.out).mono ?_;rintro e w1 ⟨rfl,hb1⟩
        have HBXr:=ab ((hb1.block w.heap.size ((Array.getElem?_eq_some_iff.1 HBX.out).1)).trans HBX.out);have HB1:=ab (ag HBW.out hb1);have hlt1:w.heap.size<w1.heap.size:=(Array.getElem?_eq_some_iff.1 HBXr.out).1;have c0:=ah (k:=0) HBXr.out;have c1:=ah (k:=1) HBXr.out;have c2:=ah (k:=2) HBXr.out;have c3:=ah (k:=3) HBXr.out;have c4:=ah (k:=4) HBXr.out
        have c5:=ah (k:=5) HBXr.out;have c6:=ah (k:=6) HBXr.out;have c7:=ah (k:=7) HBXr.out;have c8:=ah (k:=8) HBXr.out;have c9:=ah (k:=9) HBXr.out;simp only[aN]at c0 c1 c2 c3 c4 c5 c6 c7 c8 c9;clear hb1 HBX;go_wp2_with fail
        all_goals (go_ret; exact⟨an (by rw[HH.out,HK.out]),HB1.out⟩)
      ·have HK:=ab (show bU it=false by unfold bU; rw[if_neg hk1,if_neg hk2,if_neg hk3]);have e6:(it.kind == 3)=false:=by simp[hk3]
       have e4:(it.kind != 3)=true:=by simp[hk3]
       clear hk1 hk2 hk3
       by_cases hch:it.chunks.length=0
       ·have hc0: ¬0<it.chunks.length:=by omega
        by_cases hsz:it.size=0
        ·have es:(it.size != 0)=false:=by simp[hsz]
         clear hch hsz
         by_cases hl:it.link.size=0
         ·have hl2:it.link.toList=[]:=HL.out.2 hl;clear hl
          go_enter Tryz.func54,Tryz.ntmps54
          go_wp2_with fail;obtain⟨W,hW⟩: ∃W,W=w.alloc (.cells #[.string it.name, .int .i64 it.kind, .int .i64 it.mode, .int .i64 it.time, .int .i64 it.size, .string it.link, .slice a it.chunks.length cap, .string it.node.name, .int .i64 it.node.gen, .int .i64 it.node.size] 28):=⟨_,rfl⟩;rw[<-hW];have HBW:=ab (show Below w.heap.size w W by rw[hW]; exact(Below.refl _ _).alloc (Nat.le_refl _) _)
          have HBX:=ab (show W.heap[w.heap.size]? =some (.cells #[.string it.name, .int .i64 it.kind, .int .i64 it.mode, .int .i64 it.time, .int .i64 it.size, .string it.link, .slice a it.chunks.length cap, .string it.node.name, .int .i64 it.node.gen, .int .i64 it.node.size] 28 (0,0)) by rw[hW]; exact heap_alloc_new w _);clear hW;refine(br it.name true _ HO.out.nm HVP.out).mono ?_
          rintro e w1 ⟨rfl,hb1⟩;have HBXr:=ab ((hb1.block w.heap.size ((Array.getElem?_eq_some_iff.1 HBX.out).1)).trans HBX.out);have HB1:=ab (ag HBW.out hb1);have hlt1:w.heap.size<w1.heap.size:=(Array.getElem?_eq_some_iff.1 HBXr.out).1;have c0:=ah (k:=0) HBXr.out;have c1:=ah (k:=1) HBXr.out;have c2:=ah (k:=2) HBXr.out;have c3:=ah (k:=3) HBXr.out;have c4:=ah (k:=4) HBXr.out
          have c5:=ah (k:=5) HBXr.out;have c6:=ah (k:=6) HBXr.out;have c7:=ah (k:=7) HBXr.out;have c8:=ah (k:=8) HBXr.out;have c9:=ah (k:=9) HBXr.out;simp only[aN]at c0 c1 c2 c3 c4 c5 c6 c7 c8 c9;clear hb1 HBX;go_wp2_with fail
          all_goals (go_ret; exact⟨an (by rw[HH.out,HK.out]),HB1.out⟩)
         ·have hl2: ¬it.link.toList=[]:=fun h=>hl (HL.out.1 h)
          have hl3:it.link.toList.isEmpty=false:=by rw[List.isEmpty_eq_false_iff]; exact hl2
          clear hl
          go_enter Tryz.func54,Tryz.ntmps54
          go_wp2_with fail;obtain⟨W,hW⟩: ∃W,W=w.alloc (.cells #[.string it.name, .int .i64 it.kind, .int .i64 it.mode, .int .i64 it.time, .int .i64 it.size, .string it.link, .slice a it.chunks.length cap, .string it.node.name, .int .i64 it.node.gen, .int .i64 it.node.size] 28):=⟨_,rfl⟩;rw[<-hW];have HBW:=ab (show Below w.heap.size w W by rw[hW]; exact(Below.refl _ _).alloc (Nat.le_refl _) _)
          have HBX:=ab (show W.heap[w.heap.size]? =some (.cells #[.string it.name, .int .i64 it.kind, .int .i64 it.mode, .int .i64 it.time, .int .i64 it.size, .string it.link, .slice a it.chunks.length cap, .string it.node.name, .int .i64 it.node.gen, .int .i64 it.node.size] 28 (0,0)) by rw[hW]; exact heap_alloc_new w _);clear hW;refine(br it.name true _ HO.out.nm HVP.out).mono ?_
          rintro e w1 ⟨rfl,hb1⟩;have HBXr:=ab ((hb1.block w.heap.size ((Array.getElem?_eq_some_iff.1 HBX.out).1)).trans HBX.out);have HB1:=ab (ag HBW.out hb1);have hlt1:w.heap.size<w1.heap.size:=(Array.getElem?_eq_some_iff.1 HBXr.out).1;have c0:=ah (k:=0) HBXr.out;have c1:=ah (k:=1) HBXr.out;have c2:=ah (k:=2) HBXr.out;have c3:=ah (k:=3) HBXr.out;have c4:=ah (k:=4) HBXr.out
          have c5:=ah (k:=5) HBXr.out;have c6:=ah (k:=6) HBXr.out;have c7:=ah (k:=7) HBXr.out;have c8:=ah (k:=8) HBXr.out;have c9:=ah (k:=9) HBXr.out;simp only[aN]at c0 c1 c2 c3 c4 c5 c6 c7 c8 c9;clear hb1 HBX;go_wp2_with fail
          all_goals (go_ret; exact⟨an (by rw[HH.out,HK.out]),HB1.out⟩)
        ·have es:(it.size != 0)=true:=by simp[hsz]
         clear hch hsz
         go_enter Tryz.func54,Tryz.ntmps54
         go_wp2_with fail;obtain⟨W,hW⟩: ∃W,W=w.alloc (.cells #[.string it.name, .int .i64 it.kind, .int .i64 it.mode, .int .i64 it.time, .int .i64 it.size, .string it.link, .slice a it.chunks.length cap, .string it.node.name, .int .i64 it.node.gen, .int .i64 it.node.size] 28):=⟨_,rfl⟩;rw[<-hW];have HBW:=ab (show Below w.heap.size w W by rw[hW]; exact(Below.refl _ _).alloc (Nat.le_refl _) _)
         have HBX:=ab (show W.heap[w.heap.size]? =some (.cells #[.string it.name, .int .i64 it.kind, .int .i64 it.mode, .int .i64 it.time, .int .i64 it.size, .string it.link, .slice a it.chunks.length cap, .string it.node.name, .int .i64 it.node.gen, .int .i64 it.node.size] 28 (0,0)) by rw[hW]; exact heap_alloc_new w _);clear hW;refine(br it.name true _ HO.out.nm HVP.out).mono ?_;rintro e w1 ⟨rfl,hb1⟩
         have HBXr:=ab ((hb1.block w.heap.size ((Array.getElem?_eq_some_iff.1 HBX.out).1)).trans HBX.out);have HB1:=ab (ag HBW.out hb1);have hlt1:w.heap.size<w1.heap.size:=(Array.getElem?_eq_some_iff.1 HBXr.out).1;have c0:=ah (k:=0) HBXr.out;have c1:=ah (k:=1) HBXr.out;have c2:=ah (k:=2) HBXr.out;have c3:=ah (k:=3) HBXr.out;have c4:=ah (k:=4) HBXr.out
         have c5:=ah (k:=5) HBXr.out;have c6:=ah (k:=6) HBXr.out;have c7:=ah (k:=7) HBXr.out;have c8:=ah (k:=8) HBXr.out;have c9:=ah (k:=9) HBXr.out;simp only[aN]at c0 c1 c2 c3 c4 c5 c6 c7 c8 c9;clear hb1 HBX;go_wp2_with fail
         all_goals (go_ret; exact⟨an (by rw[HH.out,HK.out]),HB1.out⟩)
       ·have hc0:0<it.chunks.length:=by omega
        clear hch
        go_enter Tryz.func54,Tryz.ntmps54
        go_wp2_with fail;obtain⟨W,hW⟩: ∃W,W=w.alloc (.cells #[.string it.name, .int .i64 it.kind, .int .i64 it.mode, .int .i64 it.time, .int .i64 it.size, .string it.link, .slice a it.chunks.length cap, .string it.node.name, .int .i64 it.node.gen, .int .i64 it.node.size] 28):=⟨_,rfl⟩;rw[<-hW];have HBW:=ab (show Below w.heap.size w W by rw[hW]; exact(Below.refl _ _).alloc (Nat.le_refl _) _)
        have HBX:=ab (show W.heap[w.heap.size]? =some (.cells #[.string it.name, .int .i64 it.kind, .int .i64 it.mode, .int .i64 it.time, .int .i64 it.size, .string it.link, .slice a it.chunks.length cap, .string it.node.name, .int .i64 it.node.gen, .int .i64 it.node.size] 28 (0,0)) by rw[hW]; exact heap_alloc_new w _);clear hW;refine(br it.name true _ HO.out.nm HVP.out).mono ?_;rintro e w1 ⟨rfl,hb1⟩
        have HBXr:=ab ((hb1.block w.heap.size ((Array.getElem?_eq_some_iff.1 HBX.out).1)).trans HBX.out);have HB1:=ab (ag HBW.out hb1);have hlt1:w.heap.size<w1.heap.size:=(Array.getElem?_eq_some_iff.1 HBXr.out).1;have c0:=ah (k:=0) HBXr.out;have c1:=ah (k:=1) HBXr.out;have c2:=ah (k:=2) HBXr.out;have c3:=ah (k:=3) HBXr.out;have c4:=ah (k:=4) HBXr.out
        have c5:=ah (k:=5) HBXr.out;have c6:=ah (k:=6) HBXr.out;have c7:=ah (k:=7) HBXr.out;have c8:=ah (k:=8) HBXr.out;have c9:=ah (k:=9) HBXr.out;simp only[aN]at c0 c1 c2 c3 c4 c5 c6 c7 c8 c9;clear hb1 HBX;go_wp2_with fail
        all_goals (go_ret; exact⟨an (by rw[HH.out,HK.out]),HB1.out⟩)
    ·have en:decide (it.node=bi)=false:=by simp[hn]
     have e3:(it.kind != 2)=true:=by simp[hk2]
     have HK:=ab (show bU it=false by unfold bU; rw[if_neg hk2]; simp[hn]);clear hn hk2
     go_enter Tryz.func54,Tryz.ntmps54
     go_wp2_with fail;obtain⟨W,hW⟩: ∃W,W=w.alloc (.cells #[.string it.name, .int .i64 it.kind, .int .i64 it.mode, .int .i64 it.time, .int .i64 it.size, .string it.link, .slice a it.chunks.length cap, .string it.node.name, .int .i64 it.node.gen, .int .i64 it.node.size] 28):=⟨_,rfl⟩;rw[<-hW];have HBW:=ab (show Below w.heap.size w W by rw[hW]; exact(Below.refl _ _).alloc (Nat.le_refl _) _)
     have HBX:=ab (show W.heap[w.heap.size]? =some (.cells #[.string it.name, .int .i64 it.kind, .int .i64 it.mode, .int .i64 it.time, .int .i64 it.size, .string it.link, .slice a it.chunks.length cap, .string it.node.name, .int .i64 it.node.gen, .int .i64 it.node.size] 28 (0,0)) by rw[hW]; exact heap_alloc_new w _);clear hW;refine(br it.name true _ HO.out.nm HVP.out).mono ?_;rintro e w1 ⟨rfl,hb1⟩
     have HBXr:=ab ((hb1.block w.heap.size ((Array.getElem?_eq_some_iff.1 HBX.out).1)).trans HBX.out);have HB1:=ab (ag HBW.out hb1);have hlt1:w.heap.size<w1.heap.size:=(Array.getElem?_eq_some_iff.1 HBXr.out).1;have c0:=ah (k:=0) HBXr.out;have c1:=ah (k:=1) HBXr.out;have c2:=ah (k:=2) HBXr.out;have c3:=ah (k:=3) HBXr.out;have c4:=ah (k:=4) HBXr.out
     have c5:=ah (k:=5) HBXr.out;have c6:=ah (k:=6) HBXr.out;have c7:=ah (k:=7) HBXr.out;have c8:=ah (k:=8) HBXr.out;have c9:=ah (k:=9) HBXr.out;simp only[aN]at c0 c1 c2 c3 c4 c5 c6 c7 c8 c9;clear hb1 HBX;go_wp2_with fail
     all_goals (go_ret; exact⟨an (by rw[HH.out,HK.out]),HB1.out⟩)
  ·have HF:=ab (show cy it=false by
    have:(decide (0<=it.mode) && decide (it.mode<=511) && decide (0<=it.time))=false:=by
     rw[Bool.eq_false_iff]; simp; omega
    rw[lA,this]; simp)
   go_enter Tryz.func54,Tryz.ntmps54
   go_wp2_with fail;obtain⟨W,hW⟩: ∃W,W=w.alloc (.cells #[.string it.name, .int .i64 it.kind, .int .i64 it.mode, .int .i64 it.time, .int .i64 it.size, .string it.link, .slice a it.chunks.length cap, .string it.node.name, .int .i64 it.node.gen, .int .i64 it.node.size] 28):=⟨_,rfl⟩;rw[<-hW];have HBW:=ab (show Below w.heap.size w W by rw[hW]; exact(Below.refl _ _).alloc (Nat.le_refl _) _)
   have HBX:=ab (show W.heap[w.heap.size]? =some (.cells #[.string it.name, .int .i64 it.kind, .int .i64 it.mode, .int .i64 it.time, .int .i64 it.size, .string it.link, .slice a it.chunks.length cap, .string it.node.name, .int .i64 it.node.gen, .int .i64 it.node.size] 28 (0,0)) by rw[hW]; exact heap_alloc_new w _);clear hW;refine(br it.name true _ HO.out.nm HVP.out).mono ?_;rintro e w1 ⟨rfl,hb1⟩
   have HBXr:=ab ((hb1.block w.heap.size ((Array.getElem?_eq_some_iff.1 HBX.out).1)).trans HBX.out);have HB1:=ab (ag HBW.out hb1);have hlt1:w.heap.size<w1.heap.size:=(Array.getElem?_eq_some_iff.1 HBXr.out).1;have c0:=ah (k:=0) HBXr.out;have c1:=ah (k:=1) HBXr.out;have c2:=ah (k:=2) HBXr.out;have c3:=ah (k:=3) HBXr.out;have c4:=ah (k:=4) HBXr.out
   have c5:=ah (k:=5) HBXr.out;have c6:=ah (k:=6) HBXr.out;have c7:=ah (k:=7) HBXr.out;have c8:=ah (k:=8) HBXr.out;have c9:=ah (k:=9) HBXr.out;simp only[aN]at c0 c1 c2 c3 c4 c5 c6 c7 c8 c9;clear hb1 HBX;have HM3:=ab hmt;clear hmt
   rcases Int.lt_or_le it.mode 0 with h1 | h1
   ·go_wp2_with fail;go_ret;exact⟨an (by rw[HF.out]),HB1.out⟩
   ·rcases Int.lt_or_le 511 it.mode with h2 | h2
    ·go_wp2_with fail;go_ret;exact⟨an (by rw[HF.out]),HB1.out⟩
    ·have h3:it.time<0:=by have:=HM3.out; omega
     go_wp2_with fail;go_ret;exact⟨an (by rw[HF.out]),HB1.out⟩
open Go Go.RowKit Go.Maps
def yn :Prop:= ∀(S:Nat->Prop) (data:List UInt8) (v:Value) (w:World),aD S w v data->Calls Tryz.prog 20 #[v] w fun e w'=>Below w.heap.size w w'/\match bE data with
 | none=>e= .returned (.tuple #[.slice none 0 0, .bool false])
 | some l=> ∃v,e= .returned (.tuple #[v, .bool true])/\ba (w.heap.size<= ·) w' v l
theorem vD (HI:yn) (S:Nat->Prop) (cv:Value) (cs:List (ByteArray×List UInt8)) (r:aG) (w:World) (hc:bt S w cv cs) (hr:aW r):Calls Tryz.prog 88 #[aX r,cv] w (nQ cs r w):=by
 have HB:=ab ((Below.refl w.heap.size w).alloc (Nat.le_refl _) (.cells #[.string r.name, .int .i64 r.gen, .int .i64 r.size] 26));have HC:=ab (hc.below HB.out);have HR:=ab hr;have HII:=ab HI;unfold aX;clear hc hr HI
 go_enter Tryz.func88,Tryz.ntmps88
 go_wp2_with fail;refine(zQ S cv cs r _ HC.out HR.out).mono ?_;rintro e w1 ⟨hb1,hres⟩;have HB1:=ab (ag HB.out hb1);clear hb1
 cases hch:cC cs r with
 | error x=>
  rw[hch]at hres;obtain⟨rfl,hx⟩:=hres;have HN:=ab (show bG cs r= .error x by unfold bG; rw[hch]);have HX:=ab hx;have e1:(x != 0)=true:=by simp[hx]
  clear hch hx;go_wp2_with fail
  go_ret2
  exact⟨HB1.out,by rw[HN.out]; exact⟨rfl,HX.out⟩⟩
 | ok bs=>
  rw[hch]at hres;obtain⟨v,rfl,hv⟩:=hres;have HV:=ab hv;obtain⟨_,a,cap,rfl,hn,hm,-⟩:=hv;unfold maxLen at hm;have HCH:=ab hch;clear hch;go_wp2_with fail;refine(HII.out S bs _ w1 HV.out).mono ?_;rintro e w2 ⟨hb2,hres⟩;have HB2:=ab (ag HB1.out hb2);clear hb2
  cases hit:bE bs with
  | none=>
   rw[hit]at hres;simp only at hres;subst hres;have HN:=ab (show bG cs r= .error 9 by unfold bG; rw[HCH.out]; simp only[hit]);clear hit;go_wp2_with fail
   go_ret2
   exact⟨HB2.out,by rw[HN.out]; exact⟨rfl,by decide⟩⟩
  | some l=>
   rw[hit]at hres;simp only at hres;obtain⟨v,rfl,hv⟩:=hres;have hwz:=HB1.out.size;have HV2:=ab (show ba (w.heap.size<= ·) w2 v l from by
    obtain⟨cells,h1,h2⟩:=hv;exact⟨cells,h1.weak (fun k hk=>Nat.le_trans hwz hk),h2.mono (fun c x _ hx=>hx.same (fun k _ hS=>⟨Nat.le_trans hwz hS,rfl⟩))⟩)
   obtain⟨a2,c2,rfl,-,-,-⟩:=aL.shape hv dO.len;have HN:=ab (show bG cs r= .ok l by unfold bG; rw[HCH.out]; simp only[hit]);clear hit hv;go_wp2_with fail
   go_ret2
   exact⟨HB2.out,by rw[HN.out]; exact⟨_,rfl,HV2.out⟩⟩
end Go.Proofs.YtpffpjbkbaleiaaGreatDoor
namespace Go.Proofs.YtpffpjbkbaleiaaGreatDoor
open Go.RowKit
theorem nX (l:List aE) (b:Bool) (S:Nat->Prop) (v:Value) (w:World) (hv:ba S w v l) (h:cd l=b):Calls Tryz.prog 16 #[v] w fun e w'=>e= .returned (.bool b)/\Below w.heap.size w w':=by
 rw[<-h]; exact Cq xj S l v w hv
theorem GP (k n m:Int) (u:Int) (b:Bool) (t:ByteArray) (w:World):(Instr.field 96 (.agg #[.int .i64 k, .int .u64 u, .int .i64 n, .bool b, .string t, .int .i64 m]) 1).run Tryz.prog w= .ok (.int .u64 u) w:=by kernel_rfl
theorem GQ (k n m:Int) (u:Int) (b:Bool) (t:ByteArray) (w:World):(Instr.field 96 (.agg #[.int .i64 k, .int .u64 u, .int .i64 n, .bool b, .string t, .int .i64 m]) 2).run Tryz.prog w= .ok (.int .i64 n) w:=by kernel_rfl
theorem GR (k n m:Int) (u:Int) (b:Bool) (t:ByteArray) (w:World):(Instr.field 96 (.agg #[.int .i64 k, .int .u64 u, .int .i64 n, .bool b, .string t, .int .i64 m]) 4).run Tryz.prog w= .ok (.string t) w:=by kernel_rfl
theorem iy.same (s:RS):iy s s:=⟨Iff.rfl,fun _=>rfl⟩
theorem sk (data:List UInt8) (most:Nat) (s:RS):(lu data most s).1=⟨5,0,0,false,(lu data most s).1.s,most⟩/\(lu data most s).1.s.size<=most:=by
 refine⟨?_, ?_⟩
 ·unfold lu rr
  split
  ·split<;> rfl
  ·rfl
 ·rw[(wh (data:=data) (most:=most) (iy.same s)).1];exact tS data most s
theorem AV (data:List UInt8) (s:RS):(nz data s).1=⟨1,(nz data s).1.u,0,false,⟨#[]⟩,0⟩:=by
 unfold nz rr
 split
 ·split<;> rfl
 ·rfl
theorem rW (data:List UInt8) (most:Nat) (s:RS):(jG data most s).1=⟨7,0,((jG data most s).1.n.toNat:Int),false,⟨#[]⟩,most⟩/\(jG data most s).1.n.toNat<=most:=by
 refine⟨?_, ?_⟩
 ·unfold jG rr
  split
  ·split
   ·simp
   ·simp
  ·simp
 ·rw[(Fx (data:=data) (most:=most) (iy.same s)).1];have:=oN data most s
  simpa using this
def FH (data:List UInt8) (most:Nat) (s:RS) (rb:Nat) (v:Value) (w:World) (e:Ending) (w':World):Prop:=
 ∃nm s1,(lu data most s).1.s=nm/\(lu data most s).2=s1/\nm.size<=most/\e= .returned (.agg #[.int .i64 5, .int .u64 0, .int .i64 0, .bool false, .string nm, .int .i64 (most:Int)])/\cr w' rb v data s1/\w.grownBy w' (some rb)
theorem GH (rb:Nat) (v:Value) (data:List UInt8) (s:RS) (most:Nat) (w:World) (hr:cr w rb v data s) (hm:most<=32768):
  Calls Tryz.prog 65 #[.pointer (some ⟨rb,0,none⟩), .int .i64 5, .int .i64 (most:Int)] w (FH data most s rb v w):=
 (Gf rb v data most s w hr hm).mono fun _ _ ⟨h1,h2,h3⟩=>⟨_,_,rfl,rfl,(sk data most s).2,by rw[h1,(sk data most s).1]; rfl,h2,h3⟩
def El (data:List UInt8) (s:RS) (rb:Nat) (v:Value) (w:World) (e:Ending) (w':World):Prop:=
 ∃u s1,(nz data s).1.u=u/\(nz data s).2=s1/\u<18446744073709551616/\e= .returned (.agg #[.int .i64 1, .int .u64 (u:Int), .int .i64 0, .bool false, .string ⟨#[]⟩, .int .i64 0])/\cr w' rb v data s1/\w.grownBy w' (some rb)
theorem GV (rb:Nat) (v:Value) (data:List UInt8) (s:RS) (w:World) (hr:cr w rb v data s):
  Calls Tryz.prog 65 #[.pointer (some ⟨rb,0,none⟩), .int .i64 1, .int .i64 0] w (El data s rb v w):=
 (Do rb v data s w hr).mono fun _ _ ⟨h1,h2,h3⟩=>⟨_,_,rfl,rfl,Dn data s,by rw[h1,AV]; rfl,h2,h3⟩
def Fz (data:List UInt8) (most:Nat) (s:RS) (rb:Nat) (v:Value) (w:World) (e:Ending) (w':World):Prop:=
 ∃n s1,(jG data most s).1.n.toNat=n/\(jG data most s).2=s1/\n<=most/\e= .returned (.agg #[.int .i64 7, .int .u64 0, .int .i64 (n:Int), .bool false, .string ⟨#[]⟩, .int .i64 (most:Int)])/\cr w' rb v data s1/\w.grownBy w' (some rb)
theorem GF (rb:Nat) (v:Value) (data:List UInt8) (s:RS) (most:Nat) (w:World) (hr:cr w rb v data s) (hm:most<=32768):
  Calls Tryz.prog 65 #[.pointer (some ⟨rb,0,none⟩), .int .i64 7, .int .i64 (most:Int)] w (Fz data most s rb v w):=
 (Gb rb v data most s w hr hm).mono fun _ _ ⟨h1,h2,h3⟩=>⟨_,_,rfl,rfl,(rW data most s).2,by rw[h1,(rW data most s).1]; rfl,h2,h3⟩
def Eg (data:List UInt8) (s:RS) (rb:Nat) (v:Value) (w:World) (e:Ending) (w':World):Prop:=
 ∃x s1,(fy data s).1=x/\(fy data s).2=s1/\e= .returned (.int .i64 x)/\cr w' rb v data s1/\w.grownBy w' (some rb)
theorem Gu (rb:Nat) (v:Value) (data:List UInt8) (s:RS) (w:World) (hr:cr w rb v data s):
  Calls Tryz.prog 66 #[.pointer (some ⟨rb,0,none⟩)] w (Eg data s rb v w):=
 (jR rb v data s w hr).mono fun _ _ ⟨h1,h2,h3⟩=>⟨_,_,rfl,rfl,h1,h2,h3⟩
theorem yO (n:Nat):(Lit.int .i64 (xh n)).wf=true:=by
 unfold xh
 split
 ·decide
 ·rename_i h;have:wrap64 (n:Int)=n:=by unfold wrap64; omega
  rw[<-this]; exact wrap64_wf _
theorem Fb (data:List UInt8) (s:RS):aW (gP data s).1:=⟨by
 show(vU data s).1.s.size<=_
 rw[(Fy (data:=data) (iy.same s)).1];have:=zg data s
 show(Bz data s).1.length<=_
 unfold maxLen
 omega,yO _,yO _⟩
def BI (data:List UInt8) (s:RS) (rb:Nat) (v:Value) (w:World) (e:Ending) (w':World):Prop:=
 ∃r s1,(gP data s).1=r/\(gP data s).2=s1/\aW r/\e= .returned (aX r)/\cr w' rb v data s1/\w.grownBy w' (some rb)
theorem yX (rb:Nat) (v:Value) (data:List UInt8) (s:RS) (w:World) (hr:cr w rb v data s):
  Calls Tryz.prog 67 #[.pointer (some ⟨rb,0,none⟩)] w (BI data s rb v w):=
 (AB rb v data s w hr).mono fun _ _ ⟨h1,h2,h3⟩=>⟨_,_,rfl,rfl,Fb data s,h1,h2,h3⟩
theorem cr.keep {w1 wc w':World} {rb:Nat} {v:Value} {data:List UInt8} {s s0:RS} (h0:cr w1 rb v data s0) (h:cr wc rb v data s) (hs: ∀k,k<w1.heap.size->w'.heap[k]? =wc.heap[k]?):cr w' rb v data s:=by
 have h1:=h0.lt;have hr0:=h0.row.mono (T:=fun k=>k≠rb/\k<w1.heap.size) (fun k hk hS=>⟨hS,hk⟩) (by omega);obtain⟨_,a0,cap0,hv0,_,_,h00⟩:=hr0;obtain⟨hl,a,cap,hv,hn,hm,h2⟩:=h.row;refine⟨(hs rb h1).trans h.box,⟨hl,a,cap,hv,hn,hm, ?_⟩,h.le,h.small⟩
 rcases h2 with h2 | ⟨bk,o,rfl,hk,hc⟩
 ·exact .inl h2
 ·rcases h00 with h00 | ⟨bk0,o0,rfl,hk0,_⟩
  ·exact .inl h00
  ·rw[hv0]at hv
   cases hv
   refine .inr ⟨bk,o,rfl,hk,fun j u hj=> ?_⟩;rw[<-hc j u hj];exact World.cell?_of_block (hs bk hk0.2)
theorem cr.setOther {w w':World} {rb b k:Nat} {v:Value} {data:List UInt8} {s s0:RS} (h0:cr w rb v data s0) (h:cr w' rb v data s) (hb:w.heap.size<=b) (x:Value):cr (w'.setCell ⟨b,k,none⟩ x) rb v data s:=
 cr.keep h0 h (fun i hi=>Below.heap_setCell _ _ _ _ (by show i≠b; omega))
structure ef (rb ib : Nat) (wr wc : World) (dv : Value) (data : List UInt8) (s : RS) (cs : Array Value) : Prop where
 rd:cr wc rb dv data s
 rd0: ∃s0,cr wr rb dv data s0
 box:wc.heap[ib]? =some (.cells cs 28 (0,0))
 grown:wr.grownBy wc (some rb)
 ge:wr.heap.size<=ib
section
variable {rb ib : Nat} {wr wc w' w2 : World} {dv : Value} {data : List UInt8} {s s' s2 : RS} {cs : Array Value}
theorem ef.lt (h:ef rb ib wr wc dv data s cs):rb<wr.heap.size:=by
 obtain⟨s0,h0⟩:=h.rd0;exact h0.lt
theorem ef.call (h:ef rb ib wr wc dv data s cs) (h1:cr w' rb dv data s') (h2:wc.grownBy w' (some rb)):ef rb ib wr w' dv data s' cs:=
 ⟨h1,h.rd0,dE h2 h.box (by have:=h.lt; have:=h.ge; omega),ak h.grown h2,h.ge⟩
theorem ef.set (h:ef rb ib wr wc dv data s cs) (k:Nat) (x:Value):ef rb ib wr (wc.setCell ⟨ib,k,none⟩ x) dv data s (cs.setIfInBounds k x):=by
 obtain⟨s0,h0⟩:=h.rd0;exact⟨cr.setOther h0 h.rd h.ge x,h.rd0,cI h.box x,bY h.grown h.ge x,h.ge⟩
theorem ef.below (h:ef rb ib wr wc dv data s cs) (hb:Below wc.heap.size wc w'):ef rb ib wr w' dv data s cs:=
 ⟨h.rd.below hb,h.rd0,(hb.block ib ((Array.getElem?_eq_some_iff.1 h.box).1)).trans h.box,ak h.grown (aY hb _),h.ge⟩
theorem ef.start (h0:cr wr rb dv data s) (h1:cr w2 rb dv data s2) (h2:wr.grownBy w2 (some rb)) (cs:Array Value):
  ef rb w2.heap.size wr (w2.alloc (.cells cs 28)) dv data s2 cs:=
 ⟨h1.below ((Below.refl _ _).alloc (Nat.le_refl _) _),⟨s,h0⟩,heap_alloc_new w2 _,ak h2 (aY ((Below.refl _ _).alloc (Nat.le_refl _) _) _),h2.size⟩
theorem ef.cell (h:ef rb ib wr wc dv data s cs) (k:Nat):wc.cell? ⟨ib,k,none⟩=cs[k]? :=ah h.box
theorem ef.free (h:ef rb ib wr wc dv data s cs) (k:Nat):wc.frozen? ⟨ib,k,none⟩=false:=ai h.box
theorem ef.app {r:Option Nat} (h:ef rb ib wr wc dv data s cs) (h2:wc.grownBy w' r) (hr: ∀k,r=some k->ib<k):ef rb ib wr w' dv data s cs:=by
 obtain⟨s0,h0⟩:=h.rd0;have hg:=h.grown.size;have hge:=h.ge;refine⟨cr.keep h0 h.rd (fun k hk=>h2.block k (by omega) (fun e=>by have:=hr k e.symm; omega)),h.rd0, ?_, ?_,h.ge⟩
 ·exact(h2.block ib ((Array.getElem?_eq_some_iff.1 h.box).1) (fun e=>by have:=hr ib e.symm; omega)).trans h.box
 ·refine⟨h2.os.trans h.grown.os,h2.tape.trans h.grown.tape,h2.output.trans h.grown.output,Nat.le_trans hg h2.size,fun k hk hn=> ?_⟩;rw[h2.block k (by omega) (fun e=>by have:=hr k e.symm; omega)];exact h.grown.block k hk hn
end
structure ov (w1 : World) (rb : Nat) (wr : World) (dv v : Value) (data : List UInt8) (s : RS) (l : List aE) : Prop where
 rd:cr wr rb dv data s
 rd1: ∃s0,cr w1 rb dv data s0
 row: ∃cells,wr.ownsRow w1.heap.size 28 10 v l.length cells/\bR (dO (fun k=>w1.heap.size<=k/\v.ownBlock≠some k) wr) cells l
 grown:w1.grownBy wr (some rb)
theorem ov.added {rb ib:Nat} {w1 wr wc w':World} {dv v v':Value} {data:List UInt8} {s s':RS} {l:List aE} {it:aE} {cv:Value} {cells:List Value} (h:ov w1 rb wr dv v data s l) (hm:ef rb ib wr wc dv data s' (cP cv it).toArray)
  (hcv:aM (wr.heap.size<= ·) wc cv it.chunks) (hok:cB it) (hrow:bR (dO (fun k=>w1.heap.size<=k/\v.ownBlock≠some k) wr) cells l) (hown:wr.ownsRow w1.heap.size 28 10 v l.length cells)
  (h1:w'.ownsRow w1.heap.size 28 10 v' (l.length+1) (cells++cP cv it)) (h2:wc.grownBy w' v.ownBlock) (h3: ∀k,v'.ownBlock=some k->v.ownBlock=some k\/wc.heap.size<=k):ov w1 rb w' dv v' data s' (l++[it]):=by
 have hlt:=hm.lt;have hgs:=hm.grown.size;have hg1:=h.grown.size;obtain⟨s0,h0⟩:=h.rd1;have hlt1:=h0.lt;have hown0: ∀k,v.ownBlock=some k->w1.heap.size<=k/\k<wr.heap.size:=fun k hk=>hown.lt k hk
 refine⟨?_,h.rd1,⟨cells++cP cv it,by simpa using h1, ?_⟩, ?_⟩
 ·exact cr.keep h0 hm.rd (fun k hk=>h2.block k (by omega) (fun e=>by have:=hown0 k e.symm; omega))
 ·refine bR.snoc (hrow.mono (fun c x _ hx=>hx.same (fun k hk hS=>⟨⟨hS.1,fun e=> ?_⟩, ?_⟩))) ⟨cv,rfl,hcv.same (fun k hk hS=>⟨⟨by omega,fun e=> ?_⟩, ?_⟩),hok⟩
  ·rcases h3 k e with e | e
   ·have:=hown0 k e; omega
   ·omega
  ·exact h2.block k hk (fun e=>by have:=hown0 k e.symm; omega)
  ·rcases h3 k e with e | e
   ·exact hS.2 e
   ·omega
  ·rw[h2.block k (by omega) (fun e=>hS.2 e.symm)];exact hm.grown.block k hk (by simp; omega)
 ·refine⟨h2.os.trans (hm.grown.os.trans h.grown.os),h2.tape.trans (hm.grown.tape.trans h.grown.tape),h2.output.trans (hm.grown.output.trans h.grown.output),Nat.le_trans hg1 (Nat.le_trans hgs h2.size),fun k hk hn=> ?_⟩;rw[h2.block k (by omega) (fun e=>by have:=hown0 k e.symm; omega),hm.grown.block k (by omega) hn];exact h.grown.block k hk hn
theorem xu {data:List UInt8} (hb: ¬32768<data.length) {n:Nat} {s1:RS} (h1:(jG data 4096 ⟨0,0,0⟩).1.n.toNat=n) (h2:(jG data 4096 ⟨0,0,0⟩).2=s1):bE data=(cw data n [] s1).bind fun p=>if fh data p.2=0/\cd p.1=true then some p.1 else none:=by
 rw[<-CO]; unfold CN; rw[if_neg hb,h1,h2]
theorem vg {data:List UInt8} {n:Nat} {l:List aE} {s:RS} (he:s.err=0):cw data (n+1) l s=(kM data s).bind fun p=>cw data n (l++[p.1]) p.2:=by rw[cw,if_pos he]
theorem vf {data:List UInt8} {n:Nat} {l:List aE} {s:RS} (he: ¬s.err=0):cw data n l s=some (l,s):=by
 cases n with
 | zero=>rfl
 | succ n=>rw[cw,if_neg he]
theorem uq {data:List UInt8} {n:Nat} {l:List aG} {s:RS} (he: ¬s.err=0):bW data n l s=(l,s):=by
 cases n with
 | zero=>rfl
 | succ n=>rw[bW,if_neg he]
theorem Cy {data:List UInt8} {s s2 s3 s4 s5:RS} {nm:ByteArray} {kd md:Int} {td:Nat} (a1:(lu data 64 s).1.s=nm) (a2:(lu data 64 s).2=s2) (b1:(fy data s2).1=kd) (b2:(fy data s2).2=s3) (c1:(fy data s3).1=md) (c2:(fy data s3).2=s4) (d1:(nz data s4).1.u=td) (d2:(nz data s4).2=s5):kM data s=mB data nm kd md td s5:=by
 unfold kM; rw[a1,a2,b1,b2,c1,c2,d1,d2]
theorem nj {data:List UInt8} {s s1 s2:RS} {nm:ByteArray} {kd md td:Int} {n:Nat} {ch:List aG} (hk:kd=1) (h1:(jG data 32768 s).1.n.toNat=n) (h2:(jG data 32768 s).2=s1) (h3:bW data n [] s1=(ch,s2)):cY data nm kd md td s=(⟨nm,kd,md,td,dt ch,⟨#[]⟩,ch,bi⟩,s2):=by
 unfold cY; rw[if_pos hk,h1,h2,h3]
theorem xk {data:List UInt8} {s s1:RS} {nm:ByteArray} {kd md td:Int} {r:aG} (hk:kd=2) (h1:(gP data s).1=r) (h2:(gP data s).2=s1):cY data nm kd md td s=(⟨nm,kd,md,td,0,⟨#[]⟩,[],r⟩,s1):=by
 unfold cY; rw[if_neg (by omega),if_pos hk,h1,h2]
theorem uU {data:List UInt8} {s s1:RS} {nm lk:ByteArray} {kd md td:Int} (hk1: ¬kd=1) (hk2: ¬kd=2) (h1:(lu data 512 s).1.s=lk) (h2:(lu data 512 s).2=s1):cY data nm kd md td s=(⟨nm,kd,md,td,0,lk,[],bi⟩,s1):=by
 unfold cY; rw[if_neg hk1,if_neg hk2,h1,h2]
theorem ur {data:List UInt8} {n:Nat} {l:List aG} {s s1:RS} {r:aG} (he:s.err=0) (h1:(gP data s).1=r) (h2:(gP data s).2=s1):bW data (n+1) l s=bW data n (l++[r]) s1:=by rw[bW,if_pos he,h1,h2]
theorem zh {ch:List aG} {r:aG} (h: ∀x∈ch,aW x) (hr:aW r): ∀x∈ch++[r],aW x:=by
 intro x hx
 rcases List.mem_append.1 hx with hx | hx
 ·exact h x hx
 ·simp only[List.mem_singleton]at hx; subst hx; exact hr
def Gr (data:List UInt8) (w:World) (e:Ending) (w':World):Prop:=Below w.heap.size w w'/\match bE data with
 | none=>e= .returned (.tuple #[.slice none 0 0, .bool false])
 | some l=> ∃v,e= .returned (.tuple #[v, .bool true])/\ba (w.heap.size<= ·) w' v l
theorem uW (S:Nat->Prop) (data:List UInt8) (v:Value) (w:World) (hv:aD S w v data):Calls Tryz.prog 20 #[v] w (Gr data w):=by
 obtain⟨_,a,cap,rfl,hn,hm,-⟩:=id hv;unfold maxLen at hm;have HV:=ab hv;clear hv
 by_cases hbig:32768<data.length
 ·have HP:=ab (show bE data=none from pw hbig)
  go_enter Tryz.func20,Tryz.ntmps20
  go_wp2_with fail
  go_ret2
  exact⟨Below.refl _ _,by rw[HP.out]; rfl⟩
 ·have HBIG:=ab hbig;have hf1:=GP;have hf2:=GQ;have hf4:=GR;obtain⟨w1,hw1⟩: ∃w1:World,w1=w.alloc (.cells #[.slice a data.length cap, .int .i64 0, .int .i64 0, .int .i64 0] 112):=⟨_,rfl⟩;have hb1:Below w.heap.size w w1:=by rw[hw1]; exact(Below.refl _ _).alloc (Nat.le_refl _) _
  have HB1:=ab hb1;have HRD1:=ab (show cr w1 w.heap.size (.slice a data.length cap) data ⟨0,0,0⟩from⟨by rw[hw1]; exact heap_alloc_new w _,(aS.mono HV.out (T:=(· ≠w.heap.size)) (fun k hk _=>by omega) (by omega)).below (by omega) hb1,Nat.zero_le _,by omega⟩);have HO0:=ab (World.ownsRow_lit (e:=28) (size:=10) (base:=w1.heap.size) w1 #[] 0 (Nat.le_refl _) (Nat.zero_le _) (by simp))
  have HW1:=ab hw1;clear hb1 hw1
  go_enter Tryz.func20,Tryz.ntmps20
  go_wp2_with fail;rw[<-HW1.out];have hsz1:w.heap.size<w1.heap.size:=HRD1.out.lt;refine(GF w.heap.size _ data ⟨0,0,0⟩ 4096 _ (HRD1.out.below ((Below.refl _ _).alloc (Nat.le_refl _) _)) (by omega)).mono ?_;rintro e w2 ⟨n,s1,hn1,hn2,hnm,rfl,h1,h2⟩;have HFIN:=ab (xu hbig hn1 hn2);obtain⟨FIN,hfin⟩: ∃FIN,FIN=cw data n [] s1:=⟨_,rfl⟩;rw[<-hfin]at HFIN;have HINV0:=ab (show ov w1 w.heap.size w2 (.slice a data.length cap) (.slice (some ⟨w1.heap.size,0,none⟩) 0 0) data s1 []from
   ⟨h1,⟨_,HRD1.out⟩,⟨[],HO0.out.kept h2 (.inr (fun e=>by simp[Value.ownBlock]at e; omega)),rfl⟩,ak (aY ((Below.refl _ _).alloc (Nat.le_refl _) _) _) h2⟩)
  have HFI:=ab hfin.symm;obtain⟨rb,hrb⟩: ∃rb,rb=w.heap.size:=⟨_,rfl⟩;have HRB:=ab hrb;have HZ:=ab (show w1.heap.size=rb+1 by rw[HW1.out,hrb]; simp);have hge:w.heap.size<=rb:=by omega
  have hsz2:rb<w1.heap.size:=by omega
  rw[<-hrb]at HINV0 HRD1 ⊢;clear hn1 hn2 h1 h2 hfin hbig hrb;go_wp2_with fail
  go_loopw [5,7] (fun o i wr=> ∃(k:Nat) (l:List aE) (s:RS),k<=n/\i= .int .i64 k/\l.length=k/\cw data (n-k) l s=FIN/\ov w1 rb wr (.slice a data.length cap) o data s l) (fun _ i _=>n-(intOf i).toNat)
  case atStart=>exact⟨0,[],s1,Nat.zero_le _,rfl,rfl,HFI.out,by have h:=HINV0.out; rw[HZ.out]at h; exact h⟩
  case round=>
   obtain⟨k,l,s,hk,rfl,hlk,hit,hinv⟩:=hrel;have HIT:=ab hit;have HINV:=ab hinv;have HLK:=ab hlk;obtain⟨cells,hown,hrow⟩:=hinv.row;have HOWN:=ab hown;have HROW:=ab hrow;obtain⟨av,cv0,hvs,hvn,hvm⟩:=aj hown;have HRD:=ab hinv.rd;subst hvs;have r3:=ah (k:=3) hinv.rd.box;simp only[aN]at r3;clear hit hinv hlk hown hrow
   by_cases hlt:k<n
   ·by_cases he:s.err=0
    ·have HE:=ab he;rw[he]at r3;have HIN:=ab (show(kM data s).bind (fun p=>cw data (n-(k+1)) (l++[p.1]) p.2)=FIN by rw[<-HIT.out,show n-k=n-(k+1)+1 by omega,vg he]);clear he;go_wp2_with fail;refine(GH rb _ data s 64 _ HRD.out (by omega)).mono ?_;rintro e w3 ⟨nm,s2,ha1,ha2,hnms,rfl,h1,h2⟩;have HA1:=ab ha1;have HA2:=ab ha2;have HR3:=ab h1
     have HG3:=ab h2;clear ha1 ha2 h1 h2 r3;go_wp2_with fail;refine(Gu rb _ data s2 _ HR3.out).mono ?_;rintro e w4 ⟨kd,s3,hb1,hb2,rfl,h1,h2⟩;have HB_1:=ab hb1;have HB_2:=ab hb2;have HR4:=ab h1;have HG4:=ab (ak HG3.out h2);clear hb1 hb2 h1 h2 HR3 HG3;go_wp2_with fail;refine(Gu rb _ data s3 _ HR4.out).mono ?_;rintro e w5 ⟨md,s4,hc1,hc2,rfl,h1,h2⟩;have HC1:=ab hc1
     have HC2:=ab hc2;have HR5:=ab h1;have HG5:=ab (ak HG4.out h2);clear hc1 hc2 h1 h2 HR4 HG4;go_wp2_with fail;have HM0:=ab (ef.start HRD.out HR5.out HG5.out #[.string nm, .int .i64 kd, .int .i64 md, .int .i64 0, .int .i64 0, .string ⟨#[]⟩, .slice none 0 0, .string ⟨#[]⟩, .int .i64 0, .int .i64 0]);obtain⟨ib,hib⟩: ∃ib,ib=w5.heap.size:=⟨_,rfl⟩;rw[<-hib]at HM0 ⊢;have HIB:=ab hib
     clear hib;have hibr:rb<ib:=Nat.lt_of_lt_of_le HM0.out.lt HM0.out.ge;refine(GV rb _ data s4 _ HM0.out.rd).mono ?_;rintro e w6 ⟨td,s5,hd1,hd2,htd,rfl,h1,h2⟩;have HM1:=ab (HM0.out.call h1 h2);have HIR:=ab (Cy HA1.out HA2.out HB_1.out HB_2.out HC1.out HC2.out hd1 hd2);have ck:=HM1.out.cell 3;have fk:=HM1.out.free 3;simp only[aN]at ck;clear hd1 hd2 h1 h2 HM0 HR5 HG5
     by_cases hbg:9223372036854775807<td
     ·have HNO:=ab (show bE data=none by
       have h1:=HIN.out;rw[HIR.out]at h1;unfold mB at h1;rw[if_pos hbg]at h1;rw[HFIN.out,<-h1]; rfl)
      go_wp2_with fail
      go_ret2
      have hfb:Below w.heap.size w w6:=HB1.out.trans ((bg.of_grown (S:=fun k=>k=rb) (ak HINV.out.grown HM1.out.grown) (fun k hk=>by cases hk; rfl)).below HB1.out.size (fun k hk=>by subst hk; exact hge));exact⟨hfb,by rw[HNO.out]; rfl⟩
     ·have HIR2:=ab (show kM data s=some (cY data nm kd md td s5) by rw[HIR.out]; unfold mB; rw[if_neg hbg]);have HTV:=ab (show wrap64 (td:Int)=(td:Int) by unfold wrap64; omega)
      go_upto_region 14 with(fail)
      obtain⟨w7,hw7⟩: ∃wx:World,wx=w6.setCell ⟨ib,3,none⟩ (.int .i64 (td:Int)):=⟨_,rfl⟩;rw[<-hw7];have m7:=HM1.out.set 3 (.int .i64 (td:Int));rw[<-hw7]at m7;simp only[List.setIfInBounds_toArray,List.set_cons_succ,List.set_cons_zero]at m7;have HM2:=ab m7;clear m7 hw7 ck fk HM1;have ck:=HM2.out.cell 1;simp only[aN]at ck
      by_cases hk1:kd=1
      ·have e1:(kd == 1)=true:=by simp[hk1]
       have HK1:=ab hk1;clear hk1;go_wp2_with fail;refine(GF rb _ data s5 32768 _ HM2.out.rd (by omega)).mono ?_;rintro e w8 ⟨n2,s6,hp1,hp2,hn2,rfl,h1,h2⟩;have HP1:=ab hp1;have HP2:=ab hp2;have HM3:=ab (HM2.out.call h1 h2);obtain⟨CF,hcf⟩: ∃CF,CF=bW data n2 [] s6:=⟨_,rfl⟩;have HCF:=ab hcf;clear hp1 hp2 h1 h2 ck HM2 hcf;obtain⟨wo,hwo⟩: ∃wo:World,wo=wr:=⟨_,rfl⟩
       subst hwo;go_wp2_with fail
       go_loopw [11] (fun i wq=> ∃(j:Nat) (ch:List aG) (s7:RS) (cv:Value),j<=n2/\i= .int .i64 j/\ch.length=j/\bW data (n2-j) ch s7=CF/\(∀x∈ch,aW x)/\ef rb ib wo wq (.slice a data.length cap) data s7 #[.string nm, .int .i64 kd, .int .i64 md, .int .i64 (td:Int), .int .i64 (dt ch), .string ⟨#[]⟩,cv, .string ⟨#[]⟩, .int .i64 0, .int .i64 0]/\wq.ownsRow (ib+1) 26 3 cv ch.length (ch.flatMap cG)) (fun i _=>n2-(intOf i).toNat)
       case atStart=>exact⟨0,[],s6, .slice none 0 0,Nat.zero_le _,rfl,rfl,HCF.out.symm,by simp,HM3.out,World.ownsRow_nil _ _ _ _⟩
       case round=>
        obtain⟨j,ch,s7,cv,hj,rfl,hlj,hch,hcok,hmid,how⟩:=hrel;have HLJ:=ab hlj;have HCH:=ab hch;have HCO:=ab hcok;have HMQ:=ab hmid;have HOQ:=ab how;obtain⟨a6,c6,hv6,hvn6,hvm6⟩:=aj how;subst hv6;have r3:=ah (k:=3) hmid.rd.box;simp only[aN]at r3;clear hlj hch hcok hmid how
        by_cases hlt2:j<n2
        ·by_cases he7:s7.err=0
         ·rw[he7]at r3;have HE7:=ab he7;clear he7;go_wp2_with fail;refine(yX rb _ data s7 _ HMQ.out.rd).mono ?_;rintro e wb ⟨r,s8,hq1,hq2,hrok,rfl,h1,h2⟩;have HRO:=ab hrok;have HNC:=ab (show bW data (n2-(j+1)) (ch++[r]) s8=CF by rw[<-HCH.out,show n2-j=n2-(j+1)+1 by omega,ur HE7.out hq1 hq2]);have HTS:=ab (kG ch r);have HMB:=ab (HMQ.out.call h1 h2)
          have HOB:=ab (HOQ.out.kept h2 (.inr (by
           intro e;have:=(HOQ.out.lt _ e).1
           omega)))
          unfold aX;clear hq1 hq2 h1 h2 hrok r3 HMQ
          go_upto_region 22 with(fail)
          obtain⟨wc,hwc⟩: ∃wx:World,wx=wb.alloc (.cells #[.string r.name, .int .i64 r.gen, .int .i64 r.size] 26):=⟨_,rfl⟩;rw[<-hwc];have hbwc:Below wb.heap.size wb wc:=by rw[hwc]; exact(Below.refl _ _).alloc (Nat.le_refl _) _
          have HXC:=ab (show wc.heap[wb.heap.size]? =some (.cells #[.string r.name, .int .i64 r.gen, .int .i64 r.size] 26 (0,0)) by rw[hwc]; exact heap_alloc_new wb _);have HMC:=ab (HMB.out.below hbwc);have HOC:=ab (pM HOB.out hbwc);have hbz2:ib+1<=wc.heap.size:=(Array.getElem?_eq_some_iff.1 HMC.out.box).1;have hbx3:wb.heap.size<wc.heap.size:=lt_of_block HXC.out;have HOL:=ab (show ∀k,(Value.slice a6 ch.length c6).ownBlock=some k->k<wb.heap.size from fun k hk=>(HOB.out.lt k hk).2)
          have hibw:ib<wb.heap.size:=(Array.getElem?_eq_some_iff.1 HMB.out.box).1;have y4:=HMC.out.cell 4;have y6:=HMC.out.cell 6;have f6:=HMC.out.free 6;simp only[aN]at y4 y6;have x0:=ah (k:=0) HXC.out;have x1:=ah (k:=1) HXC.out;have x2:=ah (k:=2) HXC.out;simp only[aN]at x0 x1 x2;clear hwc hbwc HMB HOB
          go_upto_region 23 with(at_builtin; go_must (refine aK Tryz.appRefs rfl _ _ rfl (ib+1) (.slice a6 ch.length c6) ch.length (ch.flatMap cG) rfl wc [.string r.name, .int .i64 r.gen, .int .i64 r.size] _ rfl rfl (gL (r:=r)) HOC.out (by have:=HLJ.out; omega) hbz2 ?_); intro v' wd hown' hgrow' _ hpl; have HOD:=ab hown'; have HGD:=ab hgrow'; have HPD:=ab hpl; have HMD:=ab (HMC.out.app hgrow' (fun k hk=>by have:=(HOC.out.lt k hk).1; omega)); have k4:=HMD.out.cell 4; have k6:=HMD.out.cell 6; have g6:=HMD.out.free 6; simp only[aN]at k4 k6; obtain⟨ae,ce,rfl,-,-⟩:=aj hown'; clear hown' hgrow' hpl)
          have HXD:=ab ((HGD.out.block wb.heap.size hbx3 (fun e=>by have:=HOL.out _ e.symm; omega)).trans HXC.out);have HOD2:=ab (show wd.ownsRow (ib+1) 26 3 (.slice ae (ch.length+1) ce) (ch++[r]).length ((ch++[r]).flatMap cG) by rw[List.length_append,List.flatMap_append]; simpa [cG]using HOD.out);obtain⟨wf,hwf⟩: ∃wx:World,wx=wd.setCell ⟨ib,6,none⟩ (.slice ae (ch.length+1) ce):=⟨_,rfl⟩
          rw[<-hwf];have m6:=HMD.out.set 6 (.slice ae (ch.length+1) ce);rw[<-hwf]at m6;simp only[List.setIfInBounds_toArray,List.set_cons_succ,List.set_cons_zero]at m6;have HMF:=ab m6;have HXF:=ab (show wf.heap[wb.heap.size]? =some _ by rw[hwf]; exact bn HXD.out (by omega) _);have HOF:=ab (show wf.ownsRow (ib+1) 26 3 (.slice ae (ch.length+1) ce) (ch++[r]).length ((ch++[r]).flatMap cG) by rw[hwf]; exact HOD2.out.kept (aF _ _ _ _) (.inr (by
           intro e;have:=(HOD2.out.lt _ e).1
           omega)))
          clear m6 hwf k4 k6 g6 y4 y6 f6 x0 x1 x2;have k4:=HMF.out.cell 4;have g4:=HMF.out.free 4;have x2:=ah (k:=2) HXF.out;simp only[aN]at k4 x2;go_wp2_with fail
          go_roundw
          case rel=>
           have m4:=HMF.out.set 4 (.int .i64 (wrap64 (dt ch+r.size)));simp only[List.setIfInBounds_toArray,List.set_cons_succ,List.set_cons_zero]at m4;refine⟨j+1,ch++[r],s8, .slice ae (ch.length+1) ce,by omega,by go_num,by simp[HLJ.out],HNC.out,zh HCO.out HRO.out,by rw[HTS.out]; exact m4,HOF.out.kept (aF _ _ _ _) (.inr (by
            intro e;have:=(HOF.out.lt _ e).1
            omega))⟩
          case measure=>simp[intOf]; omega
         ·have e7:(s7.err == 0)=false:=by simp[he7]
          have HFC:=ab (show bW data n2 [] s6=(ch,s7) by rw[<-HCF.out,<-HCH.out]; exact uq he7);clear he7;have HIT2:=ab (HIR2.out.trans (congrArg some (nj HK1.out HP1.out HP2.out HFC.out)));have HNX:=ab (show cw data (n-(k+1)) (l++[⟨nm,kd,md,td,dt ch,⟨#[]⟩,ch,bi⟩]) s7=FIN by have h1:=HIN.out; rw[HIT2.out]at h1; exact h1);have HOK:=ab (show cB ⟨nm,kd,md,td,dt ch,⟨#[]⟩,ch,bi⟩from⟨by show nm.size<=_; unfold maxLen; omega,by show ByteArray.size ⟨_⟩<=_; unfold maxLen; simp[ByteArray.size],gG⟩)
          have HCV:=ab (show aM (wo.heap.size<= ·) wr (.slice a6 ch.length c6) ch from aM.same (dr HOQ.out HCO.out) (fun k hk hS=>⟨by have:=HMQ.out.ge; have:=hS.1; show wo.heap.size<=k; omega,rfl⟩));have d0:=HMQ.out.cell 0;have d1:=HMQ.out.cell 1;have d2:=HMQ.out.cell 2;have d3:=HMQ.out.cell 3;have d4:=HMQ.out.cell 4;have d5:=HMQ.out.cell 5;have d6:=HMQ.out.cell 6
          have d7:=HMQ.out.cell 7;have d8:=HMQ.out.cell 8;have d9:=HMQ.out.cell 9;simp only[aN]at d0 d1 d2 d3 d4 d5 d6 d7 d8 d9;have HOC:=ab (HOWN.out.kept HMQ.out.grown (.inr (by
           intro e;have:=(HOWN.out.lt _ e).1
           omega)))
          have hbz:w1.heap.size<=wr.heap.size:=Nat.le_trans HINV.out.grown.size HMQ.out.grown.size;have hlen:l.length<4096:=by have:=HLK.out; omega
          go_wp2_with (at_builtin; go_must (refine aK Tryz.appItems rfl _ _ rfl w1.heap.size (.slice av l.length cv0) l.length cells rfl wr [.string nm, .int .i64 kd, .int .i64 md, .int .i64 (td:Int), .int .i64 (dt ch), .string (⟨#[]⟩), .slice a6 ch.length c6, .string ⟨#[]⟩, .int .i64 0, .int .i64 0] _ rfl rfl (dV (it:=⟨nm,kd,md,td,dt ch,⟨#[]⟩,ch,bi⟩)) HOC.out (by omega) hbz ?_); intro v' we hown' hgrow' _ hpl; have HIE:=ab (HINV.out.added (it:=⟨nm,kd,md,td,dt ch,⟨#[]⟩,ch,bi⟩) HMQ.out HCV.out HOK.out HROW.out HOWN.out hown' hgrow' hpl); obtain⟨ae,ce,rfl,-,-⟩:=aj hown'; clear hown' hgrow' hpl)
          go_roundw
          case rel=>exact⟨k+1,l++[⟨nm,kd,md,td,dt ch,⟨#[]⟩,ch,bi⟩],s7,by omega,by go_num,by simp[HLK.out],HNX.out,HIE.out⟩
          case measure=>simp[intOf]; omega
        ·obtain rfl:j=n2:=by omega
         have HFC:=ab (show bW data j [] s6=(ch,s7) by rw[<-HCF.out,<-HCH.out,Nat.sub_self]; rfl);have HIT2:=ab (HIR2.out.trans (congrArg some (nj HK1.out HP1.out HP2.out HFC.out)));have HNX:=ab (show cw data (n-(k+1)) (l++[⟨nm,kd,md,td,dt ch,⟨#[]⟩,ch,bi⟩]) s7=FIN by have h1:=HIN.out; rw[HIT2.out]at h1; exact h1);have HOK:=ab (show cB ⟨nm,kd,md,td,dt ch,⟨#[]⟩,ch,bi⟩from⟨by show nm.size<=_; unfold maxLen; omega,by show ByteArray.size ⟨_⟩<=_; unfold maxLen; simp[ByteArray.size],gG⟩)
         have HCV:=ab (show aM (wo.heap.size<= ·) wr (.slice a6 ch.length c6) ch from aM.same (dr HOQ.out HCO.out) (fun k hk hS=>⟨by have:=HMQ.out.ge; have:=hS.1; show wo.heap.size<=k; omega,rfl⟩));have d0:=HMQ.out.cell 0;have d1:=HMQ.out.cell 1;have d2:=HMQ.out.cell 2;have d3:=HMQ.out.cell 3;have d4:=HMQ.out.cell 4;have d5:=HMQ.out.cell 5;have d6:=HMQ.out.cell 6
         have d7:=HMQ.out.cell 7;have d8:=HMQ.out.cell 8;have d9:=HMQ.out.cell 9;simp only[aN]at d0 d1 d2 d3 d4 d5 d6 d7 d8 d9;have HOC:=ab (HOWN.out.kept HMQ.out.grown (.inr (by
          intro e;have:=(HOWN.out.lt _ e).1
          omega)))
         have hbz:w1.heap.size<=wr.heap.size:=Nat.le_trans HINV.out.grown.size HMQ.out.grown.size;have hlen:l.length<4096:=by have:=HLK.out; omega
         go_wp2_with (at_builtin; go_must (refine aK Tryz.appItems rfl _ _ rfl w1.heap.size (.slice av l.length cv0) l.length cells rfl wr [.string nm, .int .i64 kd, .int .i64 md, .int .i64 (td:Int), .int .i64 (dt ch), .string (⟨#[]⟩), .slice a6 ch.length c6, .string ⟨#[]⟩, .int .i64 0, .int .i64 0] _ rfl rfl (dV (it:=⟨nm,kd,md,td,dt ch,⟨#[]⟩,ch,bi⟩)) HOC.out (by omega) hbz ?_); intro v' we hown' hgrow' _ hpl; have HIE:=ab (HINV.out.added (it:=⟨nm,kd,md,td,dt ch,⟨#[]⟩,ch,bi⟩) HMQ.out HCV.out HOK.out HROW.out HOWN.out hown' hgrow' hpl); obtain⟨ae,ce,rfl,-,-⟩:=aj hown'; clear hown' hgrow' hpl)
         go_roundw
         case rel=>exact⟨k+1,l++[⟨nm,kd,md,td,dt ch,⟨#[]⟩,ch,bi⟩],s7,by omega,by go_num,by simp[HLK.out],HNX.out,HIE.out⟩
         case measure=>simp[intOf]; omega
      ·have e1:(kd == 1)=false:=by simp[hk1]
       by_cases hk2:kd=2
       ·have e2:(kd == 2)=true:=by simp[hk2]
        have HK2:=ab hk2;clear hk1 hk2;go_wp2_with fail;refine(yX rb _ data s5 _ HM2.out.rd).mono ?_;rintro e wa ⟨r,s6,hq1,hq2,hrok,rfl,h1,h2⟩;have HRO:=ab hrok;have HIT2:=ab (HIR2.out.trans (congrArg some (xk HK2.out hq1 hq2)));have HM3:=ab (HM2.out.call h1 h2);have c7:=HM3.out.cell 7;have c8:=HM3.out.cell 8;have c9:=HM3.out.cell 9;have f7:=HM3.out.free 7;have f8:=HM3.out.free 8
        have f9:=HM3.out.free 9;simp only[aN]at c7 c8 c9;unfold aX;clear hq1 hq2 h1 h2 hrok ck
        go_upto_region 26 with(fail)
        obtain⟨wb,hwb⟩: ∃wx:World,wx=((wa.setCell ⟨ib,7,none⟩ (.string r.name)).setCell ⟨ib,8,none⟩ (.int .i64 r.gen)).setCell ⟨ib,9,none⟩ (.int .i64 r.size):=⟨_,rfl⟩;rw[<-hwb];have m4:=((HM3.out.set 7 (.string r.name)).set 8 (.int .i64 r.gen)).set 9 (.int .i64 r.size);rw[<-hwb]at m4;simp only[List.setIfInBounds_toArray,List.set_cons_succ,List.set_cons_zero]at m4;have HM8:=ab m4
        have HNX:=ab (show cw data (n-(k+1)) (l++[⟨nm,kd,md,td,0,⟨#[]⟩,[],r⟩]) s6=FIN by have h1:=HIN.out; rw[HIT2.out]at h1; exact h1);have HOK:=ab (show cB ⟨nm,kd,md,td,0,⟨#[]⟩,[],r⟩from⟨by show nm.size<=_; unfold maxLen; omega,by show ByteArray.size ⟨_⟩<=_; unfold maxLen; simp[ByteArray.size],HRO.out⟩);have HCV:=ab (show aM (wr.heap.size<= ·) wb (.slice none 0 0) []from aL.nil)
        clear m4 hwb c7 c8 c9 f7 f8 f9 HM3 HM2;have d0:=HM8.out.cell 0;have d1:=HM8.out.cell 1;have d2:=HM8.out.cell 2;have d3:=HM8.out.cell 3;have d4:=HM8.out.cell 4;have d5:=HM8.out.cell 5;have d6:=HM8.out.cell 6;have d7:=HM8.out.cell 7;have d8:=HM8.out.cell 8;have d9:=HM8.out.cell 9;simp only[aN]at d0 d1 d2 d3 d4 d5 d6 d7 d8 d9;have HOC:=ab (HOWN.out.kept HM8.out.grown (.inr (by
         intro e;have:=(HOWN.out.lt _ e).1
         omega)))
        have hbz:w1.heap.size<=wb.heap.size:=Nat.le_trans HINV.out.grown.size HM8.out.grown.size;have hlen:l.length<4096:=by have:=HLK.out; omega
        go_wp2_with (at_builtin; go_must (refine aK Tryz.appItems rfl _ _ rfl w1.heap.size (.slice av l.length cv0) l.length cells rfl wb [.string nm, .int .i64 kd, .int .i64 md, .int .i64 (td:Int), .int .i64 (0), .string (⟨#[]⟩), .slice none 0 0, .string r.name, .int .i64 r.gen, .int .i64 r.size] _ rfl rfl (dV (it:=⟨nm,kd,md,td,0,⟨#[]⟩,[],r⟩)) HOC.out (by omega) hbz ?_); intro v' we hown' hgrow' _ hpl; have HIE:=ab (HINV.out.added (it:=⟨nm,kd,md,td,0,⟨#[]⟩,[],r⟩) HM8.out HCV.out HOK.out HROW.out HOWN.out hown' hgrow' hpl); obtain⟨ae,ce,rfl,-,-⟩:=aj hown'; clear hown' hgrow' hpl)
        go_roundw
        case rel=>exact⟨k+1,l++[⟨nm,kd,md,td,0,⟨#[]⟩,[],r⟩],s6,by omega,by go_num,by simp[HLK.out],HNX.out,HIE.out⟩
        case measure=>simp[intOf]; omega
       ·have e2:(kd == 2)=false:=by simp[hk2]
        have HK1:=ab hk1;have HK2:=ab hk2;clear hk1 hk2;go_wp2_with fail;refine(GH rb _ data s5 512 _ HM2.out.rd (by omega)).mono ?_;rintro e wa ⟨lk,s6,hq1,hq2,hlks,rfl,h1,h2⟩;have HIT2:=ab (HIR2.out.trans (congrArg some (uU HK1.out HK2.out hq1 hq2)));have HM3:=ab (HM2.out.call h1 h2);have c5:=HM3.out.cell 5;have f5:=HM3.out.free 5;simp only[aN]at c5;clear hq1 hq2 h1 h2 ck
        go_upto_region 26 with(fail)
        obtain⟨wb,hwb⟩: ∃wx:World,wx=wa.setCell ⟨ib,5,none⟩ (.string lk):=⟨_,rfl⟩;rw[<-hwb];have m4:=HM3.out.set 5 (.string lk);rw[<-hwb]at m4;simp only[List.setIfInBounds_toArray,List.set_cons_succ,List.set_cons_zero]at m4;have HM8:=ab m4;have HNX:=ab (show cw data (n-(k+1)) (l++[⟨nm,kd,md,td,0,lk,[],bi⟩]) s6=FIN by have h1:=HIN.out; rw[HIT2.out]at h1; exact h1)
        have HOK:=ab (show cB ⟨nm,kd,md,td,0,lk,[],bi⟩from⟨by show nm.size<=_; unfold maxLen; omega,by show lk.size<=_; unfold maxLen; omega,gG⟩);have HCV:=ab (show aM (wr.heap.size<= ·) wb (.slice none 0 0) []from aL.nil);clear m4 hwb c5 f5 HM3 HM2;have d0:=HM8.out.cell 0;have d1:=HM8.out.cell 1;have d2:=HM8.out.cell 2;have d3:=HM8.out.cell 3;have d4:=HM8.out.cell 4
        have d5:=HM8.out.cell 5;have d6:=HM8.out.cell 6;have d7:=HM8.out.cell 7;have d8:=HM8.out.cell 8;have d9:=HM8.out.cell 9;simp only[aN]at d0 d1 d2 d3 d4 d5 d6 d7 d8 d9;have HOC:=ab (HOWN.out.kept HM8.out.grown (.inr (by
         intro e;have:=(HOWN.out.lt _ e).1
         omega)))
        have hbz:w1.heap.size<=wb.heap.size:=Nat.le_trans HINV.out.grown.size HM8.out.grown.size;have hlen:l.length<4096:=by have:=HLK.out; omega
        go_wp2_with (at_builtin; go_must (refine aK Tryz.appItems rfl _ _ rfl w1.heap.size (.slice av l.length cv0) l.length cells rfl wb [.string nm, .int .i64 kd, .int .i64 md, .int .i64 (td:Int), .int .i64 (0), .string (lk), .slice none 0 0, .string ⟨#[]⟩, .int .i64 0, .int .i64 0] _ rfl rfl (dV (it:=⟨nm,kd,md,td,0,lk,[],bi⟩)) HOC.out (by omega) hbz ?_); intro v' we hown' hgrow' _ hpl; have HIE:=ab (HINV.out.added (it:=⟨nm,kd,md,td,0,lk,[],bi⟩) HM8.out HCV.out HOK.out HROW.out HOWN.out hown' hgrow' hpl); obtain⟨ae,ce,rfl,-,-⟩:=aj hown'; clear hown' hgrow' hpl)
        go_roundw
        case rel=>exact⟨k+1,l++[⟨nm,kd,md,td,0,lk,[],bi⟩],s6,by omega,by go_num,by simp[HLK.out],HNX.out,HIE.out⟩
        case measure=>simp[intOf]; omega
    ·have e3:(s.err == 0)=false:=by simp[he]
     have HFI2:=ab (show FIN=some (l,s) by rw[<-HIT.out]; exact vf he);clear he;have HIS:=ab (show bE data=if fh data s=0/\cd l=true then some l else none by rw[HFIN.out,HFI2.out]; rfl);have HIA:=ab (show ba (w.heap.size<= ·) wr (.slice av l.length cv0) l from by
      have hww:=HB1.out.size;refine⟨cells,(bq HOWN.out).weak (fun k hk=>by have:=hk.1; omega),HROW.out.mono (fun c x _ hx=>hx.same (fun k hk hS=>⟨by have:=hS.1; omega,rfl⟩))⟩)
     have HFB:=ab (show Below w.heap.size w wr from HB1.out.trans ((bg.of_grown (S:=fun k=>k=rb) HINV.out.grown (fun k hk=>by cases hk; rfl)).below HB1.out.size (fun k hk=>by subst hk; exact hge)));go_wp2_with fail;refine(rz rb _ data s _ HRD.out).mono ?_;rintro e we ⟨⟨pe,rfl⟩,hbe⟩;have HFE:=ab (ag HFB.out hbe);have HIE:=ab (ba.below HIA.out hbe);obtain⟨ev,hev⟩: ∃ev:Int,ev=fh data s:=⟨_,rfl⟩
     rw[<-hev];have HEV:=ab hev;clear hev hbe
     by_cases h0:ev=0
     ·subst h0
      cases hvn2:cd l
      ·have HIN:=ab (show bE data=none by rw[HIS.out,hvn2]; simp);have HVN:=ab hvn2;clear hvn2;go_wp2_with fail;refine(nX l false _ _ _ HIE.out HVN.out).mono ?_;rintro e wf ⟨rfl,hbf⟩;have HBF:=ab (ag HFE.out hbf);clear hbf;go_wp2_with fail
       go_ret2
       exact⟨HBF.out,by rw[HIN.out]; rfl⟩
      ·have HIN:=ab (show bE data=some l by rw[HIS.out,hvn2]; simp[HEV.out.symm]);have HVN:=ab hvn2;clear hvn2;go_wp2_with fail;refine(nX l true _ _ _ HIE.out HVN.out).mono ?_;rintro e wf ⟨rfl,hbf⟩;have HBF:=ab (ag HFE.out hbf);have HIF:=ab (ba.below HIE.out hbf);clear hbf;go_wp2_with fail
       go_ret2
       exact⟨HBF.out,by rw[HIN.out]; exact⟨_,rfl,HIF.out⟩⟩
     ·have HIN:=ab (show bE data=none by rw[HIS.out,if_neg (fun h=>h0 (HEV.out.trans h.1))]);have e6:(ev != 0)=true:=by simp[h0]
      clear h0;go_wp2_with fail
      go_ret2
      exact⟨HFE.out,by rw[HIN.out]; rfl⟩
   ·obtain rfl:k=n:=by omega
    have HFI2:=ab (show FIN=some (l,s) by rw[<-HIT.out,Nat.sub_self]; rfl);have HIS:=ab (show bE data=if fh data s=0/\cd l=true then some l else none by rw[HFIN.out,HFI2.out]; rfl);have HIA:=ab (show ba (w.heap.size<= ·) wr (.slice av l.length cv0) l from by
     have hww:=HB1.out.size;refine⟨cells,(bq HOWN.out).weak (fun k hk=>by have:=hk.1; omega),HROW.out.mono (fun c x _ hx=>hx.same (fun k hk hS=>⟨by have:=hS.1; omega,rfl⟩))⟩)
    have HFB:=ab (show Below w.heap.size w wr from HB1.out.trans ((bg.of_grown (S:=fun k=>k=rb) HINV.out.grown (fun k hk=>by cases hk; rfl)).below HB1.out.size (fun k hk=>by subst hk; exact hge)));go_wp2_with fail;refine(rz rb _ data s _ HRD.out).mono ?_;rintro e we ⟨⟨pe,rfl⟩,hbe⟩;have HFE:=ab (ag HFB.out hbe);have HIE:=ab (ba.below HIA.out hbe);obtain⟨ev,hev⟩: ∃ev:Int,ev=fh data s:=⟨_,rfl⟩
    rw[<-hev];have HEV:=ab hev;clear hev hbe
    by_cases h0:ev=0
    ·subst h0
     cases hvn2:cd l
     ·have HIN:=ab (show bE data=none by rw[HIS.out,hvn2]; simp);have HVN:=ab hvn2;clear hvn2;go_wp2_with fail;refine(nX l false _ _ _ HIE.out HVN.out).mono ?_;rintro e wf ⟨rfl,hbf⟩;have HBF:=ab (ag HFE.out hbf);clear hbf;go_wp2_with fail
      go_ret2
      exact⟨HBF.out,by rw[HIN.out]; rfl⟩
     ·have HIN:=ab (show bE data=some l by rw[HIS.out,hvn2]; simp[HEV.out.symm]);have HVN:=ab hvn2;clear hvn2;go_wp2_with fail;refine(nX l true _ _ _ HIE.out HVN.out).mono ?_;rintro e wf ⟨rfl,hbf⟩;have HBF:=ab (ag HFE.out hbf);have HIF:=ab (ba.below HIE.out hbf);clear hbf;go_wp2_with fail
      go_ret2
      exact⟨HBF.out,by rw[HIN.out]; exact⟨_,rfl,HIF.out⟩⟩
    ·have HIN:=ab (show bE data=none by rw[HIS.out,if_neg (fun h=>h0 (HEV.out.trans h.1))]);have e6:(ev != 0)=true:=by simp[h0]
     clear h0;go_wp2_with fail
     go_ret2
     exact⟨HFE.out,by rw[HIN.out]; rfl⟩
theorem uV :yn:=fun S data v w hv=>uW S data v w hv
def iK (cs:List (ByteArray×List UInt8)) (ln:Bool) (r:aG):Except Int (List aE):=if ln=true then dZ cs r else bG cs r
theorem Fr {cs:List (ByteArray×List UInt8)} {ln:Bool} {r:aG} {l:List aE} (h:bG cs r= .ok l):iK cs ln r= .ok l:=by
 unfold iK dZ; rw[h]; cases ln<;> rfl
theorem DP {cs:List (ByteArray×List UInt8)} {ln:Bool} {r:aG} {x:Int} (h:bG cs r= .error x) (hx: ¬(x=10/\ln=true)):iK cs ln r= .error x:=by
 unfold iK dZ; rw[h]
 cases ln
 ·rfl
 ·simp only[if_true];rw[if_neg (fun e=>hx ⟨e,rfl⟩)]
theorem Br {cs:List (ByteArray×List UInt8)} {r:aG} (h:bG cs r= .error 10):iK cs true r= .ok []:=by
 unfold iK dZ; rw[h]; rfl
def wK (cs:List (ByteArray×List UInt8)) (ln:Bool) (cv:Value) (B n:Nat):Prop:= ∀(r:aG) (st:List aG×List aG) (x:Int) (st':List aG×List aG) (base wb eb sb:Nat) (v:Value) (w:World),bC (iK cs ln) n r st=some (x,st')->st'.2.length<1099511627775->
 fR w base wb eb sb ln v st.1 st.2->aW r->dd B cv cs w->(B<=base/\B<=wb/\B<=eb/\B<=sb)->base<=w.heap.size->
 Calls Tryz.prog 99 #[.pointer (some ⟨wb,0,none⟩),aX r,cv] w fun e w'=>e= .returned (.int .i64 x)/\BK base wb eb sb ln v st'.1 st'.2 w w'
theorem kD {B base wb eb sb:Nat} {ln:Bool} {w:World} {v:Value} {ex rs:List aG} (h:fR w base wb eb sb ln v ex rs) (hB:B<=base/\B<=wb/\B<=eb/\B<=sb) {k:Nat} (hk:de wb eb sb v k):B<=k:=by
 rcases hk with e | e | e | e
 ·omega
 ·omega
 ·omega
 ·have:=(h.row.lt k e).1; omega
def FC (cs:List (ByteArray×List UInt8)) (ln:Bool) (n:Nat) (l:List aE) (y:Int) (ex rs:List aG) (x:Int) (st':List aG×List aG):Prop:=
 (y≠0/\(x,st')=(y,(ex,rs)))\/(y=0/\dG (bC (iK cs ln) n) l (ex,rs)=some (x,st'))
theorem ye (cs:List (ByteArray×List UInt8)) (ln:Bool) (cv:Value) (B n:Nat) (IH:wK cs ln cv B n):wK cs ln cv B (n+1):=by
 intro r st x st' base wb eb sb v w hw hlen h hr hi hB hbase;have HIH:=ab IH;have HB:=ab hB;have HR:=ab hr;have H:=ab h;have HIW:=ab hi;have HLEN:=ab hlen;have HWP:=ab hw;have hmen:(aH r st.2).length<=st'.2.length:=by
  rw[bC]at hw
  split at hw
  ·simp only[Option.some.injEq,Prod.mk.injEq]at hw;obtain⟨_,rfl⟩:=hw;exact Nat.le_refl _
  ·split at hw
   ·simp only[Option.some.injEq,Prod.mk.injEq]at hw;obtain⟨_,rfl⟩:=hw;exact Nat.le_refl _
   ·exact em (eR (iK cs ln) n) _ _ x st' hw
 have hml:=fL r st.2;have HB0:=ab ((Below.refl w.heap.size w).alloc (Nat.le_refl _) (.cells #[.string r.name, .int .i64 r.gen, .int .i64 r.size] 26));have HK0:=ab (h.below HB0.out);have HBX0:=ab (heap_alloc_new w (.cells #[.string r.name, .int .i64 r.gen, .int .i64 r.size] 26));have hwb:wb<w.heap.size:=lt_of_block h.box;unfold aX;clear hw h hr hi IH hB
 go_enter Tryz.func99,Tryz.ntmps99
 go_wp2_with fail;refine(pH base wb eb sb ln v st.1 st.2 r _ HK0.out HR.out (by omega) (by simp; omega)).mono ?_;rintro e w1 ⟨rfl,v1,hk1,hg1,ho1⟩;have HK1:=ab hk1;have HBX1:=ab (show w1.heap[w.heap.size]? =some (.cells #[.string r.name, .int .i64 r.gen, .int .i64 r.size] 26 (0,0))from(hg1.block w.heap.size (by simp) (fun ho=>by
  rcases ho with e | e | e | e
  ·omega
  ·have:=H.out.exs.map.lt; omega
  ·have:=H.out.see.map.lt; omega
  ·have:=(H.out.row.lt _ e).2; omega)).trans HBX0.out)
 have hz1:=hg1.size;simp at hz1;have HG1:=ab (show bg (de wb eb sb v) w w1 from(bg.of_below HB0.out (S:=de wb eb sb v)).trans hg1 (fun _ _ h=>h));have HO1:=ab (show ∀k,v1.ownBlock=some k->v.ownBlock=some k\/w.heap.size<=k from fun k hk=>by
  rcases ho1 k hk with e | e
  ·exact .inl e
  ·simp at e; exact .inr (by omega))
 clear hk1 hg1 ho1 HK0 HBX0;have c1:=ah (k:=2) HK1.out.box;have q0:=ah (k:=0) HBX1.out;have q1:=ah (k:=1) HBX1.out;have q2:=ah (k:=2) HBX1.out;simp only[aN]at c1 q0 q1 q2;go_wp2_with fail;refine am [some 6] (by kernel_rfl) (by kernel_rfl) (by kernel_rfl) ?_;simp only[aZ,List.take_succ_cons,List.take_zero];obtain⟨W1,hW1⟩: ∃W1:World,W1=w1.drew:=⟨_,rfl⟩
 rw[<-hW1];have hbw1:Below w1.heap.size w1 W1:=by rw[hW1]; exact(Below.refl _ _).drew
 have HK2:=ab (HK1.out.below hbw1);have HBX2:=ab ((hbw1.block w.heap.size (by omega)).trans HBX1.out);have HG2:=ab (HG1.out.trans (bg.of_below hbw1 (S:=fun _=>False)) (fun _ _ h=>False.elim h));have hz2:=hbw1.size;clear hbw1 HK1 HBX1 HG1 c1 q0 q1 q2;have c1:=ah (k:=2) HK2.out.box;have q0:=ah (k:=0) HBX2.out;have q1:=ah (k:=1) HBX2.out;have q2:=ah (k:=2) HBX2.out
 have hlk:=HK2.out.exs.look HR.out;unfold aX at hlk;simp only[aN]at c1 q0 q1 q2;clear hW1
 by_cases hm:r∈st.1
 ·have e1:decide (r∈st.1)=true:=by simp[hm]
  rw[e1]at hlk;have HRES:=ab (show(x,st')=(0,(st.1,aH r st.2)) by have:=HWP.out; rw[bC,if_pos hm]at this; exact(Option.some.inj this).symm);clear e1 hm
  repeat (first | (refine aw rfl ?_; simp only[Act.put,aA,aB,aC]) | (refine aJ rfl (fun K hK=> ?_); go_simp; refine hK _ ?_; clear hK K))
  refine aI ?_;go_wp2_with fail;go_ret;obtain⟨e1,e2⟩:=Prod.mk.inj HRES.out;exact⟨bz e1.symm,v1,by rw[e2]; exact HK2.out,HG2.out,HO1.out⟩
 ·have e1:decide (r∈st.1)=false:=by simp[hm]
  rw[e1]at hlk;have HNM:=ab hm;have HWQ:=ab (show(match iK cs ln r with | .error x=>some (x,(st.1++[r],aH r st.2)) | .ok l=>dG (bC (iK cs ln) n) l (st.1++[r],aH r st.2))=some (x,st') by have:=HWP.out; rw[bC,if_neg hm]at this; exact this);clear e1 hm HWP
  repeat (first | (refine aw rfl ?_; simp only[Act.put,aA,aB,aC]) | (refine aJ rfl (fun K hK=> ?_); go_simp; refine hK _ ?_; clear hK K))
  refine aI ?_;go_wp2_with fail;refine am [some 5,none] (by kernel_rfl) (by kernel_rfl) (by kernel_rfl) ?_;simp only[aZ,List.take_succ_cons,List.take_zero,List.drop_succ_cons,List.drop_zero]
  repeat (first | (refine aw rfl ?_; simp only[Act.put,aA,aB,aC]) | (refine aJ rfl (fun K hK=> ?_); go_simp; refine hK _ ?_; clear hK K))
  refine aI ?_;refine bw rfl (fun K hK=> ?_);have HKd:=ab (HK2.out.below ((Below.refl _ W1).drew));have heb:eb<w.heap.size:=H.out.exs.map.lt;have hsb:sb<w.heap.size:=H.out.see.map.lt;have HNE1:=ab H.out.wne;have HNE2:=ab H.out.ne;go_wp2_with (at_mapUpdate; go_must (refine cL rfl _ _ _ rfl eb st.1 HKd.out.exs rfl r HR.out rfl rfl HNM.out ?_); intro W2 hset hg2; have HSET3:=ab hset; have HGW:=ab (show W1.grownBy W2 (some eb)from ak (b:=W1.drew) ⟨rfl,rfl,rfl,Nat.le_refl _,fun _ _ _=>rfl⟩ hg2); have HBX3:=ab (dE HGW.out HBX2.out (by omega)); have z0:=ah (k:=0) HBX3.out; have z1:=ah (k:=1) HBX3.out; have z2:=ah (k:=2) HBX3.out; simp only[aN]at z0 z1 z2; clear hset hg2)
  have HK3:=ab (show fR W2 base wb eb sb ln v1 (st.1++[r]) (aH r st.2)from⟨dE HGW.out HK2.out.box HNE1.out.1,HSET3.out,HK2.out.see.same (HGW.out.block sb HK2.out.see.map.lt (by simp; exact Ne.symm HNE2.out)),HK2.out.row.kept HGW.out (.inr (fun e=>(HK2.out.own e).2.1 rfl)),HNE2.out⟩);have HG3:=ab (show bg (de wb eb sb v) w W2 from HG2.out.trans (bg.of_grown (S:=fun k=>k=eb) HGW.out (fun k hk=>by cases hk; rfl)) (fun i _ h=> .inr (.inl h)))
  have hz3:=HGW.out.size;have HI3:=ab (dd.keep w W2 HIW.out (fx HG3.out (fun k hk=>kD H.out HB.out hk)));clear HKd HK2 HBX2 HG2 c1 q0 q1 q2 hlk z0 z1 z2;refine(vD uV (· <B) cv cs r W2 HI3.out.cont HR.out).mono ?_;rintro e w3 ⟨hb3,hres⟩;have HK4:=ab (HK3.out.below hb3);have HG4:=ab (HG3.out.trans (bg.of_below hb3 (S:=fun _=>False)) (fun _ _ h=>False.elim h))
  have HB3:=ab hb3;have hz4:=hb3.size;have c3:=ah (k:=3) HK4.out.box;simp only[aN]at c3;clear hb3
  cases hvr:bG cs r with
  | error y=>
   rw[hvr]at hres;obtain⟨rfl,hy⟩:=hres
   by_cases hyl:y=10/\ln=true
   ·obtain⟨rfl,rfl⟩:=hyl;have HRES:=ab (show(x,st')=(0,(st.1++[r],aH r st.2)) by have:=HWQ.out; rw[Br hvr]at this; exact(Option.some.inj this).symm);clear hvr hy;go_wp2_with fail;go_ret;obtain⟨e1,e2⟩:=Prod.mk.inj HRES.out;exact⟨bz e1.symm,v1,by rw[e2]; exact HK4.out,HG4.out,HO1.out⟩
   ·have HRES:=ab (show(x,st')=(y,(st.1++[r],aH r st.2)) by have:=HWQ.out; rw[DP hvr hyl]at this; exact(Option.some.inj this).symm);have HYL:=ab hyl;have HY:=ab hy;clear hvr hyl hy
    by_cases h10:y=10
    ·subst h10;obtain rfl:ln=false:=by
      cases ln
      ·rfl
      ·exact absurd ⟨rfl,rfl⟩ HYL.out
     go_wp2_with fail
     go_loopw [8,9] (fun e i wr=>e= .int .i64 10/\i= .int .i64 0/\wr=w3) (fun _ _ _=>0)
     case atStart=>exact⟨rfl,rfl,rfl⟩
     case round=>
      obtain⟨rfl,rfl,rfl⟩:=hrel;go_wp2_with fail;go_ret;obtain⟨e1,e2⟩:=Prod.mk.inj HRES.out;exact⟨bz e1.symm,v1,by rw[e2]; exact HK4.out,HG4.out,HO1.out⟩
    ·have e1:(y == 10)=false:=by simp[h10]
     clear h10;go_wp2_with fail
     go_loopw [8,9] (fun e i wr=>e= .int .i64 y/\i= .int .i64 0/\wr=w3) (fun _ _ _=>0)
     case atStart=>exact⟨rfl,rfl,rfl⟩
     case round=>
      obtain⟨rfl,rfl,rfl⟩:=hrel;go_wp2_with fail;go_ret;obtain⟨e1,e2⟩:=Prod.mk.inj HRES.out;exact⟨bz e1.symm,v1,by rw[e2]; exact HK4.out,HG4.out,HO1.out⟩
  | ok l=>
   rw[hvr]at hres;obtain⟨itv,rfl,hits⟩:=hres;have HOV:=ab (show dG (bC (iK cs ln) n) l (st.1++[r],aH r st.2)=some (x,st') by have:=HWQ.out; rw[Fr hvr]at this; exact this);obtain⟨ia,ic,rfl,hil,him,-⟩:=aL.shape hits dO.len;unfold maxLen at him;have HIN:=ab (show ou w B W2.heap.size w3.heap.size base wb eb sb ln v (.slice ia l.length ic) l w3 v1 (st.1++[r]) (aH r st.2)from
    ⟨HK4.out,HG4.out,HO1.out,fun k hk=> .inl (HK3.out.row.lt k hk).2,⟨by omega,by omega,by omega⟩,⟨by omega,hz4,Nat.le_refl _⟩,ba.lt hits⟩)
   clear hvr hits HWQ HK3 HK4 HG3 HG4 HBX3;go_wp2_with fail
   go_loopw [8,9] (fun e i wr=> ∃(k:Nat) (v2:Value) (ex2 rs2:List aG) (y:Int),k<=l.length/\i= .int .i64 k/\e= .int .i64 y/\FC cs ln n (l.drop k) y ex2 rs2 x st'/\ou w B W2.heap.size w3.heap.size base wb eb sb ln v (.slice ia l.length ic) l wr v2 ex2 rs2) (fun _ i _=>l.length-(intOf i).toNat)
   case atStart=>exact⟨0,v1,_,_,0,Nat.zero_le _,rfl,rfl, .inr ⟨rfl,HOV.out⟩,HIN.out⟩
   case round=>
    obtain⟨k,v2,ex2,rs2,y,hk,rfl,rfl,hov,hin⟩:=hrel;have HV2:=ab hov;have HN2:=ab hin;clear hov hin c3
    by_cases hy:y=0
    ·subst hy;have HV3:=ab (show dG (bC (iK cs ln) n) (l.drop k) (ex2,rs2)=some (x,st') by
      rcases HV2.out with⟨h,_⟩ | ⟨_,h⟩
      ·exact absurd rfl h
      ·exact h)
     by_cases hlt:k<l.length
     ·obtain⟨it,hr2⟩: ∃it,l[k]? =some it:=⟨l[k],by simp[hlt]⟩;have HR2:=ab hr2;have HOV2:=ab (show dG (bC (iK cs ln) n) (it::l.drop (k+1)) (ex2,rs2)=some (x,st') by
       obtain⟨hk',rfl⟩:=List.getElem?_eq_some_iff.1 hr2;rw[<-List.drop_eq_getElem_cons hk']; exact HV3.out)
      have hmb:=mF HOV2.out;obtain⟨b,o,ca,cc,rfl,hok,hrf,-,-,-⟩:=dy HN2.out.its (Below.refl _ _) hr2;obtain⟨a',cap',hv',hcl1,hcl2,-⟩:=aL.shape hrf fc.len
      cases hv'
      unfold maxLen at hcl2;have HOK:=ab hok;clear hr2 hok hrf;go_wp2_with fail
      go_loopw [10] (fun i wq=> ∃(j:Nat) (v3:Value),j<=it.chunks.length/\i= .int .i64 j/\ou w B W2.heap.size w3.heap.size base wb eb sb ln v (.slice (some ⟨b,o,none⟩) l.length ic) l wq v3 ex2 (bT (it.chunks.take j) rs2)) (fun i _=>it.chunks.length-(intOf i).toNat)
      case atStart=>exact⟨0,v2,Nat.zero_le _,rfl,HN2.out⟩
      case round=>
       obtain⟨j,v3,hj,rfl,hin3⟩:=hrel;have HN4:=ab hin3;obtain⟨b',o',ca2,cc2,he',-,hrf,-,-,hcl⟩:=dy HN4.out.its (Below.refl _ _) HR2.out
       cases he'
       have HRF4:=ab hrf;have q0:=hcl 0 (by omega);have q1:=hcl 1 (by omega);have q6:=hcl 6 (by omega);have q7:=hcl 7 (by omega);have q8:=hcl 8 (by omega);have q9:=hcl 9 (by omega);simp only[cP,Bw,Nat.add_zero]at q0 q1 q6 q7 q8 q9;obtain⟨a'',cap'',hv'',hcl1',hcl2',-⟩:=aL.shape hrf fc.len
       cases hv''
       unfold maxLen at hcl2';clear hin3 hrf hcl
       by_cases hlt2:j<it.chunks.length
       ·obtain⟨c,hc⟩: ∃c,it.chunks[j]? =some c:=⟨it.chunks[j],by simp[hlt2]⟩;obtain⟨b2,o2,rfl,hcok,p0,p1,p2⟩:=cR HRF4.out (Below.refl _ _) hc;have HCO:=ab hcok;have HSN:=ab (show bT (it.chunks.take (j+1)) rs2=aH c (bT (it.chunks.take j) rs2) by rw[bh hc,jX]);have hjl:=gE it.chunks rs2 j;have HBZ:=ab (Nat.le_trans hbase HN4.out.gr.size)
        clear hc hcok;go_wp2_with fail;refine(pH base wb eb sb ln v3 ex2 _ c _ HN4.out.at' HCO.out (by omega) HBZ.out).mono ?_;rintro e w4 ⟨rfl,hres⟩;obtain⟨v4,hin4,-⟩:=HN4.out.step hres;have HN6:=ab hin4;clear hres hin4 p0 p1 p2 q0 q1 q6 q7 q8 q9;go_wp2_with fail
        go_roundw
        case rel=>exact⟨j+1,v4,by omega,by go_num,by rw[HSN.out]; exact HN6.out⟩
        case measure=>simp[intOf]; omega
       ·obtain rfl:j=it.chunks.length:=by omega
        rw[List.take_of_length_le (Nat.le_refl _)]at HN4
        rcases jt HOV2.out with⟨hk2,h2⟩ | ⟨hk2,y,st2,h1,h2⟩
        ·have e2:(it.kind == 2)=false:=by simp[hk2]
         have H2:=ab h2;clear hk2 h2;go_wp2_with fail
         go_roundw
         case rel=>exact⟨k+1,v3,_,_,0,by omega,by go_num,rfl, .inr ⟨rfl,H2.out⟩,HN4.out⟩
         case measure=>simp[intOf]; omega
        ·have e2:(it.kind == 2)=true:=by simp[hk2]
         have H1:=ab h1;have H2:=ab h2;have hle2:st2.2.length<=st'.2.length:=by
          rcases h2 with⟨_,h2⟩ | ⟨_,h2⟩
          ·obtain⟨_,rfl⟩:=Prod.mk.inj h2;exact Nat.le_refl _
          ·exact em (eR (iK cs ln) n) _ _ x st' h2
         have HI4:=ab (dd.keep w wr HIW.out (fx HN4.out.gr (fun k hk=>kD H.out HB.out hk)));have HBZ:=ab (Nat.le_trans hbase HN4.out.gr.size);clear hk2 h1 h2;go_wp2_with fail;refine(HIH.out it.node (ex2,bT it.chunks rs2) y st2 base wb eb sb v3 wr H1.out (by omega) HN4.out.at' HOK.out.nd HI4.out HB.out HBZ.out).mono ?_;rintro e w4 ⟨rfl,hres⟩;obtain⟨v4,hin4,-⟩:=HN4.out.step hres
         have HN6:=ab hin4;clear hres hin4 q0 q1 q6 q7 q8 q9;go_wp2_with fail
         go_roundw
         case rel=>exact⟨k+1,v4,st2.1,st2.2,y,by omega,by go_num,rfl,H2.out,HN6.out⟩
         case measure=>simp[intOf]; omega
     ·obtain rfl:k=l.length:=by omega
      have HRES:=ab (show(x,st')=(0,(ex2,rs2)) by have:=HV3.out; rw[List.drop_of_length_le (Nat.le_refl _)]at this; exact(Option.some.inj this).symm);go_wp2_with fail;go_ret;obtain⟨e1,e2⟩:=Prod.mk.inj HRES.out;exact⟨bz e1.symm,v2,by rw[e2]; exact HN2.out.at',HN2.out.gr,HN2.out.own⟩
    ·have e1:(y == 0)=false:=by simp[hy]
     have HRES:=ab (show(x,st')=(y,(ex2,rs2)) by
      rcases HV2.out with⟨_,h⟩ | ⟨h,_⟩
      ·exact h
      ·exact absurd h hy)
     clear hy
     by_cases hlt:k<l.length
     ·go_wp2_with fail;go_ret;obtain⟨e1,e2⟩:=Prod.mk.inj HRES.out;exact⟨bz e1.symm,v2,by rw[e2]; exact HN2.out.at',HN2.out.gr,HN2.out.own⟩
     ·go_wp2_with fail;go_ret;obtain⟨e1,e2⟩:=Prod.mk.inj HRES.out;exact⟨bz e1.symm,v2,by rw[e2]; exact HN2.out.at',HN2.out.gr,HN2.out.own⟩
theorem mS (cs:List (ByteArray×List UInt8)) (ln:Bool) (cv:Value) (B:Nat): ∀n,wK cs ln cv B n
 | 0=>by intro r st x st' base wb eb sb v w hw; simp[bC]at hw
 | n+1=>ye cs ln cv B n (mS cs ln cv B n)
end Go.Proofs.YtpffpjbkbaleiaaGreatDoor
