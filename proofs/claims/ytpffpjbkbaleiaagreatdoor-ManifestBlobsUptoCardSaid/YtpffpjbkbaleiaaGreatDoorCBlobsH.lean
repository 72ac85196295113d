/- Texts of this proof, one after the other: GdP, RbA, GdQ, ContP, NcP, RbB, AwR, RbC, RbD, SmP, AwS, Same, NodB, LawNod, RdP, RfA, RfD, RfE, RfF, RcT, RfG, R14, R16A. -/
import Derived.Test.YtpffpjbkbaleiaaGreatDoorCBlobsG
set_option maxRecDepth 100000
set_option maxHeartbeats 8000000
namespace Go.Proofs.YtpffpjbkbaleiaaGreatDoor
open Go.RowKit
def km (gs:List (ByteArray×Int)):Prop:= ∀p∈gs,0<=p.2/\p.2<=1099511627776
theorem AZ {gs:List (ByteArray×Int)} (h:km gs) (n:ByteArray):0<=mA gs n/\mA gs n<=1099511627776:=by
 unfold mA
 cases hf:gs.find? fun p=>decide (p.1=n)with
 | none=>simp
 | some p=>exact h p (dM hf)
theorem Mc (tree:List dl) (d:ByteArray):gV tree d=dF tree d:=rfl
theorem AW (c:fN) (data:List UInt8):(fZ c data).flatten=data:=xr
theorem qr {c:fN} (hc:jG c=true) (x:List UInt8): ∀y∈fZ c x,1<=y.length/\y.length<=32768:=by
 have hv:=kW.1 hc;intro y hy;have:=uq (mx:=c.mx.toNat) (by omega) (nn) y hy;omega
theorem Am : ∀(l:List cy) (a:Int),0<=a->(∀r∈l,0<=r.size)->a+(l.map cy.size).sum<=9223372036854775807->l.foldl (fun a r=>wrap64 (a+r.size)) a=a+(l.map cy.size).sum
 | [],a,_,_,_=>by simp
 | r::l,a,h0,hs,hl=>by
  have h1:=hs r (by simp);have h2:0<=(l.map cy.size).sum:=by
   have: ∀(l:List cy),(∀r∈l,0<=r.size)->0<=(l.map cy.size).sum:=by
    intro l
    induction l with
    | nil=>simp
    | cons x l ih=>
     intro h;have h1:=h x (by simp);have h2:=ih fun r hr=>h r (by simp[hr])
     rw[cB,List.sum_cons]; omega
   exact this l fun x hx=>hs x (by simp[hx])
  rw[cB,List.sum_cons]at hl;rw[ei,cB,List.sum_cons,show wrap64 (a+r.size)=a+r.size by unfold wrap64; omega,Am l _ (by omega) (fun x hx=>hs x (by simp[hx])) (by omega)];omega
section
variable {k : dh} {gs : List (ByteArray × Int)} {c : fN}
theorem zZ : ∀(l:List (List UInt8)),((l.map (bA k gs)).map cy.size).sum=((l.flatten.length:Nat):Int)
 | []=>by simp
 | x::l=>by
  rw[cB,cB,List.sum_cons,zZ l,iD,an]
  show(x.length:Int)+_=_
  omega
theorem IR {data:List UInt8} (hl:data.length<=1048576):mM ((fZ c data).map (bA k gs))=(data.length:Int):=by
 have h1:=zZ (k:=k) (gs:=gs) (fZ c data);rw[AW]at h1;unfold mM;rw[Am _ _ (by omega) (fun r hr=>by
  obtain⟨x,_,rfl⟩:=aS.1 hr
  show(0:Int)<=(x.length:Int)
  omega) (by rw[h1]; omega),h1]
 omega
theorem nS (hg:km gs) {x:List UInt8} (hx:x.length<=32768):lm (bA k gs x)=true:=by
 have h1:=AZ hg (lS k 0 x);have h2:(bA k gs x).name.size=32:=kr _ _ _;have h3:(bA k gs x).gen=mA gs (lS k 0 x):=rfl;have h4:(bA k gs x).size=(x.length:Int):=rfl;unfold lm;rw[h2,h3,h4];simp only[aI,aL];exact⟨⟨⟨⟨trivial,h1.1⟩,h1.2⟩,by omega⟩,by omega⟩
theorem wG {e:dl} (h:ig e=true):(e.kind=1/\e.data.length<=1048576/\e.link.size=0)\/(e.kind=2/\e.data=[]/\e.link.size=0)\/(e.kind=3/\e.data=[]/\1<=e.link.size/\e.link.size<=512/\(bl e.link).contains 0=false):=by
 unfold ig kX at h;rw[aI]at h;have h2:=h.2
 split at h2
 ·simp only[aI,aL]at h2;exact .inl ⟨by assumption,h2⟩
 ·split at h2
  ·simp only[aI,aL]at h2;exact .inr (.inl ⟨by assumption,bp h2.1,h2.2⟩)
  ·split at h2
   ·simp only[aI,aL,oR,gO]at h2;refine .inr (.inr ⟨by assumption,bp h2.1, ?_, ?_,h2.2.2⟩)
    ·rw[bh]; exact h2.2.1.1
    ·rw[bh]; exact h2.2.1.2
   ·cases h2
theorem CH (hc:jG c=true) (hg:km gs) {d:ByteArray} {e:dl} {nd:cy} (hv:ig e=true) (hp:cr (bl e.path)=bl d) (hn:e.kind=2->lm nd=true):jo (cS k gs c d e nd)=true:=by
 have hk:=tg (dm hv) hp;have ha:bl (cS k gs c d e nd).name=uW (bl d) (bl e.path):=by
  show bl ⟨(mC (bl d) (bl e.path)).toArray⟩=_
  rw[jD]; rfl
 have hh:tL (cS k gs c d e nd)=true:=by
  have h1:oQ e=true:=by unfold ig at hv; simp only[aI]at hv; exact hv.1.2
  unfold oQ at h1;unfold tL;rw[ha,NR hk.comp];simp only[aI,aL,gO]at h1 ⊢;refine⟨⟨trivial, ?_⟩,⟨h1.1.1,h1.1.2⟩,h1.2⟩;have h2:=hk.no
  simpa using h2
 unfold jo;rw[hh,gT]
 rcases wG hv with⟨h1,h2,h3⟩ | ⟨h1,h2,h3⟩ | ⟨h1,h2,h3,h4,h5⟩
 ·have e1:cS k gs c d e nd=⟨⟨(mC (bl d) (bl e.path)).toArray⟩,1,e.mode,e.time,(e.data.length:Int),e.link,(fZ c e.data).map (bA k gs),er⟩:=by
   unfold cS; rw[h1]; simp
  rw[e1];unfold kI lh;rw[if_pos rfl];simp only[aI,aL,cj];refine⟨⟨h3,trivial⟩,fun r hr=> ?_, ?_,by omega⟩
  ·obtain⟨x,hx,rfl⟩:=aS.1 hr;have h4:=qr hc e.data x hx;unfold qN;rw[nS hg h4.2]
   show(true && decide ((1:Int)<=(x.length:Int)))=true
   simp;omega
  ·exact(IR h2).symm
 ·have e1:cS k gs c d e nd=⟨⟨(mC (bl d) (bl e.path)).toArray⟩,2,e.mode,e.time,0,e.link,[],nd⟩:=by
   unfold cS; rw[h1]; simp
  rw[e1];unfold kI;rw[if_neg (show ¬((2:Int)=1) by decide),if_pos rfl];simp[h3,hn h1]
 ·have e1:cS k gs c d e nd=⟨⟨(mC (bl d) (bl e.path)).toArray⟩,3,e.mode,e.time,0,e.link,[],er⟩:=by
   unfold cS; rw[h1]; simp
  rw[e1];unfold kI;rw[if_neg (show ¬((3:Int)=1) by decide),if_neg (show ¬((3:Int)=2) by decide),if_pos rfl];have h6:(0:UInt8)∉bl e.link:=by simpa using h5
  simp[h3,h4,h6]
theorem De : ∀(l:List cg) (p:Option ByteArray),(∀it∈l,jo it=true)->l.Pairwise (fun a b=>Oh a.name b.name=true)->(∀q,p=some q-> ∀it∈l,Oh q it.name=true)->jO p l=true
 | [],_,_,_,_=>rfl
 | it::l,p,hv,hs,hp=>by
  rw[fB]at hs;unfold jO;rw[hv it (by simp),De l (some it.name) (fun x hx=>hv x (by simp[hx])) hs.2 (fun q hq x hx=>by
   simp only[aV]at hq;subst hq;exact hs.1 x hx)]
  cases p with
  | none=>rfl
  | some q=>
   have:=hp q rfl it (by simp);unfold pK;simp only;rw[this]; rfl
theorem sj {tree:List dl} (h:BA tree) (hc:jG c=true) (hg:km gs) (d:ByteArray) (nd:dl->cy) (hn: ∀e∈dF tree d,e.kind=2->lm (nd e)=true):jy ((dF tree d).map fun e=>cS k gs c d e (nd e))=true:=by
 have hl:(dF tree d).length<=tree.length:=dH _ _;unfold jy;rw[aI,aL];refine⟨by rw[aB]; have:=h.len; omega, ?_⟩;refine De _ _ (fun it hf=> ?_) ?_ (fun q hq=>by cases hq)
 ·obtain⟨e,he,rfl⟩:=aS.1 hf;obtain⟨h1,h2⟩:=fm.1 he;exact CH hc hg (h.val e h1) h2 (hn e he)
 ·rw[gQ];have hk:iY (dF tree d):=h.ord.filter _;refine List.Pairwise.imp_of_mem (R:=fun a b=>nF a b<0) ?_ hk;intro a b ha hb hd;obtain⟨a1,a2⟩:=fm.1 ha;obtain⟨b1,b2⟩:=fm.1 hb
  show Op.bytesLess (ByteArray.toList ⟨(mC (bl d) (bl a.path)).toArray⟩) (ByteArray.toList ⟨(mC (bl d) (bl b.path)).toArray⟩)=true
  rw[fp,fp,jD,jD];exact LY (tg (dm (h.val a a1)) a2) (tg (dm (h.val b b1)) b2) hd
end
open Go Go.RowKit Go.Maps
theorem zL (S:Nat->Prop) (k:dh) (g:Nat) (gi:Int) (data:List UInt8) (dv:Value) (w:World) (hgi:gi=(g:Int)) (hk:jx k=true) (hg:g<=1099511627776) (hv:bH S w dv data) (hl:data.length<=32768):
  Calls Tryz.prog 178 #[kq k, .int .i64 gi,dv] w fun e w'=>e= .returned (.tuple #[.string (lS k g data), .int .i64 0])/\Below w.heap.size w w':=by
 subst hgi;exact EZ S k g data dv w hk hg hv hl
theorem LI {a:Act} {w:World} {b:Nat} {x0 x1 x2:Value} (h:w.heap[b]? =some (.cells #[x0,x1,x2] 26 (0,0)))
  (h4:a.tmps[6]? =some (.pointer (some ⟨b,0,none⟩))):(results Tryz.f158 a.tmps).run Tryz.prog w= .ok (.agg #[x0,x1,x2]) w:=by
 obtain⟨m0,m1,m2,_⟩:=aU h;simp[results,Tryz.results158,go_sem,h4,m0,m1,m2]
theorem LH {a:Act} {w:World} {b:Nat} {a0 a1 a2 x0 x1 x2:Value} {Q:Ending->World->Prop} (h:w.heap[b]? =some (.cells #[a0,a1,a2] 26 (0,0)))
  (h4:a.tmps[6]? =some (.pointer (some ⟨b,0,none⟩))) (hd:a.defers=[])
  (hQ:Q (.returned (.agg #[x0,x1,x2])) (((w.setCell ⟨b,0,none⟩ x0).setCell ⟨b,1,none⟩ x1).setCell ⟨b,2,none⟩ x2)):
  bodyPost Tryz.prog Tryz.f158 Q Exit.ret a (((w.setCell ⟨b,0,none⟩ x0).setCell ⟨b,1,none⟩ x1).setCell ⟨b,2,none⟩ x2):=cM (LI (vj h) h4) hd hQ
def NB (k:dh) (b:Nat) (w:World):Prop:=w.heap[b]? =some (.cells #[.string k.nm, .string k.st, .string k.ck, .string k.ix, .string k.tk] 42 (0,0))/\w.heap[b+1]? =some (.cells #[.string ⟨#[]⟩, .int .i64 0, .int .i64 0] 26 (0,0))
theorem NB.below {k:dh} {b:Nat} {w w':World} (h:NB k b w) (hb:Below w.heap.size w w'):NB k b w':=⟨(hb.block _ (aw h.1)).trans h.1,(hb.block _ (aw h.2)).trans h.2⟩
theorem wJ (S T:Nat->Prop) (k:dh) (gs:List (ByteArray×Int)) (gv:Value) (x:List UInt8) (cv:Value) (w:World) (hk:jx k=true) (hG:kK T w gv gs) (hT: ∀i,T i->i<w.heap.size) (hgs:km gs) (hv:bH S w cv x) (hl:x.length<=32768):
  Calls Tryz.prog 158 #[kq k,cv,gv] w fun e w'=>e= .returned (ef (bA k gs x))/\Below w.heap.size w w':=by
 obtain⟨hJ,a,cap,rfl,hn,hm,-⟩:=id hv;unfold maxLen at hm;obtain⟨n,hp⟩: ∃n,n=x.length:=⟨_,rfl⟩;have HN:=am hp;obtain⟨W,hW⟩: ∃W,W=(w.alloc (.cells #[.string k.nm, .string k.st, .string k.ck, .string k.ix, .string k.tk] 42)).alloc (.cells #[.string ⟨#[]⟩, .int .i64 0, .int .i64 0] 26):=⟨_,rfl⟩;have HB:=am (show Below w.heap.size w W by rw[hW]; exact(eK).alloc (by simp) _)
 have HX:=am (show NB k w.heap.size W by rw[hW]; exact⟨lW (aF w _) _,by have:=aF (w.alloc (.cells #[.string k.nm, .string k.st, .string k.ck, .string k.ix, .string k.tk] 42)) (.cells #[.string ⟨#[]⟩, .int .i64 0, .int .i64 0] 26); rw[show(w.alloc (.cells #[.string k.nm, .string k.st, .string k.ck, .string k.ix, .string k.tk] 42)).heap.size=w.heap.size+1 by simp]at this; exact this⟩)
 have he:=am (show bH S w (.slice a x.length cap) x from hv);rw[<-hp]at hl he ⊢;have HK:=am hk;have hC:=am hG;have hr:=am hgs;have hE:=am hT;clear hv hJ hp hk hG hgs hT;unfold kq
 go_enter Tryz.func158,Tryz.ntmps158
 go_upto_region 1 with fail
 rw[<-hW];clear hW;have hb:=HX.o.1;obtain⟨k0,k1,k2,k3,k4,_⟩:=aU hb;clear hb;have hF:=am (show bH S W (.slice a n cap) x from cC.below he.o (by omega) HB.o);go_wp2_with fail;clear k0 k1 k2 k3 k4;refine(zL S k 0 0 x _ _ rfl HK.o (by decide) hF.o (by rw[<-HN.o]; exact hl)).mono ?_;rintro e w1 ⟨rfl,hg⟩;obtain⟨nm,hc⟩: ∃nm,nm=lS k 0 x:=⟨_,rfl⟩;have hq:nm.size=32:=by rw[hc]; exact kr _ _ _
 rw[<-hc];have hD:=am hc;have hd:=am (ar HB.o hg);have hu:=am (HX.o.below hg);have ho:=Cx (hC.o.keep (w':=w1) (fun i hi _=>hd.o.block i (hE.o i hi))) (n:=nm) (by rw[hq]; decide);obtain⟨gi,ha⟩: ∃g,g=mA gs nm:=⟨_,rfl⟩;rw[<-ha]at ho;obtain⟨gn,hw⟩: ∃gn:Nat,gn=gi.toNat:=⟨_,rfl⟩;have hj:gi=(gn:Int):=by have:=AZ hr.o nm; rw[<-ha]at this; omega
 have hI:gn<=1099511627776:=by have:=AZ hr.o nm; rw[<-ha]at this; omega
 have hA:=am ha;rw[hj]at ho;have hz:=am hj;have hB:=am hw;have hb:=hu.o.1;obtain⟨k0,k1,k2,k3,k4,_⟩:=aU hb;clear hb hg hc ha hw hj;have hH:=am (show bH S w1 (.slice a n cap) x from cC.below he.o (by omega) hd.o);go_wp2_with fail;refine(zL S k gn gn x _ _ rfl HK.o hI hH.o (by rw[<-HN.o]; exact hl)).mono ?_;rintro e w2 ⟨rfl,hh⟩;clear k0 k1 k2 k3 k4 ho
 have hy:=am (ar hd.o hh);have hf:=am (hu.o.below hh);have hs:=am (show bA k gs x=⟨lS k gn x,(gn:Int),(n:Int)⟩ by
  unfold bA;rw[<-hD.o,<-hA.o,<-hB.o,<-hz.o,<-HN.o])
 clear hh;obtain⟨z0,z1,z2,_⟩:=aU hf.o.2;obtain⟨y0,y1,y2,_⟩:=gG hf.o.2;obtain⟨rn,hx⟩: ∃r,r=lS k gn x:=⟨_,rfl⟩;rw[<-hx]at hs ⊢;clear hx;go_wp2_with fail;refine LH hf.o.2 rfl rfl ⟨?_, ?_⟩
 ·rw[hs.o]; rfl
 ·exact gZ hy.o (by omega)
def xc (l:List UInt8):ByteArray:=(jE l).getLast?.getD ⟨#[]⟩
theorem Jo {d p t:List UInt8} (h:qT d p t):xc p=⟨t.toArray⟩:=by
 unfold xc jE;have h1:(de 47 p).getLast? =some t:=by
  rw[h.path]
  split
  ·rw[gI 47 _ h.no]; rfl
  ·rw[pW,gI 47 _ h.no]; simp
 rw[List.getLast?_map,h1]; rfl
theorem Fh (l:List UInt8):1<=(jE l).length:=by unfold jE; rw[aB]; exact sB 47 l
theorem xa (s:ByteArray) (w:World) (hs:s.size<=16777216):Calls Tryz.prog 124 #[.string s] w fun e w'=>e= .returned (.string (xc (bl s)))/\Below w.heap.size w w':=by
 go_enter Tryz.func124,Tryz.ntmps124
 go_wp2_with fail;refine(LC s w hs).mono ?_;rintro e w1 ⟨a,cap,rfl,hc,hm,hd,hb⟩;obtain⟨n,hn⟩: ∃n,n=(jE (bl s)).length:=⟨_,rfl⟩;have hh:1<=n:=by rw[hn]; exact Fh _
 unfold maxLen at hm;obtain⟨x,hx⟩: ∃x,(jE (bl s))[n-1]? =some x:=⟨_,bJ (by omega)⟩;have HL:=am (show xc (bl s)=x by unfold xc; rw[List.getLast?_eq_getElem?,<-hn,hx]; rfl);have hf:=am hb;obtain⟨_,_,he,-,-,ha⟩:=lz.shape hd;simp only[cW]at he;obtain⟨rfl,-,rfl⟩:=he;obtain⟨b,o,rfl,-,q0⟩:=ha (n-1) x hx
 rw[<-hn]at hc ⊢;have hj:IntKind.i64.wrap ((n:Int)-1)=((n-1:Nat):Int):=by rw[bE]; omega
 have hg:(n:Int)-1=((n-1:Nat):Int):=by omega
 clear hd hb hn hx ha;go_wp2_with fail;go_ret;exact⟨by rw[HL.o]; rfl,hf.o⟩
end Go.Proofs.YtpffpjbkbaleiaaGreatDoor
namespace Go.Proofs.YtpffpjbkbaleiaaGreatDoor
open Go.RowKit
section
variable (k : dh) (gs : List (ByteArray × Int)) (c : fN) (tree : List dl)
def dS :Nat->ByteArray->List UInt8×List (List UInt8)
 | 0,_=>([],[])
 | f+1,d=>(fO ((dF tree d).map fun e=>cS k gs c d e (bA k gs (dS f e.path).1)),
  ((dF tree d).flatMap fun e=>if e.kind=1 then fZ c e.data else if e.kind=2 then(dS f e.path).2 else [])++[fO ((dF tree d).map fun e=>cS k gs c d e (bA k gs (dS f e.path).1))])
def mZ (f:Nat) (d:ByteArray):List cg:=(dF tree d).map fun e=>cS k gs c d e (bA k gs (dS k gs c tree f e.path).1)
def ik (f:Nat) (e:dl):List (List UInt8):=if e.kind=1 then fZ c e.data else if e.kind=2 then(dS k gs c tree f e.path).2 else []
theorem fo (f:Nat) (d:ByteArray):dS k gs c tree (f+1) d=(fO (mZ k gs c tree f d),(dF tree d).flatMap (ik k gs c tree f)++[fO (mZ k gs c tree f d)]):=rfl
def lY :Nat->ByteArray->Bool
 | 0,_=>false
 | f+1,d=>(dF tree d).any (fun e=>decide (e.kind=2) && lY f e.path) || decide (32768<(dS k gs c tree (f+1) d).1.length)
end
section
variable {k : dh} {gs : List (ByteArray × Int)} {c : fN} {tree : List dl}
theorem nK {d:ByteArray} {e:dl} (h:e.kind≠2) (a b:cy):cS k gs c d e a=cS k gs c d e b:=by
 unfold cS; rw[if_neg h,if_neg h]
def Dd (k:dh) (gs:List (ByteArray×Int)) (rec:ByteArray->Except Int (List UInt8×List (List UInt8))) (e:dl):cy:=match rec e.path with
 | .ok p=>bA k gs p.1
 | .error _=>er
def AP (c:fN) (rec:ByteArray->Except Int (List UInt8×List (List UInt8))) (e:dl):List (List UInt8):=if e.kind=1 then fZ c e.data else if e.kind=2 then(match rec e.path with | .ok p=>p.2 | .error _=>[])else []
theorem CO {rec:ByteArray->Except Int (List UInt8×List (List UInt8))} {d:ByteArray} : ∀(L:List dl) (its:List cg) (cs:List (List UInt8)),(∀e∈L,e.kind=2-> ∃p,rec e.path= .ok p)->
  gX k gs c rec d L its cs= .ok (its++L.map (fun e=>cS k gs c d e (Dd k gs rec e)),cs++L.flatMap (AP c rec))
 | [],its,cs,_=>by simp[gX]
 | e::L,its,cs,h=>by
  have ih:=fun its cs=>CO (d:=d) L its cs fun x hx=>h x (by simp[hx])
  by_cases h1:e.kind=1
  ·rw[gX,if_pos h1,ih,nK (b:=Dd k gs rec e) (by omega)];rw[cB,bu,show AP c rec e=fZ c e.data by unfold AP; rw[if_pos h1]];simp
  ·by_cases h2:e.kind=2
   ·obtain⟨p,hp⟩:=h e (by simp) h2;rw[gX,if_neg h1,if_pos h2,hp];simp only;rw[ih,cB,bu,show AP c rec e=p.2 by unfold AP; rw[if_neg h1,if_pos h2,hp],show Dd k gs rec e=bA k gs p.1 by unfold Dd; rw[hp]];simp
   ·rw[gX,if_neg h1,if_neg h2,ih,nK (b:=Dd k gs rec e) h2];rw[cB,bu,show AP c rec e=[] by unfold AP; rw[if_neg h1,if_neg h2]];simp
theorem CP {rec:ByteArray->Except Int (List UInt8×List (List UInt8))} {d:ByteArray} : ∀(L:List dl) (its:List cg) (cs:List (List UInt8)),(∀e∈L,e.kind=2->(∃p,rec e.path= .ok p)\/rec e.path= .error 2)->
  (∃e∈L,e.kind=2/\rec e.path= .error 2)->gX k gs c rec d L its cs= .error 2
 | [],its,cs,_,h=>by obtain⟨e,he,_⟩:=h; cases he
 | e::L,its,cs,h,hx=>by
  have ih:=fun its cs hx=>CP (d:=d) L its cs (fun x hx=>h x (by simp[hx])) hx
  by_cases h1:e.kind=1
  ·rw[gX,if_pos h1];refine ih _ _ ?_;obtain⟨x,hx,h3,h4⟩:=hx
   rcases aZ.1 hx with rfl | hx
   ·omega
   ·exact⟨x,hx,h3,h4⟩
  ·by_cases h2:e.kind=2
   ·rw[gX,if_neg h1,if_pos h2]
    rcases h e (by simp) h2 with⟨p,hp⟩ | hp
    ·rw[hp];simp only;refine ih _ _ ?_;obtain⟨x,hx,h3,h4⟩:=hx
     rcases aZ.1 hx with rfl | hx
     ·rw[hp]at h4; cases h4
     ·exact⟨x,hx,h3,h4⟩
    ·rw[hp]
   ·rw[gX,if_neg h1,if_neg h2];refine ih _ _ ?_;obtain⟨x,hx,h3,h4⟩:=hx
    rcases aZ.1 hx with rfl | hx
    ·exact absurd h3 h2
    ·exact⟨x,hx,h3,h4⟩
theorem mq {f:Nat} {d:ByteArray} (h:lY k gs c tree (f+1) d=false):(∀e∈dF tree d,e.kind=2->lY k gs c tree f e.path=false)/\(dS k gs c tree (f+1) d).1.length<=32768:=by
 unfold lY at h;rw[fI,eQ,List.any_eq_false]at h;refine⟨fun e he hk=> ?_,by omega⟩;have:=h.1 e he
 simpa [hk]using this
theorem Gu (h:BA tree) (hc:jG c=true) (hg:km gs): ∀(f:Nat) (d:ByteArray),(bl d).length<=512->512<f+(bl d).length->gU k gs c tree f d=if lY k gs c tree f d=true then .error 2 else .ok (dS k gs c tree f d)
 | 0,d,h1,h2=>by omega
 | f+1,d,h1,h2=>by
  have ih: ∀e∈dF tree d,gU k gs c tree f e.path=if lY k gs c tree f e.path=true then .error 2 else .ok (dS k gs c tree f e.path):=fun e he=>by
   obtain⟨he1,he2⟩:=fm.1 he;have h3:=dm (h.val e he1);have h4:=fz h3;rw[he2]at h4;exact Gu h hc hg f e.path (mp h3) (by omega)
  have hf: ∀e∈dF tree d,1<=f:=fun e he=>by
   obtain⟨he1,he2⟩:=fm.1 he;have h3:=dm (h.val e he1);have h4:=fz h3;have h5:=mp h3;rw[he2]at h4;omega
  rw[gU,Mc]
  by_cases hb: ∃e∈dF tree d,e.kind=2/\lY k gs c tree f e.path=true
  ·obtain⟨e,he,hk,hbe⟩:=hb;rw[CP (dF tree d) [] [] (fun x hx hk=>by
    rw[ih x hx]
    cases hbx:lY k gs c tree f x.path
    ·exact .inl ⟨_,if_neg (by simp)⟩
    ·exact .inr (if_pos rfl)) ⟨e,he,hk,by rw[ih e he,hbe]; simp⟩]
   have hbt:lY k gs c tree (f+1) d=true:=by
    unfold lY;rw[gJ,List.any_eq_true];exact .inl ⟨e,he,by simp[hk,hbe]⟩
   rw[hbt];simp
  ·have hd: ∀e∈dF tree d,e.kind=2->lY k gs c tree f e.path=false:=fun e he hk=>by
    cases hbe:lY k gs c tree f e.path
    ·rfl
    ·exact absurd ⟨e,he,hk,hbe⟩ hb
   have hh: ∀e∈dF tree d,e.kind=2->gU k gs c tree f e.path= .ok (dS k gs c tree f e.path):=fun e he hk=>by
    rw[ih e he,hd e he hk]; simp
   rw[CO (dF tree d) [] [] fun e he hk=>⟨_,hh e he hk⟩];simp only[aJ];have e1:(dF tree d).map (fun e=>cS k gs c d e (Dd k gs (gU k gs c tree f) e))=mZ k gs c tree f d:=by
    refine List.map_congr_left fun e he=> ?_
    by_cases hk:e.kind=2
    ·rw[show Dd k gs (gU k gs c tree f) e=bA k gs (dS k gs c tree f e.path).1 by unfold Dd; rw[hh e he hk]]
    ·exact nK hk _ _
   have e2:(dF tree d).flatMap (AP c (gU k gs c tree f))=(dF tree d).flatMap (ik k gs c tree f):=by
    rw[List.flatMap_def,List.flatMap_def]
    congr 1
    refine List.map_congr_left fun e he=> ?_
    unfold AP ik
    by_cases h1:e.kind=1
    ·rw[if_pos h1,if_pos h1]
    ·rw[if_neg h1,if_neg h1]
     by_cases hk:e.kind=2
     ·rw[if_pos hk,if_pos hk,hh e he hk]
     ·rw[if_neg hk,if_neg hk]
   rw[e1,e2];have hj:jy (mZ k gs c tree f d)=true:=sj h hc hg d _ fun e he hk=>by
    refine nS hg ?_;have h6:=hf e he;obtain⟨g,rfl⟩: ∃g,f=g+1:=⟨f-1,by omega⟩;exact(mq (hd e he hk)).2
   rw[if_pos hj];have ha:((dF tree d).any fun e=>decide (e.kind=2) && lY k gs c tree f e.path)=false:=by
    rw[List.any_eq_false];intro e he
    by_cases hk:e.kind=2
    ·simp[hk,hd e he hk]
    ·simp[hk]
   have hbt:lY k gs c tree (f+1) d=decide (32768<(fO (mZ k gs c tree f d)).length):=by
    unfold lY;rw[ha,Bool.false_or,fo]
   rw[hbt,fo]
   by_cases hl:(fO (mZ k gs c tree f d)).length<=32768
   ·rw[if_pos hl,if_neg (by simp; omega)]
   ·rw[if_neg hl,if_pos (by simp; omega)]
end
def pQ :List (ByteArray×List UInt8)->ByteArray->List UInt8->List (ByteArray×List UInt8)
 | [],n,x=>[(n,x)]
 | p::cs,n,x=>if p.1=n then(n,x)::cs else p::pQ cs n x
def mP (bs:List cZ):List (ByteArray×List UInt8):=bs.foldl (fun cs b=>pQ cs b.ref.name b.con) []
section
variable (k : dh) (gs : List (ByteArray × Int))
def pR (s:List cZ×Bool) (x:List UInt8):List cZ×Bool:=match s.1.find? (fun b=>decide (b.ref=bA k gs x))with
 | some b=>(s.1,s.2 || !decide (b.con=x))
 | none=>(s.1++[⟨bA k gs x,x⟩],s.2)
def gH (cs:List (List UInt8)) (s:List cZ×Bool):List cZ×Bool:=cs.foldl (pR k gs) s
end
def DT (bs:List cZ):Bool:= !decide ((bs.map fun b=>b.ref.name).Nodup)
section
variable {k : dh} {gs : List (ByteArray × Int)}
theorem Fj (s:List cZ×Bool) (x:List UInt8):(pR k gs s x).1=jK k gs s.1 x:=by
 unfold pR jK
 cases hf:s.1.find? (fun b=>decide (b.ref=bA k gs x))with
 | some b=>
  have h1:=jp hf;have h2:=dM hf;rw[if_pos (aS.2 ⟨b,h2,by simpa using h1⟩)]
 | none=>
  rw[if_neg];intro hm;obtain⟨b,hb,he⟩:=aS.1 hm;have:=eM.1 hf b hb;simp[he]at this
theorem vf : ∀(cs:List (List UInt8)) (s:List cZ×Bool),(gH k gs cs s).1=dB k gs cs s.1
 | [],_=>rfl
 | x::cs,s=>by
  show(gH k gs cs (pR k gs s x)).1=dB k gs cs (jK k gs s.1 x)
  rw[vf cs,Fj]
theorem MD {s:List cZ×Bool} {x:List UInt8} (h:(pR k gs s x).2=false):s.2=false/\(∀b∈s.1,b∈(pR k gs s x).1)/\ ∃b∈(pR k gs s x).1,b.ref=bA k gs x/\b.con=x:=by
 unfold pR at h ⊢
 cases hf:s.1.find? (fun b=>decide (b.ref=bA k gs x))with
 | some b=>
  rw[hf]at h;simp only[fI,Bool.not_eq_false',aL]at h;have h1:=jp hf;exact⟨h.1,fun b hb=>hb,b,dM hf,by simpa using h1,h.2⟩
 | none=>
  rw[hf]at h;exact⟨h,fun b hb=>fL _ hb,_,lu _ (aM.2 rfl),rfl,rfl⟩
theorem ur : ∀ {cs:List (List UInt8)} {s:List cZ×Bool},(gH k gs cs s).2=false->s.2=false/\(∀b∈s.1,b∈(gH k gs cs s).1)/\ ∀x∈cs,∃b∈(gH k gs cs s).1,b.ref=bA k gs x/\b.con=x
 | [],s,h=>⟨h,fun _ hb=>hb,fun x hx=>by cases hx⟩
 | y::cs,s,h=>by
  have h0:(gH k gs cs (pR k gs s y)).2=false:=h;obtain⟨h1,h2,h3⟩:=ur h0;obtain⟨h4,h5,b,h6,h7,h8⟩:=MD h1;refine⟨h4,fun b hb=>h2 b (h5 b hb),fun x hx=> ?_⟩
  rcases aZ.1 hx with rfl | hx
  ·exact⟨b,h2 b h6,h7,h8⟩
  ·exact h3 x hx
theorem ue (n m:ByteArray) (x:List UInt8): ∀(cs:List (ByteArray×List UInt8)),gE (pQ cs n x) m=if n=m then some x else gE cs m
 | []=>rfl
 | (a,b)::cs=>by
  unfold pQ
  by_cases h:a=n
  ·subst h;rw[if_pos rfl,gE,gE]
   by_cases h2:a=m
   ·rw[if_pos h2,if_pos h2]
   ·rw[if_neg h2,if_neg h2,if_neg h2]
  ·rw[if_neg h,gE,ue n m x cs]
   by_cases h2:a=m
   ·subst h2;rw[if_pos rfl,if_neg (fun e=>h e.symm),gE,if_pos rfl]
   ·rw[if_neg h2,gE,if_neg h2]
theorem Ci : ∀(bs:List cZ) (cs:List (ByteArray×List UInt8)) (m:ByteArray),(∀b∈bs,b.ref.name≠m)->gE (bs.foldl (fun cs b=>pQ cs b.ref.name b.con) cs) m=gE cs m
 | [],_,_,_=>rfl
 | b::bs,cs,m,h=>by
  rw[ei,Ci bs _ m fun x hx=>h x (by simp[hx]),ue,if_neg (h b (by simp))]
theorem BZ {cs:List (ByteArray×List UInt8)} {x:List UInt8} (h:gE cs (bA k gs x).name=some x):je cs (bA k gs x)= .ok x:=by
 unfold je;rw[h]
 show(if(x.length:Int)=(x.length:Int)then _ else _)=_
 rw[if_pos rfl]
end
open Go Go.RowKit Go.Maps
def tA (k:dh) (c:fN) (tv gv v:Value) (lg cl:Bool):List Value:=eC k++fU c++[tv,gv,v, .bool lg, .bool cl]
structure jQ (w : World) (base bb : Nat) (k : dh) (c : fN) (tv gv v : Value) (lg : Bool) (s : List cZ × Bool) : Prop where
 box:w.heap[bb]? =some (.cells (tA k c tv gv v lg s.2).toArray 130 (0,0))
 own: ∃zs:List mw,zs.map Prod.snd=s.1/\ii w base v zs
theorem jQ.below {w w':World} {base bb:Nat} {k:dh} {c:fN} {tv gv v:Value} {lg:Bool} {s:List cZ×Bool} (h:jQ w base bb k c tv gv v lg s) (hb:Below w.heap.size w w'):jQ w' base bb k c tv gv v lg s:=by
 obtain⟨zs,h1,h2⟩:=h.own;exact⟨(hb.block _ (aw h.box)).trans h.box,zs,h1,h2.below hb⟩
structure jz (base bb : Nat) (v v' : Value) (w w' : World) : Prop where
 below:Below base w w'
 same: ∀i,i<w.heap.size->i≠bb->v.ownBlock≠some i->w'.heap[i]? =w.heap[i]?
 place: ∀i,v'.ownBlock=some i->v.ownBlock=some i\/w.heap.size<=i
theorem jz.refl (base bb:Nat) (v:Value) (w:World):jz base bb v v w w:=⟨au _ _,fun _ _ _ _=>rfl,fun _ h=> .inl h⟩
theorem jz.trans {base bb:Nat} {v v1 v2:Value} {A B C:World} (h:jz base bb v v1 A B) (k:jz base bb v1 v2 B C):jz base bb v v2 A C:=by
 have hs:=h.below.size;refine⟨h.below.trans k.below,fun i h1 h2 h3=>(k.same i (by omega) h2 (fun e=> ?_)).trans (h.same i h1 h2 h3),fun i e=> ?_⟩
 ·rcases h.place i e with e2 | e2
  ·exact h3 e2
  ·omega
 ·rcases k.place i e with e2 | e2
  ·exact h.place i e2
  ·exact .inr (by omega)
theorem jz.ofBelow {base bb:Nat} {v:Value} {w w':World} (h:Below w.heap.size w w') (hb:base<=w.heap.size):jz base bb v v w w':=⟨h.mono hb,fun k h1 _ _=>h.block k h1,fun _ e=> .inl e⟩
theorem jz.row {w w':World} {base bb B sz n:Nat} {k:dh} {c:fN} {tv gv v v' u:Value} {lg:Bool} {s:List cZ×Bool} {t:TypeId} {xs:List Value} (h:jQ w base bb k c tv gv v lg s) (hk:jz base bb v v' w w') (hr:w.ownsRow B t sz u n xs) (h1:t≠130) (h2:t≠53):w'.ownsRow B t sz u n xs:=
 eP hr (fun i hi hu=>by
  obtain⟨cs,hc⟩:=bI hr hu;refine hk.same i hi (fun e=> ?_) (fun e=> ?_)
  ·subst e; exact h1 (bU hc h.box)
  ·obtain⟨zs,_,ho⟩:=h.own;obtain⟨cs2,hc2⟩:=bI ho.row e;exact h2 (bU hc hc2))
theorem jz.blk {w w':World} {base bb i:Nat} {k:dh} {c:fN} {tv gv v v':Value} {lg:Bool} {s:List cZ×Bool} {cs:Array Value} {t:TypeId} {z:Nat×Nat} (h:jQ w base bb k c tv gv v lg s) (hk:jz base bb v v' w w') (hx:w.heap[i]? =some (.cells cs t z)) (h1:t≠130) (h2:t≠53):w'.heap[i]? =some (.cells cs t z):=
 (hk.same i (aw hx) (fun e=>by subst e; exact h1 (bU hx h.box)) (fun e=>by
  obtain⟨zs,_,ho⟩:=h.own;obtain⟨cs2,hc2⟩:=bI ho.row e;exact h2 (bU hx hc2))).trans hx
theorem jQ.clash {w:World} {base bb:Nat} {k:dh} {c:fN} {tv gv v:Value} {lg cl:Bool} {bs:List cZ} (h:jQ w base bb k c tv gv v lg (bs,cl)) (cl':Bool) (hb:base<=bb):jQ (w.setCell ⟨bb,14,none⟩ (.bool cl')) base bb k c tv gv v lg (bs,cl')/\jz base bb v v w (w.setCell ⟨bb,14,none⟩ (.bool cl')):=by
 obtain⟨zs,h1,h2⟩:=h.own;have hs: ∀j,j≠bb->(w.setCell ⟨bb,14,none⟩ (.bool cl')).heap[j]? =w.heap[j]? :=fun j hj=>aC _ _ _ _ hj
 have ha: ∀ {t:TypeId} {n sz:Nat} {u:Value} {xs:List Value},w.ownsRow base t sz u n xs->t≠130->(w.setCell ⟨bb,14,none⟩ (.bool cl')).ownsRow base t sz u n xs:=fun hr ht=>eP hr (fun i hi hu=>hs i (fun e=>by
  obtain⟨cs,hc⟩:=bI hr hu;subst e;exact ht (bU hc h.box)))
 refine⟨⟨?_,zs,h1,ha h2.row (by decide),fun z hz=>ha (h2.dat z hz) (by decide)⟩,(au _ _).grown (cG w bb 14 _) ?_ (fun i hi=>by cases hi; exact hb),fun i hi e1 _=>hs i e1,fun i e=> .inl e⟩
 ·have:=jb (k:=14) h.box (.bool cl')
  simpa [tA,eC,fU]using this
 ·have:=aw h.box; omega
theorem jQ.push {w w2:World} {base bb:Nat} {k:dh} {c:fN} {tv gv v v' dv:Value} {lg cl:Bool} {bs:List cZ} {zs:List mw} {b:cZ} (hz:zs.map Prod.snd=bs) (h:ii w base v zs) (hx:w.heap[bb]? =some (.cells (tA k c tv gv v lg cl).toArray 130 (0,0)))
  (hn:w.ownsRow base 5 1 dv b.con.length (b.con.map aY)) (hown:w2.ownsRow base 53 4 v' (zs.length+1) (jY zs++nD dv b)) (hg:w.grownBy w2 v.ownBlock) (hpl: ∀k,v'.ownBlock=some k->v.ownBlock=some k\/w.heap.size<=k) (hbe:base<=bb):
  jQ (w2.setCell ⟨bb,12,none⟩ v') base bb k c tv gv v' lg (bs++[b],cl)/\jz base bb v v' w (w2.setCell ⟨bb,12,none⟩ v'):=by
 have hk:=aw hx;have he:base<=w.heap.size:=by omega
 have hf:v.ownBlock≠some bb:=fun e=>by
  obtain⟨cs,hc⟩:=bI h.row e;exact absurd (bU hx hc) (by decide)
 have hb:v'.ownBlock≠some bb:=fun e=>by
  rcases hpl bb e with e | e
  ·exact hf e
  ·omega
 have hh:=(hg.block bb hk (fun e=>hf e.symm)).trans hx;have ha: ∀(u:Value) (ds:List UInt8),w.ownsRow base 5 1 u ds.length (ds.map aY)->(w2.setCell ⟨bb,12,none⟩ v').ownsRow base 5 1 u ds.length (ds.map aY):=by
  intro u ds hd;refine eP hd (fun i hi hu=> ?_);obtain⟨cs,hc⟩:=bI hd hu;rw[aC _ _ _ _ (show i≠bb from fun e=>absurd (bU (e▸hc) hx) (by decide))];refine hg.block i hi (fun e=> ?_);obtain⟨cs2,hj⟩:=bI h.row e.symm;exact absurd (bU hc hj) (by decide)
 refine⟨⟨?_,zs++[(dv,b)],by simp[hz], ?_,fun z hz=> ?_⟩,⟨?_,fun i hi e1 e3=> ?_,fun i e=> ?_⟩⟩
 ·have:=jb (k:=12) hh v'
  simpa [tA,eC,fU]using this
 ·rw[an,bT,uJ];exact hown.kept (cG _ _ _ _) (.inr (fun e=>hb e))
 ·rcases aT.1 hz with hz | hz
  ·exact ha _ _ (h.dat z hz)
  ·rw[aM]at hz;subst hz;exact ha _ _ hn
 ·exact((au _ _).grown hg he (fun i hi=>(h.row.lt i hi).1)).grown (cG w2 bb 12 v') (ay he hg.size) (fun i hi=>by cases hi; exact hbe)
 ·rw[aC _ _ _ _ (show i≠bb from e1)];exact hg.block i hi (fun e=>e3 e.symm)
 ·rcases hpl i e with e | e
  ·exact .inl e
  ·exact .inr (by omega)
theorem Ov {a:Act} {w:World} {b:Nat} {x0 x1 x2:Value} (h:w.heap[b]? =some (.cells #[x0,x1,x2] 26 (0,0)))
  (h4:a.tmps[4]? =some (.pointer (some ⟨b,0,none⟩))):(results Tryz.f126 a.tmps).run Tryz.prog w= .ok (.agg #[x0,x1,x2]) w:=by
 obtain⟨m0,m1,m2,_⟩:=aU h;simp[results,Tryz.results126,go_sem,h4,m0,m1,m2]
theorem Bl {a:Act} {w:World} {b:Nat} {a0 a1 a2 x0 x1 x2:Value} {Q:Ending->World->Prop} (h:w.heap[b]? =some (.cells #[a0,a1,a2] 26 (0,0)))
  (h4:a.tmps[4]? =some (.pointer (some ⟨b,0,none⟩))) (hd:a.defers=[])
  (hQ:Q (.returned (.agg #[x0,x1,x2])) (((w.setCell ⟨b,0,none⟩ x0).setCell ⟨b,1,none⟩ x1).setCell ⟨b,2,none⟩ x2)):
  bodyPost Tryz.prog Tryz.f126 Q Exit.ret a (((w.setCell ⟨b,0,none⟩ x0).setCell ⟨b,1,none⟩ x1).setCell ⟨b,2,none⟩ x2):=cM (Ov (vj h) h4) hd hQ
theorem Er {bs:List cZ} {j:Nat} {b:cZ} (h:bs[j]? =some b):mP (bs.take (j+1))=pQ (mP (bs.take j)) b.ref.name b.con:=by
 unfold mP;rw[dL h,dV]
 rfl
theorem eT.miss' {S:Nat->Prop} {w:World} {n:ByteArray} {v:Value} {x:List UInt8} (hv:bH S w v x): ∀ {m:List (Value×Value)} {cs:List (ByteArray×List UInt8)},eT S w m cs->(∀p∈m,p.1≠Value.string n)->eT S w (m++[(.string n,v)]) (pQ cs n x)
 | [],[],_,_=>⟨rfl,hv,trivial⟩
 | [],_::_,h,_=>False.elim h
 | _::_,[],h,_=>False.elim h
 | (k,u)::m,(n',b')::cs,h,hm=>by
  have hne:n'≠n:=fun e=>hm (k,u) (by simp) (by rw[h.1,e])
  rw[pQ,if_neg hne];exact⟨h.1,h.2.1,eT.miss' hv h.2.2 (fun p hp=>hm p (by simp[hp]))⟩
theorem eT.hit' {S:Nat->Prop} {w:World} {n:ByteArray} : ∀ {m:List (Value×Value)} {cs:List (ByteArray×List UInt8)},eT S w m cs->(∃p∈m,p.1=Value.string n)-> ∃m1 old m2,m=m1++(.string n,old)::m2/\ ∀(w':World) (S':Nat->Prop) (v:Value) (x:List UInt8),(∀v bs,bH S w v bs->bH S' w' v bs)->bH S' w' v x->eT S' w' (m1++(.string n,v)::m2) (pQ cs n x)
 | [],[],_,⟨_,hp,_⟩=>by simp at hp
 | [],_::_,h,_=>False.elim h
 | _::_,[],h,_=>False.elim h
 | (k,u)::m,(n',b')::cs,h,hp=>by
  have hmono: ∀ {w':World} {S':Nat->Prop},(∀v bs,bH S w v bs->bH S' w' v bs)->eT S w m cs->eT S' w' m cs:=by
   intro w' S' hm;have: ∀ {m:List (Value×Value)} {cs:List (ByteArray×List UInt8)},eT S w m cs->eT S' w' m cs:=by
    intro m
    induction m with
    | nil=>intro cs h; cases cs with
     | nil=>trivial
     | cons=>exact h
    | cons p m ih=>intro cs h; cases cs with
     | nil=>exact h
     | cons q cs=>exact⟨h.1,hm _ _ h.2.1,ih h.2.2⟩
   exact this
  by_cases hn:n'=n
  ·subst hn;refine⟨[],u,m,by rw[h.1]; rfl,fun w' S' v x hm hv=> ?_⟩;rw[pQ,if_pos rfl];exact⟨rfl,hv,hmono hm h.2.2⟩
  ·obtain⟨p,hc,hb⟩:=hp;have ha:p∈m:=by
    rcases aZ.1 hc with rfl | ha
    ·have:=h.1.symm.trans hb;simp only[ep]at this;exact absurd this hn
    ·exact ha
   obtain⟨m1,old,m2,h1,h2⟩:=eT.hit' h.2.2 ⟨p,ha,hb⟩;refine⟨(k,u)::m1,old,m2,by rw[h1]; rfl,fun w' S' v x hm hv=> ?_⟩;rw[pQ,if_neg hn];exact⟨h.1,hm _ _ h.2.1,h2 w' S' v x hm hv⟩
def mT (S:Nat->Prop) (w:World) (v:Value) (bs:List cZ):Prop:= ∃zs:List mw,zs.map Prod.snd=bs/\cC S w 4 v zs.length (jY zs)/\ ∀z∈zs,bH S w z.1 z.2.con/\dY z.2.ref
theorem vU : ∀ {zs:List mw} {k:Nat} {z:mw},zs[k]? =some z-> ∀j,j<4->(jY zs)[k*4+j]? =(nD z.1 z.2)[j]?
 | [],k,_,h,_,_=>by simp at h
 | x::zs,0,z,h,j,hj=>by
  simp at h; subst h;unfold jY;rw[bu,ir,bS,bK (by exact hj)]
 | x::zs,k+1,z,h,j,hj=>by
  have:=vU (zs:=zs) (k:=k) (z:=z) (by simpa using h) j hj;unfold jY at this ⊢;rw[bu,bG (by show 4<=_; omega),<-this]
  congr 1
  show(k+1)*4+j-4=_
  omega
theorem sP {S:Nat->Prop} {w:World} {a:Option Addr} {n cap:Nat} {zs:List mw} (h:cC S w 4 (.slice a n cap) zs.length (jY zs)) {k:Nat} {z:mw} (hz:zs[k]? =some z):
  ∃b o,a=some ⟨b,o,none⟩/\S b/\b<w.heap.size/\ ∀j,j<4->w.cell? ⟨b,o+k*4+j,none⟩=(nD z.1 z.2)[j]? :=by
 obtain⟨_,a',cap',he,_,_,h0⟩:=h
 cases he
 have ha:=(aG.1 hz).1
 rcases h0 with h0 | ⟨b,o,rfl,hS,hc⟩
 ·omega
 ·have g:=fun j (hj:j<4)=>hc (k*4+j) _ ((vU hz j hj).trans (bJ (l:=nD z.1 z.2) hj))
  have g0:=g 0 (by omega);refine⟨b,o,rfl,hS,cF (a:=⟨b,o+(k*4+0),none⟩) g0,fun j hj=> ?_⟩;rw[dd,g j hj];exact(bJ (l:=nD z.1 z.2) hj).symm
theorem mT.below {S:Nat->Prop} {w w':World} {v:Value} {bs:List cZ} (h:mT S w v bs) (hb:Below w.heap.size w w'):mT S w' v bs:=by
 obtain⟨zs,h1,h2,h3⟩:=h;exact⟨zs,h1,cC.below h2 (by omega) hb,fun z hz=>⟨cC.below (h3 z hz).1 (by omega) hb,(h3 z hz).2⟩⟩
def FY (S:Nat->Prop) (bs:List cZ) (w:World) (e:Ending) (w':World):Prop:= ∃mb m,e= .returned (.map (some mb))/\w.heap.size<=mb/\ja Tryz.prog 9 w' mb m/\eT S w' m (mP bs)/\Below w.heap.size w w'
theorem sU (S:Nat->Prop) (bs:List cZ) (v:Value) (w:World) (hv:mT S w v bs) (hl:bs.length<=1000000):Calls Tryz.prog 36 #[v] w (FY S bs w):=by
 obtain⟨zs,hF,he,hf⟩:=hv;obtain⟨_,a,cap,rfl,h9,hm,-⟩:=id he;unfold maxLen at hm;have hC:=am he;have hy:=am hf
 have hO:=am hF;obtain⟨n,hn⟩: ∃n,n=zs.length:=⟨_,rfl⟩;have He:n<=1000000:=by rw[hn,<-aB (f:=Prod.snd),hF]; exact hl
 rw[<-hn]at h9 ⊢;have HN:=am hn;have Hc:= @run_makeMap Tryz.prog;obtain⟨W0,hu⟩: ∃W0,W0=w.alloc (.map #[] 0):=⟨_,rfl⟩;have hX:=am (show ja Tryz.prog 9 W0 w.heap.size [] by rw[hu]; exact ja.made w);have hV:=am (show Below w.heap.size w W0 by rw[hu]; exact eK);clear he hf hF hn hl
 go_enter Tryz.func36,Tryz.ntmps36
 go_upto_region 2 with(fail)
 rw[<-hu];clear hu Hc;go_wp2_with fail
 go_loopw [4] (fun i wr=> ∃(j:Nat) (m:List (Value×Value)),j<=n/\i= .int .i64 (j:Int)/\ja Tryz.prog 9 wr w.heap.size m/\eT S wr m (mP (bs.take j))/\Below w.heap.size w wr) (fun i _=>n-(intOf i).toNat)
 case atStart=>exact⟨0,[],aW _,rfl,hX.o,trivial,hV.o⟩
 case round=>
  obtain⟨j,m,hj,rfl,hT,hR,hb⟩:=hrel;have hs:=am hT;have hA:=am hR;have HB:=am hb;clear hT hR hb
  by_cases Hb:j<n
  ·obtain⟨z,hz⟩: ∃z,zs[j]? =some z:=⟨zs[j]'(by rw[<-HN.o]; exact Hb),by simp⟩;obtain⟨b,o,rfl,-,h7,hQ⟩:=sP hC.o hz;have hq:=hy.o z (aQ hz);have Hd:=am hq;have hZ:=am (show bs[j]? =some z.2 by rw[<-hO.o,bn,hz]; rfl);obtain⟨_,za,zc,hG,-,-,-⟩:=id hq.1;have g:=fun i (hi:i<4)=>(HB.o.cell (p:=⟨b,o+j*4+i,none⟩) h7).trans (hQ i hi)
   have q0:=g 0 (by omega);have q3:=g 3 (by omega);simp only[nD,ah,aj,cT]at q0 q3;rw[hG]at q3;obtain⟨zl,hE⟩: ∃zl,zl=z.2.con.length:=⟨_,rfl⟩;rw[<-hE]at q3;obtain⟨nm,hx⟩: ∃nm,nm=z.2.ref.name:=⟨_,rfl⟩;rw[<-hx]at q0;have hD:nm.size<=maxLen:=by rw[hx]; exact hq.2.nm
   have ht:Tryz.prog.underlying 55=some (.map 9 29):=rE;have hN:=am ht;have hM:=am (show mP (bs.take (j+1))=pQ (mP (bs.take j)) nm z.2.con by rw[Er hZ.o,hx]);have hH:=am (show ∀W:World,Below w.heap.size w W->bH S W (.slice za zl zc) z.2.con from fun W hW=>by rw[hE,<-hG]; exact cC.below hq.1 (by omega) hW);have h8:w.heap.size<wr.heap.size:=hs.o.lt
   clear ht hz hQ hq hG g hE hx;go_wp2_with fail;refine bF [some 12,none] (by kernel_rfl) (by kernel_rfl) (by kernel_rfl) ?_;simp only[dJ,aR,aX,bz,bQ];have hJ:=am (hs.o.same (w':=wr.drew) rfl)
   repeat (first | (refine bZ rfl ?_; simp only[Act.put,aa,ag,ab]) | (refine cK rfl (fun K hK=> ?_); go_simp; refine hK _ ?_; clear hK K))
   refine cJ ?_;refine ee rfl (fun K hK=> ?_);have hP: ∀(w9:World),wr.drew.grownBy w9 (some w.heap.size)->Below w.heap.size w w9:=fun w9 hg=>(HB.o.trans ((au wr.heap.size wr).drew.mono HB.o.size)).grown hg (fC h8) (fun i hi=>by cases hi; exact ak _)
   have hr:=am hP
   have ha: ∀(w9:World),wr.drew.grownBy w9 (some w.heap.size)-> ∀v bs,bH S wr v bs->bH S w9 v bs:=fun w9 hg v bs hv=>by
    obtain⟨h1,a9,cap9,rfl,h2,h3,h4⟩:=hv;refine⟨h1,a9,cap9,rfl,h2,h3, ?_⟩
    rcases h4 with h4 | ⟨b9,o9,rfl,hS,hc⟩
    ·exact .inl h4
    ·refine .inr ⟨b9,o9,rfl,hS,fun i u hi=> ?_⟩;have q:=hc i u hi;rw[<-q];refine cu (hg.block b9 (cF (a:=⟨b9,o9+i,none⟩) q) (fun e=> ?_));have:b9=w.heap.size:=by simpa using e
     subst this;obtain⟨es,clock,h0,_⟩:=hs.o;simp[World.cell?,h0]at q
   have hI:=am ha;clear hP ha
   by_cases hw: ∃p∈m,p.1=Value.string nm
   ·obtain⟨m1,old,m2,rfl,ho⟩:=hA.o.hit' hw;have hY:=am ho;clear hw ho;go_wp2_with (at_mapUpdate; go_must (refine qa gg rfl _ _ _ _ rfl hN.o w.heap.size m1 m2 (.string nm) (.slice za zl zc) old hJ.o rfl rfl rfl ?_); intro w9 hk hh);have hB:=am hk;have hd:=am hh;clear hk hh;go_wp2_with fail
    go_roundw
    case rel=>exact⟨j+1,_,by omega,by go_num,hB.o,by rw[hM.o]; exact hY.o w9 S _ _ (hI.o w9 hd.o) (hH.o w9 (hr.o w9 hd.o)),hr.o w9 hd.o⟩
    case measure=>simp[intOf]; omega
   ·have hU: ∀p∈m,p.1≠Value.string nm:=fun p hp e=>hw ⟨p,hp,e⟩
    have hL:=am hU;clear hw hU;go_wp2_with (at_mapUpdate; go_must (refine kw gg rfl _ _ _ _ rfl hN.o w.heap.size m hJ.o rfl (.string nm) (.slice za zl zc) rfl rfl (iA hD) hL.o ?_); intro w9 hk hh);have hB:=am hk;have hd:=am hh;clear hk hh;go_wp2_with fail
    go_roundw
    case rel=>exact⟨j+1,_,by omega,by go_num,hB.o,by rw[hM.o]; exact eT.miss' (hH.o w9 (hr.o w9 hd.o)) (hA.o.mono (hI.o w9 hd.o)) hL.o,hr.o w9 hd.o⟩
    case measure=>simp[intOf]; omega
  ·have Ha:j=n:=by omega
   subst Ha;go_wp2_with fail;go_ret;have h1:=hA.o;rw[bB (by rw[<-hO.o,aB,<-HN.o]; exact ak _)]at h1;exact⟨_,m,rfl,ak _,hs.o,h1,HB.o⟩
def fY (bb:Nat) (k:dh) (c:fN) (tv gv v:Value) (lg cl:Bool) (w:World):Prop:=w.heap[bb]? =some (.cells (tA k c tv gv v lg cl).toArray 130 (0,0))
theorem fY.below {bb:Nat} {k:dh} {c:fN} {tv gv v:Value} {lg cl:Bool} {w w':World} (h:fY bb k c tv gv v lg cl w) (hb:Below w.heap.size w w'):fY bb k c tv gv v lg cl w':=dX hb h
theorem nR (w:World) (n:Nat):Below w.heap.size w (w.drewN n):=⟨rfl,rfl,rfl,ak _,fun _ _=>rfl⟩
theorem Gw {α:Type} {p:α->Bool} : ∀ {l:List α} {j:Nat} {b:α},l[j]? =some b->p b=true->(∀y∈l.take j,p y=false)->l.find? p=some b
 | [],_,_,h,_,_=>by simp at h
 | a::l,0,b,h,hp,_=>by
  obtain rfl:a=b:=by simpa using h
  simp[hp]
 | a::l,j+1,b,h,hp,hn=>by
  have h1:p a=false:=hn a (by simp);rw[List.find?_cons,h1];exact Gw (l:=l) (j:=j) (by simpa using h) hp (fun y hy=>hn y (by simp[hy]))
theorem jQ.other {w w':World} {base bb b:Nat} {k:dh} {c:fN} {tv gv v:Value} {lg:Bool} {s:List cZ×Bool} {cs:Array Value} {t:TypeId} {z:Nat×Nat} (h:jQ w base bb k c tv gv v lg s) (hb:w.heap[b]? =some (.cells cs t z)) (h1:t≠130) (h2:t≠53) (h3:t≠5) (hs: ∀i,i≠b->i<w.heap.size->w'.heap[i]? =w.heap[i]?):jQ w' base bb k c tv gv v lg s:=by
 obtain⟨zs,hz,hr,hd⟩:=h.own;refine⟨(hs bb (fun e=> ?_) (aw h.box)).trans h.box,zs,hz,eP hr (fun i hi hu=>hs i (fun e=> ?_) hi),fun y hy=>eP (hd y hy) (fun i hi hu=>hs i (fun e=> ?_) hi)⟩
 ·subst e; exact h1 (bU hb h.box)
 ·subst e;obtain⟨cs2,ha⟩:=bI hr hu;exact h2 (bU hb ha)
 ·subst e;obtain⟨cs2,ha⟩:=bI (hd y hy) hu;exact h3 (bU hb ha)
theorem jz.setNew {base bb b j:Nat} {v v' u:Value} {w w':World} (h:jz base bb v v' w w') (hb:w.heap.size<=b) (hbz:base<=w.heap.size):jz base bb v v' w (w'.setCell ⟨b,j,none⟩ u):=
 ⟨cw h.below (show base<=b by omega) u,fun i h1 h2 h3=>(aC _ _ _ _ (show i≠b by omega)).trans (h.same i h1 h2 h3),h.place⟩
theorem zX (base bb:Nat) (k:dh) (c:fN) (tv gv v cv:Value) (gs:List (ByteArray×Int)) (lg cl:Bool) (bs:List cZ) (x:List UInt8) (w:World) (h:jQ w base bb k c tv gv v lg (bs,cl)) (hk:jx k=true) (hG:kK (· <base) w gv gs) (hgs:km gs) (hx:w.ownsRow base 5 1 cv x.length (x.map aY)) (hl:x.length<=32768) (hbs:bs.length<=1000000) (hbe:base<=bb):
  Calls Tryz.prog 126 #[.pointer (some ⟨bb,0,none⟩),cv] w fun e w'=>e= .returned (ef (bA k gs x))/\ ∃v',jQ w' base bb k c tv gv v' lg (pR k gs (bs,cl) x)/\jz base bb v v' w w':=by
 have H4:=aw h.box;have hf:base<=w.heap.size:=by omega
 obtain⟨zs,Hr,ho⟩:=h.own;obtain⟨av,cvv,hv,hB,hC⟩:=aH ho.row;obtain⟨n,hn⟩: ∃n,n=zs.length:=⟨_,rfl⟩;rw[<-hn]at hv hB;subst hv;unfold maxLen at hC;have hL:=am hn;have Hj:=am Hr;have HO:=am ho;have H6:n<=1000000:=by rw[hn,<-aB (f:=Prod.snd),Hr]; exact hbs
 clear hbs Hr ho hn;obtain⟨W1,h2⟩: ∃W1,W1=w.alloc (.cells #[.string ⟨#[]⟩, .int .i64 0, .int .i64 0] 26):=⟨_,rfl⟩;have HL:=am (show Below w.heap.size w W1 by rw[h2]; exact eK);have HP:=am (show W1.heap[w.heap.size]? =some (.cells #[.string ⟨#[]⟩, .int .i64 0, .int .i64 0] 26 (0,0)) by rw[h2]; exact aF w _);have HH:=am h;have HK:=am hk;have HG:=am hG
 have Ht:=am hgs;have hW:=am hx;obtain⟨ax,cx,rfl,hA,H3⟩:=aH hx;obtain⟨xl,Hp⟩: ∃l,l=x.length:=⟨_,rfl⟩;rw[<-Hp]at hl hW ⊢;have hJ:=am Hp;clear h hk hG hgs hx hA H3 Hp
 go_enter Tryz.func126,Tryz.ntmps126
 go_upto_region 1 with fail
 rw[<-h2];clear h2;refine ez (fY bb k c tv gv (.slice av n cvv) lg cl) (by kernel_rfl) ?_;obtain⟨V,hV⟩: ∃V:World,V=W1.drew:=⟨_,rfl⟩;rw[<-hV];have hb:Below W1.heap.size W1 V:=by rw[hV]; exact(au _ _).drew
 have hQ:=am (ar HL.o hb);have He:=am (dX hb HP.o);have SV:=am (show fY bb k c tv gv (.slice av n cvv) lg cl V from fY.below HH.o.box hQ.o);clear hV hb
 iterate 9 (refine cA rfl (by kernel_rfl) (fun _ _ _ h=>h) rfl SV.o (by rintro w' hx; have ha:=hx; unfold fY at ha; have k0:=az (k:=0) ha; have k1:=az (k:=1) ha; have k2:=az (k:=2) ha; have k3:=az (k:=3) ha; have k4:=az (k:=4) ha; have k11:=az (k:=11) ha; simp only[tA,eC,fU,aK,aJ,ai,aj,ah]at k0 k1 k2 k3 k4 k11; clear hx ha; go_simp; rfl) ?_; simp only[Act.put,aa,ag,ab])
 obtain⟨rf,HJ⟩: ∃r,r=bA k gs x:=⟨_,rfl⟩;have hF:=am HJ;clear HJ;have HZ: ∀i,(· <base) i->i<V.heap.size:=fun i hi=>aP hi (ay hf hQ.o.size)
 refine wO 9 10 rfl rfl (by kernel_rfl) rfl rfl (fun K hK=> ?ca) (fun K hK=> ?al)
 case' ca=>
  have H0:Below V.heap.size V V:=au _ _;go_wp2_with fail;refine(wJ _ _ k gs gv x _ _ HK.o (HG.o.keep (w':=V) (fun i hi _=>hQ.o.block i (aP hi hf))) HZ Ht.o (show bH (fun _=>True) V (.slice ax xl cx) x by
   have h1:=cL (cR hW.o hQ.o)
   show cC _ V 1 _ x.length (x.map aY)
   rw[<-hJ.o];exact h1.weak fun _ _=>trivial) (by rw[<-hJ.o]; exact hl)).mono ?_
  rintro e w2 ⟨rfl,hd⟩;rw[<-hF.o];have hP:=am (ar hQ.o hd);have h0:=am (dX hd He.o);have S2:=am (fY.below SV.o hd);clear hd H0;unfold ef;go_wp2_with fail;refine⟨S2.o, ?_⟩;refine cn 10 rfl (fun K hK=> ?_);go_wp2_with fail;obtain⟨Z,hZ⟩: ∃Z,Z=w2.alloc (.cells #[.string ⟨#[]⟩, .int .i64 0, .int .i64 0] 26):=⟨_,rfl⟩;rw[<-hZ];have hc:Below w2.heap.size w2 Z:=by rw[hZ]; exact eK
  have h9:=am (ar hP.o hc);have Hf:=am (dX hc h0.o);have SZ:=am (fY.below S2.o hc);obtain⟨xb,hE⟩: ∃b,b=w2.heap.size:=⟨_,rfl⟩;have hU:=am (show Z.heap[xb]? =some (.cells #[.string ⟨#[]⟩, .int .i64 0, .int .i64 0] 26 (0,0)) by rw[hZ,hE]; exact aF w2 _);have Ho:w.heap.size<xb:=by rw[hE]; exact aw h0.o
  rw[<-hE];clear hZ hc hE;refine⟨SZ.o, ?_⟩
 case' al=>
  go_wp2_with fail;obtain⟨w2,h7⟩: ∃Z,Z=V.alloc (.cells #[.string ⟨#[]⟩, .int .i64 0, .int .i64 0] 26):=⟨_,rfl⟩;rw[<-h7];have hd:Below V.heap.size V w2:=by rw[h7]; exact eK
  have hP:=am (ar hQ.o hd);have h0:=am (dX hd He.o);have S2:=am (fY.below SV.o hd);obtain⟨xb,hE⟩: ∃b,b=V.heap.size:=⟨_,rfl⟩;have HU:=am (show w2.heap[xb]? =some (.cells #[.string ⟨#[]⟩, .int .i64 0, .int .i64 0] 26 (0,0)) by rw[h7,hE]; exact aF V _);have Ho:w.heap.size<xb:=by rw[hE]; exact aw He.o
  rw[<-hE];have Hk: ∀i,(· <base) i->i<w2.heap.size:=fun i hi=>aP hi (ay hf hP.o.size)
  clear h7 hd hE;refine⟨S2.o, ?_⟩;refine cn 9 rfl (fun K hK=> ?_);go_wp2_with fail;refine(wJ _ _ k gs gv x _ _ HK.o (HG.o.keep (w':=w2) (fun i hi _=>hP.o.block i (aP hi hf))) Hk Ht.o (show bH (fun _=>True) w2 (.slice ax xl cx) x by
   have h1:=cL (cR hW.o hP.o)
   show cC _ w2 1 _ x.length (x.map aY)
   rw[<-hJ.o];exact h1.weak fun _ _=>trivial) (by rw[<-hJ.o]; exact hl)).mono ?_
  rintro e Z ⟨rfl,hc⟩;rw[<-hF.o];have h9:=am (ar hP.o hc);have Hf:=am (dX hc h0.o);have SZ:=am (fY.below S2.o hc);have hU:=am (dX hc HU.o);clear hc;unfold ef;go_wp2_with fail;refine⟨SZ.o, ?_⟩
 all_goals
  obtain⟨z0,z1,z2,_⟩:=aU hU.o;obtain⟨y0,y1,y2,_⟩:=gG hU.o;refine cn 11 rfl (fun K hK=> ?_);go_wp2_with fail;obtain⟨Y,hY⟩: ∃Y,Y=(((Z.setCell ⟨xb,0,none⟩ (.string rf.name)).setCell ⟨xb,1,none⟩ (.int .i64 rf.gen)).setCell ⟨xb,2,none⟩ (.int .i64 rf.size)):=⟨_,rfl⟩;have HN:=am (show Below w.heap.size w Y by rw[hY]; exact gZ h9.o (by omega));have HW:=am (show Y.heap[xb]? =some (.cells #[.string rf.name, .int .i64 rf.gen, .int .i64 rf.size] 26 (0,0)) by rw[hY]; exact vj hU.o)
  have HS:=am (show Y.heap[w.heap.size]? =some (.cells #[.string ⟨#[]⟩, .int .i64 0, .int .i64 0] 26 (0,0)) by rw[hY]; exact(ed (by omega)).trans Hf.o);have SY:=am (show fY bb k c tv gv (.slice av n cvv) lg cl Y by rw[hY]; exact(ed (by omega)).trans SZ.o);rw[<-hY];clear hY z0 z1 z2 y0 y1 y2 SZ hU Hf h9;refine⟨SY.o, ?_⟩;refine cE (by kernel_rfl) ?_;go_wp2_with fail
  go_loopw [6] (fun i wr=> ∃j:Nat,j<=n/\i= .int .i64 (j:Int)/\(∀b∈bs.take j,¬b.ref=rf)/\Below Y.heap.size Y wr) (fun i _=>n-(intOf i).toNat)
  case atStart=>exact⟨0,aW _,rfl,by simp,au _ _⟩
  case round=>
   obtain⟨j,hj,rfl,HF,hb⟩:=hrel;have Ha:=am HF;have HB:=am hb;have h8:=am (ar HN.o hb);have Hi:=am (dX hb HW.o);have Hw:=am (dX hb HS.o);have SW:=am (fY.below SY.o hb);clear HF hb
   by_cases H2:j<n
   ·obtain⟨z,hz⟩: ∃z,zs[j]? =some z:=⟨zs[j]'(by rw[<-hL.o]; exact H2),by simp⟩;have Hz:=am (HO.o.dat z (aQ hz));have HA:=am (show bs[j]? =some z.2 by rw[<-Hj.o,bn,hz]; rfl);have hO:=cL (cR HO.o.row h8.o);rw[<-hL.o]at hO;obtain⟨gb,go,rfl,-,H5,hh⟩:=sP (by rw[<-hL.o]; exact hO) hz;have q0:=hh 0 (by omega)
    have q1:=hh 1 (by omega);have q2:=hh 2 (by omega);have q3:=hh 3 (by omega);simp only[nD,ah,aj,cT]at q0 q1 q2 q3;obtain⟨za,zc,Hs,-,-⟩:=aH Hz.o;rw[Hs]at q3;have HX:=am Hs;obtain⟨zl,Hq⟩: ∃zl,zl=z.2.con.length:=⟨_,rfl⟩;rw[<-Hq]at q3;have HC:=am Hq;have HD:=am q3;obtain⟨r,hr⟩: ∃r,r=z.2.ref:=⟨_,rfl⟩
    rw[<-hr]at q0 q1 q2;have HR:=am hr;have h4:=zk r rf;have ha:=SW.o;unfold fY at ha;have k0:=az (k:=0) ha;have k1:=az (k:=1) ha;have k2:=az (k:=2) ha;have k3:=az (k:=3) ha;have k4:=az (k:=4) ha;have k11:=az (k:=11) ha;have k12:=az (k:=12) ha;have k14:=az (k:=14) ha;simp only[tA,eC,fU,aK,aJ,ai,aj,ah]at k0 k1 k2 k3 k4 k11 k12 k14
    obtain⟨p0,p1,p2,_⟩:=aU Hi.o;unfold ef at h4;clear ha hO hz hh q3 Hs Hq hr k0 k1 k2 k3 k4 k11 k14
    by_cases hm:r=rf
    ·have e1:decide (r=rf)=true:=by simp[hm]
     rw[e1]at h4;clear e1;go_wp2_with fail
     go_quiet (fail)
     obtain⟨W2,hM⟩: ∃W,W=wr.drewN nq:=⟨_,rfl⟩;rw[<-hM];have hd:Below wr.heap.size wr W2:=by rw[hM]; exact nR wr nq
     have hX:=am (show pR k gs (bs,cl) x=(bs,cl || !decide (z.2.con=x)) by
      unfold pR;rw[Gw (b:=z.2) HA.o (by rw[<-HR.o,<-hF.o]; simp[hm]) (fun y hy=>by rw[<-hF.o]; simpa using Ha.o y hy)])
     have HM:=am (ar h8.o hd);have Hx:=am (dX hd Hi.o);have Hu:=am (dX hd Hw.o);have S3:=am (fY.below SW.o hd);have HQ:=am ((hd.cell (p:=⟨gb,go+j*4+3,none⟩) (cF HD.o)).trans HD.o);clear hM hd k12 q0 q1 q2 p0 p1 p2 h4;go_wp2_with fail;obtain⟨W3,hN⟩: ∃W,W=W2.drew:=⟨_,rfl⟩;refine ey (fun w'=>fY bb k c tv gv (.slice (some ⟨gb,go,none⟩) n cvv) lg cl w'/\w'.cell? ⟨gb,go+j*4+3,none⟩=some (.slice za zl zc)/\bH (fun _=>True) w' (.slice za zl zc) z.2.con/\bH (fun _=>True) w' (.slice ax xl cx) x) (by kernel_rfl) (by kernel_rfl) ?_
     simp only[br,bt,aD,bo,Nat.reduceAdd,Nat.reduceSub];rw[<-hN];have hs:Below W2.heap.size W2 W3:=by rw[hN]; exact(au _ _).drew
     have hu:=am (ar HM.o hs);have hH:=am (dX hs Hx.o);have hR:=am (dX hs Hu.o);have S4:=am (fY.below S3.o hs);have SM:=am (show fY bb k c tv gv (.slice (some ⟨gb,go,none⟩) n cvv) lg cl W3/\W3.cell? ⟨gb,go+j*4+3,none⟩=some (.slice za zl zc)/\bH (fun _=>True) W3 (.slice za zl zc) z.2.con/\bH (fun _=>True) W3 (.slice ax xl cx) x from
      ⟨S4.o,(hs.cell (p:=⟨gb,go+j*4+3,none⟩) (cF HQ.o)).trans HQ.o,by
       have h1:=cL (cR Hz.o hu.o);rw[HX.o,<-HC.o]at h1
       show cC _ W3 1 _ z.2.con.length (z.2.con.map aY)
       rw[<-HC.o];exact h1.weak fun _ _=>trivial,by
       have h1:=cL (cR hW.o hu.o)
       show cC _ W3 1 _ x.length (x.map aY)
       rw[<-hJ.o];exact h1.weak fun _ _=>trivial⟩)
     clear hs hN S3 Hx Hu HQ
     cases cl with
     | true=>
      iterate 6 (refine cA rfl (by kernel_rfl) (fun _ _ _ h=>h) rfl SM.o (by rintro w' ⟨ha,hq,hB,hC⟩; unfold fY at ha; have k12:=az (k:=12) ha; have k14:=az (k:=14) ha; have HE:=iz hB; have h3:=iz hC; simp only[tA,eC,fU,aK,aJ,ai,aj,ah]at k12 k14; clear ha hB hC; go_simp; rfl) ?_; simp only[Act.put,aa,ag,ab])
      iterate 12 (refine LP rfl (by kernel_rfl) (fun _ _ _ h=>h) rfl SM.o ?_; simp only[Act.put,aa,ag,ab])
      iterate 3 (refine cA rfl (by kernel_rfl) (fun _ _ _ h=>h) rfl SM.o (by rintro w' ⟨ha,hq,hB,hC⟩; unfold fY at ha; have k12:=az (k:=12) ha; have k14:=az (k:=14) ha; have HE:=iz hB; have h3:=iz hC; simp only[tA,eC,fU,aK,aJ,ai,aj,ah]at k12 k14; clear ha hB hC; go_simp; rfl) ?_; simp only[Act.put,aa,ag,ab])
      refine cE (by kernel_rfl) ?_;refine eD rfl rfl (fun K hK=> ?_);have ha:=S4.o;unfold fY at ha;have k0:=az (k:=0) ha;have k1:=az (k:=1) ha;have k2:=az (k:=2) ha;have k3:=az (k:=3) ha;have k4:=az (k:=4) ha;have k11:=az (k:=11) ha;have k12:=az (k:=12) ha;have k14:=az (k:=14) ha;simp only[tA,eC,fU,aK,aJ,ai,aj,ah]at k0 k1 k2 k3 k4 k11 k12 k14
      have kz14:=dw (k:=14) ha;clear ha
      go_upto_region 7 with(fail)
      have hh:=jQ.clash (HH.o.below hu.o) (true) hbe;have Hb:=am (show pR k gs (bs,_) x=(bs,true) by rw[hX.o]; by_cases he:z.2.con=x<;> simp[he]);obtain⟨W5,hp⟩: ∃W,W=W3.setCell ⟨bb,14,none⟩ (.bool (true)):=⟨_,rfl⟩;have Hg:=am (show W5.heap[xb]? =some (.cells #[.string rf.name, .int .i64 rf.gen, .int .i64 rf.size] 26 (0,0)) by rw[hp]; exact(aC _ _ _ _ (show xb≠bb by omega)).trans hH.o)
      have hD:=am (show W5.heap[w.heap.size]? =some (.cells #[.string ⟨#[]⟩, .int .i64 0, .int .i64 0] 26 (0,0)) by rw[hp]; exact(aC _ _ _ _ (show w.heap.size≠bb by omega)).trans hR.o);rw[<-hp]at hh ⊢;have hS:=am hh;clear hh hp k0 k1 k2 k3 k4 k11 k12 k14 kz14 SM S4 hH hR;obtain⟨p0,p1,p2,_⟩:=aU Hg.o;obtain⟨z0,z1,z2,_⟩:=aU hD.o;obtain⟨y0,y1,y2,_⟩:=gG hD.o
      go_wp2_with fail;refine Bl hD.o rfl rfl ?_;refine⟨by rw[<-hF.o]; rfl, .slice (some ⟨gb,go,none⟩) n cvv, ?_, ?_⟩
      ·rw[Hb.o];exact hS.o.1.other hD.o (by decide) (by decide) (by decide) (fun i hi _=>ed hi)
      ·exact((((jz.ofBelow hu.o hf).trans hS.o.2).setNew (ak _) hf).setNew (ak _) hf).setNew (ak _) hf
     | false=>
      iterate 21 (refine cA rfl (by kernel_rfl) (fun _ _ _ h=>h) rfl SM.o (by rintro w' ⟨ha,hq,hB,hC⟩; unfold fY at ha; have k12:=az (k:=12) ha; have k14:=az (k:=14) ha; have HE:=iz hB; have h3:=iz hC; simp only[tA,eC,fU,aK,aJ,ai,aj,ah]at k12 k14; clear ha hB hC; go_simp; rfl) ?_; simp only[Act.put,aa,ag,ab])
      refine cE (by kernel_rfl) ?_;refine eD rfl rfl (fun K hK=> ?_);have ha:=S4.o;unfold fY at ha;have k0:=az (k:=0) ha;have k1:=az (k:=1) ha;have k2:=az (k:=2) ha;have k3:=az (k:=3) ha;have k4:=az (k:=4) ha;have k11:=az (k:=11) ha;have k12:=az (k:=12) ha;have k14:=az (k:=14) ha;simp only[tA,eC,fU,aK,aJ,ai,aj,ah]at k0 k1 k2 k3 k4 k11 k12 k14
      have kz14:=dw (k:=14) ha;clear ha
      go_upto_region 7 with(fail)
      have hh:=jQ.clash (HH.o.below hu.o) ((!(z.2.con == x))) hbe;have Hb:=am (show pR k gs (bs,_) x=(bs,(!(z.2.con == x))) by rw[hX.o]; by_cases he:z.2.con=x<;> simp[he]);obtain⟨W5,hp⟩: ∃W,W=W3.setCell ⟨bb,14,none⟩ (.bool ((!(z.2.con == x)))):=⟨_,rfl⟩;have Hg:=am (show W5.heap[xb]? =some (.cells #[.string rf.name, .int .i64 rf.gen, .int .i64 rf.size] 26 (0,0)) by rw[hp]; exact(aC _ _ _ _ (show xb≠bb by omega)).trans hH.o)
      have hD:=am (show W5.heap[w.heap.size]? =some (.cells #[.string ⟨#[]⟩, .int .i64 0, .int .i64 0] 26 (0,0)) by rw[hp]; exact(aC _ _ _ _ (show w.heap.size≠bb by omega)).trans hR.o);rw[<-hp]at hh ⊢;have hS:=am hh;clear hh hp k0 k1 k2 k3 k4 k11 k12 k14 kz14 SM S4 hH hR;obtain⟨p0,p1,p2,_⟩:=aU Hg.o;obtain⟨z0,z1,z2,_⟩:=aU hD.o;obtain⟨y0,y1,y2,_⟩:=gG hD.o
      go_wp2_with fail;refine Bl hD.o rfl rfl ?_;refine⟨by rw[<-hF.o]; rfl, .slice (some ⟨gb,go,none⟩) n cvv, ?_, ?_⟩
      ·rw[Hb.o];exact hS.o.1.other hD.o (by decide) (by decide) (by decide) (fun i hi _=>ed hi)
      ·exact((((jz.ofBelow hu.o hf).trans hS.o.2).setNew (ak _) hf).setNew (ak _) hf).setNew (ak _) hf
    ·have e1:decide (r=rf)=false:=by simp[hm]
     rw[e1]at h4;have HT:=am (show ∀b∈bs.take (j+1),¬b.ref=rf by
      rw[dL HA.o];intro b hb
      rcases aT.1 hb with hb | hb
      ·exact Ha.o b hb
      ·rw[aM]at hb; subst hb; rw[<-HR.o]; exact hm)
     clear e1 hm;go_wp2_with fail
     go_quiet (fail)
     obtain⟨W2,hM⟩: ∃W,W=wr.drewN nq:=⟨_,rfl⟩;rw[<-hM];have hd:Below wr.heap.size wr W2:=by rw[hM]; exact nR wr nq
     clear hM;go_wp2_with fail
     go_roundw
     case rel=>exact⟨j+1,by omega,by go_num,HT.o,HB.o.trans (hd.mono HB.o.size)⟩
     case measure=>simp[intOf]; omega
   ·have H1:j=n:=by omega
    subst H1;have hX:=am (show pR k gs (bs,cl) x=(bs++[⟨rf,x⟩],cl) by
     unfold pR;rw[<-hF.o];rw[eM.2 (fun y hy=>by
      have:=Ha.o y (by rw[bB (by rw[<-Hj.o,aB,<-hL.o]; exact ak _)]; exact hy)
      simpa using this)])
    have ha:=SW.o;unfold fY at ha;have k0:=az (k:=0) ha;have k1:=az (k:=1) ha;have k2:=az (k:=2) ha;have k3:=az (k:=3) ha;have k4:=az (k:=4) ha;have k11:=az (k:=11) ha;have k12:=az (k:=12) ha;have k14:=az (k:=14) ha;simp only[tA,eC,fU,aK,aJ,ai,aj,ah]at k0 k1 k2 k3 k4 k11 k12 k14
    clear ha k0 k1 k2 k3 k4 k11 k14;go_wp2_with fail;clear k12;obtain⟨W3,hN⟩: ∃W,W=wr.drew:=⟨_,rfl⟩;refine ey (fun w'=>fY bb k c tv gv (.slice av j cvv) lg cl w'/\w'.heap[xb]? =some (.cells #[.string rf.name, .int .i64 rf.gen, .int .i64 rf.size] 26 (0,0))) (by kernel_rfl) (by kernel_rfl) ?_;simp only[br,bt,aD,bo,Nat.reduceAdd,Nat.reduceSub]
    rw[<-hN];have hs:Below wr.heap.size wr W3:=by rw[hN]; exact(au _ _).drew
    have hu:=am (ar h8.o hs);have hH:=am (dX hs Hi.o);have hR:=am (dX hs Hw.o);have S4:=am (fY.below SW.o hs);have SM:=am (aE S4.o hH.o);clear hs hN
    iterate 8 (refine cA rfl (by kernel_rfl) (fun _ _ _ h=>h) rfl SM.o (by rintro w' ⟨ha,hA⟩; unfold fY at ha; have k12:=az (k:=12) ha; have p0:=bL (k:=0) hA; have p1:=bL (k:=1) hA; have p2:=bL (k:=2) hA; simp only[tA,eC,fU,aK,aJ,ai,aj,ah]at k12 p0 p1 p2; clear ha hA; go_simp; rfl) ?_; simp only[Act.put,aa,ag,ab])
    refine cn 8 rfl (fun K hK=> ?_);go_wp2_with fail;have Hl:=(au W3.heap.size W3).alloc (ak _) (.cells #[.string rf.name, .int .i64 rf.gen, .int .i64 rf.size, .slice ax xl cx] 53);have HY:=am (aE (fY.below S4.o Hl) (dX Hl hH.o));have Hd:=am (HO.o.below hu.o);have HV:=am (cR hW.o hu.o);clear Hl SM;refine⟨HY.o, ?_⟩;refine cn 9 rfl (fun K hK=> ?_)
    go_wp2_with (at_builtin; go_must (refine bO Tryz.appBlobs rfl _ _ rfl base (.slice av j cvv) j (jY zs) rfl W3 [.string rf.name, .int .i64 rf.gen, .int .i64 rf.size, .slice ax xl cx] _ rfl rfl (tR (b:=⟨rf,x⟩)) (by have h1:=Hd.o.row; rw[<-hL.o]at h1; exact h1) (by omega) (ay hf hu.o.size) ?_); intro v' wc hw hg _ HI; obtain⟨ae,ce,rfl,-,-⟩:=aH hw)
    have Hn:=Hd.o.row;rw[<-hL.o]at Hn;have Hm: ∀(i:Nat) (cs:Array Value) (t:TypeId) (z:Nat×Nat),W3.heap[i]? =some (.cells cs t z)->t≠53->i<W3.heap.size/\some i≠(Value.slice av j cvv).ownBlock:=fun i cs t z hi ht=>⟨aw hi,fun e=>by
     obtain⟨cs2,h3⟩:=bI Hn e.symm;exact ht (bU hi h3)⟩
    have keepC: ∀(i:Nat) (cs:Array Value) (t:TypeId) (z:Nat×Nat),W3.heap[i]? =some (.cells cs t z)->t≠53->wc.heap[i]? =some (.cells cs t z):=fun i cs t z hi ht=>(hg.block i (Hm i cs t z hi ht).1 (fun e=>(Hm i cs t z hi ht).2 e)).trans hi
    have SC:=am (show fY bb k c tv gv (.slice av j cvv) lg cl wc from keepC _ _ _ _ S4.o (by decide));have Hh:=am (keepC _ _ _ _ hH.o (by decide));have Hv:=am (keepC _ _ _ _ hR.o (by decide));have SM:=am (aE SC.o Hh.o);have hI:=jQ.push (c:=c) (k:=k) (tv:=tv) (gv:=gv) (lg:=lg) (cl:=cl) (b:=⟨rf,x⟩) Hj.o Hd.o S4.o (by have h1:=HV.o; rw[hJ.o]at h1; exact h1) (by rw[<-hL.o]; exact(by rw[<-hJ.o]; exact hw)) hg HI hbe
    have Hc:=am hI;have kb:bb<wc.heap.size:=aw SC.o;have Hy:=am ((aC wc ⟨bb,12,none⟩ (.slice ae (j+1) ce) xb (show xb≠bb by omega)).trans Hh.o);have hT:=am ((aC wc ⟨bb,12,none⟩ (.slice ae (j+1) ce) w.heap.size (show w.heap.size≠bb by omega)).trans Hv.o);clear hw hg HI Hn Hm keepC hI;refine⟨SM.o, ?_⟩
    iterate 2 (refine cA rfl (by kernel_rfl) (fun _ _ _ h=>h) rfl SM.o (by rintro w' ⟨ha,hA⟩; unfold fY at ha; have k12:=az (k:=12) ha; have p0:=bL (k:=0) hA; have p1:=bL (k:=1) hA; have p2:=bL (k:=2) hA; simp only[tA,eC,fU,aK,aJ,ai,aj,ah]at k12 p0 p1 p2; clear ha hA; go_simp; rfl) ?_; simp only[Act.put,aa,ag,ab])
    refine cE (by kernel_rfl) ?_;refine eD rfl rfl (fun K hK=> ?_);have ha:=SC.o;unfold fY at ha;have k12:=az (k:=12) ha;have kz12:=dw (k:=12) ha;simp only[tA,eC,fU,aK,aJ,ai,aj,ah]at k12;clear ha
    go_upto_region 9 with(fail)
    obtain⟨W5,hp⟩: ∃W,W=wc.setCell ⟨bb,12,none⟩ (.slice ae (j+1) ce):=⟨_,rfl⟩;rw[<-hp]at Hc Hy hT ⊢;clear hp k12 kz12 SM SC Hh Hv kb;obtain⟨p0,p1,p2,_⟩:=aU Hy.o;obtain⟨z0,z1,z2,_⟩:=aU hT.o;obtain⟨y0,y1,y2,_⟩:=gG hT.o;go_wp2_with fail;refine Bl hT.o rfl rfl ?_;refine⟨by rw[<-hF.o]; rfl, .slice ae (j+1) ce, ?_, ?_⟩
    ·rw[hX.o];exact Hc.o.1.other hT.o (by decide) (by decide) (by decide) (fun i hi _=>ed hi)
    ·exact((((jz.ofBelow hu.o hf).trans Hc.o.2).setNew (ak _) hf).setNew (ak _) hf).setNew (ak _) hf
theorem jQ.otherRow {w w':World} {base bb B sz n:Nat} {k:dh} {c:fN} {tv gv v r:Value} {lg:Bool} {s:List cZ×Bool} {t:TypeId} {xs:List Value} (h:jQ w base bb k c tv gv v lg s) (hr:w.ownsRow B t sz r n xs) (hg:w.grownBy w' r.ownBlock) (h1:t≠130) (h2:t≠53) (h3:t≠5):jQ w' base bb k c tv gv v lg s:=by
 obtain⟨zs,hz,ho,hd⟩:=h.own;refine⟨(hg.block bb (aw h.box) (fun e=> ?_)).trans h.box,zs,hz,gN ho hr hg (fun e=>h2 e.symm),fun z hz=>gN (hd z hz) hr hg (fun e=>h3 e.symm)⟩;obtain⟨cs,hc⟩:=bI hr e.symm;exact h1 (bU hc h.box)
theorem jz.otherRow {w0 w w':World} {base bb B sz n:Nat} {v v' r:Value} {t:TypeId} {xs:List Value} (h:jz base bb v v' w0 w) (hr:w.ownsRow B t sz r n xs) (hg:w.grownBy w' r.ownBlock) (hB:w0.heap.size<=B) (hbz:base<=w0.heap.size):jz base bb v v' w0 w':=
 ⟨h.below.grown hg (ay hbz h.below.size) (fun i hi=>ay (ay hbz hB) (hr.lt i hi).1),fun i h1 h2 h3=>(hg.block i (aP h1 h.below.size) (fun e=>by have:=(hr.lt i e.symm).1; omega)).trans (h.same i h1 h2 h3),h.place⟩
structure rF (w : World) (B M : Nat) (iv : Value) (its : List cg) : Prop where
 row: ∃zs:List uI,zs.map Prod.snd=its/\w.ownsRow B 28 10 iv zs.length (pG zs)/\(∀i,iv.ownBlock=some i->i<M)/\ ∀z∈zs,(w.ownsRow B 26 3 z.1 z.2.chunks.length (z.2.chunks.flatMap jg)/\iw z.2/\ ∀r∈z.2.chunks,dY r)/\ ∀i,z.1.ownBlock=some i->i<M
theorem lx.lt {w:World} {B:Nat} {iv:Value} {its:List cg} (h:lx w B iv its):rF w B w.heap.size iv its:=by
 obtain⟨zs,h1,h2,h3⟩:=h.row;exact⟨zs,h1,h2,fun i hi=>(h2.lt i hi).2,fun z hz=>⟨h3 z hz,fun i hi=>((h3 z hz).1.lt i hi).2⟩⟩
theorem rF.own {w:World} {B M:Nat} {iv:Value} {its:List cg} (h:rF w B M iv its):lx w B iv its:=by
 obtain⟨zs,h1,h2,_,h3⟩:=h.row;exact⟨zs,h1,h2,fun z hz=>(h3 z hz).1⟩
theorem rF.same {w w':World} {B M:Nat} {iv:Value} {its:List cg} (h:rF w B M iv its) (hs: ∀i,i<M->w'.heap[i]? =w.heap[i]?):rF w' B M iv its:=by
 obtain⟨zs,h1,h2,h4,h3⟩:=h.row;exact⟨zs,h1,eP h2 (fun i _ hi=>hs i (h4 i hi)),h4,fun z hz=>⟨⟨eP (h3 z hz).1.1 (fun i _ hi=>hs i ((h3 z hz).2 i hi)),(h3 z hz).1.2⟩,(h3 z hz).2⟩⟩
theorem rF.keep {w w':World} {base bb B M:Nat} {k:dh} {c:fN} {tv gv v v' iv:Value} {lg:Bool} {s:List cZ×Bool} {its:List cg} (hi:rF w B M iv its) (h:jQ w base bb k c tv gv v lg s) (hk:jz base bb v v' w w'):rF w' B M iv its:=by
 obtain⟨zs,h1,h2,h4,h3⟩:=hi.row;exact⟨zs,h1,jz.row h hk h2 (by decide) (by decide),h4,fun z hz=>⟨⟨jz.row h hk (h3 z hz).1.1 (by decide) (by decide),(h3 z hz).1.2⟩,(h3 z hz).2⟩⟩
structure KU (w : World) (base bb : Nat) (k : dh) (c : fN) (tv gv v : Value) (lg : Bool) (wr : World) (v2 iv : Value) (s2 : List cZ × Bool) (its : List cg) : Prop where
 bd:jQ wr base bb k c tv gv v2 lg s2
 kp:jz base bb v v2 w wr
 its:lx wr w.heap.size iv its
 res:wr.heap[w.heap.size]? =some (.cells #[.string ⟨#[]⟩, .int .i64 0, .int .i64 0] 26 (0,0))
structure yN (w : World) (base bb : Nat) (k : dh) (c : fN) (tv gv v : Value) (lg : Bool) (M xb : Nat) (wr : World) (v2 iv : Value) (s2 : List cZ × Bool) (its : List cg) (rv : Value) (it : cg) (rs : List cy) : Prop where
 bd:jQ wr base bb k c tv gv v2 lg s2
 kp:jz base bb v v2 w wr
 its:rF wr w.heap.size M iv its
 res:wr.heap[w.heap.size]? =some (.cells #[.string ⟨#[]⟩, .int .i64 0, .int .i64 0] 26 (0,0))
 box:wr.heap[xb]? =some (.cells (eW rv it).toArray 28 (0,0))
 row:wr.ownsRow M 26 3 rv rs.length (rs.flatMap jg)
 mark:w.heap.size<M/\M<=xb
section
variable {w wr w' : World} {base bb M xb : Nat} {k : dh} {c : fN} {tv gv v v2 v3 iv rv : Value} {lg : Bool} {s2 s3 : List cZ × Bool} {its : List cg} {it : cg} {rs : List cy}
theorem KU.step (h:KU w base bb k c tv gv v lg wr v2 iv s2 its) (h1:jQ w' base bb k c tv gv v3 lg s3) (h2:jz base bb v2 v3 wr w'):KU w base bb k c tv gv v lg w' v3 iv s3 its:=
 ⟨h1,h.kp.trans h2,(h.its.lt.keep h.bd h2).own,jz.blk h.bd h2 h.res (by decide) (by decide)⟩
theorem KU.below (h:KU w base bb k c tv gv v lg wr v2 iv s2 its) (hb:Below wr.heap.size wr w') (hbz:base<=wr.heap.size):KU w base bb k c tv gv v lg w' v2 iv s2 its:=
 h.step (h.bd.below hb) (jz.ofBelow hb hbz)
theorem yN.step (h:yN w base bb k c tv gv v lg M xb wr v2 iv s2 its rv it rs) (h1:jQ w' base bb k c tv gv v3 lg s3) (h2:jz base bb v2 v3 wr w'):yN w base bb k c tv gv v lg M xb w' v3 iv s3 its rv it rs:=
 ⟨h1,h.kp.trans h2,h.its.keep h.bd h2,jz.blk h.bd h2 h.res (by decide) (by decide),jz.blk h.bd h2 h.box (by decide) (by decide),jz.row h.bd h2 h.row (by decide) (by decide),h.mark⟩
theorem yN.below (h:yN w base bb k c tv gv v lg M xb wr v2 iv s2 its rv it rs) (hb:Below wr.heap.size wr w') (hbz:base<=wr.heap.size):yN w base bb k c tv gv v lg M xb w' v2 iv s2 its rv it rs:=
 h.step (h.bd.below hb) (jz.ofBelow hb hbz)
theorem KU.item {W:World} (h:KU w base bb k c tv gv v lg wr v2 iv s2 its) (hb:Below wr.heap.size wr W) (hbx:W.heap[xb]? =some (.cells (eW (.slice none 0 0) it).toArray 28 (0,0))) (hx:wr.heap.size<=xb) (hbz:base<=wr.heap.size):yN w base bb k c tv gv v lg wr.heap.size xb W v2 iv s2 its (.slice none 0 0) it []:=by
 have h2:=h.below hb hbz;exact⟨h2.bd,h2.kp,h.its.lt.same (fun i hi=>hb.block i hi),h2.res,hbx,bM _ _ _ _,aw h.res,hx⟩
theorem yN.set (h:yN w base bb k c tv gv v lg M xb wr v2 iv s2 its rv it rs) {q:Nat} {u:Value} {it':cg} (hc:(eW rv it).toArray.setIfInBounds q u=(eW rv it').toArray) (hbz:base<=w.heap.size):yN w base bb k c tv gv v lg M xb (wr.setCell ⟨xb,q,none⟩ u) v2 iv s2 its rv it' rs:=by
 have hm:=h.mark;have hs: ∀j,j≠xb->(wr.setCell ⟨xb,q,none⟩ u).heap[j]? =wr.heap[j]? :=fun j hj=>aC _ _ _ _ hj
 refine⟨h.bd.other h.box (by decide) (by decide) (by decide) (fun j hj _=>hs j hj),h.kp.setNew (by omega) hbz,h.its.same (fun i hi=>hs i (by omega)),(hs _ (by omega)).trans h.res,by rw[<-hc]; exact jb h.box u,eP h.row (fun j hj hu=>hs j (fun e=> ?_)),hm⟩;obtain⟨cs2,ha⟩:=bI h.row hu;exact absurd (bU h.box (e▸ha)) (by decide)
theorem yN.push {wc:World} {rv':Value} {r:cy} (h:yN w base bb k c tv gv v lg M xb wr v2 iv s2 its rv it rs) (hown:wc.ownsRow M 26 3 rv' (rs.length+1) (rs.flatMap jg++jg r)) (hg:wr.grownBy wc rv.ownBlock) (hbz:base<=w.heap.size):yN w base bb k c tv gv v lg M xb (wc.setCell ⟨xb,6,none⟩ rv') v2 iv s2 its rv' it (rs++[r]):=by
 have hm:=h.mark;have hd:=aw h.box;have hs: ∀j,j≠xb->(wc.setCell ⟨xb,6,none⟩ rv').heap[j]? =wc.heap[j]? :=fun j hj=>aC _ _ _ _ hj
 have ha:wc.heap[xb]? =some (.cells (eW rv it).toArray 28 (0,0)):=(hg.block xb hd (fun e=>by
  obtain⟨cs2,hb⟩:=bI h.row e.symm;exact absurd (bU h.box hb) (by decide))).trans h.box
 have hc:=h.bd.otherRow h.row hg (by decide) (by decide) (by decide);have hM: ∀i,i<M->(wc.setCell ⟨xb,6,none⟩ rv').heap[i]? =wr.heap[i]? :=fun i hi=>(hs i (by omega)).trans (hg.block i (by omega) (fun e=>by have:=(h.row.lt i e.symm).1; omega))
 refine⟨hc.other ha (by decide) (by decide) (by decide) (fun j hj _=>hs j hj),(h.kp.otherRow h.row hg (by omega) hbz).setNew (by omega) hbz,h.its.same hM,(hM _ hm.1).trans h.res, ?_, ?_,hm⟩
 ·have:=jb (k:=6) ha rv'
  simpa [eW]using this
 ·rw[an,bP];have h1:wc.ownsRow M 26 3 rv' (rs.length+[r].length) (rs.flatMap jg++[r].flatMap jg):=by simpa using hown
  refine eP h1 (fun j hj hu=>hs j (fun e=> ?_));obtain⟨cs2,hb⟩:=bI h1 hu;exact absurd (bU ha (e▸hb)) (by decide)
theorem yN.done {wd:World} {iv':Value} {zs:List uI} (h:yN w base bb k c tv gv v lg M xb wr v2 iv s2 its rv it it.chunks) (hz:zs.map Prod.snd=its) (hrow:wr.ownsRow w.heap.size 28 10 iv zs.length (pG zs)) (hdat: ∀z∈zs,wr.ownsRow w.heap.size 26 3 z.1 z.2.chunks.length (z.2.chunks.flatMap jg)/\iw z.2/\ ∀r∈z.2.chunks,dY r)
  (hown:wd.ownsRow w.heap.size 28 10 iv' (zs.length+1) (pG zs++eW rv it)) (hg:wr.grownBy wd iv.ownBlock) (hok:iw it) (hrs: ∀r∈it.chunks,dY r) (hbz:base<=w.heap.size):KU w base bb k c tv gv v lg wd v2 iv' s2 (its++[it]):=by
 have hm:=h.mark;refine⟨h.bd.otherRow hrow hg (by decide) (by decide) (by decide),h.kp.otherRow hrow hg (ak _) hbz,⟨zs++[(rv,it)],by simp[hz],by rw[an,bT,zC]; exact hown,fun z ha=> ?_⟩, ?_⟩
 ·rcases aT.1 ha with ha | ha
  ·exact⟨gN (hdat z ha).1 hrow hg (by decide),(hdat z ha).2⟩
  ·rw[aM]at ha;subst ha;exact⟨gN (gA h.row (by omega)) hrow hg (by decide),hok,hrs⟩
 ·refine(hg.block _ (aw h.res) (fun e=> ?_)).trans h.res;obtain⟨cs2,hb⟩:=bI hrow e.symm;exact absurd (bU h.res hb) (by decide)
end
theorem MH {a:Act} {w:World} {b:Nat} {x0 x1 x2:Value} (h:w.heap[b]? =some (.cells #[x0,x1,x2] 26 (0,0)))
  (h4:a.tmps[4]? =some (.pointer (some ⟨b,0,none⟩))):(results Tryz.f76 a.tmps).run Tryz.prog w= .ok (.agg #[x0,x1,x2]) w:=by
 obtain⟨m0,m1,m2,_⟩:=aU h;simp[results,Tryz.results76,go_sem,h4,m0,m1,m2]
theorem MG {a:Act} {w:World} {b:Nat} {a0 a1 a2 x0 x1 x2:Value} {Q:Ending->World->Prop} (h:w.heap[b]? =some (.cells #[a0,a1,a2] 26 (0,0)))
  (h4:a.tmps[4]? =some (.pointer (some ⟨b,0,none⟩))) (hd:a.defers=[])
  (hQ:Q (.returned (.agg #[x0,x1,x2])) (((w.setCell ⟨b,0,none⟩ x0).setCell ⟨b,1,none⟩ x1).setCell ⟨b,2,none⟩ x2)):
  bodyPost Tryz.prog Tryz.f76 Q Exit.ret a (((w.setCell ⟨b,0,none⟩ x0).setCell ⟨b,1,none⟩ x1).setCell ⟨b,2,none⟩ x2):=cM (MH (vj h) h4) hd hQ
end Go.Proofs.YtpffpjbkbaleiaaGreatDoor
namespace Go.Proofs.YtpffpjbkbaleiaaGreatDoor
open Go.RowKit
theorem Ey {n:Nat} (h:n<=127):(bD n).length=1:=by
 unfold bD jJ; rw[if_neg (by omega)]; rfl
structure ny (tree : List dl) : Prop where
 len:tree.length<=12
 data: ∀e∈tree,e.data.length<=60
theorem vE {c:fN} (hc:jG c=true) (x:List UInt8):(fZ c x).length<=x.length:=by
 have h: ∀(l:List (List UInt8)),(∀y∈l,1<=y.length)->l.length<=l.flatten.length:=by
  intro l
  induction l with
  | nil=>simp
  | cons y l ih=>
   intro h;have h1:=h y (by simp);have h2:=ih fun z hz=>h z (by simp[hz])
   rw[iD,an,aD]; omega
 have:=h (fZ c x) fun y hy=>(qr hc x y hy).1
 rw[AW]at this;exact this
theorem Ly {c:fN} {x y:List UInt8} (h:y∈fZ c x):y.length<=x.length:=by
 obtain⟨s,t,e⟩:=iq h;have h1:=AW c x;rw[e,List.flatten_append,iD]at h1;rw[<-h1];simp only[an];omega
theorem IU (r:cy) (h:r.name.size=32):(ff r).length<=54:=by
 have h1:=dt r.gen.toNat
 have h2:=dt r.size.toNat
 unfold ff;simp only[an,<-bh];omega
section
variable {k : dh} {gs : List (ByteArray × Int)} {c : fN} {tree : List dl}
theorem Ez (hg:km gs) {y:List UInt8} (h:y.length<=60):(ff (bA k gs y)).length<=43:=by
 unfold ff;have h1:(bA k gs y).name.size=32:=kr _ _ _;have h2:=AZ hg (lS k 0 y);have h3:(bA k gs y).size=(y.length:Int):=rfl;have h4:=iF (n:=(bA k gs y).gen.toNat) (by
  show(mA gs (lS k 0 y)).toNat<_
  omega)
 rw[an,an,<-bh,h1,h3,Ey (n:=(y.length:Int).toNat) (by omega)];omega
theorem xB (hg:km gs): ∀(l:List (List UInt8)),(∀y∈l,y.length<=60)->((l.map (bA k gs)).flatMap ff).length<=43*l.length
 | [],_=>by simp
 | y::l,h=>by
  have h1:=Ez (k:=k) hg (h y (by simp));have h2:=xB hg l fun z hz=>h z (by simp[hz])
  rw[cB,bu,an,aD];omega
theorem LT (hg:km gs) (hc:jG c=true) {d:ByteArray} {e:dl} {nd:cy} (hv:ig e=true) (hp:cr (bl e.path)=bl d) (hd:e.data.length<=60) (hn:nd.name.size=32):(fu (cS k gs c d e nd)).length<=2720:=by
 have hk:=tg (dm hv) hp;have hl:(uW (bl d) (bl e.path)).length<=64:=by
  have h:=hk.comp;unfold iI at h;simp only[aI,aL]at h;exact h.1.1.1.1.2
 have ha:(bl (cS k gs c d e nd).name).length<=64:=by
  show(bl ⟨(mC (bl d) (bl e.path)).toArray⟩).length<=64
  rw[jD]; exact hl
 have k1:=dt (cS k gs c d e nd).name.size;have k2:=dt (cS k gs c d e nd).kind.toNat
 have k3:=dt (cS k gs c d e nd).mode.toNat
 have k4:=dt (cS k gs c d e nd).time.toNat
 have ht:(kh (cS k gs c d e nd)).length<=2600:=by
  unfold kh
  show(if e.kind=1 then bD (if e.kind=1 then(fZ c e.data).map (bA k gs)else []).length++(if e.kind=1 then(fZ c e.data).map (bA k gs)else []).flatMap ff else if e.kind=2 then ff (if e.kind=2 then nd else er)else bD e.link.size++bl e.link).length<=_
  by_cases h1:e.kind=1
  ·rw[if_pos h1,if_pos h1,an];have h6:=xB (k:=k) hg (fZ c e.data) fun y hy=>by have:=Ly hy; omega
   have h2:=vE hc e.data;have h3:=dt ((fZ c e.data).map (bA k gs)).length;omega
  ·rw[if_neg h1]
   by_cases h2:e.kind=2
   ·rw[if_pos h2,if_pos h2];have:=IU nd hn;omega
   ·rw[if_neg h2];have h3:=dt e.link.size
    rcases wG hv with h4 | h4 | h4
    ·exact absurd h4.1 h1
    ·exact absurd h4.1 h2
    ·have:=h4.2.2.2.1;rw[an,<-bh];omega
 unfold fu;simp only[an];omega
theorem pi (hg:km gs) (hc:jG c=true) (h:BA tree) (hs:ny tree) (f:Nat) (d:ByteArray):(dS k gs c tree f d).1.length<=32768:=by
 cases f with
 | zero=>simp[dS]
 | succ f=>
  rw[fo]
  show(fO (mZ k gs c tree f d)).length<=32768
  have hl:(dF tree d).length<=tree.length:=dH _ _;have hd:=hs.len;have hf: ∀(L:List dl),(∀e∈L,e∈dF tree d)->((L.map fun e=>cS k gs c d e (bA k gs (dS k gs c tree f e.path).1)).flatMap fu).length<=2720*L.length:=by
   intro L
   induction L with
   | nil=>simp
   | cons e L ih=>
    intro hL;have h1:=ih fun x hx=>hL x (by simp[hx])
    obtain⟨ha,hb⟩:=fm.1 (hL e (by simp));have h2:=LT (k:=k) (gs:=gs) (nd:=bA k gs (dS k gs c tree f e.path).1) hg hc (h.val e ha) hb (hs.data e ha) (kr _ _ _);rw[cB,bu,an,aD];omega
  have h3:=hf (dF tree d) fun _ he=>he
  have h4:=dt (mZ k gs c tree f d).length;unfold fO;rw[an];have h5:((mZ k gs c tree f d).flatMap fu).length<=2720*(dF tree d).length:=h3;omega
theorem rr (hg:km gs) (hc:jG c=true) (h:BA tree) (hs:ny tree): ∀(f:Nat) (d:ByteArray),lY k gs c tree f d=false
 | 0,_=>rfl
 | f+1,d=>by
  unfold lY;rw[fI,List.any_eq_false,eQ];refine⟨fun e _=>by rw[rr hg hc h hs f e.path]; simp, ?_⟩;have:=pi (k:=k) hg hc h hs (f+1) d;omega
theorem mB :km []:=fun p hp=>by cases hp
theorem BR (hk:jx k=true) (hc:jG c=true) (hg:km gs) (h:BA tree) (hs:ny tree):ij k c tree gs= .ok (bA k gs (dS k gs c tree 514 ⟨#[]⟩).1,dB k gs (dS k gs c tree 514 ⟨#[]⟩).2 []):=by
 have h0:(bl (⟨#[]⟩:ByteArray)).length=0:=rfl;unfold ij;rw[if_pos ⟨hk,hc⟩,if_pos (by
  rw[cj];intro p hp;have:=hg p hp;simp only[aI,aL];exact this),if_pos (py.2 h),Gu h hc hg 514 ⟨#[]⟩ (by omega) (by omega),rr hg hc h hs]
 rfl
end
open Go Go.RowKit Go.Maps
theorem BQ {k:dh} {c:fN} {tree:List dl} {gs:List (ByteArray×Int)} {r:cy} {bs:List cZ} {w w':World} {e:Ending} (h:sG (ij k c tree gs) w e w') (hb:ij k c tree gs= .ok (r,bs)) (hr: ∀b∈bs,dY b.ref):
  Below w.heap.size w w'/\ ∃a cap,e= .returned (.tuple #[ef r, .slice a bs.length cap, .int .i64 0])/\bs.length<=cap/\cap<=maxLen/\mT (fun i=>w.heap.size<=i) w' (.slice a bs.length cap) bs:=by
 rw[hb]at h;obtain⟨h1,v,zs,h2,hc,h4⟩:=h;have h3:zs.map Prod.snd=bs:=hc;have ha:bs.length=zs.length:=by rw[<-h3,aB]
 obtain⟨a,cap,rfl,h5,h6⟩:=aH h4.row;refine⟨h1,a,cap,by rw[ha]; exact h2,by omega,h6,zs,h3, ?_,fun z hz=>⟨cC.weak (cL (h4.dat z hz)) (fun i hi=>hi.1),hr _ (by rw[<-h3]; exact aS.2 ⟨z,hz,rfl⟩)⟩⟩;rw[ha];exact cC.weak (cL h4.row) (fun i hi=>hi.1)
theorem rR {S:Nat->Prop} {w w':World} {a:Option Addr} {n cap:Nat} {bs:List cZ} (h:mT S w (.slice a n cap) bs) (hb:Below w.heap.size w w') {k:Nat} {b:cZ} (hk:bs[k]? =some b):
  ∃bk o za zc,a=some ⟨bk,o,none⟩/\bk<w.heap.size/\bH S w' (.slice za b.con.length zc) b.con/\w'.cell? ⟨bk,o+k*4,none⟩=some (.string b.ref.name)/\w'.cell? ⟨bk,o+k*4+1,none⟩=some (.int .i64 b.ref.gen)/\w'.cell? ⟨bk,o+k*4+2,none⟩=some (.int .i64 b.ref.size)/\w'.cell? ⟨bk,o+k*4+3,none⟩=some (.slice za b.con.length zc):=by
 obtain⟨zs,h1,h2,h3⟩:=h;rw[<-h1,bn,gk]at hk;obtain⟨z,hz,rfl⟩:=hk;obtain⟨bk,o,rfl,-,ha,hc⟩:=sP h2 hz;have hd:=(h3 z (aQ hz)).1;obtain⟨_,za,zc,he,-,-,-⟩:=id hd;have g:=fun i (hi:i<4)=>(hb.cell (p:=⟨bk,o+k*4+i,none⟩) ha).trans (hc i hi)
 have q0:=g 0 (by omega);have q1:=g 1 (by omega);have q2:=g 2 (by omega);have q3:=g 3 (by omega);simp only[nD,ah,aj,cT]at q0 q1 q2 q3;rw[he]at q3;exact⟨bk,o,za,zc,rfl,ha,by rw[<-he]; exact cC.below hd (by omega) hb,q0,q1,q2,q3⟩
def Nh :List Value:=[.string ⟨#[97]⟩, .int .i64 1, .int .i64 0, .int .i64 0, .slice none 0 0, .string ⟨#[]⟩, .string ⟨#[100]⟩, .int .i64 2, .int .i64 0, .int .i64 0, .slice none 0 0, .string ⟨#[]⟩, .string ⟨#[100,47,108]⟩, .int .i64 3, .int .i64 5, .int .i64 6, .slice none 0 0, .string ⟨#[97]⟩]
theorem FM (S:Nat->Prop) (w:World):eR (nx S w) Nh oE:=by
 refine⟨[.string ⟨#[97]⟩, .int .i64 1, .int .i64 0, .int .i64 0, .slice none 0 0, .string ⟨#[]⟩],_,rfl,⟨.slice none 0 0,rfl,eH.nil _ _,⟨by decide,by decide,by decide,by decide,by decide⟩⟩, ?_⟩;refine⟨[.string ⟨#[100]⟩, .int .i64 2, .int .i64 0, .int .i64 0, .slice none 0 0, .string ⟨#[]⟩],_,rfl,⟨.slice none 0 0,rfl,eH.nil _ _,⟨by decide,by decide,by decide,by decide,by decide⟩⟩, ?_⟩
 exact⟨[.string ⟨#[100,47,108]⟩, .int .i64 3, .int .i64 5, .int .i64 6, .slice none 0 0, .string ⟨#[97]⟩],[],rfl,⟨.slice none 0 0,rfl,eH.nil _ _,⟨by decide,by decide,by decide,by decide,by decide⟩⟩,rfl⟩
theorem Ek {S:Nat->Prop} {w:World} {b o n c:Nat} {x:cZ} {bs:List cZ} (h:mT S w (.slice (some ⟨b,o,none⟩) (n+1) c) (x::bs)):mT S w (.slice (some ⟨b,o+4,none⟩) n (c-1)) bs:=by
 obtain⟨zs,h1,h2,h3⟩:=h
 cases zs with
 | nil=>simp at h1
 | cons z zs=>
  simp only[cB,gK]at h1;refine⟨zs,h1.2, ?_,fun y hy=>h3 y (by simp[hy])⟩;obtain⟨h4,a',c',he,h5,h6,h7⟩:=h2;simp only[cW,aD]at he;obtain⟨rfl,hn,rfl⟩:=he;have hb:(jY (z::zs)).length=4+(jY zs).length:=by unfold jY; rw[bu,an]; rfl
  simp only[aD]at h4 h5 h7;refine⟨by omega,some ⟨b,o+4,none⟩,c-1,by rw[show n=zs.length by omega],by omega,by omega, ?_⟩
  rcases h7 with h7 | ⟨b9,o9,ha,hS,hc⟩
  ·omega
  ·cases ha
   refine .inr ⟨b,o+4,rfl,hS,fun j u hj=> ?_⟩;have:=hc (4+j) u (by
    unfold jY at hj ⊢;rw[bu,bG (by show 4<=_; omega)];rw[show 4+j-(nD z.1 z.2).length=j by show 4+j-4=j; omega];exact hj)
   rwa [<-dd]at this
theorem Oz :dY (bA eX [] [0]):=iK (by simp) (by decide)
theorem Oy :dY qG:=iK (by simp) (by decide)
theorem GW :dY mL:=iK (by simp) (by decide+kernel)
theorem BM (w:World) (hE:rz w):Calls Tryz.prog 14 #[] w fun e w'=>e= .returned (.bool true)/\Below w.heap.size w w':=by
 have HE:=am hE;obtain⟨W0,h9⟩: ∃W0,W0=w.alloc (.cells #[.int .u8 0] 5):=⟨_,rfl⟩;have Hj:Below w.heap.size w W0:=by rw[h9]; exact eK
 have HH:=am Hj;have HC:bH (fun i=>i=w.heap.size) W0 (.slice (some ⟨w.heap.size,0,none⟩) 1 1) [0]:=vL (cells:=[aY 0]) (by rw[h9]; exact dZ w _) rfl (by decide);have Hc:=zy _ [0] _ W0 HC (hE.below Hj).env;unfold BG at Hc;rw[Pi]at Hc;have Hu:=am Hc;clear hE Hj HC Hc
 go_enter Tryz.func14,Tryz.ntmps14
 go_wp2_with fail;rw[<-h9];clear h9;refine Hu.o.mono ?_;rintro e w1 ⟨Hw,iv,rfl,HD⟩;obtain⟨ia,ic,rfl,-,-,-⟩:=cP.shape HD kO.len;have HI:=am (ar HH.o Hw);clear Hw HD Hu;go_wp2_with fail;refine(tf w1).mono ?_;rintro e w2 ⟨rfl,Hx⟩;have HJ:=am (ar HI.o Hx);clear Hx;go_wp2_with fail;refine(og w2).mono ?_;rintro e w3 ⟨rfl,Hy⟩;have Hs:=am (ar HJ.o Hy)
 clear Hy;go_wp2_with fail;refine(tV (fun _=>True) (fun _=>True) eX kP [] [] (.slice none 0 0) (.map none) w3 (by decide) (eI.nil _ _) (.inl ⟨rfl,rfl⟩) (HE.o.below Hs.o)).mono ?_;rintro e w4 hk;obtain⟨Hz,a4,c4,rfl,HX,H0,hI⟩:=BQ hk Pc (by intro b hb; simp only[aM]at hb; subst hb; exact Oz);obtain⟨r,hr⟩: ∃r,r=bA eX [] [0]:=⟨_,rfl⟩
 rw[<-hr]at hI ⊢;have HK:=am (ar Hs.o Hz);have Hh:=am hI;unfold maxLen at H0;simp only[bT]at HX ⊢;clear hk Hz hI hr;unfold ef;go_wp2_with fail;obtain⟨W5,Ha⟩: ∃W5:World,W5=(w4.alloc (.cells #[.string r.name, .int .i64 r.gen, .int .i64 r.size] 26)).drew:=⟨_,rfl⟩;have Hk:Below w4.heap.size w4 W5:=by rw[Ha]; exact(eK).drew
 have HP:=am (show W5.heap[w4.heap.size]? =some (.cells #[.string r.name, .int .i64 r.gen, .int .i64 r.size] 26 (0,0)) by rw[Ha]; exact dZ w4 _);obtain⟨bk,o,za,zc,rfl,H4,hd,q0,q1,q2,q3⟩:=rR Hh.o Hk (k:=0) (b:=⟨r,[0]⟩) rfl;simp only[bT,ir,cT]at hd q0 q1 q2 q3;have Hn:=iz hd;obtain⟨r0,r1,r2,_⟩:=aU HP.o
 have HL:=am (ar HK.o Hk);clear Hk hd;refine bF [some 32] (by kernel_rfl) (by kernel_rfl) (by kernel_rfl) ?_;simp only[dJ,aR,aX];rw[<-Ha];clear Ha
 repeat (first | (refine bZ rfl ?_; simp only[Act.put,aa,ag,ab]) | (refine cK rfl (fun K hK=> ?_); go_simp; refine hK _ ?_; clear hK K))
 refine cJ ?_;go_wp2_with fail;obtain⟨W6,Hb⟩: ∃W6:World,W6=W5.alloc (.cells Nh.toArray 79):=⟨_,rfl⟩;have HA:Below W5.heap.size W5 W6:=by rw[Hb]; exact eK
 have HM:=am (ar HL.o HA);have HW:=am (show eI (fun i=>i=W5.heap.size) W6 (.slice (some ⟨W5.heap.size,0,none⟩) 3 3) oE from⟨Nh,vL (by rw[Hb]; exact dZ W5 _) rfl (by decide),FM _ _⟩);have hY:W6=W5.alloc (.cells #[.string ⟨#[97]⟩, .int .i64 1, .int .i64 0, .int .i64 0, .slice none 0 0, .string ⟨#[]⟩, .string ⟨#[100]⟩, .int .i64 2, .int .i64 0, .int .i64 0, .slice none 0 0, .string ⟨#[]⟩, .string ⟨#[100,47,108]⟩, .int .i64 3, .int .i64 5, .int .i64 6, .slice none 0 0, .string ⟨#[97]⟩] 79):=Hb
 rw[<-hY];clear Hb hY HA q0 q1 q2 q3 r0 r1 r2 Hn;refine(tf W6).mono ?_;rintro e w7 ⟨rfl,Hl⟩;have HN:=am (ar HM.o Hl);have HU:=am (eI.below HW.o Hl);clear Hl;go_wp2_with fail;refine(og w7).mono ?_;rintro e w8 ⟨rfl,Hm⟩;have Ht:=am (ar HN.o Hm);have HV:=am (eI.below HU.o Hm);clear Hm;go_wp2_with fail;refine(tV _ (fun _=>True) eX kP oE [] _ (.map none) w8 (by decide) HV.o (.inl ⟨rfl,rfl⟩) (HE.o.below Ht.o)).mono ?_
 rintro e w9 hk;obtain⟨HB,a9,c9,rfl,HY,H1,hZ⟩:=BQ hk Pd (by intro b hb; simp only[aZ,dq,or_false]at hb; rcases hb with rfl | rfl; exact Oy; exact GW);have HO:=am (ar Ht.o HB);have hl:=am hZ;unfold maxLen at H1;simp only[aD,bo,Nat.reduceAdd]at HY hl ⊢;clear hk HB hZ
 unfold ef;obtain⟨rt,Hr⟩: ∃rt,rt=mL:=⟨_,rfl⟩;have hJ:=am Hr;rw[<-Hr]at hl ⊢;clear Hr
 go_upto_region 7 with(fail)
 obtain⟨hG,hm⟩: ∃hG:World,hG=w9.alloc (.cells #[.string rt.name, .int .i64 rt.gen, .int .i64 rt.size] 26):=⟨_,rfl⟩;rw[<-hm];have ho:Below w9.heap.size w9 hG:=by rw[hm]; exact eK
 have Hd:=am (ar HO.o ho);have hS:=am (show hG.heap[w9.heap.size]? =some (.cells #[.string rt.name, .int .i64 rt.gen, .int .i64 rt.size] 26 (0,0)) by rw[hm]; exact dZ w9 _);obtain⟨bb,oo,ya,yc,rfl,H3,hd,q0,q1,q2,q3⟩:=rR hl.o ho (k:=0) (b:=⟨qG,rA⟩) rfl;have Hn:(convert 29 9 (.slice ya 8 yc)).run Tryz.prog hG= .ok (.string ⟨#[1,1,108,3,5,6,1,97]⟩) hG:=iz hd
 replace q3:hG.cell? ⟨bb,oo+0*4+3,none⟩=some (.slice ya 8 yc):=q3
 simp only[ir,cT]at q0 q1 q2 q3;have he:=am (hl.o.below ho);clear hm ho hd
 go_upto_region 9 with(fail)
 clear q0 q1 q2 q3 Hn;go_wp2_with fail;refine(sU _ _ _ _ (Ek (n:=1) he.o) (by simp)).mono ?_;rintro e w11 ⟨mb,mm,rfl,H2,HG,Ho,hp⟩;have hL:=am (ar Hd.o hp);have hz:=am (show fW (fun _=>True) w11 (.map (some mb)) wu from by
  rw[hJ.o]at Ho;exact .inr ⟨mb,mm,rfl,trivial,HG.is,eT.wide Ho⟩)
 have hC:=am (dX hp hS.o);have hq:=am (he.o.below hp);clear hp H2 HG Ho he hS;obtain⟨r0,r1,r2,_⟩:=aU hC.o;go_wp2_with fail;have h7:=am (show dY rt by rw[hJ.o]; exact GW);have HS:=am (show uZ wu rt= .error 10 by rw[hJ.o]; exact PK);have HT:=am (show Me wu rt= .ok [qG] by rw[hJ.o]; exact PO);have HQ:=am (show kS wu rt ⟨#[97]⟩= .ok sY by rw[hJ.o]; exact PN)
 have HR:=am (show kS wu rt ⟨#[100,47,108]⟩= .error 10 by rw[hJ.o]; exact Pn);refine(CZ _ (.map (some mb)) wu rt w11 hz.o (HE.o.below hL.o).env h7.o).mono ?_;rintro e w12 ⟨hf,h1⟩;rw[HS.o]at h1;obtain⟨rfl,-⟩:=h1;have hM:=am (ar hL.o hf);have hA:=am (hz.o.below hf);have hD:=am (dX hf hC.o);have hs:=am (hq.o.below hf)
 clear hf hz hC hq r0 r1 r2;obtain⟨r0,r1,r2,_⟩:=aU hD.o;go_wp2_with fail;refine(yt (by decide) _ (.map (some mb)) rt w12 hA.o (HE.o.below hM.o).env h7.o).mono ?_;rintro e w13 ⟨hg,h4⟩;rw[HT.o]at h4;obtain⟨mv,rfl,Hp⟩:=h4;obtain⟨ma,mc,rfl,-,-,-⟩:=cP.shape Hp oU.len;have Hv:=am Hp;have hN:=am (ar hM.o hg);have hB:=am (hA.o.below hg)
 have hF:=am (dX hg hD.o);have hu:=am (hs.o.below hg);clear hg Hp hA hD hs r0 r1 r2;obtain⟨r0,r1,r2,_⟩:=aU hF.o;go_wp2_with fail;refine(rL _ (.map (some mb)) wu rt ⟨#[97]⟩ w13 hB.o (HE.o.below hN.o).env h7.o).mono ?_;rintro e w14 ⟨ha,h2⟩;rw[HQ.o]at h2;obtain⟨lv,rfl,HF,-⟩:=h2;have He:=am (ar hN.o ha);have hQ:=am (hB.o.below ha)
 have hT:=am (dX ha hF.o);have hv:=am (hu.o.below ha);have hx:=am (cP.below Hv.o (by omega) ha (fun _ _ _ h=>h));obtain⟨la,lc,rfl,-,-,-⟩:=cP.shape HF oU.len;clear ha HF hB hF hu Hv r0 r1 r2;unfold rK
 go_upto_region 13 with(fail)
 obtain⟨hX,hn⟩: ∃hX:World,hX=w14.alloc (.cells #[.string sY.name, .int .i64 sY.kind, .int .i64 sY.mode, .int .i64 sY.time, .int .i64 sY.size, .string sY.link, .slice la sY.chunks.length lc, .string sY.node.name, .int .i64 sY.node.gen, .int .i64 sY.node.size] 28):=⟨_,rfl⟩;rw[<-hn];have hc:Below w14.heap.size w14 hX:=by rw[hn]; exact eK
 have hV:=am (show hX.heap[w14.heap.size]? =some (.cells #[.string sY.name, .int .i64 sY.kind, .int .i64 sY.mode, .int .i64 sY.time, .int .i64 sY.size, .string sY.link, .slice la sY.chunks.length lc, .string sY.node.name, .int .i64 sY.node.gen, .int .i64 sY.node.size] 28 (0,0)) by rw[hn]; exact dZ w14 _);have hO:=am (ar He.o hc);have hR:=am (hQ.o.below hc)
 have hU:=am (dX hc hT.o);have hw:=am (hv.o.below hc);have hy:=am (cP.below hx.o (by omega) hc (fun _ _ _ h=>h));clear hc hn hQ hT hv hx;obtain⟨r0,r1,r2,_⟩:=aU hU.o;go_wp2_with fail;refine(rL _ (.map (some mb)) wu rt ⟨#[100,47,108]⟩ hX hR.o (HE.o.below hO.o).env h7.o).mono ?_;rintro e w16 ⟨hh,h3⟩;rw[HR.o]at h3
 obtain⟨rfl,-⟩:=h3;have Hf:=am (ar hO.o hh);have Hi:=am (dX hh hV.o);have hP:=am (hw.o.below hh);have hW:=am (cP.below hy.o (by omega) hh (fun _ _ _ h=>h));clear hh hR hU hw hy hV r0 r1 r2
 go_upto_region 14 with(fail)
 obtain⟨h8,hH⟩: ∃h8:World,h8=(w16.alloc (.cells #[.string ⟨#[]⟩, .int .i64 0, .int .i64 0, .int .i64 0, .int .i64 0, .string ⟨#[]⟩, .slice none 0 0, .string ⟨#[]⟩, .int .i64 0, .int .i64 0] 28)).drew:=⟨_,rfl⟩;have hj:Below w16.heap.size w16 h8:=by rw[hH]; exact(eK).drew
 have Hg:=am (ar Hf.o hj);have h0:=dX hj Hi.o;have i1:=az (k:=1) h0;simp only[ai,aj,ah]at i1
 replace i1:h8.cell? ⟨w14.heap.size,1,none⟩=some (.int .i64 1):=i1
 obtain⟨mb2,mo2,rfl,-,p0,p1,p2⟩:=lH hW.o hj (k:=0) (r:=qG) rfl;obtain⟨rd,Hq⟩: ∃rd,rd=qG:=⟨_,rfl⟩;rw[<-Hq]at p0 p1 p2;obtain⟨b9,o9,y9,z9,HZ,-,-,q0,q1,q2,-⟩:=rR hP.o hj (k:=0) (b:=⟨qG,rA⟩) rfl
 cases HZ
 simp only at q0 q1 q2;rw[<-Hq]at q0 q1 q2;simp only[ir,cT]at p0 p1 p2 q0 q1 q2;clear h0 hj Hq;refine bF [some 35] (by kernel_rfl) (by kernel_rfl) (by kernel_rfl) ?_;simp only[dJ,aR,aX];rw[<-hH];clear hH
 repeat (first | (refine bZ rfl ?_; simp only[Act.put,aa,ag,ab]) | (refine cK rfl (fun K hK=> ?_); go_simp; refine hK _ ?_; clear hK K))
 refine cJ ?_;go_wp2_with fail;go_ret;exact⟨rfl,Hg.o⟩
end Go.Proofs.YtpffpjbkbaleiaaGreatDoor
namespace Go.Proofs.YtpffpjbkbaleiaaGreatDoor
open Go.RowKit
theorem Jc (S:Nat->Prop) (v:Value) (rs:List cy) (x:cy) (w:World) (hv:dy S w v rs) (_hx:dY x):
  Calls Tryz.prog 39 #[v,ef x] w fun e w'=>e= .returned (.bool (decide (x∈rs)))/\Below w.heap.size w w':=by
 obtain⟨a,cap,rfl,hc,hm,-⟩:=cP.shape hv oU.len;unfold maxLen at hm;have HV:=am hv;have hh:=am ((au w.heap.size w).alloc (ak _) (.cells #[.string x.name, .int .i64 x.gen, .int .i64 x.size] 26));have hj:=am (aF w (.cells #[.string x.name, .int .i64 x.gen, .int .i64 x.size] 26));unfold ef;clear hv
 go_enter Tryz.func39,Tryz.ntmps39
 go_wp2_with fail
 go_loopw [5] (fun i wr=> ∃k:Nat,k<=rs.length/\i= .int .i64 k/\x∉rs.take k/\Below w.heap.size w wr/\wr.heap[w.heap.size]? =some (.cells #[.string x.name, .int .i64 x.gen, .int .i64 x.size] 26 (0,0))) (fun i _=>rs.length-(intOf i).toNat)
 case atStart=>exact⟨0,aW _,rfl,by simp,hh.o,hj.o⟩
 case round=>
  obtain⟨k,hk,rfl,hn,hb,hg⟩:=hrel;have HN:=am hn;have HB:=am hb;have hl:=am hg;clear hn hb hg
  by_cases hp:k<rs.length
  ·obtain⟨r,hr⟩: ∃r,rs[k]? =some r:=⟨rs[k],by simp[hp]⟩;have HR:=am hr;have ho:=am (dL hr);have hd:=zk r x;obtain⟨W,hW⟩: ∃W:World,W=wr.drew:=⟨_,rfl⟩;have ha:=am (show Below w.heap.size w W by rw[hW]; exact HB.o.drew);have hf:=am (show W.heap[w.heap.size]? =some (.cells #[.string x.name, .int .i64 x.gen, .int .i64 x.size] 26 (0,0)) by rw[hW]; exact hl.o)
   obtain⟨b,o,rfl,he,q0,q1,q2⟩:=lH HV.o ha.o hr;obtain⟨p0,p1,p2,_⟩:=aU hf.o;unfold ef at hd;clear hr he
   by_cases hm:r=x
   ·have e1:decide (r=x)=true:=by simp[hm]
    rw[e1]at hd;have HT:=am (show decide (x∈rs)=true by rw[<-hm]; simp[List.mem_of_getElem? HR.o]);clear e1 hm;go_wp2_with fail;refine bF [some 6] (by kernel_rfl) (by kernel_rfl) (by kernel_rfl) ?_;simp only[dJ,aR,aX];rw[<-hW];clear hW
    repeat (first | (refine bZ rfl ?_; simp only[Act.put,aa,ag,ab]) | (refine cK rfl (fun K hK=> ?_); go_simp; refine hK _ ?_; clear hK K))
    refine cJ ?_;go_wp2_with fail;go_ret;exact⟨bW HT.o.symm,ha.o⟩
   ·have e1:decide (r=x)=false:=by simp[hm]
    rw[e1]at hd;have HT:=am (show x∉rs.take (k+1) by rw[ho.o]; simp only[aT,aM,not_or]; exact⟨HN.o,fun e=>hm e.symm⟩);clear e1 hm;go_wp2_with fail;refine bF [some 6] (by kernel_rfl) (by kernel_rfl) (by kernel_rfl) ?_;simp only[dJ,aR,aX];rw[<-hW];clear hW
    repeat (first | (refine bZ rfl ?_; simp only[Act.put,aa,ag,ab]) | (refine cK rfl (fun K hK=> ?_); go_simp; refine hK _ ?_; clear hK K))
    refine cJ ?_;go_wp2_with fail
    go_roundw
    case rel=>exact⟨k+1,by omega,by go_num,HT.o,ha.o,hf.o⟩
    case measure=>simp[intOf]; omega
  ·obtain rfl:k=rs.length:=by omega
   have HT:=am (show decide (x∈rs)=false by have:=HN.o; rw[bB (ak _)]at this; simp[this]);go_wp2_with fail;go_ret;exact⟨bW HT.o.symm,HB.o⟩
end Go.Proofs.YtpffpjbkbaleiaaGreatDoor
namespace Go.Proofs.YtpffpjbkbaleiaaGreatDoor
theorem wy : ∀ {l m:List jB} {a b:List UInt8},fy l= .ok a->fy m= .ok b->fy (l++m)= .ok (a++b)
 | [],m,a,b,h1,h2=>by
  simp only[fy,dp]at h1;subst h1
  simpa using h2
 | y::l,m,a,b,h1,h2=>by
  rw[fy]at h1
  cases hy:lw y with
  | error e=>rw[hy]at h1; simp at h1
  | ok c=>
   rw[hy]at h1;simp only at h1
   cases hk:fy l with
   | error e=>rw[hk]at h1; simp at h1
   | ok d=>
    rw[hk]at h1;simp only[dp]at h1;subst h1;simp only[aK,fy,hy,wy hk h2,bi]
theorem iJ {x:jB} {l:List jB} {a b:List UInt8} (h1:lw x= .ok a) (h2:fy l= .ok b):fy (x::l)= .ok (a++b):=by
 simp only[fy,h1,h2]
theorem qt {α:Type} {f:α->List jB} {g:α->List UInt8} : ∀ {l:List α},(∀x∈l,fy (f x)= .ok (g x))->fy (l.flatMap f)= .ok (l.flatMap g)
 | [],_=>rfl
 | x::l,h=>by
  rw[bu,bu];exact wy (h x (by simp)) (qt (fun y hy=>h y (by simp[hy])))
theorem qs {n:Int} (h0:0<=n) (h1:n<18446744073709551616):lw (iP n)= .ok (bD n.toNat):=by
 unfold lw iP;rw[if_pos rfl,show n%18446744073709551616=n by omega]
theorem zg (s:ByteArray):lw (nV s)= .ok (bD s.size++bl s):=by simp[lw,nV]
theorem LD {s:ByteArray} (h:s.size=32):lw (FJ s)= .ok (bl s):=by simp[lw,FJ,h]
theorem ww (n:Nat):lw (jN n)= .ok (bD n):=by
 have h: ¬((n:Int)<0):=by omega
 have e:lw (jN n)=if(n:Int)<0 then .error 1 else .ok (bD (n:Int).toNat):=rfl
 rw[e,if_neg h,eZ]
theorem wA {r:cy} (h:lm r=true):fy (eA r)= .ok (ff r):=by
 obtain⟨h1,h2,h3,h4,h5⟩:=mF.1 h;have:=iJ (LD h1) (iJ (qs h2 (by omega)) (iJ (qs h4 (by omega)) (show fy []= .ok []from rfl)))
 simpa [eA,ff]using this
theorem Cq {it:cg} (hv:jo it=true) (ht:it.time<9223372036854775808):fy (gd it)= .ok (fu it):=by
 have ha:=hv;unfold jo at ha;rw[aI]at ha;have hh:=qx.1 ha.1;have hk:=qW ha.2;have hb:fy (if it.kind=1 then jN it.chunks.length::it.chunks.flatMap eA else if it.kind=2 then eA it.node else [nV it.link])= .ok (kh it):=by
  unfold kh
  rcases hk with hk | hk | hk
  ·rw[if_pos hk,if_pos hk];exact iJ (ww _) (qt (fun r hr=>wA ((nj hk ha.2).2.2.1 r hr).1))
  ·rw[if_neg (by omega),if_pos hk,if_neg (by omega),if_pos hk];exact wA (sR hk ha.2).2.2.2
  ·rw[if_neg (by omega),if_neg (by omega),if_neg (by omega),if_neg (by omega)];have:=iJ (zg it.link) (show fy []= .ok []from rfl)
   simpa using this
 have:=iJ (zg it.name) (iJ (qs (n:=it.kind) (by omega) (by omega)) (iJ (qs (n:=it.mode) hh.md0 (by have:=hh.md1; omega)) (iJ (qs (n:=it.time) hh.tm0 (by omega)) hb)));unfold gd fu
 simpa using this
theorem Mj {l:List cg} (hv:jy l=true) (ht: ∀it∈l,it.time<9223372036854775808) (hs:(fO l).length<=1048576):tq l=fO l:=by
 have h:fy (iB l)= .ok (fO l):=by
  unfold iB fO;exact iJ (ww _) (qt (fun it ha=>Cq ((pq hv).2 it ha) (ht it ha)))
 unfold tq yj;rw[h];simp only;rw[if_neg (by omega)]
open Go.RowKit
theorem xe :er.name.size=0:=rfl
theorem DW {it:cg} (hv:jo it=true):KQ it/\kI it=true:=by
 unfold jo at hv;rw[aI]at hv;exact⟨qx.1 hv.1,hv.2⟩
theorem EO {it:cg} (hv:jo it=true):vz it:=by
 obtain⟨hh,hb⟩:=DW hv;have hn:=sS hh.val hh.nos;rw[<-bh]at hn;have he:(⟨#[]⟩:ByteArray).size=0:=rfl
 rcases qW hb with hk | hk | hk
 ·obtain⟨h1,h2,h3,-,-⟩:=nj hk hb;exact⟨by omega,by rw[h1,he]; omega,by rw[h2,xe]; omega,fun c hc=>by have:=(mF.1 (h3 c hc).1).1; omega⟩
 ·obtain⟨h1,-,h3,h4⟩:=sR hk hb;exact⟨by omega,by rw[h1,he]; omega,by have:=(mF.1 h4).1; omega,fun c hc=>by rw[h3]at hc; cases hc⟩
 ·obtain⟨-,h2,h3,h4,h5,-⟩:=tU hk hb;exact⟨by omega,by omega,by rw[h3,xe]; omega,fun c hc=>by rw[h2]at hc; cases hc⟩
section
variable {k : dh} {gs : List (ByteArray × Int)} {c : fN} {tree : List dl}
theorem wW {d:ByteArray} {j:Nat} {e:dl} (h:tree[j]? =some e):dF (tree.take (j+1)) d=dF (tree.take j) d++(if cr (bl e.path)=bl d then [e]else []):=by
 rw[dL h];unfold dF;rw[gD]
 congr 1
 by_cases hp:cr (bl e.path)=bl d<;> simp[hp]
theorem Jn {d:ByteArray} {g:dl->List (List UInt8)} {j:Nat} {e:dl} (h:tree[j]? =some e) (hp:cr (bl e.path)=bl d):((dF (tree.take j) d).flatMap g).length+(g e).length<=((dF tree d).flatMap g).length:=by
 have h1:=wW (d:=d) h;rw[if_pos hp]at h1;have h2:dF tree d=dF (tree.take (j+1)) d++dF (tree.drop (j+1)) d:=by
  unfold dF;rw[<-gD,du]
 rw[h2,h1,bP,bP,an,an];simp
theorem rm (cs:List (List UInt8)) (s:List cZ×Bool):(gH k gs cs s).1.length<=s.1.length+cs.length:=by
 rw[vf]; exact qV k gs cs s.1
theorem pS (a b:List (List UInt8)) (s:List cZ×Bool):gH k gs (a++b) s=gH k gs b (gH k gs a s):=by
 unfold gH; rw[dV]
theorem Fk {cs:List (List UInt8)} {s:List cZ×Bool} {j:Nat} {x:List UInt8} (h:cs[j]? =some x):gH k gs (cs.take (j+1)) s=pR k gs (gH k gs (cs.take j) s) x:=by
 rw[dL h,pS]; rfl
theorem Ji {d:ByteArray} {e:dl} {nd:cy} (h:ig e=true):(cS k gs c d e nd).size=(e.data.length:Int):=by
 show(if e.kind=1 then(e.data.length:Int)else 0)=_
 rcases wG h with⟨h1,_⟩ | ⟨h1,h2,_⟩ | ⟨h1,h2,_⟩
 ·rw[if_pos h1]
 ·rw[if_neg (by omega),h2]; rfl
 ·rw[if_neg (by omega),h2]; rfl
theorem Jg {it:cg} (hc:it.chunks.length<=60):(gd it).length<=250:=by
 have hf:(it.chunks.flatMap eA).length=3*it.chunks.length:=by
  induction it.chunks with
  | nil=>rfl
  | cons r l ih=>rw[bu,an,ih,aD]; simp[eA]; omega
 unfold gd;rw[an]
 split
 ·simp[hf]; omega
 ·split<;> simp[eA]
theorem Df {l:List cg} (hl:l.length<=12) (hc: ∀it∈l,it.chunks.length<=60):(iB l).length<=10000:=by
 have: ∀ {l:List cg},(∀it∈l,it.chunks.length<=60)->(l.flatMap gd).length<=250*l.length:=by
  intro l
  induction l with
  | nil=>intro _; simp
  | cons x l ih=>
   intro h;have h1:=Jg (h x (by simp));have h2:=ih (fun y hy=>h y (by simp[hy]));rw[bu,an,aD];omega
 have h:=this hc;unfold iB;rw[aD];omega
theorem EQ (hc:jG c=true) (hs:ny tree) (f:Nat) (d:ByteArray):(mZ k gs c tree f d).length<=12/\ ∀it∈mZ k gs c tree f d,it.chunks.length<=60:=by
 unfold mZ;refine⟨?_,fun it ha=> ?_⟩
 ·rw[aB];exact ay (dH _ _) hs.len
 ·obtain⟨e,he,rfl⟩:=aS.1 ha
  show(if e.kind=1 then(fZ c e.data).map (bA k gs)else []).length<=60
  split
  ·rw[aB];exact ay (vE hc _) (hs.data e (fm.1 he).1)
  ·simp
theorem Jj (hg:km gs) (hc:jG c=true) (h:BA tree) (hs:ny tree) (f:Nat) (d:ByteArray):jy (mZ k gs c tree f d)=true:=
 sj h hc hg d (fun e=>bA k gs (dS k gs c tree f e.path).1) (fun e _ _=>nS hg (pi hg hc h hs f e.path))
theorem Ma {d:ByteArray} {e:dl} (h:ig e=true) (hp:cr (bl e.path)=bl d):xc (bl e.path)=⟨(mC (bl d) (bl e.path)).toArray⟩:=Jo (tg (dm h) hp)
end
open Go.RowKit Go.Maps
def ko :List dl->ByteArray->Nat->Int
 | [],_,_=> -1
 | e::L,p,i=>if e.path=p then(i:Int)else ko L p (i+1)
theorem Cu {L:List dl} {p:ByteArray} {k:Nat} {e:dl} (h:L[k]? =some e):ko (L.drop k) p k=if e.path=p then(k:Int)else ko (L.drop (k+1)) p (k+1):=by
 obtain⟨hk,he⟩:=aG.1 h;rw[cz hk,ko,he]
theorem uS {p:ByteArray} : ∀(L:List dl) (i:Nat),(kF L p=none/\ko L p i= -1)\/ ∃j e,kF L p=some e/\L[j]? =some e/\ko L p i=((i+j:Nat):Int)
 | [],i=> .inl ⟨rfl,rfl⟩
 | e::L,i=>by
  by_cases h:e.path=p
  ·right
   refine⟨0,e, ?_,rfl, ?_⟩
   ·unfold kF; rw[List.find?_cons_of_pos (by simp[h])]
   ·rw[ko,if_pos h]; simp
  ·have hf:kF (e::L) p=kF L p:=by unfold kF; rw[List.find?_cons_of_neg (by simp[h])]
   rw[ko,if_neg h,hf]
   rcases uS L (i+1)with h1 | ⟨j,f,h1,h2,h3⟩
   ·exact .inl h1
   ·exact .inr ⟨j+1,f,h1,by simpa using h2,by rw[h3]; congr 1; omega⟩
theorem Fm (S:Nat->Prop) (L:List dl) (v:Value) (p:ByteArray) (w:World) (hv:eI S w v L):
  Calls Tryz.prog 131 #[v, .string p] w fun e w'=>e= .returned (.int .i64 (ko L p 0))/\Below w.heap.size w w':=by
 have HV:=am hv;obtain⟨a,cap,rfl,hc,hm,-⟩:=cP.shape hv nx.len;obtain⟨n,hn⟩: ∃n,n=L.length:=⟨_,rfl⟩;have HN:=am hn;rw[<-hn]at HV hc ⊢;unfold maxLen at hm;clear hv hn
 go_enter Tryz.func131,Tryz.ntmps131
 go_wp2_with fail
 go_loopw [5,9] (fun _ i wr=> ∃k:Nat,k<=n/\i= .int .i64 k/\ko L p 0=ko (L.drop k) p k/\Below w.heap.size w wr) (fun _ i _=>n-(intOf i).toNat)
 case atStart=>exact⟨0,aW _,rfl,rfl,au _ _⟩
 case round=>
  obtain⟨k,hk,rfl,hh,ha⟩:=hrel;have hg:=am hh;have hf:=am ha
  by_cases hl:k<n
  ·obtain⟨e,he⟩: ∃e,L[k]? =some e:=⟨L[k]'(by rw[<-HN.o]; exact hl),by simp⟩;obtain⟨b,o,dv,rfl,-,hb,hd,-,-,q0,q1,q2,q3,q4,q5⟩:=ki (HV.o.below ha) he;obtain⟨_,ad,cd,rfl,ho,hq,-⟩:=hd;have hj:=am (Cu (p:=p) he);clear he hh ha
   by_cases hp:e.path=p
   ·have e1:(e.path.toList == p.toList)=true:=by rw[hp]; simp
    have HR:=am (show ko L p 0=(k:Int) by rw[hg.o,hj.o,if_pos hp]);clear hp;go_wp2_with fail;go_ret;exact⟨dA HR.o.symm,ar hf.o (eK)⟩
   ·have e1:(e.path.toList == p.toList)=false:=by
     rw[fV]; intro h; exact hp (kL (by rw[<-fp,<-fp]; exact h))
    have HR:=am (show ko L p 0=ko (L.drop (k+1)) p (k+1) by rw[hg.o,hj.o,if_neg hp]);clear hp;go_wp2_with fail
    go_roundw
    case rel=>exact⟨k+1,by omega,by go_num,HR.o,ar hf.o (eK)⟩
    case measure=>simp[intOf]; omega
  ·have HR:=am (show ko L p 0= -1 by rw[hg.o,eV (by rw[<-HN.o]; omega)]; rfl);clear hh ha;go_wp2_with fail;go_ret;exact⟨dA HR.o.symm,hf.o⟩
theorem FH {S:Nat->Prop} {w:World} {a:Option Addr} {n c:Nat} {xs:List ByteArray} (h:lz S w (.slice a n c) xs):lz S w (.slice a (n-1) c) xs.dropLast:=by
 obtain⟨hl,a',cap,he,hn,hm,h0⟩:=h;simp only[cW]at he;obtain⟨rfl,rfl,rfl⟩:=he;refine⟨by simp,a,c,by rw[fK],by rw[fK]; omega,hm, ?_⟩
 rcases h0 with h0 | ⟨b,o,ha,hb,hc⟩
 ·left; rw[fK]; omega
 ·right
  refine⟨b,o,ha,hb,fun j u hj=>hc j u ?_⟩;rw[bn,List.getElem?_dropLast]at hj;rw[bn]
  split at hj
  ·exact hj
  ·simp at hj
theorem xx (s:ByteArray) (w:World) (hs:s.size<=65000):
  Calls Tryz.prog 92 #[.string s] w fun e w'=>e= .returned (.string ⟨(cr (bl s)).toArray⟩)/\Below w.heap.size w w':=by
 go_enter Tryz.func92,Tryz.ntmps92
 go_wp2_with (go_at_call 87; refine(ng s _ (by omega)).mono ?_; rintro e w1 ⟨v,xs,rfl,hx,hv,hb⟩; have HX:=am hx; have HB:=am hb; obtain⟨a,c,rfl,hc,hm,-⟩:=hv.shape; have HV:=am hv; have ha:1<=xs.length:=(by rw[<-aB (f:=bl),hx]; exact sB 47 _); have hd:xs.length<=65001:=(by rw[<-aB (f:=bl),hx]; have:=oP 47 (bl s); rw[<-bh]at this; omega); clear hx hv hb; unfold maxLen at hm)
 refine(Dv xs.dropLast _ _ w1 (FH HV.o) (by rw[fK]; omega) (fun x hx=> ?_)).mono ?_
 ·have h1:bl x∈de 47 (bl s):=by rw[<-HX.o]; exact aS.2 ⟨x,List.dropLast_subset _ hx,rfl⟩
  have h2:=ti 47 (bl s) _ h1;rw[<-bh,<-bh]at h2;omega
 ·rintro e w2 ⟨rfl,rfl⟩;go_wp2_with fail;go_ret;refine⟨?_,HB.o⟩;unfold cr;rw[<-HX.o,<-List.map_dropLast]
  rfl
theorem ut (S:Nat->Prop) (L:List dl) (v:Value) (p:ByteArray) (x:Int) (w:World) (hv:eI S w v L) (hx:ko L p 0=x):
  Calls Tryz.prog 131 #[v, .string p] w fun e w'=>e= .returned (.int .i64 x)/\Below w.heap.size w w':=by
 rw[<-hx]; exact Fm S L v p w hv
theorem vF (L:List dl) (p:ByteArray):mX L (bl p)=if bl p=[]then 0 else match kF L p with
 | none=>4
 | some e=>if e.kind=2 then 0 else 13:=by
 unfold mX;rw[tn]
 cases kF L p<;> rfl
theorem JP (S:Nat->Prop) (L:List dl) (v:Value) (p:ByteArray) (w:World) (hv:eI S w v L):
  Calls Tryz.prog 91 #[v, .string p] w fun e w'=>e= .returned (.int .i64 (mX L (bl p)))/\Below w.heap.size w w':=by
 have HV:=am hv
 by_cases h0:bl p=[]
 ·have e1:p.toList.isEmpty=true:=by rw[oh,cV h0]
  have HR:=am (show mX L (bl p)=0 by rw[vF,if_pos h0]);clear h0 hv
  go_enter Tryz.func91,Tryz.ntmps91
  go_wp2_with fail;go_ret;exact⟨dA HR.o.symm,au _ _⟩
 ·have e1:p.toList.isEmpty=false:=by rw[oh,cD h0]
  rcases uS (p:=p) L 0 with⟨h1,h2⟩ | ⟨j,f,h1,h2,h3⟩
  ·have HR:=am (show mX L (bl p)=4 by rw[vF,if_neg h0,h1]);have HI:=am h2;clear h0 h1 h2 hv
   go_enter Tryz.func91,Tryz.ntmps91
   go_wp2_with (go_at_call 131; refine(ut S L v p (-1) _ HV.o HI.o).mono ?_; rintro e w1 ⟨rfl,ha⟩; have hd:=am ha; clear ha);go_ret;exact⟨dA HR.o.symm,hd.o⟩
  ·have HI:=am (show ko L p 0=(j:Int) by rw[h3]; simp);obtain⟨a,cap,rfl,hc,hm,-⟩:=cP.shape hv nx.len;have he:j<L.length:=(aG.1 h2).1;obtain⟨n,hn⟩: ∃n,n=L.length:=⟨_,rfl⟩;rw[<-hn]at HV hc he ⊢;obtain⟨b,o,dv,rfl,-,hb,-,-,-,q0,q1,q2,q3,q4,q5⟩:=ki HV.o h2;unfold maxLen at hm
   by_cases hk:f.kind=2
   ·have HR:=am (show mX L (bl p)=0 by rw[vF,if_neg h0,h1]; simp only[if_pos hk]);have e2:(f.kind != 2)=false:=by simp[hk]
    clear h0 h1 h2 h3 hv hk hn q0 q2 q3 q4 q5
    go_enter Tryz.func91,Tryz.ntmps91
    go_wp2_with (go_at_call 131; refine(ut S L _ p j _ HV.o HI.o).mono ?_; rintro e w1 ⟨rfl,ha⟩; have q9:=(ha.cell (cF q1)).trans q1; have hd:=am ha; clear ha);go_ret;exact⟨dA HR.o.symm,hd.o⟩
   ·have HR:=am (show mX L (bl p)=13 by rw[vF,if_neg h0,h1]; simp only[if_neg hk]);have e2:(f.kind != 2)=true:=by simp[hk]
    clear h0 h1 h2 h3 hv hk hn q0 q2 q3 q4 q5
    go_enter Tryz.func91,Tryz.ntmps91
    go_wp2_with (go_at_call 131; refine(ut S L _ p j _ HV.o HI.o).mono ?_; rintro e w1 ⟨rfl,ha⟩; have q9:=(ha.cell (cF q1)).trans q1; have hd:=am ha; clear ha);go_ret;exact⟨dA HR.o.symm,hd.o⟩
theorem ie (s:ByteArray) (b:Bool) (w:World) (hs:s.size<=16777216) (h:dD (bl s)=b):Calls Tryz.prog 86 #[.string s] w fun e w'=>e= .returned (.bool b)/\Below w.heap.size w w':=by
 rw[<-h]; exact Dw s w hs
theorem xf {l:List UInt8} :l.contains 0=false<-> ∀k:Nat,∀b,l[k]? =some b->b≠0:=by
 rw[eY,ne_eq,List.contains_iff_mem,List.mem_iff_getElem?]
 constructor
 ·intro h k b hb e; subst e; exact h ⟨k,hb⟩
 ·rintro h ⟨k,hk⟩; exact h k 0 hk rfl
theorem DX {en:dl} (h:(en.kind=1\/en.kind=2\/en.kind=3)/\en.data.length<=1048576/\(en.kind=1\/en.data.length=0)) (hz:(bl en.link).contains 0=false):kX en=((decide (en.kind=3) == decide (en.link.size≠0)) && decide (en.link.size<=512)):=by
 obtain⟨h1,h2,h3⟩:=h;unfold kX oR;rw[hz,<-bh]
 rcases h1 with h1 | h1 | h1
 ·rw[if_pos h1,cV h2,h1]
  by_cases hs:en.link.size=0
  ·simp[hs]
  ·simp[hs]
 ·have h4:en.data.length=0:=h3.resolve_left (by omega);rw[if_neg (by omega),if_pos h1,cV h4,h1]
  by_cases hs:en.link.size=0
  ·simp[hs]
  ·simp[hs]
 ·have h4:en.data.length=0:=h3.resolve_left (by omega);rw[if_neg (by omega),if_neg (by omega),if_pos h1,cV h4,h1]
  by_cases hs:en.link.size=0
  ·simp[hs]
  ·rw[cV (by omega:1<=en.link.size)];simp[hs]
theorem Bm (S:Nat->Prop) (en:dl) (v:Value) (w:World) (hd:eH S w v en.data) (hok:mN en) (hps:en.path.size<=16777216):Calls Tryz.prog 89 #[IW v en] w fun e w'=>e= .returned (.bool (ig en))/\Below w.heap.size w w':=by
 obtain⟨a,cap,rfl,hc,hm⟩:=hd.slice;unfold maxLen at hm;have hl:=am hps;have hM:=hok.lnk;unfold maxLen at hM;clear hok;unfold IW
 cases hv:dD (bl en.path)
 ·have HV:=am hv;have HF:=am (show ig en=false by unfold ig; rw[hv]; rfl);clear hv
  go_enter gF,gt
  go_wp2_with fail;obtain⟨W,hW⟩: ∃W,W=w.alloc (.cells #[.string en.path, .int .i64 en.kind, .int .i64 en.mode, .int .i64 en.time, .slice a en.data.length cap, .string en.link] 79):=⟨_,rfl⟩;rw[<-hW];have hh:=am (show Below w.heap.size w W by rw[hW]; exact eK);have he:=am (show W.heap[w.heap.size]? =some (.cells #[.string en.path, .int .i64 en.kind, .int .i64 en.mode, .int .i64 en.time, .slice a en.data.length cap, .string en.link] 79 (0,0)) by rw[hW]; exact dZ w _)
  clear hW;refine(ie en.path false _ hl.o HV.o).mono ?_;rintro e w1 ⟨rfl,ha⟩;have hf:=am (ar hh.o ha);clear ha;go_wp2_with fail;go_ret;exact⟨bW (by rw[HF.o]),hf.o⟩
 have HV:=am hv
 by_cases h1:en.mode<0
 ·have e1:decide (en.mode<0)=true:=by simp[h1]
  have HF:=am (show ig en=false by unfold ig oQ; rw[cD (by omega: ¬0<=en.mode)]; simp);clear hv
  go_enter gF,gt
  go_wp2_with fail;obtain⟨W,hW⟩: ∃W,W=w.alloc (.cells #[.string en.path, .int .i64 en.kind, .int .i64 en.mode, .int .i64 en.time, .slice a en.data.length cap, .string en.link] 79):=⟨_,rfl⟩;rw[<-hW];have hh:=am (show Below w.heap.size w W by rw[hW]; exact eK);have he:=am (show W.heap[w.heap.size]? =some (.cells #[.string en.path, .int .i64 en.kind, .int .i64 en.mode, .int .i64 en.time, .slice a en.data.length cap, .string en.link] 79 (0,0)) by rw[hW]; exact dZ w _)
  clear hW;refine(ie en.path true _ hl.o HV.o).mono ?_;rintro e w1 ⟨rfl,ha⟩;have hf:=am (ar hh.o ha);have hg:=am ((ha.block w.heap.size (lP he.o)).trans he.o);clear ha;obtain⟨c0,c1,c2,c3,c4,c5,_⟩:=aU hg.o;go_wp2_with fail;go_ret;exact⟨bW (by rw[HF.o]),hf.o⟩
 have e1:decide (en.mode<0)=false:=by simp[h1]
 by_cases h2:511<en.mode
 ·have e2:decide (511<en.mode)=true:=by simp[h2]
  have HF:=am (show ig en=false by unfold ig oQ; rw[cD (by omega: ¬en.mode<=511)]; simp);clear hv
  go_enter gF,gt
  go_wp2_with fail;obtain⟨W,hW⟩: ∃W,W=w.alloc (.cells #[.string en.path, .int .i64 en.kind, .int .i64 en.mode, .int .i64 en.time, .slice a en.data.length cap, .string en.link] 79):=⟨_,rfl⟩;rw[<-hW];have hh:=am (show Below w.heap.size w W by rw[hW]; exact eK);have he:=am (show W.heap[w.heap.size]? =some (.cells #[.string en.path, .int .i64 en.kind, .int .i64 en.mode, .int .i64 en.time, .slice a en.data.length cap, .string en.link] 79 (0,0)) by rw[hW]; exact dZ w _)
  clear hW;refine(ie en.path true _ hl.o HV.o).mono ?_;rintro e w1 ⟨rfl,ha⟩;have hf:=am (ar hh.o ha);have hg:=am ((ha.block w.heap.size (lP he.o)).trans he.o);clear ha;obtain⟨c0,c1,c2,c3,c4,c5,_⟩:=aU hg.o;go_wp2_with fail;go_ret;exact⟨bW (by rw[HF.o]),hf.o⟩
 have e2:decide (511<en.mode)=false:=by simp[h2]
 by_cases h3:en.time<0
 ·have e3:decide (en.time<0)=true:=by simp[h3]
  have HF:=am (show ig en=false by unfold ig oQ; rw[cD (by omega: ¬0<=en.time)]; simp);clear hv
  go_enter gF,gt
  go_wp2_with fail;obtain⟨W,hW⟩: ∃W,W=w.alloc (.cells #[.string en.path, .int .i64 en.kind, .int .i64 en.mode, .int .i64 en.time, .slice a en.data.length cap, .string en.link] 79):=⟨_,rfl⟩;rw[<-hW];have hh:=am (show Below w.heap.size w W by rw[hW]; exact eK);have he:=am (show W.heap[w.heap.size]? =some (.cells #[.string en.path, .int .i64 en.kind, .int .i64 en.mode, .int .i64 en.time, .slice a en.data.length cap, .string en.link] 79 (0,0)) by rw[hW]; exact dZ w _)
  clear hW;refine(ie en.path true _ hl.o HV.o).mono ?_;rintro e w1 ⟨rfl,ha⟩;have hf:=am (ar hh.o ha);have hg:=am ((ha.block w.heap.size (lP he.o)).trans he.o);clear ha;obtain⟨c0,c1,c2,c3,c4,c5,_⟩:=aU hg.o;go_wp2_with fail;go_ret;exact⟨bW (by rw[HF.o]),hf.o⟩
 have e3:decide (en.time<0)=false:=by simp[h3]
 by_cases h4:en.kind<1
 ·have e4:decide (en.kind<1)=true:=by simp[h4]
  have HF:=am (show ig en=false by unfold ig kX; rw[if_neg (by omega),if_neg (by omega),if_neg (by omega)]; simp);clear hv
  go_enter gF,gt
  go_wp2_with fail;obtain⟨W,hW⟩: ∃W,W=w.alloc (.cells #[.string en.path, .int .i64 en.kind, .int .i64 en.mode, .int .i64 en.time, .slice a en.data.length cap, .string en.link] 79):=⟨_,rfl⟩;rw[<-hW];have hh:=am (show Below w.heap.size w W by rw[hW]; exact eK);have he:=am (show W.heap[w.heap.size]? =some (.cells #[.string en.path, .int .i64 en.kind, .int .i64 en.mode, .int .i64 en.time, .slice a en.data.length cap, .string en.link] 79 (0,0)) by rw[hW]; exact dZ w _)
  clear hW;refine(ie en.path true _ hl.o HV.o).mono ?_;rintro e w1 ⟨rfl,ha⟩;have hf:=am (ar hh.o ha);have hg:=am ((ha.block w.heap.size (lP he.o)).trans he.o);clear ha;obtain⟨c0,c1,c2,c3,c4,c5,_⟩:=aU hg.o;go_wp2_with fail;go_ret;exact⟨bW (by rw[HF.o]),hf.o⟩
 have e4:decide (en.kind<1)=false:=by simp[h4]
 by_cases h5:3<en.kind
 ·have e5:decide (3<en.kind)=true:=by simp[h5]
  have HF:=am (show ig en=false by unfold ig kX; rw[if_neg (by omega),if_neg (by omega),if_neg (by omega)]; simp);clear hv
  go_enter gF,gt
  go_wp2_with fail;obtain⟨W,hW⟩: ∃W,W=w.alloc (.cells #[.string en.path, .int .i64 en.kind, .int .i64 en.mode, .int .i64 en.time, .slice a en.data.length cap, .string en.link] 79):=⟨_,rfl⟩;rw[<-hW];have hh:=am (show Below w.heap.size w W by rw[hW]; exact eK);have he:=am (show W.heap[w.heap.size]? =some (.cells #[.string en.path, .int .i64 en.kind, .int .i64 en.mode, .int .i64 en.time, .slice a en.data.length cap, .string en.link] 79 (0,0)) by rw[hW]; exact dZ w _)
  clear hW;refine(ie en.path true _ hl.o HV.o).mono ?_;rintro e w1 ⟨rfl,ha⟩;have hf:=am (ar hh.o ha);have hg:=am ((ha.block w.heap.size (lP he.o)).trans he.o);clear ha;obtain⟨c0,c1,c2,c3,c4,c5,_⟩:=aU hg.o;go_wp2_with fail;go_ret;exact⟨bW (by rw[HF.o]),hf.o⟩
 have e5:decide (3<en.kind)=false:=by simp[h5]
 have hu:=am (show ig en=kX en by
  unfold ig oQ;rw[hv,cV (by omega:0<=en.mode),cV (by omega:en.mode<=511),cV (by omega:0<=en.time)]; simp)
 by_cases h6:en.kind≠1/\0<en.data.length
 ·have e6:(en.kind != 1)=true:=by simp[h6.1]
  have e7:decide (0<en.data.length)=true:=by simp[h6.2]
  have e8:0<en.data.length:=h6.2;have HF:=am (show ig en=false by
   rw[hu.o]; unfold kX; rw[if_neg h6.1,cD (by omega: ¬en.data.length=0)]; simp)
  clear hv h6
  go_enter gF,gt
  go_wp2_with fail;obtain⟨W,hW⟩: ∃W,W=w.alloc (.cells #[.string en.path, .int .i64 en.kind, .int .i64 en.mode, .int .i64 en.time, .slice a en.data.length cap, .string en.link] 79):=⟨_,rfl⟩;rw[<-hW];have hh:=am (show Below w.heap.size w W by rw[hW]; exact eK);have he:=am (show W.heap[w.heap.size]? =some (.cells #[.string en.path, .int .i64 en.kind, .int .i64 en.mode, .int .i64 en.time, .slice a en.data.length cap, .string en.link] 79 (0,0)) by rw[hW]; exact dZ w _)
  clear hW;refine(ie en.path true _ hl.o HV.o).mono ?_;rintro e w1 ⟨rfl,ha⟩;have hf:=am (ar hh.o ha);have hg:=am ((ha.block w.heap.size (lP he.o)).trans he.o);clear ha;obtain⟨c0,c1,c2,c3,c4,c5,_⟩:=aU hg.o;go_wp2_with fail;go_ret;exact⟨bW (by rw[HF.o]),hf.o⟩
 by_cases h7:1048576<en.data.length
 ·have hn:en.kind=1:=by
   by_cases hk:en.kind=1
   ·exact hk
   ·exact absurd ⟨hk,by omega⟩ h6
  have e6:(en.kind != 1)=false:=by simp[hn]
  have e7:decide (1048576<en.data.length)=true:=by simp[h7]
  have HF:=am (show ig en=false by
   rw[hu.o]; unfold kX; rw[if_pos hn,cD (by omega: ¬en.data.length<=1048576)]; simp)
  clear hv h6 hn
  go_enter gF,gt
  go_wp2_with fail;obtain⟨W,hW⟩: ∃W,W=w.alloc (.cells #[.string en.path, .int .i64 en.kind, .int .i64 en.mode, .int .i64 en.time, .slice a en.data.length cap, .string en.link] 79):=⟨_,rfl⟩;rw[<-hW];have hh:=am (show Below w.heap.size w W by rw[hW]; exact eK);have he:=am (show W.heap[w.heap.size]? =some (.cells #[.string en.path, .int .i64 en.kind, .int .i64 en.mode, .int .i64 en.time, .slice a en.data.length cap, .string en.link] 79 (0,0)) by rw[hW]; exact dZ w _)
  clear hW;refine(ie en.path true _ hl.o HV.o).mono ?_;rintro e w1 ⟨rfl,ha⟩;have hf:=am (ar hh.o ha);have hg:=am ((ha.block w.heap.size (lP he.o)).trans he.o);clear ha;obtain⟨c0,c1,c2,c3,c4,c5,_⟩:=aU hg.o;go_wp2_with fail;go_ret;exact⟨bW (by rw[HF.o]),hf.o⟩
 have e7:decide (1048576<en.data.length)=false:=by simp; omega
 have hL:=am (show(en.kind=1\/en.kind=2\/en.kind=3)/\en.data.length<=1048576/\(en.kind=1\/en.data.length=0)from⟨by omega,by omega,by
  by_cases hk:en.kind=1
  ·exact .inl hk
  ·exact .inr (by rcases eO en.data.length with h | h; exact h; exact absurd ⟨hk,h⟩ h6)⟩)
 clear hv
 by_cases hn:en.kind=1
 ·have e6:(en.kind != 1)=false:=by simp[hn]
  clear h6 hn
  go_enter gF,gt
  go_wp2_with fail;obtain⟨W,hW⟩: ∃W,W=w.alloc (.cells #[.string en.path, .int .i64 en.kind, .int .i64 en.mode, .int .i64 en.time, .slice a en.data.length cap, .string en.link] 79):=⟨_,rfl⟩;rw[<-hW];have hh:=am (show Below w.heap.size w W by rw[hW]; exact eK);have he:=am (show W.heap[w.heap.size]? =some (.cells #[.string en.path, .int .i64 en.kind, .int .i64 en.mode, .int .i64 en.time, .slice a en.data.length cap, .string en.link] 79 (0,0)) by rw[hW]; exact dZ w _)
  clear hW;refine(ie en.path true _ hl.o HV.o).mono ?_;rintro e w1 ⟨rfl,ha⟩;have hf:=am (ar hh.o ha);have hg:=am ((ha.block w.heap.size (lP he.o)).trans he.o);clear ha;obtain⟨c0,c1,c2,c3,c4,c5,_⟩:=aU hg.o;go_wp2_with fail
  go_loopw [3] (fun i wr=> ∃k:Nat,k<=en.link.size/\i= .int .i64 k/\(∀j b,j<k->(bl en.link)[j]? =some b->b≠0)/\Below w1.heap.size w1 wr) (fun i _=>en.link.size-(intOf i).toNat)
  case atStart=>exact⟨0,aW _,rfl,fun _ _ h=>absurd h (Nat.not_lt_zero _),au _ _⟩
  case round=>
   obtain⟨k,hk,rfl,hz,hs⟩:=hrel;have HZ:=am hz;have ho:=am hs;have hF:=am ((hs.block w.heap.size (lP hg.o)).trans hg.o);clear hz hs c0 c1 c2 c3 c4 c5;obtain⟨c0,c1,c2,c3,c4,c5,_⟩:=aU hF.o
   by_cases hx:k<en.link.size
   ·have hw:=am (show(bl en.link)[k]? =some en.link[k] by rw[bJ (by rw[<-bh]; exact hx)]; rfl)
    by_cases h0:(en.link[k]'hx).toNat=0
    ·have HF:=am (show ig en=false by
      rw[hu.o];unfold kX;have hJ: ¬en.link.size=0:=by omega
      have hG:(bl en.link).contains 0=true:=by
       have h9:en.link[k]'hx=0:=gM.1 h0;have:=hw.o;rw[h9]at this;exact List.contains_iff_mem.2 (aQ this)
      rw[cD hJ];unfold oR;rw[hG]
      simp)
     go_wp2_with fail;go_ret;exact⟨bW (by rw[HF.o]),ar hf.o ho.o⟩
    ·have hC:=am h0;go_wp2_with fail
     go_roundw
     case rel=>
      refine⟨k+1,by omega,by go_num,fun j b hj hb e=> ?_,ho.o⟩
      by_cases hH:j=k
      ·subst hH;rw[hw.o]at hb;have:=bC hb;subst this;exact hC.o (by rw[e]; rfl)
      ·exact HZ.o j b (by omega) hb e
     case measure=>simp[intOf]; omega
   ·have hI:k=en.link.size:=by omega
    have hB:=am (show(bl en.link).contains 0=false from xf.2 (fun j b hj e=>by
     have h1:=(aG.1 hj).1;exact HZ.o j b (by rw[hI,bh]; exact h1) hj e))
    have hE:=am (DX hL.o hB.o);have hA:=am (show en.link.toList.isEmpty= !decide (en.link.size≠0) by rw[oh]; by_cases h:en.link.size=0<;> simp[h,rp.1,<-rp]);obtain⟨b3,hp⟩: ∃b,decide (en.kind=3)=b:=⟨_,rfl⟩;obtain⟨be,hr⟩: ∃b,decide (en.link.size≠0)=b:=⟨_,rfl⟩;obtain⟨b5,hq⟩: ∃b,decide (en.link.size<=512)=b:=⟨_,rfl⟩;have f3:(en.kind == 3)=b3:=by rw[<-hp]; rfl
    have fe:=hA.o;rw[hr]at fe;have hD:=am (show ig en=((b3 == be) && b5) by rw[hu.o,hE.o,hp,hr,hq]);have hy:=am hq;clear hr hx hk hp hq
    cases b3<;> cases be<;> simp only[Bool.not_true,Bool.not_false]at fe<;> (go_wp2_with fail)<;> (go_ret)<;> exact⟨bW (by rw[hD.o,<-hy.o]; simp[show(((en.link.size:Nat):Int)<=512<->en.link.size<=512)from by omega]),ar hf.o ho.o⟩
 ·have e6:(en.kind != 1)=true:=by simp[hn]
  have e8:decide (0<en.data.length)=false:=by rw[eQ]; exact fun h=>h6 ⟨hn,h⟩
  clear h6 hn
  go_enter gF,gt
  go_wp2_with fail;obtain⟨W,hW⟩: ∃W,W=w.alloc (.cells #[.string en.path, .int .i64 en.kind, .int .i64 en.mode, .int .i64 en.time, .slice a en.data.length cap, .string en.link] 79):=⟨_,rfl⟩;rw[<-hW];have hh:=am (show Below w.heap.size w W by rw[hW]; exact eK);have he:=am (show W.heap[w.heap.size]? =some (.cells #[.string en.path, .int .i64 en.kind, .int .i64 en.mode, .int .i64 en.time, .slice a en.data.length cap, .string en.link] 79 (0,0)) by rw[hW]; exact dZ w _)
  clear hW;refine(ie en.path true _ hl.o HV.o).mono ?_;rintro e w1 ⟨rfl,ha⟩;have hf:=am (ar hh.o ha);have hg:=am ((ha.block w.heap.size (lP he.o)).trans he.o);clear ha;obtain⟨c0,c1,c2,c3,c4,c5,_⟩:=aU hg.o;go_wp2_with fail
  go_loopw [3] (fun i wr=> ∃k:Nat,k<=en.link.size/\i= .int .i64 k/\(∀j b,j<k->(bl en.link)[j]? =some b->b≠0)/\Below w1.heap.size w1 wr) (fun i _=>en.link.size-(intOf i).toNat)
  case atStart=>exact⟨0,aW _,rfl,fun _ _ h=>absurd h (Nat.not_lt_zero _),au _ _⟩
  case round=>
   obtain⟨k,hk,rfl,hz,hs⟩:=hrel;have HZ:=am hz;have ho:=am hs;have hF:=am ((hs.block w.heap.size (lP hg.o)).trans hg.o);clear hz hs c0 c1 c2 c3 c4 c5;obtain⟨c0,c1,c2,c3,c4,c5,_⟩:=aU hF.o
   by_cases hx:k<en.link.size
   ·have hw:=am (show(bl en.link)[k]? =some en.link[k] by rw[bJ (by rw[<-bh]; exact hx)]; rfl)
    by_cases h0:(en.link[k]'hx).toNat=0
    ·have HF:=am (show ig en=false by
      rw[hu.o];unfold kX;have hJ: ¬en.link.size=0:=by omega
      have hG:(bl en.link).contains 0=true:=by
       have h9:en.link[k]'hx=0:=gM.1 h0;have:=hw.o;rw[h9]at this;exact List.contains_iff_mem.2 (aQ this)
      rw[cD hJ];unfold oR;rw[hG]
      simp)
     go_wp2_with fail;go_ret;exact⟨bW (by rw[HF.o]),ar hf.o ho.o⟩
    ·have hC:=am h0;go_wp2_with fail
     go_roundw
     case rel=>
      refine⟨k+1,by omega,by go_num,fun j b hj hb e=> ?_,ho.o⟩
      by_cases hH:j=k
      ·subst hH;rw[hw.o]at hb;have:=bC hb;subst this;exact hC.o (by rw[e]; rfl)
      ·exact HZ.o j b (by omega) hb e
     case measure=>simp[intOf]; omega
   ·have hI:k=en.link.size:=by omega
    have hB:=am (show(bl en.link).contains 0=false from xf.2 (fun j b hj e=>by
     have h1:=(aG.1 hj).1;exact HZ.o j b (by rw[hI,bh]; exact h1) hj e))
    have hE:=am (DX hL.o hB.o);have hA:=am (show en.link.toList.isEmpty= !decide (en.link.size≠0) by rw[oh]; by_cases h:en.link.size=0<;> simp[h,rp.1,<-rp]);obtain⟨b3,hp⟩: ∃b,decide (en.kind=3)=b:=⟨_,rfl⟩;obtain⟨be,hr⟩: ∃b,decide (en.link.size≠0)=b:=⟨_,rfl⟩;obtain⟨b5,hq⟩: ∃b,decide (en.link.size<=512)=b:=⟨_,rfl⟩;have f3:(en.kind == 3)=b3:=by rw[<-hp]; rfl
    have fe:=hA.o;rw[hr]at fe;have hD:=am (show ig en=((b3 == be) && b5) by rw[hu.o,hE.o,hp,hr,hq]);have hy:=am hq;clear hr hx hk hp hq
    cases b3<;> cases be<;> simp only[Bool.not_true,Bool.not_false]at fe<;> (go_wp2_with fail)<;> (go_ret)<;> exact⟨bW (by rw[hD.o,<-hy.o]; simp[show(((en.link.size:Nat):Int)<=512<->en.link.size<=512)from by omega]),ar hf.o ho.o⟩
end Go.Proofs.YtpffpjbkbaleiaaGreatDoor
namespace Go.Proofs.YtpffpjbkbaleiaaGreatDoor
open Go.RowKit
theorem nQ (c:Int) (w:World) (h0:0<=c) (h1:c<=255):Calls Tryz.prog 130 #[.int .u8 c] w fun e w'=>e= .returned (.int .i64 (mS c))/\w=w':=by
 by_cases h:c=47
 ·subst h
  go_enter Tryz.func130,Tryz.ntmps130
  go_wp2
  go_ret;exact⟨rfl,rfl⟩
 ·have hr:mS c=c:=if_neg h;have HR:=am hr;clear hr;have h2:(c == 47)=false:=by simpa using h
  go_enter Tryz.func130,Tryz.ntmps130
  go_wp2
  go_ret;exact⟨dA HR.o.symm,rfl⟩
theorem yC (a b:ByteArray) (w:World) (ha:a.size<=65536):
  Calls Tryz.prog 90 #[.string a, .string b] w fun e w'=>e= .returned (.int .i64 (fd (bl a) (bl b)))/\Below w.heap.size w w':=by
 go_enter Tryz.func90,Tryz.ntmps90
 go_wp2_with fail
 go_loopw [5] (fun i wr=> ∃k:Nat,k<=a.size/\k<=b.size/\i= .int .i64 k/\Below w.heap.size w wr/\fd (bl a) (bl b)=fd ((bl a).drop k) ((bl b).drop k)) (fun i _=>a.size-(intOf i).toNat)
 case atStart=>exact⟨0,aW _,aW _,rfl,au _ _,rfl⟩
 case round=>
  obtain⟨k,hu,hv,rfl,ho,hc⟩:=hrel;have HC:=am hc;have HB:=am ho;clear hc ho
  by_cases hp:k<a.size
  ·by_cases hl:k<b.size
   ·have i1:(k:Int)<(a.size:Int):=by omega
    have i2:(k:Int)<(b.size:Int):=by omega
    have hd:k<(bl a).length:=by rw[<-bh]; exact hp
    have he:k<(bl b).length:=by rw[<-bh]; exact hl
    have hw:=(a[k]).toNat_lt;have hx:=(b[k]).toNat_lt;have hq:il (bl a)[k]=mS (a[k].toNat:Int):=by rw[tz]; exact congrArg il (kA a k hp).symm
    have hr:il (bl b)[k]=mS (b[k].toNat:Int):=by rw[tz]; exact congrArg il (kA b k hl).symm
    have hg:=am hq;have hh:=am hr;clear hq hr
    rcases Int.lt_trichotomy (mS (a[k].toNat:Int)) (mS (b[k].toNat:Int))with hf | hf | hf
    ·have hb:=am hf;go_wp2_with fail
     go_quiet ((go_at_call 130; refine kN (nQ _ _ (by omega) (by omega))))
     go_wp2_with fail;go_ret;refine⟨dA ?_,fR HB.o _⟩;have hn:(bl a)[k]≠(bl b)[k]:=by intro e; have:=hb.o; rw[<-hg.o,<-hh.o,e]at this; omega
     rw[HC.o,wm hd he hn,hg.o,hh.o,Lib.compareInt,if_pos hb.o]
    ·have e1: ¬mS (a[k].toNat:Int)<mS (b[k].toNat:Int):=by omega
     have e2: ¬mS (b[k].toNat:Int)<mS (a[k].toNat:Int):=by omega
     have hb:=am hf;clear hf;go_wp2_with fail
     go_quiet ((go_at_call 130; refine kN (nQ _ _ (by omega) (by omega))))
     go_wp2_with fail;have hW: ∃W,W=wr.drewN nq/\Below w.heap.size w W:=⟨_,rfl,fR HB.o nq⟩;obtain⟨W,hk,hj⟩:=hW;rw[<-hk];have hm:=am hj;clear hk hj HB
     go_quiet ((go_at_call 130; refine kN (nQ _ _ (by omega) (by omega))))
     go_wp2_with fail
     go_roundw
     case rel=>
      refine⟨k+1,by omega,by omega,by go_num,fR hm.o _, ?_⟩;rw[HC.o];exact Cd hd he (mi (hg.o.trans (hb.o.trans hh.o.symm)))
     case measure=>simp[intOf]; omega
    ·have e1: ¬mS (a[k].toNat:Int)<mS (b[k].toNat:Int):=by omega
     have hb:=am hf;go_wp2_with fail
     go_quiet ((go_at_call 130; refine kN (nQ _ _ (by omega) (by omega))))
     go_wp2_with fail;have hW: ∃W,W=wr.drewN nq/\Below w.heap.size w W:=⟨_,rfl,fR HB.o nq⟩;obtain⟨W,hk,hj⟩:=hW;rw[<-hk];have hm:=am hj;clear hk hj HB
     go_quiet ((go_at_call 130; refine kN (nQ _ _ (by omega) (by omega))))
     go_wp2_with fail;go_ret;refine⟨dA ?_,fR hm.o _⟩;have hn:(bl a)[k]≠(bl b)[k]:=by intro e; have:=hb.o; rw[<-hg.o,<-hh.o,e]at this; omega
     rw[HC.o,wm hd he hn,hg.o,hh.o,Lib.compareInt,if_neg (by have:=hb.o; omega),if_pos hb.o]
   ·obtain rfl:k=b.size:=by omega
    have i2:decide ((b.size:Int)<(b.size:Int))=false:=by simp
    have i3:(b.size:Int)<(a.size:Int):=by omega
    go_wp2_with fail;go_ret;refine⟨dA ?_,HB.o⟩;rw[HC.o,vD (by rw[<-bh]; omega) (by rw[<-bh]; exact ak _) (.inr (by rw[<-bh])),<-bh,<-bh,Lib.compareInt,if_neg (by omega),if_pos (by omega)]
  ·obtain rfl:k=a.size:=by omega
   rcases dK a.size b.size with hl | hl
   ·have i3:(a.size:Int)<(b.size:Int):=by omega
    go_wp2_with fail;go_ret;refine⟨dA ?_,HB.o⟩;rw[HC.o,vD (by rw[<-bh]; exact ak _) (by rw[<-bh]; omega) (.inl (by rw[<-bh])),<-bh,<-bh,Lib.compareInt,if_pos (by omega)]
   ·obtain heq:a.size=b.size:=by omega
    have hs:=am heq;have i3: ¬(a.size:Int)<(b.size:Int):=by omega
    have i4: ¬(b.size:Int)<(a.size:Int):=by omega
    clear heq;go_wp2_with fail;go_ret;refine⟨dA ?_,HB.o⟩;rw[HC.o,vD (by rw[<-bh]; exact ak _) (by rw[<-bh]; omega) (.inl (by rw[<-bh])),<-bh,<-bh,Lib.compareInt,if_neg (by omega),if_neg (by omega)]
open Go.RowKit Go.Maps
theorem eR.take {α:Type} {R:List Value->α->Prop} {sz:Nat} (hs: ∀c x,R c x->c.length=sz): ∀ {xs:List α} {cells:List Value} (k:Nat),eR R cells xs->k<=xs.length->eR R (cells.take (k*sz)) (xs.take k)
 | _,_,0,_,_=>by simp[eR]
 | [],_,k+1,_,h=>by simp at h
 | x::xs,cells,k+1,⟨c,rest,hc,hx,hr⟩,h=>by
  subst hc;have hl:=hs c x hx;refine⟨c,rest.take (k*sz), ?_,hx,eR.take hs k hr (by simpa using h)⟩;rw[List.take_append,hl,bB (by rw[hl,Nat.succ_mul]; omega),Nat.succ_mul]
  congr 2; omega
theorem cP.takeN {α:Type} {S:Nat->Prop} {w:World} {sz:Nat} {R:List Value->α->Prop} {a:Option Addr} {n cap:Nat} {xs:List α} (hs: ∀c x,R c x->c.length=sz) (h:cP S w sz R (.slice a n cap) xs) {k:Nat} (hk:k<=xs.length):cP S w sz R (.slice a k cap) (xs.take k):=by
 obtain⟨cells,⟨hl,a',cap',hv,hn,hm,h0⟩,hr⟩:=h
 cases hv
 have hd:(xs.take k).length=k:=by rw[bm]; omega
 refine⟨cells.take (k*sz),⟨?_,a,cap,by rw[hd],by omega,hm, ?_⟩,eR.take hs k hr hk⟩
 ·rw[bm,hl,hd];exact fh (cY _ hk)
 ·rcases h0 with h0 | ⟨b,o,ha,hb,hc⟩
  ·exact .inl (by omega)
  ·refine .inr ⟨b,o,ha,hb,fun j u hj=>hc j u ?_⟩;rw[el]at hj
   split at hj
   ·exact hj
   ·cases hj
theorem oC (S:Nat->Prop) (en:dl) (v:Value) (b:Bool) (w:World) (hd:eH S w v en.data) (hok:mN en) (hps:en.path.size<=16777216) (h:ig en=b):Calls Tryz.prog 89 #[IW v en] w fun e w'=>e= .returned (.bool b)/\Below w.heap.size w w':=by
 rw[<-h]; exact Bm S en v w hd hok hps
theorem vg (a b:ByteArray) (o:Int) (w:World) (ha:a.size<=65536) (h:fd (bl a) (bl b)=o):Calls Tryz.prog 90 #[.string a, .string b] w fun e w'=>e= .returned (.int .i64 o)/\Below w.heap.size w w':=by
 rw[<-h]; exact yC a b w ha
theorem oB (s q:ByteArray) (w:World) (hs:s.size<=65000) (hq:q=⟨(cr (bl s)).toArray⟩):Calls Tryz.prog 92 #[.string s] w fun e w'=>e= .returned (.string q)/\Below w.heap.size w w':=by
 rw[hq]; exact xx s w hs
theorem Dt (S:Nat->Prop) (L:List dl) (v:Value) (p:ByteArray) (x:Int) (w:World) (hv:eI S w v L) (hx:mX L (bl p)=x):Calls Tryz.prog 91 #[v, .string p] w fun e w'=>e= .returned (.int .i64 x)/\Below w.heap.size w w':=by
 rw[<-hx]; exact JP S L v p w hv
theorem Ao {e:dl} (h:ig e=true):e.path.size<=65000:=by
 have:=mp (dm h);rw[bh]; omega
theorem Ds (S:Nat->Prop) (L:List dl) (v:Value) (w:World) (hv:eI S w v L) (hps: ∀e∈L,e.path.size<=16777216):Calls Tryz.prog 31 #[v] w fun e w'=>e= .returned (.int .i64 (iy L))/\Below w.heap.size w w':=by
 have HV:=am hv;obtain⟨a,cap,rfl,hc,hm,-⟩:=cP.shape hv nx.len;unfold maxLen at hm;obtain⟨n,hn⟩: ∃n,n=L.length:=⟨_,rfl⟩;have HN:=am hn;rw[<-hn]at hc HV ⊢;clear hv
 by_cases hA:4096<n
 ·have He:(4096:Int)<(n:Int):=by omega
  have HC:=am (yT (by rw[<-hn]; exact hA));clear hA hn
  go_enter Tryz.func31,Tryz.ntmps31
  go_wp2_with fail;go_ret;exact⟨dA (by rw[HC.o]),au _ _⟩
 ·have He:(n:Int)<=(4096:Int):=by omega
  have hF:=am (show L.length<=4096 by omega);have Hc:=am hps;clear hA hn hps
  go_enter Tryz.func31,Tryz.ntmps31
  go_wp2_with fail
  go_loopw [11] (fun i wr=> ∃k:Nat,k<=n/\i= .int .i64 k/\Tr (L.take k)/\Below w.heap.size w wr) (fun i _=>n-(intOf i).toNat)
  case atStart=>exact⟨0,aW _,rfl,⟨fa,by simp,by simp⟩,au _ _⟩
  case round=>
   obtain⟨k,hk,rfl,Hb,h8⟩:=hrel;have hr:=am Hb;have hj:=am h8;clear Hb h8
   by_cases Hj:k<n
   ·obtain⟨e,he⟩: ∃e,L[k]? =some e:=⟨L[k]'(by rw[<-HN.o]; exact Hj),by simp⟩;obtain⟨b,o,dv,rfl,-,hb,hd,Ha,-,q0,q1,q2,q3,q4,q5⟩:=ki (HV.o.below hj.o) he;have hB:=am he;have HD:=am hd;have hJ:=am Ha;have hL:=am (Hc.o e (aQ he));obtain⟨a1,cap1,rfl,Hk,Hf⟩:=hd.slice;unfold maxLen at Hf;have Hn:k<=cap:=by omega
    have h3:=am (show k<=L.length by rw[<-HN.o]; omega);clear he hd Ha
    cases hD:ig e
    ·have hw:=am hD;have ho:=am (show fS (L.take k) e=1 by unfold fS; rw[hD]; rfl);clear hD;go_wp2_with fail;refine bF [some 1,none,some 13,none,some 3] (by kernel_rfl) (by kernel_rfl) (by kernel_rfl) ?_;simp only[dJ,aR,aX,bz,bQ];obtain⟨W,hW⟩: ∃W:World,W=(wr.alloc (.cells #[.string e.path, .int .i64 e.kind, .int .i64 e.mode, .int .i64 e.time, .slice a1 e.data.length cap1, .string e.link] 79)).drew:=⟨_,rfl⟩
     rw[<-hW];have ha:=am (show Below wr.heap.size wr W by rw[hW]; exact(eK).drew);have HX:=am (show W.heap[wr.heap.size]? =some (.cells #[.string e.path, .int .i64 e.kind, .int .i64 e.mode, .int .i64 e.time, .slice a1 e.data.length cap1, .string e.link] 79 (0,0)) by rw[hW]; exact dZ wr _);have hO:=am (ar hj.o ha.o);clear hW;obtain⟨c0,c1,c2,c3,c4,c5,_⟩:=aU HX.o
     repeat (first | (refine bZ rfl ?_; simp only[Act.put,aa,ag,ab]) | (refine cK rfl (fun K hK=> ?_); go_simp; refine hK _ ?_; clear hK K))
     refine cJ ?_;refine ee rfl (fun K hK=> ?_);go_wp2_with (go_at_call 89; refine(oC S e (.slice a1 e.data.length cap1) false _ (HD.o.below ha.o) hJ.o hL.o hw.o).mono ?_; rintro e7 w7 ⟨rfl,hh⟩; have hl:=am (ha.o.trans (hh.mono ha.o.size)); have hs:=am ((hh.block wr.heap.size (lP HX.o)).trans HX.o); clear hh c0 c1 c2 c3 c4 c5)
     repeat (first | (refine bZ rfl ?_; simp only[Act.put,aa,ag,ab]) | (refine cK rfl (fun K hK=> ?_); go_simp; refine hK _ ?_; clear hK K))
     refine cJ ?_;refine vT rfl ?_;simp only[Act.put,aa,ag,ab]
     repeat (first | (refine bZ rfl ?_; simp only[Act.put,aa,ag,ab]) | (refine cK rfl (fun K hK=> ?_); go_simp; refine hK _ ?_; clear hK K))
     refine cJ ?_;have hN:=am (ar hj.o hl.o);go_wp2_with fail;go_ret;exact⟨dA (by rw[ju hF.o hr.o hB.o (x:=1) ho.o (by decide)]),hN.o⟩
    ·have hw:=am hD;have h7:=am (show e.path.size<=65000 from Ao hD);obtain⟨q,hq⟩: ∃q:ByteArray,q=⟨(cr (bl e.path)).toArray⟩:=⟨_,rfl⟩;have h2:=am (show bl q=cr (bl e.path) by rw[hq]; exact jD _);have HQ:=am hq;clear hD hq
     rcases eO k with hM | hM
     ·have e9:decide (0<k)=false:=by simp; omega
      have e8:(k:Int)<=0:=by omega
      have hP:=am (show(ig e && nz (L.take k) e)=true by rw[hM,hw.o]; rfl);clear hM;obtain⟨x,hx⟩: ∃x,mX (L.take k) (bl q)=x:=⟨_,rfl⟩;have hQ:=am hx;have ho:=am (show fS (L.take k) e=x by unfold fS; rw[if_pos hP.o,<-h2.o,hx]);clear hx;go_wp2_with fail;refine bF [some 1,none,some 13,none,some 3] (by kernel_rfl) (by kernel_rfl) (by kernel_rfl) ?_
      simp only[dJ,aR,aX,bz,bQ];obtain⟨W,hW⟩: ∃W:World,W=(wr.alloc (.cells #[.string e.path, .int .i64 e.kind, .int .i64 e.mode, .int .i64 e.time, .slice a1 e.data.length cap1, .string e.link] 79)).drew:=⟨_,rfl⟩;rw[<-hW];have ha:=am (show Below wr.heap.size wr W by rw[hW]; exact(eK).drew);have HX:=am (show W.heap[wr.heap.size]? =some (.cells #[.string e.path, .int .i64 e.kind, .int .i64 e.mode, .int .i64 e.time, .slice a1 e.data.length cap1, .string e.link] 79 (0,0)) by rw[hW]; exact dZ wr _)
      have hO:=am (ar hj.o ha.o);clear hW;obtain⟨c0,c1,c2,c3,c4,c5,_⟩:=aU HX.o
      repeat (first | (refine bZ rfl ?_; simp only[Act.put,aa,ag,ab]) | (refine cK rfl (fun K hK=> ?_); go_simp; refine hK _ ?_; clear hK K))
      refine cJ ?_;refine ee rfl (fun K hK=> ?_);go_wp2_with (go_at_call 89; refine(oC S e (.slice a1 e.data.length cap1) true _ (HD.o.below ha.o) hJ.o hL.o hw.o).mono ?_; rintro e7 w7 ⟨rfl,hh⟩; have hl:=am (ha.o.trans (hh.mono ha.o.size)); have hs:=am ((hh.block wr.heap.size (lP HX.o)).trans HX.o); clear hh c0 c1 c2 c3 c4 c5)
      repeat (first | (refine bZ rfl ?_; simp only[Act.put,aa,ag,ab]) | (refine cK rfl (fun K hK=> ?_); go_simp; refine hK _ ?_; clear hK K))
      refine cJ ?_;refine vT rfl ?_;simp only[Act.put,aa,ag,ab]
      repeat (first | (refine bZ rfl ?_; simp only[Act.put,aa,ag,ab]) | (refine cK rfl (fun K hK=> ?_); go_simp; refine hK _ ?_; clear hK K))
      refine cJ ?_;go_wp2_with fail;refine ez (fun w'=>w'.cell? ⟨wr.heap.size,0,none⟩=some (.string e.path)) (by kernel_rfl) ?_;obtain⟨V,hV⟩: ∃V:World,V=(w7).drew:=⟨_,rfl⟩;rw[<-hV];have hG:=am (show Below wr.heap.size wr V by rw[hV]; exact hl.o.trans ((au (w7).heap.size (w7)).drew.mono hl.o.size));have hX:=am (show V.heap[wr.heap.size]? =some (.cells #[.string e.path, .int .i64 e.kind, .int .i64 e.mode, .int .i64 e.time, .slice a1 e.data.length cap1, .string e.link] 79 (0,0)) by rw[hV]; exact hs.o)
      clear hV;have hg:=az (k:=0) hX.o;simp only[ai,ah]at hg
      iterate 5 (refine cA rfl (by kernel_rfl) (fun _ _ _ h=>h) rfl hg (by intro w' hZ; go_simp; rfl) ?_; simp only[Act.put,aa,ag,ab])
      refine cn 5 rfl (fun K hK=> ?_);go_wp2_with (go_at_call 92; refine(oB e.path q _ h7.o HQ.o).mono ?_; rintro e9 w9 ⟨rfl,hy⟩);have hu:=am (hG.o.trans (hy.mono hG.o.size));have hp:=(hy.cell (cF hg)).trans hg;clear hy;refine⟨hp, ?_⟩;refine cn 6 rfl (fun K hK=> ?_);have hS:=am (show eI S w9 (.slice (some ⟨b,o,none⟩) (k) cap) (L.take (k))from cP.takeN nx.len (HV.o.below (ar hj.o hu.o)) h3.o)
      go_wp2_with (go_at_call 91; refine(Dt S (L.take (k)) (.slice (some ⟨b,o,none⟩) (k) cap) q x _ hS.o hQ.o).mono ?_; rintro ea wa ⟨rfl,hz⟩);have hR:=am (hu.o.trans (hz.mono hu.o.size));have hg:=(hz.cell (cF hp)).trans hp;clear hz;refine⟨hg, ?_⟩;refine cA rfl (by kernel_rfl) (fun _ _ _ h=>h) rfl hg (by intro w' hZ; go_simp; rfl) ?_;simp only[Act.put,aa,ag,ab]
      refine cE (by kernel_rfl) ?_;have hE:=am (ar hj.o hR.o);clear hg hp
      by_cases h0:x=0
      ·subst h0;have hT:=am (me hr.o hB.o ho.o);go_wp2_with fail
       go_roundw
       case rel=>exact⟨k+1,by omega,by go_num,hT.o,hE.o⟩
       case measure=>simp[intOf]; omega
      ·have e1:(x != 0)=true:=by simp[h0]
       have hU:=am h0;clear h0;go_wp2_with fail;go_ret;exact⟨dA (by rw[ju hF.o hr.o hB.o (x:=x) ho.o hU.o]),hE.o⟩
     ·obtain⟨j,rfl⟩: ∃j,k=j+1:=⟨k-1,by omega⟩;obtain⟨f,hf⟩: ∃f,L[j]? =some f:=⟨L[j]'(by rw[<-HN.o]; omega),by simp⟩;obtain⟨b',o',dv',h9,-,-,-,hY,-,p0,-⟩:=ki (HV.o.below hj.o) hf;simp only[aV,gx,and_true]at h9;obtain⟨rfl,rfl⟩:=h9;have h4:=am (show f.path.size<=65536 from ay (Ao (hr.o.val f (aQ (i:=j) (by rw[el,if_pos (Nat.lt_succ_self j)]; exact hf)))) (by omega))
      obtain⟨c,hc⟩: ∃c,fd (bl f.path) (bl e.path)=c:=⟨_,rfl⟩;have HC:=am hc;have e9:decide (0<j+1)=true:=by simp
      have Hm:j<n:=by omega
      have Hg:(j:Int)<(n:Int):=by omega
      have Hh:decide (j<n)=true:=by simp; omega
      have Hl:0<=(j:Int)+1/\(j:Int)+1<=(cap:Int):=by omega
      have Ho:IntKind.i64.wrap (j:Int)=j:=by rw[bE]; omega
      have h1:=am (show nz (L.take (j+1)) e=decide (c<0) by rw[BK hf,hc]);clear hf hY hc hM
      by_cases hH:c<0
      ·have hP:=am (show(ig e && nz (L.take (j+1)) e)=true by rw[hw.o,h1.o,cV hH]; rfl);have e8:decide (0<=c)=false:=by simp; omega
       obtain⟨x,hx⟩: ∃x,mX (L.take (j+1)) (bl q)=x:=⟨_,rfl⟩;have hQ:=am hx;have ho:=am (show fS (L.take (j+1)) e=x by unfold fS; rw[if_pos hP.o,<-h2.o,hx]);clear hx;go_wp2_with fail;refine bF [some 1,none,some 13,none,some 3] (by kernel_rfl) (by kernel_rfl) (by kernel_rfl) ?_;simp only[dJ,aR,aX,bz,bQ]
       obtain⟨W,hW⟩: ∃W:World,W=(wr.alloc (.cells #[.string e.path, .int .i64 e.kind, .int .i64 e.mode, .int .i64 e.time, .slice a1 e.data.length cap1, .string e.link] 79)).drew:=⟨_,rfl⟩;rw[<-hW];have ha:=am (show Below wr.heap.size wr W by rw[hW]; exact(eK).drew);have HX:=am (show W.heap[wr.heap.size]? =some (.cells #[.string e.path, .int .i64 e.kind, .int .i64 e.mode, .int .i64 e.time, .slice a1 e.data.length cap1, .string e.link] 79 (0,0)) by rw[hW]; exact dZ wr _)
       have hO:=am (ar hj.o ha.o);clear hW;obtain⟨c0,c1,c2,c3,c4,c5,_⟩:=aU HX.o
       repeat (first | (refine bZ rfl ?_; simp only[Act.put,aa,ag,ab]) | (refine cK rfl (fun K hK=> ?_); go_simp; refine hK _ ?_; clear hK K))
       refine cJ ?_;refine ee rfl (fun K hK=> ?_);go_wp2_with (go_at_call 89; refine(oC S e (.slice a1 e.data.length cap1) true _ (HD.o.below ha.o) hJ.o hL.o hw.o).mono ?_; rintro e7 w7 ⟨rfl,hh⟩; have hl:=am (ha.o.trans (hh.mono ha.o.size)); have hs:=am ((hh.block wr.heap.size (lP HX.o)).trans HX.o); clear hh c0 c1 c2 c3 c4 c5);obtain⟨c0,c1,c2,c3,c4,c5,_⟩:=aU hs.o
       have y0:=(hl.o.cell (cF p0)).trans p0
       repeat (first | (refine bZ rfl ?_; simp only[Act.put,aa,ag,ab]) | (refine cK rfl (fun K hK=> ?_); go_simp; refine hK _ ?_; clear hK K))
       refine cJ ?_;refine ee rfl (fun K hK=> ?_);go_wp2_with (go_at_call 90; refine(vg f.path e.path c _ h4.o HC.o).mono ?_; rintro e8' w8 ⟨rfl,hC⟩; have hI:=am (hl.o.trans (hC.mono hl.o.size)); have Hd:=am ((hC.block wr.heap.size (lP hs.o)).trans hs.o); clear hC c0 c1 c2 c3 c4 c5 y0)
       repeat (first | (refine bZ rfl ?_; simp only[Act.put,aa,ag,ab]) | (refine cK rfl (fun K hK=> ?_); go_simp; refine hK _ ?_; clear hK K))
       refine cJ ?_;go_wp2_with fail;refine ez (fun w'=>w'.cell? ⟨wr.heap.size,0,none⟩=some (.string e.path)) (by kernel_rfl) ?_;obtain⟨V,hV⟩: ∃V:World,V=(w8).drew:=⟨_,rfl⟩;rw[<-hV];have hG:=am (show Below wr.heap.size wr V by rw[hV]; exact hI.o.trans ((au (w8).heap.size (w8)).drew.mono hI.o.size));have hX:=am (show V.heap[wr.heap.size]? =some (.cells #[.string e.path, .int .i64 e.kind, .int .i64 e.mode, .int .i64 e.time, .slice a1 e.data.length cap1, .string e.link] 79 (0,0)) by rw[hV]; exact Hd.o)
       clear hV;have hg:=az (k:=0) hX.o;simp only[ai,ah]at hg
       iterate 5 (refine cA rfl (by kernel_rfl) (fun _ _ _ h=>h) rfl hg (by intro w' hZ; go_simp; rfl) ?_; simp only[Act.put,aa,ag,ab])
       refine cn 5 rfl (fun K hK=> ?_);go_wp2_with (go_at_call 92; refine(oB e.path q _ h7.o HQ.o).mono ?_; rintro e9 w9 ⟨rfl,hy⟩);have hu:=am (hG.o.trans (hy.mono hG.o.size));have hp:=(hy.cell (cF hg)).trans hg;clear hy;refine⟨hp, ?_⟩;refine cn 6 rfl (fun K hK=> ?_);have hS:=am (show eI S w9 (.slice (some ⟨b,o,none⟩) (j+1) cap) (L.take (j+1))from cP.takeN nx.len (HV.o.below (ar hj.o hu.o)) h3.o)
       go_wp2_with (go_at_call 91; refine(Dt S (L.take (j+1)) (.slice (some ⟨b,o,none⟩) (j+1) cap) q x _ hS.o hQ.o).mono ?_; rintro ea wa ⟨rfl,hz⟩);have hR:=am (hu.o.trans (hz.mono hu.o.size));have hg:=(hz.cell (cF hp)).trans hp;clear hz;refine⟨hg, ?_⟩;refine cA rfl (by kernel_rfl) (fun _ _ _ h=>h) rfl hg (by intro w' hZ; go_simp; rfl) ?_;simp only[Act.put,aa,ag,ab]
       refine cE (by kernel_rfl) ?_;have hE:=am (ar hj.o hR.o);clear hg hp
       by_cases h0:x=0
       ·subst h0;have hT:=am (me hr.o hB.o ho.o);go_wp2_with fail
        go_roundw
        case rel=>exact⟨j+1+1,by omega,by go_num,hT.o,hE.o⟩
        case measure=>simp[intOf]; omega
       ·have e1:(x != 0)=true:=by simp[h0]
        have hU:=am h0;clear h0;go_wp2_with fail;go_ret;exact⟨dA (by rw[ju hF.o hr.o hB.o (x:=x) ho.o hU.o]),hE.o⟩
      ·have ho:=am (show fS (L.take (j+1)) e=1 by unfold fS; rw[h1.o,cD hH]; simp);have e8:decide (0<=c)=true:=by simp; omega
       have e7:0<=c:=by omega
       go_wp2_with fail;refine bF [some 1,none,some 13,none,some 3] (by kernel_rfl) (by kernel_rfl) (by kernel_rfl) ?_;simp only[dJ,aR,aX,bz,bQ];obtain⟨W,hW⟩: ∃W:World,W=(wr.alloc (.cells #[.string e.path, .int .i64 e.kind, .int .i64 e.mode, .int .i64 e.time, .slice a1 e.data.length cap1, .string e.link] 79)).drew:=⟨_,rfl⟩
       rw[<-hW];have ha:=am (show Below wr.heap.size wr W by rw[hW]; exact(eK).drew);have HX:=am (show W.heap[wr.heap.size]? =some (.cells #[.string e.path, .int .i64 e.kind, .int .i64 e.mode, .int .i64 e.time, .slice a1 e.data.length cap1, .string e.link] 79 (0,0)) by rw[hW]; exact dZ wr _);have hO:=am (ar hj.o ha.o);clear hW;obtain⟨c0,c1,c2,c3,c4,c5,_⟩:=aU HX.o
       repeat (first | (refine bZ rfl ?_; simp only[Act.put,aa,ag,ab]) | (refine cK rfl (fun K hK=> ?_); go_simp; refine hK _ ?_; clear hK K))
       refine cJ ?_;refine ee rfl (fun K hK=> ?_);go_wp2_with (go_at_call 89; refine(oC S e (.slice a1 e.data.length cap1) true _ (HD.o.below ha.o) hJ.o hL.o hw.o).mono ?_; rintro e7 w7 ⟨rfl,hh⟩; have hl:=am (ha.o.trans (hh.mono ha.o.size)); have hs:=am ((hh.block wr.heap.size (lP HX.o)).trans HX.o); clear hh c0 c1 c2 c3 c4 c5);obtain⟨c0,c1,c2,c3,c4,c5,_⟩:=aU hs.o
       have y0:=(hl.o.cell (cF p0)).trans p0
       repeat (first | (refine bZ rfl ?_; simp only[Act.put,aa,ag,ab]) | (refine cK rfl (fun K hK=> ?_); go_simp; refine hK _ ?_; clear hK K))
       refine cJ ?_;refine ee rfl (fun K hK=> ?_);go_wp2_with (go_at_call 90; refine(vg f.path e.path c _ h4.o HC.o).mono ?_; rintro e8' w8 ⟨rfl,hC⟩; have hI:=am (hl.o.trans (hC.mono hl.o.size)); clear hC c0 c1 c2 c3 c4 c5 y0)
       repeat (first | (refine bZ rfl ?_; simp only[Act.put,aa,ag,ab]) | (refine cK rfl (fun K hK=> ?_); go_simp; refine hK _ ?_; clear hK K))
       refine cJ ?_;have hN:=am (ar hj.o hI.o);go_wp2_with fail;go_ret;exact⟨dA (by rw[ju hF.o hr.o hB.o (x:=1) ho.o (by decide)]),hN.o⟩
   ·have Hi:k=n:=by omega
    subst Hi;go_wp2_with fail;go_ret;exact⟨dA (by rw[vY hF.o (by rw[<-HN.o]; exact hr.o)]),hj.o⟩
end Go.Proofs.YtpffpjbkbaleiaaGreatDoor
namespace Go.Proofs.YtpffpjbkbaleiaaGreatDoor
open Go Go.RowKit
theorem Bg (seed k:Nat) (w:World) (_hs:seed<18446744073709551616) (hk:k<256):Calls Tryz.prog 214 #[.int .u64 (seed:Int), .int .i64 (k:Int)] w fun e w'=>e= .returned (.int .u64 ((um seed k:Nat):Int))/\w=w':=by
 have h0:IntKind.u64.wrap ((seed:Int)+IntKind.u64.wrap (((k:Int)+1)*11400714819323198485))=((tF seed k:Nat):Int):=Af seed k;have h1:=zI (tF seed k) (DF seed k);have h2:=zJ (EY (tF seed k)) (GI _);have h3:=zK (Jv (EY (tF seed k))) (GJ _);have hw:IntKind.u64.wrap ((k:Int)+1)=(k:Int)+1:=by rw[cQ]; omega
 go_enter Tryz.func214,Tryz.ntmps214
 go_wp2_with fail;go_ret;exact⟨rfl,rfl⟩
theorem Bp (x n:Nat) (w:World) (hx:x<18446744073709551616) (hn:n<64):Calls Tryz.prog 213 #[.int .u64 (x:Int), .int .i64 (n:Int)] w fun e w'=>e= .returned (.int .u64 ((pm n x:Nat):Int))/\w=w':=by
 go_enter Tryz.func213,Tryz.ntmps213
 go_wp2_with fail
 go_loopw [0,5] (fun y i wr=> ∃k:Nat,k<=n/\i= .int .i64 (k:Int)/\y= .int .u64 ((pm k x:Nat):Int)/\w=wr) (fun _ i _=>n-(intOf i).toNat)
 case atStart=>exact⟨0,by omega,rfl,rfl,rfl⟩
 case round=>
  obtain⟨k,hk,rfl,rfl,rfl⟩:=hrel;obtain⟨z,hz⟩: ∃z,z=pm k x:=⟨_,rfl⟩;rw[<-hz];have HZ:=am hz;have hb:z<18446744073709551616:=by rw[hz]; exact vK k hx
  have HR:=am (show bits BinOp.or IntKind.u64 (IntKind.u64.wrap ((z:Int)*2)) ((z:Int)/9223372036854775808)=((pm (k+1) x:Nat):Int) by
   have h1:=Ac (s:=1) hb;rw[cQ,pm,<-hz];exact h1)
  clear hz
  by_cases hc:k<n
  ·go_wp2_with fail
   go_roundw
   case rel=>exact⟨k+1,by omega,by go_num,by rw[HR.o],trivial⟩
   case measure=>simp[intOf]; omega
  ·have ha:k=n:=by omega
   subst ha;go_wp2_with fail;go_ret;exact⟨by rw[HZ.o]; rfl,rfl⟩
theorem Cz {T:Nat->Nat} {l:List UInt8} {k:Nat} {b:UInt8} (h:l[k]? =some b):rZ T (l.drop k)=pm (l.length-1-k) (T b.toNat)^^^rZ T (l.drop (k+1)):=by
 obtain⟨hk,rfl⟩:=aG.1 h;rw[cz hk,rZ,bw,show l.length-(k+1)=l.length-1-k by omega]
theorem EF (S:Nat->Prop) (seed:Nat) (data:List UInt8) (v:Value) (w:World) (hs:seed<18446744073709551616) (hv:bH S w v data) (hl:data.length<=64):Calls Tryz.prog 205 #[.int .u64 (seed:Int),v] w fun e w'=>e= .returned (.int .u64 ((qd seed data:Nat):Int))/\w=w':=by
 obtain⟨hp,a,cap,rfl,hn,hm,-⟩:=id hv;unfold maxLen at hm;have HV:=am hv;obtain⟨n,hd⟩: ∃n,n=data.length:=⟨_,rfl⟩;rw[<-hd]at HV hl hn ⊢;have HN:=am hd;clear hv hp hd
 go_enter Tryz.func205,Tryz.ntmps205
 go_wp2_with fail
 go_loopw [5,6] (fun y i wr=> ∃k s:Nat,k<=n/\i= .int .i64 (k:Int)/\y= .int .u64 (s:Int)/\s<18446744073709551616/\s^^^rZ (um seed) (data.drop k)=qd seed data/\w=wr) (fun _ i _=>n-(intOf i).toNat)
 case atStart=>exact⟨0,0,by omega,rfl,rfl,by omega,by rw[bQ,Nat.zero_xor,zn (ri seed)]; rfl,rfl⟩
 case round=>
  obtain⟨k,s,hk,rfl,rfl,hg,hb,rfl⟩:=hrel;have HS:=am hb;clear hb
  by_cases hq:k<n
  ·obtain⟨b,hc⟩: ∃b,data[k]? =some b:=⟨data[k]'(by have:=HN.o; omega),bJ (by have:=HN.o; omega)⟩;obtain⟨bb,oo,rfl,q0⟩:=Lo HV.o (au _ _) hc;have HD:=am (Cz (T:=um seed) hc);rw[<-HN.o]at HD;have ha:=b.toNat_lt;have hx:IntKind.i64.wrap (b.toNat:Int)=(b.toNat:Int):=by rw[bE]; omega
   clear hc;go_wp2_with fail;refine(Bg seed b.toNat _ hs ha).mono ?_;rintro e w1 ⟨rfl,rfl⟩;obtain⟨r,hr⟩: ∃r:Nat,r=n-1-k:=⟨_,rfl⟩;have hu:IntKind.i64.wrap (IntKind.i64.wrap ((n:Int)-1)-(k:Int))=(r:Int):=by rw[bE,bE]; omega
   have hw:(n:Int)-1-(k:Int)=(r:Int):=by omega
   rw[<-hr]at HD;have he:r<64:=by omega
   obtain⟨tv,hf⟩: ∃t,t=um seed b.toNat:=⟨_,rfl⟩;have hh:tv<18446744073709551616:=by rw[hf]; exact ri _ _
   rw[<-hf]at HD ⊢;clear hf hr;go_wp2_with fail;refine(Bp tv r _ hh he).mono ?_;rintro e w2 ⟨rfl,rfl⟩;obtain⟨z,hz⟩: ∃z,z=pm r tv:=⟨_,rfl⟩;have hj:z<18446744073709551616:=by rw[hz]; exact vK _ hh
   rw[<-hz]at HD ⊢;have HX:=am (u64_xor_nat s z hg hj);clear hz;go_wp2_with fail
   go_roundw
   case rel=>
    refine⟨k+1,s^^^z,by omega,by go_num,by rw[HX.o],qR hg hj, ?_,trivial⟩;rw[Nat.xor_assoc,<-HD.o];exact HS.o
   case measure=>simp[intOf]; omega
  ·have ho:k=n:=by omega
   subst ho;have HF:=am (show s=qd seed data by
    have h1:=HS.o;rw[HN.o,iT]at h1;rw[<-h1]
    show s=s^^^0
    rw[Nat.xor_zero])
   go_wp2_with fail;go_ret;exact⟨by rw[<-HF.o]; rfl,rfl⟩
theorem sV : ∀f,Lib.ctzFrom f 0=f
 | 0=>rfl
 | f+1=>by rw[Lib.ctzFrom,if_neg (by decide),Nat.zero_div,sV f]; omega
theorem Lw (x:Nat):Lib.ctz 64 x=Lib.ctzFrom 64 x:=by
 unfold Lib.ctz
 split
 ·rename_i h; rw[h,sV]
 ·rfl
theorem Ec (x:Nat) (w:World) (hx:x<18446744073709551616):Calls Tryz.prog 204 #[.int .u64 (x:Int)] w fun e w'=>e= .returned (.int .i64 ((Lib.ctz 64 x:Nat):Int))/\w=w':=by
 have HC:=am (Lw x)
 go_enter Tryz.func204,Tryz.ntmps204
 go_wp2_with fail
 go_loopw [3] (fun i wr=> ∃k:Nat,k<=64/\i= .int .i64 (k:Int)/\Lib.ctzFrom 64 x=k+Lib.ctzFrom (64-k) (x/2^k)/\w=wr) (fun i _=>64-(intOf i).toNat)
 case atStart=>exact⟨0,by omega,rfl,by simp,rfl⟩
 case round=>
  obtain⟨k,hk,rfl,hg,rfl⟩:=hrel;have HT:=am hg;clear hg
  by_cases hl:k<64
  ·obtain⟨y,hy⟩: ∃y,y=x/2^k:=⟨_,rfl⟩;have hj:y<18446744073709551616:=by rw[hy]; exact dE (eG _ _) hx
   have ha:Lib.ctzFrom (64-k) y=if y%2=1 then 0 else 1+Lib.ctzFrom (64-(k+1)) (y/2):=by
    rw[show 64-k=(64-(k+1))+1 by omega,Lib.ctzFrom]
   have hc:bits BinOp.and IntKind.u64 ((x:Int)/2^k) 1=((y%2:Nat):Int):=by
    rw[show((x:Int)/2^k)=((y:Nat):Int) by rw[hy]; simp,show(1:Int)=((1:Nat):Int)from rfl,u64_and_nat _ _ hj (by decide),Nat.and_one_is_mod]
   have hf:=am (show Lib.ctzFrom 64 x=k+Lib.ctzFrom (64-k) y by rw[hy]; exact HT.o);have HY:=am (show y/2=x/2^(k+1) by rw[hy,Nat.div_div_eq_div_mul,Nat.pow_succ]);clear hy
   by_cases hb:y%2=1
   ·have hh:(bits BinOp.and IntKind.u64 ((x:Int)/2^k) 1 == 0)=false:=by rw[hc,hb]; rfl
    rw[if_pos hb]at ha;have HR:=am (show Lib.ctz 64 x=k by rw[HC.o,hf.o,ha]; omega);clear hc ha hb;go_wp2_with fail;go_ret;exact⟨by rw[HR.o]; rfl,rfl⟩
   ·have hd:y%2=0:=by omega
    have hh:(bits BinOp.and IntKind.u64 ((x:Int)/2^k) 1 == 0)=true:=by rw[hc,hd]; rfl
    rw[if_neg hb]at ha;have HR:=am (show Lib.ctzFrom 64 x=(k+1)+Lib.ctzFrom (64-(k+1)) (x/2^(k+1)) by rw[hf.o,ha,HY.o]; omega);clear hc ha hb hd;go_wp2_with fail
    go_roundw
    case rel=>exact⟨k+1,by omega,by go_num,HR.o,trivial⟩
    case measure=>simp[intOf]; omega
  ·have he:k=64:=by omega
   subst he;have HR:=am (show Lib.ctz 64 x=64 by
    have h1:=HT.o;rw[HC.o,h1]; rfl)
   go_wp2_with fail;go_ret;exact⟨by rw[HR.o]; rfl,rfl⟩
def rB (c:fN) (data:List UInt8) (n k:Nat):List Value:=(List.range (n+1)).map fun p=> .bool (decide (p<k) && qg c data p)
theorem tp (c:fN) (data:List UInt8) (n k:Nat):(rB c data n k).length=n+1:=by simp[rB]
theorem ph (c:fN) (data:List UInt8) {n k p:Nat} (h:p<=n):(rB c data n k)[p]? =some (.bool (decide (p<k) && qg c data p)):=by
 unfold rB;rw[bn,List.getElem?_range (by omega)]
 rfl
theorem Mf (c:fN) (data:List UInt8) {n k:Nat} (h:k<=n):(rB c data n k).set k (.bool (qg c data k))=rB c data n (k+1):=by
 apply List.ext_getElem?
 intro p;rw[List.getElem?_set]
 by_cases hp:k=p
 ·subst hp;rw[if_pos rfl,if_pos (by rw[tp]; omega),ph c data h];simp
 ·rw[if_neg hp]
  by_cases hn:p<=n
  ·rw[ph c data hn,ph c data hn,show decide (p<k)=decide (p<k+1) by rw[iX]; omega]
  ·rw[dG (by rw[tp]; omega),dG (by rw[tp]; omega)]
theorem Jz (c:fN) (data:List UInt8) (n:Nat):rB c data n 0=List.replicate (n+1) (.bool false):=by
 apply List.ext_getElem?
 intro p
 by_cases hn:p<=n
 ·rw[ph c data hn,List.getElem?_replicate,if_pos (by omega)];simp
 ·rw[dG (by rw[tp]; omega),dG (by simp; omega)]
theorem Pp {c:fN} {data:List UInt8} {p:Nat} (h:p<c.win.toNat):qg c data p=false:=by
 unfold qg GH;rw[bm];simp;intro h2;omega
theorem xd {c:fN} {data:List UInt8} {n k:Nat} (h:k<=c.win.toNat):rB c data n k=rB c data n 0:=by
 unfold rB;refine List.map_congr_left fun p _=> ?_
 by_cases hp:p<k
 ·rw[Pp (by omega)]; simp
 ·simp[hp]
def iO (c:fN) (b:Nat) (w:World):Prop:=w.heap[b]? =some (.cells #[.int .i64 c.mn, .int .i64 c.mx, .int .i64 c.win, .int .i64 c.bits, .int .u64 (c.seed:Int)] 45 (0,0))
theorem iO.below {c:fN} {b:Nat} {w w':World} (h:iO c b w) (hb:Below w.heap.size w w'):iO c b w':=dX hb h
theorem EW (w:World) (n:Nat) (hn:n<=16777216): ∃w',(Instr.makeSlice 242 (.int .i64 (n:Int)) (.int .i64 (n:Int))).run Tryz.prog w= .ok (.slice (some ⟨w.heap.size,0,none⟩) n n) w'/\
  w'.ownsRow w.heap.size 4 1 (.slice (some ⟨w.heap.size,0,none⟩) n n) n (List.replicate n (.bool false))/\w.grownBy w' none:=by
 have h1:(Tryz.prog.info? 4).map (fun i=>(i.bytes,i.size))=some (1,1):=by kernel_rfl
 have h2:(Tryz.prog.info? 4).bind (fun i=>i.zero)=some (.bool false):=by kernel_rfl
 cases hi:Tryz.prog.info? 4 with
 | none=>rw[hi]at h1; cases h1
 | some i=>
  rw[hi]at h1 h2;simp only[eo,aV,cI]at h1;obtain⟨w',k1,k2,k3⟩:=run_make_full (P:=Tryz.prog) w w.heap.size 242 4 i (.bool false) 1 Tryz.underlying242 hi h2 h1.2 .i64 .i64 n (by rw[h1.1]; omega) (by unfold maxLen; omega) (ak _);refine⟨w',k1, ?_,k3⟩;rw[jW]at k2;rw[show(Value.bool false).cells= #[.bool false]from rfl,toList_madeCells_one]at k2
  exact k2
theorem KF {data:List UInt8} {p W:Nat} (hp:p<=data.length) (hW:W<=p):iQ data (p-W) p=nW W (data.take p):=by
 unfold iQ nW;rw[bm,fh hp,show p-(p-W)=W by omega,List.drop_take,show p-(p-W)=W by omega]
theorem Bc (S:Nat->Prop) (c:fN) (data:List UInt8) (v:Value) (w:World) (hc:jG c=true) (hs:c.seed<18446744073709551616) (hv:bH S w v data) (hl:data.length<=1048576):
  Calls Tryz.prog 189 #[kj c,v] w fun e w'=> ∃g cap,e= .returned (.slice (some ⟨g,0,none⟩) (data.length+1) cap)/\w'.ownsRow w.heap.size 4 1 (.slice (some ⟨g,0,none⟩) (data.length+1) cap) (data.length+1) (rB c data data.length (data.length+1))/\Below w.heap.size w w':=by
 obtain⟨hZ,a,cap,rfl,hn,hm,-⟩:=id hv;unfold maxLen at hm;obtain⟨n,hz⟩: ∃n,n=data.length:=⟨_,rfl⟩;obtain⟨v1,v2,v3,v4,v5,v6,v7⟩:=kW.1 hc;obtain⟨wn,hD⟩: ∃wn:Nat,wn=c.win.toNat:=⟨_,rfl⟩;have hM:c.win=(wn:Int):=by omega
 obtain⟨W,hW⟩: ∃W,W=w.alloc (.cells #[.int .i64 c.mn, .int .i64 c.mx, .int .i64 c.win, .int .i64 c.bits, .int .u64 (c.seed:Int)] 45):=⟨_,rfl⟩;have HB:=am (show Below w.heap.size w W by rw[hW]; exact eK);have HX:=am (show iO c w.heap.size W by rw[hW]; exact aF w _);have HV:=am (show bH S W (.slice a data.length cap) data by rw[hW]; exact cC.below hv (by omega) (eK))
 rw[<-hz]at hl hn HV ⊢;have HN:=am hz;have hr:=am hD;have h9:W.heap.size=w.heap.size+1:=by rw[hW]; simp
 have HS:=am hs;obtain⟨W1,hJ,hg,hw⟩:=EW W (n+1) (by omega);have HO:=am (show W1.ownsRow w.heap.size 4 1 (.slice (some ⟨W.heap.size,0,none⟩) (n+1) (n+1)) (n+1) (rB c data n wn) by
  rw[xd (by rw[hD]; exact ak _),Jz];exact iR hg (by omega))
 have h4:=am (HB.o.trans ((js hw).mono (by omega)));have hI:=am (js hw);have hf:(Instr.makeSlice 242 (.int .i64 ((n:Int)+1)) (.int .i64 ((n:Int)+1))).run Tryz.prog W= .ok (.slice (some ⟨W.heap.size,0,none⟩) (n+1) (n+1)) W1:=by
  rw[show((n:Int)+1)=((n+1:Nat):Int) by omega]; exact hJ
 obtain⟨gb,hu⟩: ∃gb,gb=W.heap.size:=⟨_,rfl⟩;rw[<-hu]at HO hf;have hF:=am hu;have hd:=am hM;clear hJ hg hw hu hz hD hs hZ hv hM;unfold kj
 go_enter Tryz.func189,Tryz.ntmps189
 go_upto_region 1 with fail
 rw[<-hW];clear hW;have hH:=am (HX.o.below hI.o)
 go_upto_region 2 with fail
 clear hf;have ha:=hH.o;unfold iO at ha;obtain⟨c0,c1,c2,c3,c4,_⟩:=aU ha;clear ha;go_wp2_with fail;clear c0 c1 c2 c3 c4
 go_loopw [6] (fun i wr=> ∃p:Nat,wn<=p/\p<=max wn (n+1)/\i= .int .i64 (p:Int)/\wr.ownsRow w.heap.size 4 1 (.slice (some ⟨gb,0,none⟩) (n+1) (n+1)) (n+1) (rB c data n p)/\iO c w.heap.size wr/\Below W.heap.size W wr) (fun i _=>n+1-(intOf i).toNat)
 case atStart=>exact⟨wn,ak _,by omega,by rw[hd.o],HO.o,hH.o,hI.o⟩
 case round=>
  obtain⟨p,h2,Hb,rfl,ho,hx,hb⟩:=hrel;have hG:=am ho;have hU:=am hx;have hk:=am hb;clear ho hx hb HO
  by_cases hy:p<=n
  ·obtain⟨W2,hX⟩: ∃y:World,y=wr:=⟨_,rfl⟩;subst hX;obtain⟨A,hA⟩: ∃A,A=p-wn:=⟨_,rfl⟩;have h7:(p:Int)-(wn:Int)=(A:Int):=by omega
   have h8:IntKind.i64.wrap (A:Int)=(A:Int):=by rw[bE]; omega
   have hT:=am (show bH S W2 (.slice a n cap) data from cC.below HV.o (by omega) hk.o);have Hd:1<=wn:=by have:=hd.o; omega
   have hC:wn<=64:=by have:=hd.o; omega
   obtain⟨sa,sc,h3,hB⟩:=rq hT.o (s:=A) (e:=p) (by omega) (by rw[<-HN.o]; exact hy);have hq:=am (show iQ data A p=nW wn (data.take p) by rw[hA]; exact KF (by rw[<-HN.o]; exact hy) h2);have hL:(iQ data A p).length=wn:=by rw[hq.o,nX,bm,<-HN.o]; omega
   rw[hL]at h3 hB;have hR:=am hB;clear hB hL hA;have Ha:(p:Int)<=(n:Int):=by omega
   go_upto_region 5 with fail
   have Hc:(p:Int)<(n:Int)+1:=by omega
   refine ez (iO c w.heap.size) (by kernel_rfl) ?_;obtain⟨V,hV⟩: ∃V:World,V=W2.drew:=⟨_,rfl⟩;rw[<-hV];have hb:Below W2.heap.size W2 V:=by rw[hV]; exact(au _ _).drew
   have hO:=am (ar hk.o hb);have SV:=am (hU.o.below hb);have hp:=am (cR hG.o hb);have hS:=am (show bH S V (.slice sa wn sc) (iQ data A p) by have h1:=hR.o; unfold bH at h1 ⊢; exact cC.below h1 (by omega) hb);clear hV hb
   iterate 11 (refine cA rfl (by kernel_rfl) (fun _ _ _ h=>h) rfl SV.o (by rintro w' hx; have ha:=hx; unfold iO at ha; have c2:=bL (k:=2) ha; have c3:=bL (k:=3) ha; have c4:=bL (k:=4) ha; simp only[ai,ah,aj]at c2 c3 c4; rw[hd.o]at c2; clear hx ha; go_simp; rfl) ?_; simp only[Act.put,aa,ag,ab])
   refine bN 13 rfl (by kernel_rfl) (by kernel_rfl) (by kernel_rfl) (fun _ _ _ h=>h) rfl SV.o (by rintro w' hx; have ha:=hx; unfold iO at ha; have c2:=bL (k:=2) ha; have c3:=bL (k:=3) ha; have c4:=bL (k:=4) ha; simp only[ai,ah,aj]at c2 c3 c4; rw[hd.o]at c2; clear hx ha; go_simp; rfl) ?_
   simp only[Act.put,aa,ag,ab];refine bN 14 rfl (by kernel_rfl) (by kernel_rfl) (by kernel_rfl) (fun _ _ _ h=>h) rfl SV.o (by rintro w' hx; have ha:=hx; unfold iO at ha; have c2:=bL (k:=2) ha; have c3:=bL (k:=3) ha; have c4:=bL (k:=4) ha; simp only[ai,ah,aj]at c2 c3 c4; rw[hd.o]at c2; clear hx ha; go_simp; rfl) ?_
   simp only[Act.put,aa,ag,ab];refine cn 11 rfl (fun K hK=> ?_);go_wp2_with fail;refine(EF _ c.seed (iQ data A p) _ _ HS.o hS.o (by rw[hq.o,nX]; exact ay (Nat.min_le_left _ _) hC)).mono ?_;rintro e w3 ⟨rfl,rfl⟩;obtain⟨hh,hj⟩: ∃h,h=qd c.seed (iQ data A p):=⟨_,rfl⟩;have hY:hh<18446744073709551616:=by rw[hj]; exact wL _ _
   rw[<-hj];have HH:=am hj;clear hj;go_wp2_with fail;refine⟨SV.o, ?_⟩;refine cn 12 rfl (fun K hK=> ?_);go_wp2_with fail;refine(Ec hh _ hY).mono ?_;rintro e w4 ⟨rfl,rfl⟩;obtain⟨zz,hE⟩: ∃z,z=Lib.ctz 64 hh:=⟨_,rfl⟩;rw[<-hE];have hP:=am (show decide (c.bits<=(zz:Int))=qg c data p by
    unfold qg GH;rw[<-hr.o,<-hq.o,<-HH.o,<-hE,bm,<-HN.o,show decide (wn<=min p n)=true by rw[aL]; omega,gT,iX]
    omega)
   clear hE;go_wp2_with fail;refine⟨SV.o, ?_⟩
   iterate 2 (refine cA rfl (by kernel_rfl) (fun _ _ _ h=>h) rfl SV.o (by rintro w' hx; have ha:=hx; unfold iO at ha; have c2:=bL (k:=2) ha; have c3:=bL (k:=3) ha; have c4:=bL (k:=4) ha; simp only[ai,ah,aj]at c2 c3 c4; rw[hd.o]at c2; clear hx ha; go_simp; rfl) ?_; simp only[Act.put,aa,ag,ab])
   have q0:=hp.o.cellAt p (by omega);rw[ph c data (by omega)]at q0;have q1:=hp.o.frozenAt p;refine cn 17 rfl (fun K hK=> ?_);go_wp2_with fail;obtain⟨W5,he⟩: ∃y,y=V.setCell ⟨gb,p,none⟩ (.bool (decide (c.bits<=(zz:Int)))):=⟨_,rfl⟩;rw[<-he];have SC:=am (show iO c w.heap.size W5 by
    rw[he];unfold iO;rw[aC _ _ _ _ (show w.heap.size≠gb by have:=hF.o; omega)];exact SV.o)
   have hQ:=am (show W5.ownsRow w.heap.size 4 1 (.slice (some ⟨gb,0,none⟩) (n+1) (n+1)) (n+1) (rB c data n (p+1)) by
    rw[he,hP.o,<-Mf c data hy];exact(hp.o.stored p _).1)
   have hN:=am (show Below W.heap.size W W5 by rw[he]; exact hO.o.setCell (by show W.heap.size<=gb; rw[hF.o]; exact ak _) _);clear he q0 q1;refine⟨SC.o, ?_⟩;refine cE (by kernel_rfl) ?_;go_wp2_with fail
   go_roundw
   case rel=>exact⟨p+1,by omega,by omega,by go_num,hQ.o,SC.o,hN.o⟩
   case measure=>simp[intOf]; omega
  ·have h0: ¬(p:Int)<=(n:Int):=by omega
   have HF:=am (show rB c data n p=rB c data n (n+1) by
    by_cases h1:wn<=n+1
    ·rw[show p=n+1 by omega]
    ·rw[xd (k:=p) (by rw[<-hr.o]; omega),xd (k:=n+1) (by rw[<-hr.o]; omega)])
   go_wp2_with fail;go_ret;exact⟨gb,n+1,rfl,by rw[<-HF.o]; exact hG.o,ar HB.o hk.o⟩
end Go.Proofs.YtpffpjbkbaleiaaGreatDoor
