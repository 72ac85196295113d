/- Texts of this proof, one after the other: GdP, RbA, GdQ, ContP, NcP, RbB, AwR, RbC, RbD, SmP, AwS, LawIts, NodB, LawNod, RdP, RfA, RfB, RfC, RfD, RfE, RfF, RcT, RfG, R14. -/
import Derived.Test.YtpffpjbkbaleiaaGreatDoorCReturnsG
set_option maxRecDepth 100000
set_option maxHeartbeats 8000000
namespace Go.Proofs.YtpffpjbkbaleiaaGreatDoor
open Go.RowKit
def kq (gs:List (ByteArray×Int)):Prop:= ∀p∈gs,0<=p.2/\p.2<=1099511627776
theorem AZ {gs:List (ByteArray×Int)} (h:kq gs) (n:ByteArray):0<=mH gs n/\mH gs n<=1099511627776:=by
 unfold mH
 cases hf:gs.find? fun p=>decide (p.1=n)with
 | none=>simp
 | some p=>exact h p (dL hf)
theorem LK (tree:List dj) (d:ByteArray):gR tree d=dz tree d:=rfl
theorem sO (c:fL) (data:List UInt8):(fS c data).flatten=data:=xo
theorem qr {c:fL} (hc:jJ c=true) (x:List UInt8): ∀y∈fS c x,1<=y.length/\y.length<=32768:=by
 have hv:=lM.1 hc;intro y hy;have:=zU (mx:=c.mx.toNat) (by omega) (pd) y hy;omega
theorem Am : ∀(l:List cX) (a:Int),0<=a->(∀r∈l,0<=r.size)->a+(l.map cX.size).sum<=9223372036854775807->l.foldl (fun a r=>wrap64 (a+r.size)) a=a+(l.map cX.size).sum
 | [],a,_,_,_=>by simp
 | r::l,a,h0,hs,hl=>by
  have h1:=hs r (by simp);have h2:0<=(l.map cX.size).sum:=by
   have: ∀(l:List cX),(∀r∈l,0<=r.size)->0<=(l.map cX.size).sum:=by
    intro l
    induction l with
    | nil=>simp
    | cons x l ih=>
     intro h;have h1:=h x (by simp);have h2:=ih fun r hr=>h r (by simp[hr])
     rw[cw,List.sum_cons]; omega
   exact this l fun x hx=>hs x (by simp[hx])
  rw[cw,List.sum_cons]at hl;rw[eO,cw,List.sum_cons,show wrap64 (a+r.size)=a+r.size by unfold wrap64; omega,Am l _ (by omega) (fun x hx=>hs x (by simp[hx])) (by omega)];omega
section
variable {k : dm} {gs : List (ByteArray × Int)} {c : fL}
theorem zY : ∀(l:List (List UInt8)),((l.map (bD k gs)).map cX.size).sum=((l.flatten.length:Nat):Int)
 | []=>by simp
 | x::l=>by
  rw[cw,cw,List.sum_cons,zY l,iC,ar]
  show(x.length:Int)+_=_
  omega
theorem IJ {data:List UInt8} (hl:data.length<=1048576):mY ((fS c data).map (bD k gs))=(data.length:Int):=by
 have h1:=zY (k:=k) (gs:=gs) (fS c data);rw[sO]at h1;unfold mY;rw[Am _ _ (by omega) (fun r hr=>by
  obtain⟨x,_,rfl⟩:=aW.1 hr
  show(0:Int)<=(x.length:Int)
  omega) (by rw[h1]; omega),h1]
 omega
theorem lq (hg:kq gs) {x:List UInt8} (hx:x.length<=32768):ld (bD k gs x)=true:=by
 have h1:=AZ hg (lW k 0 x);have h2:(bD k gs x).name.size=32:=lp _ _ _;have h3:(bD k gs x).gen=mH gs (lW k 0 x):=rfl;have h4:(bD k gs x).size=(x.length:Int):=rfl;unfold ld;rw[h2,h3,h4];simp only[aJ,aK];exact⟨⟨⟨⟨trivial,h1.1⟩,h1.2⟩,by omega⟩,by omega⟩
theorem sQ {e:dj} (h:gX e=true):(e.kind=1/\e.data.length<=1048576/\e.link.size=0)\/(e.kind=2/\e.data=[]/\e.link.size=0)\/(e.kind=3/\e.data=[]/\1<=e.link.size/\e.link.size<=512/\(bl e.link).contains 0=false):=by
 unfold gX kZ at h;rw[aJ]at h;have h2:=h.2
 split at h2
 ·simp only[aJ,aK]at h2;exact .inl ⟨by assumption,h2⟩
 ·split at h2
  ·simp only[aJ,aK]at h2;exact .inr (.inl ⟨by assumption,bt h2.1,h2.2⟩)
  ·split at h2
   ·simp only[aJ,aK,oT,gJ]at h2;refine .inr (.inr ⟨by assumption,bt h2.1, ?_, ?_,h2.2.2⟩)
    ·rw[bi]; exact h2.2.1.1
    ·rw[bi]; exact h2.2.1.2
   ·cases h2
theorem uO (hc:jJ c=true) (hg:kq gs) {d:ByteArray} {e:dj} {nd:cX} (hv:gX e=true) (hp:cu (bl e.path)=bl d) (hn:e.kind=2->ld nd=true):gO (cM k gs c d e nd)=true:=by
 have hk:=nw (cY hv) hp;have ha:bl (cM k gs c d e nd).name=mM (bl d) (bl e.path):=by
  show bl ⟨(lV (bl d) (bl e.path)).toArray⟩=_
  rw[iu]; rfl
 have hh:tJ (cM k gs c d e nd)=true:=by
  have h1:oS e=true:=by unfold gX at hv; simp only[aJ]at hv; exact hv.1.2
  unfold oS at h1;unfold tJ;rw[ha,NA hk.comp];simp only[aJ,aK,gJ]at h1 ⊢;refine⟨⟨trivial, ?_⟩,⟨h1.1.1,h1.1.2⟩,h1.2⟩;have h2:=hk.no
  simpa using h2
 unfold gO;rw[hh,gP]
 rcases sQ hv with⟨h1,h2,h3⟩ | ⟨h1,h2,h3⟩ | ⟨h1,h2,h3,h4,h5⟩
 ·have e1:cM k gs c d e nd=⟨⟨(lV (bl d) (bl e.path)).toArray⟩,1,e.mode,e.time,(e.data.length:Int),e.link,(fS c e.data).map (bD k gs),ef⟩:=by
   unfold cM; rw[h1]; simp
  rw[e1];unfold kO ll;rw[if_pos rfl];simp only[aJ,aK,cz];refine⟨⟨h3,trivial⟩,fun r hr=> ?_, ?_,by omega⟩
  ·obtain⟨x,hx,rfl⟩:=aW.1 hr;have h4:=qr hc e.data x hx;unfold qP;rw[lq hg h4.2]
   show(true && decide ((1:Int)<=(x.length:Int)))=true
   simp;omega
  ·exact(IJ h2).symm
 ·have e1:cM k gs c d e nd=⟨⟨(lV (bl d) (bl e.path)).toArray⟩,2,e.mode,e.time,0,e.link,[],nd⟩:=by
   unfold cM; rw[h1]; simp
  rw[e1];unfold kO;rw[if_neg (show ¬((2:Int)=1) by decide),if_pos rfl];simp[h3,hn h1]
 ·have e1:cM k gs c d e nd=⟨⟨(lV (bl d) (bl e.path)).toArray⟩,3,e.mode,e.time,0,e.link,[],ef⟩:=by
   unfold cM; rw[h1]; simp
  rw[e1];unfold kO;rw[if_neg (show ¬((3:Int)=1) by decide),if_neg (show ¬((3:Int)=2) by decide),if_pos rfl];have h6:(0:UInt8)∉bl e.link:=by simpa using h5
  simp[h3,h4,h6]
theorem De : ∀(l:List cr) (p:Option ByteArray),(∀it∈l,gO it=true)->l.Pairwise (fun a b=>NQ a.name b.name=true)->(∀q,p=some q-> ∀it∈l,NQ q it.name=true)->jT p l=true
 | [],_,_,_,_=>rfl
 | it::l,p,hv,hs,hp=>by
  rw[fA]at hs;unfold jT;rw[hv it (by simp),De l (some it.name) (fun x hx=>hv x (by simp[hx])) hs.2 (fun q hq x hx=>by
   simp only[br]at hq;subst hq;exact hs.1 x hx)]
  cases p with
  | none=>rfl
  | some q=>
   have:=hp q rfl it (by simp);unfold pM;simp only;rw[this]; rfl
theorem rX {tree:List dj} (h:yM tree) (hc:jJ c=true) (hg:kq gs) (d:ByteArray) (nd:dj->cX) (hn: ∀e∈dz tree d,e.kind=2->ld (nd e)=true):jB ((dz tree d).map fun e=>cM k gs c d e (nd e))=true:=by
 have hl:(dz tree d).length<=tree.length:=dF _ _;unfold jB;rw[aJ,aK];refine⟨by rw[aE]; have:=h.len; omega, ?_⟩;refine De _ _ (fun it hf=> ?_) ?_ (fun q hq=>by cases hq)
 ·obtain⟨e,he,rfl⟩:=aW.1 hf;obtain⟨h1,h2⟩:=ez.1 he;exact uO hc hg (h.val e h1) h2 (hn e he)
 ·rw[gM];have hk:jc (dz tree d):=h.ord.filter _;refine List.Pairwise.imp_of_mem (R:=fun a b=>nN a b<0) ?_ hk;intro a b ha hb hd;obtain⟨a1,a2⟩:=ez.1 ha;obtain⟨b1,b2⟩:=ez.1 hb
  show Op.bytesLess (ByteArray.toList ⟨(lV (bl d) (bl a.path)).toArray⟩) (ByteArray.toList ⟨(lV (bl d) (bl b.path)).toArray⟩)=true
  rw[eB,eB,iu,iu];exact LI (nw (cY (h.val a a1)) a2) (nw (cY (h.val b b1)) b2) hd
end
open Go Go.RowKit Go.Maps
theorem zL (S:Nat->Prop) (k:dm) (g:Nat) (gi:Int) (data:List UInt8) (dv:Value) (w:World) (hgi:gi=(g:Int)) (hk:jA k=true) (hg:g<=1099511627776) (hv:bG S w dv data) (hl:data.length<=32768):
  Calls Tryz.prog 178 #[kt k, .int .i64 gi,dv] w fun e w'=>e= .returned (.tuple #[.string (lW k g data), .int .i64 0])/\Below w.heap.size w w':=by
 subst hgi;exact EX S k g data dv w hk hg hv hl
theorem Lu {a:Act} {w:World} {b:Nat} {x0 x1 x2:Value} (h:w.heap[b]? =some (.cells #[x0,x1,x2] 26 (0,0)))
  (h4:a.tmps[6]? =some (.pointer (some ⟨b,0,none⟩))):(results Tryz.f158 a.tmps).run Tryz.prog w= .ok (.agg #[x0,x1,x2]) w:=by
 obtain⟨m0,m1,m2,_⟩:=aT h;simp[results,Tryz.results158,go_sem,h4,m0,m1,m2]
theorem Ls {a:Act} {w:World} {b:Nat} {a0 a1 a2 x0 x1 x2:Value} {Q:Ending->World->Prop} (h:w.heap[b]? =some (.cells #[a0,a1,a2] 26 (0,0)))
  (h4:a.tmps[6]? =some (.pointer (some ⟨b,0,none⟩))) (hd:a.defers=[])
  (hQ:Q (.returned (.agg #[x0,x1,x2])) (((w.setCell ⟨b,0,none⟩ x0).setCell ⟨b,1,none⟩ x1).setCell ⟨b,2,none⟩ x2)):
  bodyPost Tryz.prog Tryz.f158 Q Exit.ret a (((w.setCell ⟨b,0,none⟩ x0).setCell ⟨b,1,none⟩ x1).setCell ⟨b,2,none⟩ x2):=cN (Lu (ve h) h4) hd hQ
def Nl (k:dm) (b:Nat) (w:World):Prop:=w.heap[b]? =some (.cells #[.string k.nm, .string k.st, .string k.ck, .string k.ix, .string k.tk] 42 (0,0))/\w.heap[b+1]? =some (.cells #[.string ⟨#[]⟩, .int .i64 0, .int .i64 0] 26 (0,0))
theorem Nl.below {k:dm} {b:Nat} {w w':World} (h:Nl k b w) (hb:Below w.heap.size w w'):Nl k b w':=⟨(hb.block _ (az h.1)).trans h.1,(hb.block _ (az h.2)).trans h.2⟩
theorem wG (S T:Nat->Prop) (k:dm) (gs:List (ByteArray×Int)) (gv:Value) (x:List UInt8) (cv:Value) (w:World) (hk:jA k=true) (hG:kR T w gv gs) (hT: ∀i,T i->i<w.heap.size) (hgs:kq gs) (hv:bG S w cv x) (hl:x.length<=32768):
  Calls Tryz.prog 158 #[kt k,cv,gv] w fun e w'=>e= .returned (fa (bD k gs x))/\Below w.heap.size w w':=by
 obtain⟨hJ,a,cap,rfl,hn,hm,-⟩:=id hv;unfold maxLen at hm;obtain⟨n,hp⟩: ∃n,n=x.length:=⟨_,rfl⟩;have HN:=an hp;obtain⟨W,hW⟩: ∃W,W=(w.alloc (.cells #[.string k.nm, .string k.st, .string k.ck, .string k.ix, .string k.tk] 42)).alloc (.cells #[.string ⟨#[]⟩, .int .i64 0, .int .i64 0] 26):=⟨_,rfl⟩;have HB:=an (show Below w.heap.size w W by rw[hW]; exact(eN).alloc (by simp) _)
 have HX:=an (show Nl k w.heap.size W by rw[hW]; exact⟨mT (aH w _) _,by have:=aH (w.alloc (.cells #[.string k.nm, .string k.st, .string k.ck, .string k.ix, .string k.tk] 42)) (.cells #[.string ⟨#[]⟩, .int .i64 0, .int .i64 0] 26); rw[show(w.alloc (.cells #[.string k.nm, .string k.st, .string k.ck, .string k.ix, .string k.tk] 42)).heap.size=w.heap.size+1 by simp]at this; exact this⟩)
 have he:=an (show bG S w (.slice a x.length cap) x from hv);rw[<-hp]at hl he ⊢;have HK:=an hk;have hC:=an hG;have hr:=an hgs;have hE:=an hT;clear hv hJ hp hk hG hgs hT;unfold kt
 go_enter Tryz.func158,Tryz.ntmps158
 go_upto_region 1 with fail
 rw[<-hW];clear hW;have hb:=HX.o.1;obtain⟨k0,k1,k2,k3,k4,_⟩:=aT hb;clear hb;have hF:=an (show bG S W (.slice a n cap) x from cE.below he.o (by omega) HB.o);go_wp2_with fail;clear k0 k1 k2 k3 k4;refine(zL S k 0 0 x _ _ rfl HK.o (by decide) hF.o (by rw[<-HN.o]; exact hl)).mono ?_;rintro e w1 ⟨rfl,hg⟩;obtain⟨nm,hc⟩: ∃nm,nm=lW k 0 x:=⟨_,rfl⟩;have hq:nm.size=32:=by rw[hc]; exact lp _ _ _
 rw[<-hc];have hD:=an hc;have hd:=an (aw HB.o hg);have hu:=an (HX.o.below hg);have ho:=Cu (hC.o.keep (w':=w1) (fun i hi _=>hd.o.block i (hE.o i hi))) (n:=nm) (by rw[hq]; decide);obtain⟨gi,ha⟩: ∃g,g=mH gs nm:=⟨_,rfl⟩;rw[<-ha]at ho;obtain⟨gn,hw⟩: ∃gn:Nat,gn=gi.toNat:=⟨_,rfl⟩;have hj:gi=(gn:Int):=by have:=AZ hr.o nm; rw[<-ha]at this; omega
 have hI:gn<=1099511627776:=by have:=AZ hr.o nm; rw[<-ha]at this; omega
 have hA:=an ha;rw[hj]at ho;have hz:=an hj;have hB:=an hw;have hb:=hu.o.1;obtain⟨k0,k1,k2,k3,k4,_⟩:=aT hb;clear hb hg hc ha hw hj;have hH:=an (show bG S w1 (.slice a n cap) x from cE.below he.o (by omega) hd.o);go_wp2_with fail;refine(zL S k gn gn x _ _ rfl HK.o hI hH.o (by rw[<-HN.o]; exact hl)).mono ?_;rintro e w2 ⟨rfl,hh⟩;clear k0 k1 k2 k3 k4 ho
 have hy:=an (aw hd.o hh);have hf:=an (hu.o.below hh);have hs:=an (show bD k gs x=⟨lW k gn x,(gn:Int),(n:Int)⟩ by
  unfold bD;rw[<-hD.o,<-hA.o,<-hB.o,<-hz.o,<-HN.o])
 clear hh;obtain⟨z0,z1,z2,_⟩:=aT hf.o.2;obtain⟨y0,y1,y2,_⟩:=gu hf.o.2;obtain⟨rn,hx⟩: ∃r,r=lW k gn x:=⟨_,rfl⟩;rw[<-hx]at hs ⊢;clear hx;go_wp2_with fail;refine Ls hf.o.2 rfl rfl ⟨?_, ?_⟩
 ·rw[hs.o]; rfl
 ·exact gW hy.o (by omega)
def wY (l:List UInt8):ByteArray:=(jH l).getLast?.getD ⟨#[]⟩
theorem Je {d p t:List UInt8} (h:qV d p t):wY p=⟨t.toArray⟩:=by
 unfold wY jH;have h1:(dd 47 p).getLast? =some t:=by
  rw[h.path]
  split
  ·rw[gq 47 _ h.no]; rfl
  ·rw[pW,gq 47 _ h.no]; simp
 rw[List.getLast?_map,h1]; rfl
theorem Fg (l:List UInt8):1<=(jH l).length:=by unfold jH; rw[aE]; exact sw 47 l
theorem wX (s:ByteArray) (w:World) (hs:s.size<=16777216):Calls Tryz.prog 124 #[.string s] w fun e w'=>e= .returned (.string (wY (bl s)))/\Below w.heap.size w w':=by
 go_enter Tryz.func124,Tryz.ntmps124
 go_wp2_with fail;refine(Lm s w hs).mono ?_;rintro e w1 ⟨a,cap,rfl,hc,hm,hd,hb⟩;obtain⟨n,hn⟩: ∃n,n=(jH (bl s)).length:=⟨_,rfl⟩;have hh:1<=n:=by rw[hn]; exact Fg _
 unfold maxLen at hm;obtain⟨x,hx⟩: ∃x,(jH (bl s))[n-1]? =some x:=⟨_,bM (by omega)⟩;have HL:=an (show wY (bl s)=x by unfold wY; rw[List.getLast?_eq_getElem?,<-hn,hx]; rfl);have hf:=an hb;obtain⟨_,_,he,-,-,ha⟩:=lF.shape hd;simp only[cS]at he;obtain⟨rfl,-,rfl⟩:=he;obtain⟨b,o,rfl,-,q0⟩:=ha (n-1) x hx
 rw[<-hn]at hc ⊢;have hj:IntKind.i64.wrap ((n:Int)-1)=((n-1:Nat):Int):=by rw[bF]; omega
 have hg:(n:Int)-1=((n-1:Nat):Int):=by omega
 clear hd hb hn hx ha;go_wp2_with fail;go_ret;exact⟨by rw[HL.o]; rfl,hf.o⟩
end Go.Proofs.YtpffpjbkbaleiaaGreatDoor
namespace Go.Proofs.YtpffpjbkbaleiaaGreatDoor
open Go.RowKit
section
variable (k : dm) (gs : List (ByteArray × Int)) (c : fL) (tree : List dj)
def eK :Nat->ByteArray->List UInt8×List (List UInt8)
 | 0,_=>([],[])
 | f+1,d=>(fY ((dz tree d).map fun e=>cM k gs c d e (bD k gs (eK f e.path).1)),
  ((dz tree d).flatMap fun e=>if e.kind=1 then fS c e.data else if e.kind=2 then(eK f e.path).2 else [])++[fY ((dz tree d).map fun e=>cM k gs c d e (bD k gs (eK f e.path).1))])
def nS (f:Nat) (d:ByteArray):List cr:=(dz tree d).map fun e=>cM k gs c d e (bD k gs (eK k gs c tree f e.path).1)
def iL (f:Nat) (e:dj):List (List UInt8):=if e.kind=1 then fS c e.data else if e.kind=2 then(eK k gs c tree f e.path).2 else []
theorem gx (f:Nat) (d:ByteArray):eK k gs c tree (f+1) d=(fY (nS k gs c tree f d),(dz tree d).flatMap (iL k gs c tree f)++[fY (nS k gs c tree f d)]):=rfl
def mU :Nat->ByteArray->Bool
 | 0,_=>false
 | f+1,d=>(dz tree d).any (fun e=>decide (e.kind=2) && mU f e.path) || decide (32768<(eK k gs c tree (f+1) d).1.length)
end
section
variable {k : dm} {gs : List (ByteArray × Int)} {c : fL} {tree : List dj}
theorem nR {d:ByteArray} {e:dj} (h:e.kind≠2) (a b:cX):cM k gs c d e a=cM k gs c d e b:=by
 unfold cM; rw[if_neg h,if_neg h]
def Dd (k:dm) (gs:List (ByteArray×Int)) (rec:ByteArray->Except Int (List UInt8×List (List UInt8))) (e:dj):cX:=match rec e.path with
 | .ok p=>bD k gs p.1
 | .error _=>ef
def AQ (c:fL) (rec:ByteArray->Except Int (List UInt8×List (List UInt8))) (e:dj):List (List UInt8):=if e.kind=1 then fS c e.data else if e.kind=2 then(match rec e.path with | .ok p=>p.2 | .error _=>[])else []
theorem CK {rec:ByteArray->Except Int (List UInt8×List (List UInt8))} {d:ByteArray} : ∀(L:List dj) (its:List cr) (cs:List (List UInt8)),(∀e∈L,e.kind=2-> ∃p,rec e.path= .ok p)->
  gT k gs c rec d L its cs= .ok (its++L.map (fun e=>cM k gs c d e (Dd k gs rec e)),cs++L.flatMap (AQ c rec))
 | [],its,cs,_=>by simp[gT]
 | e::L,its,cs,h=>by
  have ih:=fun its cs=>CK (d:=d) L its cs fun x hx=>h x (by simp[hx])
  by_cases h1:e.kind=1
  ·rw[gT,if_pos h1,ih,nR (b:=Dd k gs rec e) (by omega)];rw[cw,bq,show AQ c rec e=fS c e.data by unfold AQ; rw[if_pos h1]];simp
  ·by_cases h2:e.kind=2
   ·obtain⟨p,hp⟩:=h e (by simp) h2;rw[gT,if_neg h1,if_pos h2,hp];simp only;rw[ih,cw,bq,show AQ c rec e=p.2 by unfold AQ; rw[if_neg h1,if_pos h2,hp],show Dd k gs rec e=bD k gs p.1 by unfold Dd; rw[hp]];simp
   ·rw[gT,if_neg h1,if_neg h2,ih,nR (b:=Dd k gs rec e) h2];rw[cw,bq,show AQ c rec e=[] by unfold AQ; rw[if_neg h1,if_neg h2]];simp
theorem CL {rec:ByteArray->Except Int (List UInt8×List (List UInt8))} {d:ByteArray} : ∀(L:List dj) (its:List cr) (cs:List (List UInt8)),(∀e∈L,e.kind=2->(∃p,rec e.path= .ok p)\/rec e.path= .error 2)->
  (∃e∈L,e.kind=2/\rec e.path= .error 2)->gT k gs c rec d L its cs= .error 2
 | [],its,cs,_,h=>by obtain⟨e,he,_⟩:=h; cases he
 | e::L,its,cs,h,hx=>by
  have ih:=fun its cs hx=>CL (d:=d) L its cs (fun x hx=>h x (by simp[hx])) hx
  by_cases h1:e.kind=1
  ·rw[gT,if_pos h1];refine ih _ _ ?_;obtain⟨x,hx,h3,h4⟩:=hx
   rcases bh.1 hx with rfl | hx
   ·omega
   ·exact⟨x,hx,h3,h4⟩
  ·by_cases h2:e.kind=2
   ·rw[gT,if_neg h1,if_pos h2]
    rcases h e (by simp) h2 with⟨p,hp⟩ | hp
    ·rw[hp];simp only;refine ih _ _ ?_;obtain⟨x,hx,h3,h4⟩:=hx
     rcases bh.1 hx with rfl | hx
     ·rw[hp]at h4; cases h4
     ·exact⟨x,hx,h3,h4⟩
    ·rw[hp]
   ·rw[gT,if_neg h1,if_neg h2];refine ih _ _ ?_;obtain⟨x,hx,h3,h4⟩:=hx
    rcases bh.1 hx with rfl | hx
    ·exact absurd h3 h2
    ·exact⟨x,hx,h3,h4⟩
theorem lG {f:Nat} {d:ByteArray} (h:mU k gs c tree (f+1) d=false):(∀e∈dz tree d,e.kind=2->mU k gs c tree f e.path=false)/\(eK k gs c tree (f+1) d).1.length<=32768:=by
 unfold mU at h;rw[fH,ee,List.any_eq_false]at h;refine⟨fun e he hk=> ?_,by omega⟩;have:=h.1 e he
 simpa [hk]using this
theorem Gs (h:yM tree) (hc:jJ c=true) (hg:kq gs): ∀(f:Nat) (d:ByteArray),(bl d).length<=512->512<f+(bl d).length->gQ k gs c tree f d=if mU k gs c tree f d=true then .error 2 else .ok (eK k gs c tree f d)
 | 0,d,h1,h2=>by omega
 | f+1,d,h1,h2=>by
  have ih: ∀e∈dz tree d,gQ k gs c tree f e.path=if mU k gs c tree f e.path=true then .error 2 else .ok (eK k gs c tree f e.path):=fun e he=>by
   obtain⟨he1,he2⟩:=ez.1 he;have h3:=cY (h.val e he1);have h4:=fx h3;rw[he2]at h4;exact Gs h hc hg f e.path (mu h3) (by omega)
  have hf: ∀e∈dz tree d,1<=f:=fun e he=>by
   obtain⟨he1,he2⟩:=ez.1 he;have h3:=cY (h.val e he1);have h4:=fx h3;have h5:=mu h3;rw[he2]at h4;omega
  rw[gQ,LK]
  by_cases hb: ∃e∈dz tree d,e.kind=2/\mU k gs c tree f e.path=true
  ·obtain⟨e,he,hk,hbe⟩:=hb;rw[CL (dz tree d) [] [] (fun x hx hk=>by
    rw[ih x hx]
    cases hbx:mU k gs c tree f x.path
    ·exact .inl ⟨_,if_neg (by simp)⟩
    ·exact .inr (if_pos rfl)) ⟨e,he,hk,by rw[ih e he,hbe]; simp⟩]
   have hbt:mU k gs c tree (f+1) d=true:=by
    unfold mU;rw[gE,List.any_eq_true];exact .inl ⟨e,he,by simp[hk,hbe]⟩
   rw[hbt];simp
  ·have hd: ∀e∈dz tree d,e.kind=2->mU k gs c tree f e.path=false:=fun e he hk=>by
    cases hbe:mU k gs c tree f e.path
    ·rfl
    ·exact absurd ⟨e,he,hk,hbe⟩ hb
   have hh: ∀e∈dz tree d,e.kind=2->gQ k gs c tree f e.path= .ok (eK k gs c tree f e.path):=fun e he hk=>by
    rw[ih e he,hd e he hk]; simp
   rw[CK (dz tree d) [] [] fun e he hk=>⟨_,hh e he hk⟩];simp only[aL];have e1:(dz tree d).map (fun e=>cM k gs c d e (Dd k gs (gQ k gs c tree f) e))=nS k gs c tree f d:=by
    refine List.map_congr_left fun e he=> ?_
    by_cases hk:e.kind=2
    ·rw[show Dd k gs (gQ k gs c tree f) e=bD k gs (eK k gs c tree f e.path).1 by unfold Dd; rw[hh e he hk]]
    ·exact nR hk _ _
   have e2:(dz tree d).flatMap (AQ c (gQ k gs c tree f))=(dz tree d).flatMap (iL k gs c tree f):=by
    rw[List.flatMap_def,List.flatMap_def]
    congr 1
    refine List.map_congr_left fun e he=> ?_
    unfold AQ iL
    by_cases h1:e.kind=1
    ·rw[if_pos h1,if_pos h1]
    ·rw[if_neg h1,if_neg h1]
     by_cases hk:e.kind=2
     ·rw[if_pos hk,if_pos hk,hh e he hk]
     ·rw[if_neg hk,if_neg hk]
   rw[e1,e2];have hj:jB (nS k gs c tree f d)=true:=rX h hc hg d _ fun e he hk=>by
    refine lq hg ?_;have h6:=hf e he;obtain⟨g,rfl⟩: ∃g,f=g+1:=⟨f-1,by omega⟩;exact(lG (hd e he hk)).2
   rw[if_pos hj];have ha:((dz tree d).any fun e=>decide (e.kind=2) && mU k gs c tree f e.path)=false:=by
    rw[List.any_eq_false];intro e he
    by_cases hk:e.kind=2
    ·simp[hk,hd e he hk]
    ·simp[hk]
   have hbt:mU k gs c tree (f+1) d=decide (32768<(fY (nS k gs c tree f d)).length):=by
    unfold mU;rw[ha,Bool.false_or,gx]
   rw[hbt,gx]
   by_cases hl:(fY (nS k gs c tree f d)).length<=32768
   ·rw[if_pos hl,if_neg (by simp; omega)]
   ·rw[if_neg hl,if_pos (by simp; omega)]
end
def tp :List (ByteArray×List UInt8)->ByteArray->List UInt8->List (ByteArray×List UInt8)
 | [],n,x=>[(n,x)]
 | p::cs,n,x=>if p.1=n then(n,x)::cs else p::tp cs n x
def mF (bs:List dq):List (ByteArray×List UInt8):=bs.foldl (fun cs b=>tp cs b.ref.name b.con) []
section
variable (k : dm) (gs : List (ByteArray × Int))
def pQ (s:List dq×Bool) (x:List UInt8):List dq×Bool:=match s.1.find? (fun b=>decide (b.ref=bD k gs x))with
 | some b=>(s.1,s.2 || !decide (b.con=x))
 | none=>(s.1++[⟨bD k gs x,x⟩],s.2)
def gD (cs:List (List UInt8)) (s:List dq×Bool):List dq×Bool:=cs.foldl (pQ k gs) s
end
def DS (bs:List dq):Bool:= !decide ((bs.map fun b=>b.ref.name).Nodup)
section
variable {k : dm} {gs : List (ByteArray × Int)}
theorem Fi (s:List dq×Bool) (x:List UInt8):(pQ k gs s x).1=kz k gs s.1 x:=by
 unfold pQ kz
 cases hf:s.1.find? (fun b=>decide (b.ref=bD k gs x))with
 | some b=>
  have h1:=jq hf;have h2:=dL hf;rw[if_pos (aW.2 ⟨b,h2,by simpa using h1⟩)]
 | none=>
  rw[if_neg];intro hm;obtain⟨b,hb,he⟩:=aW.1 hm;have:=eS.1 hf b hb;simp[he]at this
theorem uW : ∀(cs:List (List UInt8)) (s:List dq×Bool),(gD k gs cs s).1=et k gs cs s.1
 | [],_=>rfl
 | x::cs,s=>by
  show(gD k gs cs (pQ k gs s x)).1=et k gs cs (kz k gs s.1 x)
  rw[uW cs,Fi]
theorem Mo {s:List dq×Bool} {x:List UInt8} (h:(pQ k gs s x).2=false):s.2=false/\(∀b∈s.1,b∈(pQ k gs s x).1)/\ ∃b∈(pQ k gs s x).1,b.ref=bD k gs x/\b.con=x:=by
 unfold pQ at h ⊢
 cases hf:s.1.find? (fun b=>decide (b.ref=bD k gs x))with
 | some b=>
  rw[hf]at h;simp only[fH,Bool.not_eq_false',aK]at h;have h1:=jq hf;exact⟨h.1,fun b hb=>hb,b,dL hf,by simpa using h1,h.2⟩
 | none=>
  rw[hf]at h;exact⟨h,fun b hb=>iJ _ hb,_,pB _ (aQ.2 rfl),rfl,rfl⟩
theorem ug : ∀ {cs:List (List UInt8)} {s:List dq×Bool},(gD k gs cs s).2=false->s.2=false/\(∀b∈s.1,b∈(gD k gs cs s).1)/\ ∀x∈cs,∃b∈(gD k gs cs s).1,b.ref=bD k gs x/\b.con=x
 | [],s,h=>⟨h,fun _ hb=>hb,fun x hx=>by cases hx⟩
 | y::cs,s,h=>by
  have h0:(gD k gs cs (pQ k gs s y)).2=false:=h;obtain⟨h1,h2,h3⟩:=ug h0;obtain⟨h4,h5,b,h6,h7,h8⟩:=Mo h1;refine⟨h4,fun b hb=>h2 b (h5 b hb),fun x hx=> ?_⟩
  rcases bh.1 hx with rfl | hx
  ·exact⟨b,h2 b h6,h7,h8⟩
  ·exact h3 x hx
theorem tX (n m:ByteArray) (x:List UInt8): ∀(cs:List (ByteArray×List UInt8)),gB (tp cs n x) m=if n=m then some x else gB cs m
 | []=>rfl
 | (a,b)::cs=>by
  unfold tp
  by_cases h:a=n
  ·subst h;rw[if_pos rfl,gB,gB]
   by_cases h2:a=m
   ·rw[if_pos h2,if_pos h2]
   ·rw[if_neg h2,if_neg h2,if_neg h2]
  ·rw[if_neg h,gB,tX n m x cs]
   by_cases h2:a=m
   ·subst h2;rw[if_pos rfl,if_neg (fun e=>h e.symm),gB,if_pos rfl]
   ·rw[if_neg h2,gB,if_neg h2]
theorem Ce : ∀(bs:List dq) (cs:List (ByteArray×List UInt8)) (m:ByteArray),(∀b∈bs,b.ref.name≠m)->gB (bs.foldl (fun cs b=>tp cs b.ref.name b.con) cs) m=gB cs m
 | [],_,_,_=>rfl
 | b::bs,cs,m,h=>by
  rw[eO,Ce bs _ m fun x hx=>h x (by simp[hx]),tX,if_neg (h b (by simp))]
theorem uF {cs:List (ByteArray×List UInt8)} {x:List UInt8} (h:gB cs (bD k gs x).name=some x):jG cs (bD k gs x)= .ok x:=by
 unfold jG;rw[h]
 show(if(x.length:Int)=(x.length:Int)then _ else _)=_
 rw[if_pos rfl]
end
open Go Go.RowKit Go.Maps
def tr (k:dm) (c:fL) (tv gv v:Value) (lg cl:Bool):List Value:=eI k++fR c++[tv,gv,v, .bool lg, .bool cl]
structure jV (w : World) (base bb : Nat) (k : dm) (c : fL) (tv gv v : Value) (lg : Bool) (s : List dq × Bool) : Prop where
 box:w.heap[bb]? =some (.cells (tr k c tv gv v lg s.2).toArray 130 (0,0))
 own: ∃zs:List mE,zs.map Prod.snd=s.1/\ig w base v zs
theorem jV.below {w w':World} {base bb:Nat} {k:dm} {c:fL} {tv gv v:Value} {lg:Bool} {s:List dq×Bool} (h:jV w base bb k c tv gv v lg s) (hb:Below w.heap.size w w'):jV w' base bb k c tv gv v lg s:=by
 obtain⟨zs,h1,h2⟩:=h.own;exact⟨(hb.block _ (az h.box)).trans h.box,zs,h1,h2.below hb⟩
structure jC (base bb : Nat) (v v' : Value) (w w' : World) : Prop where
 below:Below base w w'
 same: ∀i,i<w.heap.size->i≠bb->v.ownBlock≠some i->w'.heap[i]? =w.heap[i]?
 place: ∀i,v'.ownBlock=some i->v.ownBlock=some i\/w.heap.size<=i
theorem jC.refl (base bb:Nat) (v:Value) (w:World):jC base bb v v w w:=⟨ay _ _,fun _ _ _ _=>rfl,fun _ h=> .inl h⟩
theorem jC.trans {base bb:Nat} {v v1 v2:Value} {A B C:World} (h:jC base bb v v1 A B) (k:jC base bb v1 v2 B C):jC base bb v v2 A C:=by
 have hs:=h.below.size;refine⟨h.below.trans k.below,fun i h1 h2 h3=>(k.same i (by omega) h2 (fun e=> ?_)).trans (h.same i h1 h2 h3),fun i e=> ?_⟩
 ·rcases h.place i e with e2 | e2
  ·exact h3 e2
  ·omega
 ·rcases k.place i e with e2 | e2
  ·exact h.place i e2
  ·exact .inr (by omega)
theorem jC.ofBelow {base bb:Nat} {v:Value} {w w':World} (h:Below w.heap.size w w') (hb:base<=w.heap.size):jC base bb v v w w':=⟨h.mono hb,fun k h1 _ _=>h.block k h1,fun _ e=> .inl e⟩
theorem jC.row {w w':World} {base bb B sz n:Nat} {k:dm} {c:fL} {tv gv v v' u:Value} {lg:Bool} {s:List dq×Bool} {t:TypeId} {xs:List Value} (h:jV w base bb k c tv gv v lg s) (hk:jC base bb v v' w w') (hr:w.ownsRow B t sz u n xs) (h1:t≠130) (h2:t≠53):w'.ownsRow B t sz u n xs:=
 eV hr (fun i hi hu=>by
  obtain⟨cs,hc⟩:=bL hr hu;refine hk.same i hi (fun e=> ?_) (fun e=> ?_)
  ·subst e; exact h1 (bV hc h.box)
  ·obtain⟨zs,_,ho⟩:=h.own;obtain⟨cs2,hc2⟩:=bL ho.row e;exact h2 (bV hc hc2))
theorem jC.blk {w w':World} {base bb i:Nat} {k:dm} {c:fL} {tv gv v v':Value} {lg:Bool} {s:List dq×Bool} {cs:Array Value} {t:TypeId} {z:Nat×Nat} (h:jV w base bb k c tv gv v lg s) (hk:jC base bb v v' w w') (hx:w.heap[i]? =some (.cells cs t z)) (h1:t≠130) (h2:t≠53):w'.heap[i]? =some (.cells cs t z):=
 (hk.same i (az hx) (fun e=>by subst e; exact h1 (bV hx h.box)) (fun e=>by
  obtain⟨zs,_,ho⟩:=h.own;obtain⟨cs2,hc2⟩:=bL ho.row e;exact h2 (bV hx hc2))).trans hx
theorem jV.clash {w:World} {base bb:Nat} {k:dm} {c:fL} {tv gv v:Value} {lg cl:Bool} {bs:List dq} (h:jV w base bb k c tv gv v lg (bs,cl)) (cl':Bool) (hb:base<=bb):jV (w.setCell ⟨bb,14,none⟩ (.bool cl')) base bb k c tv gv v lg (bs,cl')/\jC base bb v v w (w.setCell ⟨bb,14,none⟩ (.bool cl')):=by
 obtain⟨zs,h1,h2⟩:=h.own;have hs: ∀j,j≠bb->(w.setCell ⟨bb,14,none⟩ (.bool cl')).heap[j]? =w.heap[j]? :=fun j hj=>aF _ _ _ _ hj
 have ha: ∀ {t:TypeId} {n sz:Nat} {u:Value} {xs:List Value},w.ownsRow base t sz u n xs->t≠130->(w.setCell ⟨bb,14,none⟩ (.bool cl')).ownsRow base t sz u n xs:=fun hr ht=>eV hr (fun i hi hu=>hs i (fun e=>by
  obtain⟨cs,hc⟩:=bL hr hu;subst e;exact ht (bV hc h.box)))
 refine⟨⟨?_,zs,h1,ha h2.row (by decide),fun z hz=>ha (h2.dat z hz) (by decide)⟩,(ay _ _).grown (cJ w bb 14 _) ?_ (fun i hi=>by cases hi; exact hb),fun i hi e1 _=>hs i e1,fun i e=> .inl e⟩
 ·have:=jf (k:=14) h.box (.bool cl')
  simpa [tr,eI,fR]using this
 ·have:=az h.box; omega
theorem jV.push {w w2:World} {base bb:Nat} {k:dm} {c:fL} {tv gv v v' dv:Value} {lg cl:Bool} {bs:List dq} {zs:List mE} {b:dq} (hz:zs.map Prod.snd=bs) (h:ig w base v zs) (hx:w.heap[bb]? =some (.cells (tr k c tv gv v lg cl).toArray 130 (0,0)))
  (hn:w.ownsRow base 5 1 dv b.con.length (b.con.map aY)) (hown:w2.ownsRow base 53 4 v' (zs.length+1) (kh zs++nL dv b)) (hg:w.grownBy w2 v.ownBlock) (hpl: ∀k,v'.ownBlock=some k->v.ownBlock=some k\/w.heap.size<=k) (hbe:base<=bb):
  jV (w2.setCell ⟨bb,12,none⟩ v') base bb k c tv gv v' lg (bs++[b],cl)/\jC base bb v v' w (w2.setCell ⟨bb,12,none⟩ v'):=by
 have hk:=az hx;have he:base<=w.heap.size:=by omega
 have hf:v.ownBlock≠some bb:=fun e=>by
  obtain⟨cs,hc⟩:=bL h.row e;exact absurd (bV hx hc) (by decide)
 have hb:v'.ownBlock≠some bb:=fun e=>by
  rcases hpl bb e with e | e
  ·exact hf e
  ·omega
 have hh:=(hg.block bb hk (fun e=>hf e.symm)).trans hx;have ha: ∀(u:Value) (ds:List UInt8),w.ownsRow base 5 1 u ds.length (ds.map aY)->(w2.setCell ⟨bb,12,none⟩ v').ownsRow base 5 1 u ds.length (ds.map aY):=by
  intro u ds hd;refine eV hd (fun i hi hu=> ?_);obtain⟨cs,hc⟩:=bL hd hu;rw[aF _ _ _ _ (show i≠bb from fun e=>absurd (bV (e▸hc) hx) (by decide))];refine hg.block i hi (fun e=> ?_);obtain⟨cs2,hj⟩:=bL h.row e.symm;exact absurd (bV hc hj) (by decide)
 refine⟨⟨?_,zs++[(dv,b)],by simp[hz], ?_,fun z hz=> ?_⟩,⟨?_,fun i hi e1 e3=> ?_,fun i e=> ?_⟩⟩
 ·have:=jf (k:=12) hh v'
  simpa [tr,eI,fR]using this
 ·rw[ar,bQ,uA];exact hown.kept (cJ _ _ _ _) (.inr (fun e=>hb e))
 ·rcases aU.1 hz with hz | hz
  ·exact ha _ _ (h.dat z hz)
  ·rw[aQ]at hz;subst hz;exact ha _ _ hn
 ·exact((ay _ _).grown hg he (fun i hi=>(h.row.lt i hi).1)).grown (cJ w2 bb 12 v') (aB he hg.size) (fun i hi=>by cases hi; exact hbe)
 ·rw[aF _ _ _ _ (show i≠bb from e1)];exact hg.block i hi (fun e=>e3 e.symm)
 ·rcases hpl i e with e | e
  ·exact .inl e
  ·exact .inr (by omega)
theorem Ob {a:Act} {w:World} {b:Nat} {x0 x1 x2:Value} (h:w.heap[b]? =some (.cells #[x0,x1,x2] 26 (0,0)))
  (h4:a.tmps[4]? =some (.pointer (some ⟨b,0,none⟩))):(results Tryz.f126 a.tmps).run Tryz.prog w= .ok (.agg #[x0,x1,x2]) w:=by
 obtain⟨m0,m1,m2,_⟩:=aT h;simp[results,Tryz.results126,go_sem,h4,m0,m1,m2]
theorem Bi {a:Act} {w:World} {b:Nat} {a0 a1 a2 x0 x1 x2:Value} {Q:Ending->World->Prop} (h:w.heap[b]? =some (.cells #[a0,a1,a2] 26 (0,0)))
  (h4:a.tmps[4]? =some (.pointer (some ⟨b,0,none⟩))) (hd:a.defers=[])
  (hQ:Q (.returned (.agg #[x0,x1,x2])) (((w.setCell ⟨b,0,none⟩ x0).setCell ⟨b,1,none⟩ x1).setCell ⟨b,2,none⟩ x2)):
  bodyPost Tryz.prog Tryz.f126 Q Exit.ret a (((w.setCell ⟨b,0,none⟩ x0).setCell ⟨b,1,none⟩ x1).setCell ⟨b,2,none⟩ x2):=cN (Ob (ve h) h4) hd hQ
theorem En {bs:List dq} {j:Nat} {b:dq} (h:bs[j]? =some b):mF (bs.take (j+1))=tp (mF (bs.take j)) b.ref.name b.con:=by
 unfold mF;rw[dZ h,eF]
 rfl
theorem eY.miss' {S:Nat->Prop} {w:World} {n:ByteArray} {v:Value} {x:List UInt8} (hv:bG S w v x): ∀ {m:List (Value×Value)} {cs:List (ByteArray×List UInt8)},eY S w m cs->(∀p∈m,p.1≠Value.string n)->eY S w (m++[(.string n,v)]) (tp cs n x)
 | [],[],_,_=>⟨rfl,hv,trivial⟩
 | [],_::_,h,_=>False.elim h
 | _::_,[],h,_=>False.elim h
 | (k,u)::m,(n',b')::cs,h,hm=>by
  have hne:n'≠n:=fun e=>hm (k,u) (by simp) (by rw[h.1,e])
  rw[tp,if_neg hne];exact⟨h.1,h.2.1,eY.miss' hv h.2.2 (fun p hp=>hm p (by simp[hp]))⟩
theorem eY.hit' {S:Nat->Prop} {w:World} {n:ByteArray} : ∀ {m:List (Value×Value)} {cs:List (ByteArray×List UInt8)},eY S w m cs->(∃p∈m,p.1=Value.string n)-> ∃m1 old m2,m=m1++(.string n,old)::m2/\ ∀(w':World) (S':Nat->Prop) (v:Value) (x:List UInt8),(∀v bs,bG S w v bs->bG S' w' v bs)->bG S' w' v x->eY S' w' (m1++(.string n,v)::m2) (tp cs n x)
 | [],[],_,⟨_,hp,_⟩=>by simp at hp
 | [],_::_,h,_=>False.elim h
 | _::_,[],h,_=>False.elim h
 | (k,u)::m,(n',b')::cs,h,hp=>by
  have hmono: ∀ {w':World} {S':Nat->Prop},(∀v bs,bG S w v bs->bG S' w' v bs)->eY S w m cs->eY S' w' m cs:=by
   intro w' S' hm;have: ∀ {m:List (Value×Value)} {cs:List (ByteArray×List UInt8)},eY S w m cs->eY S' w' m cs:=by
    intro m
    induction m with
    | nil=>intro cs h; cases cs with
     | nil=>trivial
     | cons=>exact h
    | cons p m ih=>intro cs h; cases cs with
     | nil=>exact h
     | cons q cs=>exact⟨h.1,hm _ _ h.2.1,ih h.2.2⟩
   exact this
  by_cases hn:n'=n
  ·subst hn;refine⟨[],u,m,by rw[h.1]; rfl,fun w' S' v x hm hv=> ?_⟩;rw[tp,if_pos rfl];exact⟨rfl,hv,hmono hm h.2.2⟩
  ·obtain⟨p,hc,hb⟩:=hp;have ha:p∈m:=by
    rcases bh.1 hc with rfl | ha
    ·have:=h.1.symm.trans hb;simp only[eq]at this;exact absurd this hn
    ·exact ha
   obtain⟨m1,old,m2,h1,h2⟩:=eY.hit' h.2.2 ⟨p,ha,hb⟩;refine⟨(k,u)::m1,old,m2,by rw[h1]; rfl,fun w' S' v x hm hv=> ?_⟩;rw[tp,if_neg hn];exact⟨h.1,hm _ _ h.2.1,h2 w' S' v x hm hv⟩
def ni (S:Nat->Prop) (w:World) (v:Value) (bs:List dq):Prop:= ∃zs:List mE,zs.map Prod.snd=bs/\cE S w 4 v zs.length (kh zs)/\ ∀z∈zs,bG S w z.1 z.2.con/\eC z.2.ref
theorem vS : ∀ {zs:List mE} {k:Nat} {z:mE},zs[k]? =some z-> ∀j,j<4->(kh zs)[k*4+j]? =(nL z.1 z.2)[j]?
 | [],k,_,h,_,_=>by simp at h
 | x::zs,0,z,h,j,hj=>by
  simp at h; subst h;unfold kh;rw[bq,iZ,bX,bO (by exact hj)]
 | x::zs,k+1,z,h,j,hj=>by
  have:=vS (zs:=zs) (k:=k) (z:=z) (by simpa using h) j hj;unfold kh at this ⊢;rw[bq,bI (by show 4<=_; omega),<-this]
  congr 1
  show(k+1)*4+j-4=_
  omega
theorem sI {S:Nat->Prop} {w:World} {a:Option Addr} {n cap:Nat} {zs:List mE} (h:cE S w 4 (.slice a n cap) zs.length (kh zs)) {k:Nat} {z:mE} (hz:zs[k]? =some z):
  ∃b o,a=some ⟨b,o,none⟩/\S b/\b<w.heap.size/\ ∀j,j<4->w.cell? ⟨b,o+k*4+j,none⟩=(nL z.1 z.2)[j]? :=by
 obtain⟨_,a',cap',he,_,_,h0⟩:=h
 cases he
 have ha:=(aN.1 hz).1
 rcases h0 with h0 | ⟨b,o,rfl,hS,hc⟩
 ·omega
 ·have g:=fun j (hj:j<4)=>hc (k*4+j) _ ((vS hz j hj).trans (bM (l:=nL z.1 z.2) hj))
  have g0:=g 0 (by omega);refine⟨b,o,rfl,hS,bS (a:=⟨b,o+(k*4+0),none⟩) g0,fun j hj=> ?_⟩;rw[df,g j hj];exact(bM (l:=nL z.1 z.2) hj).symm
theorem ni.below {S:Nat->Prop} {w w':World} {v:Value} {bs:List dq} (h:ni S w v bs) (hb:Below w.heap.size w w'):ni S w' v bs:=by
 obtain⟨zs,h1,h2,h3⟩:=h;exact⟨zs,h1,cE.below h2 (by omega) hb,fun z hz=>⟨cE.below (h3 z hz).1 (by omega) hb,(h3 z hz).2⟩⟩
def FW (S:Nat->Prop) (bs:List dq) (w:World) (e:Ending) (w':World):Prop:= ∃mb m,e= .returned (.map (some mb))/\w.heap.size<=mb/\je Tryz.prog 9 w' mb m/\eY S w' m (mF bs)/\Below w.heap.size w w'
theorem sL (S:Nat->Prop) (bs:List dq) (v:Value) (w:World) (hv:ni S w v bs) (hl:bs.length<=1000000):Calls Tryz.prog 36 #[v] w (FW S bs w):=by
 obtain⟨zs,hF,he,hf⟩:=hv;obtain⟨_,a,cap,rfl,h9,hm,-⟩:=id he;unfold maxLen at hm;have hC:=an he;have hy:=an hf
 have hO:=an hF;obtain⟨n,hn⟩: ∃n,n=zs.length:=⟨_,rfl⟩;have He:n<=1000000:=by rw[hn,<-aE (f:=Prod.snd),hF]; exact hl
 rw[<-hn]at h9 ⊢;have HN:=an hn;have Hc:= @run_makeMap Tryz.prog;obtain⟨W0,hu⟩: ∃W0,W0=w.alloc (.map #[] 0):=⟨_,rfl⟩;have hX:=an (show je Tryz.prog 9 W0 w.heap.size [] by rw[hu]; exact je.made w);have hV:=an (show Below w.heap.size w W0 by rw[hu]; exact eN);clear he hf hF hn hl
 go_enter Tryz.func36,Tryz.ntmps36
 go_upto_region 2 with(fail)
 rw[<-hu];clear hu Hc;go_wp2_with fail
 go_loopw [4] (fun i wr=> ∃(j:Nat) (m:List (Value×Value)),j<=n/\i= .int .i64 (j:Int)/\je Tryz.prog 9 wr w.heap.size m/\eY S wr m (mF (bs.take j))/\Below w.heap.size w wr) (fun i _=>n-(intOf i).toNat)
 case atStart=>exact⟨0,[],aX _,rfl,hX.o,trivial,hV.o⟩
 case round=>
  obtain⟨j,m,hj,rfl,hT,hR,hb⟩:=hrel;have hs:=an hT;have hA:=an hR;have HB:=an hb;clear hT hR hb
  by_cases Hb:j<n
  ·obtain⟨z,hz⟩: ∃z,zs[j]? =some z:=⟨zs[j]'(by rw[<-HN.o]; exact Hb),by simp⟩;obtain⟨b,o,rfl,-,h7,hQ⟩:=sI hC.o hz;have hq:=hy.o z (aS hz);have Hd:=an hq;have hZ:=an (show bs[j]? =some z.2 by rw[<-hO.o,bn,hz]; rfl);obtain⟨_,za,zc,hG,-,-,-⟩:=id hq.1;have g:=fun i (hi:i<4)=>(HB.o.cell (p:=⟨b,o+j*4+i,none⟩) h7).trans (hQ i hi)
   have q0:=g 0 (by omega);have q3:=g 3 (by omega);simp only[nL,aj,am,de]at q0 q3;rw[hG]at q3;obtain⟨zl,hE⟩: ∃zl,zl=z.2.con.length:=⟨_,rfl⟩;rw[<-hE]at q3;obtain⟨nm,hx⟩: ∃nm,nm=z.2.ref.name:=⟨_,rfl⟩;rw[<-hx]at q0;have hD:nm.size<=maxLen:=by rw[hx]; exact hq.2.nm
   have ht:Tryz.prog.underlying 55=some (.map 9 29):=rC;have hN:=an ht;have hM:=an (show mF (bs.take (j+1))=tp (mF (bs.take j)) nm z.2.con by rw[En hZ.o,hx]);have hH:=an (show ∀W:World,Below w.heap.size w W->bG S W (.slice za zl zc) z.2.con from fun W hW=>by rw[hE,<-hG]; exact cE.below hq.1 (by omega) hW);have h8:w.heap.size<wr.heap.size:=hs.o.lt
   clear ht hz hQ hq hG g hE hx;go_wp2_with fail;refine bP [some 12,none] (by kernel_rfl) (by kernel_rfl) (by kernel_rfl) ?_;simp only[dQ,aV,aZ,bB,bT];have hJ:=an (hs.o.same (w':=wr.drew) rfl)
   repeat (first | (refine cB rfl ?_; simp only[Act.put,ag,ai,ah]) | (refine cR rfl (fun K hK=> ?_); go_simp; refine hK _ ?_; clear hK K))
   refine cQ ?_;refine ei rfl (fun K hK=> ?_);have hP: ∀(w9:World),wr.drew.grownBy w9 (some w.heap.size)->Below w.heap.size w w9:=fun w9 hg=>(HB.o.trans ((ay wr.heap.size wr).drew.mono HB.o.size)).grown hg (fB h8) (fun i hi=>by cases hi; exact au _)
   have hr:=an hP
   have ha: ∀(w9:World),wr.drew.grownBy w9 (some w.heap.size)-> ∀v bs,bG S wr v bs->bG S w9 v bs:=fun w9 hg v bs hv=>by
    obtain⟨h1,a9,cap9,rfl,h2,h3,h4⟩:=hv;refine⟨h1,a9,cap9,rfl,h2,h3, ?_⟩
    rcases h4 with h4 | ⟨b9,o9,rfl,hS,hc⟩
    ·exact .inl h4
    ·refine .inr ⟨b9,o9,rfl,hS,fun i u hi=> ?_⟩;have q:=hc i u hi;rw[<-q];refine cA (hg.block b9 (bS (a:=⟨b9,o9+i,none⟩) q) (fun e=> ?_));have:b9=w.heap.size:=by simpa using e
     subst this;obtain⟨es,clock,h0,_⟩:=hs.o;simp[World.cell?,h0]at q
   have hI:=an ha;clear hP ha
   by_cases hw: ∃p∈m,p.1=Value.string nm
   ·obtain⟨m1,old,m2,rfl,ho⟩:=hA.o.hit' hw;have hY:=an ho;clear hw ho;go_wp2_with (at_mapUpdate; go_must (refine qa fX rfl _ _ _ _ rfl hN.o w.heap.size m1 m2 (.string nm) (.slice za zl zc) old hJ.o rfl rfl rfl ?_); intro w9 hk hh);have hB:=an hk;have hd:=an hh;clear hk hh;go_wp2_with fail
    go_roundw
    case rel=>exact⟨j+1,_,by omega,by go_num,hB.o,by rw[hM.o]; exact hY.o w9 S _ _ (hI.o w9 hd.o) (hH.o w9 (hr.o w9 hd.o)),hr.o w9 hd.o⟩
    case measure=>simp[intOf]; omega
   ·have hU: ∀p∈m,p.1≠Value.string nm:=fun p hp e=>hw ⟨p,hp,e⟩
    have hL:=an hU;clear hw hU;go_wp2_with (at_mapUpdate; go_must (refine kB fX rfl _ _ _ _ rfl hN.o w.heap.size m hJ.o rfl (.string nm) (.slice za zl zc) rfl rfl (iy hD) hL.o ?_); intro w9 hk hh);have hB:=an hk;have hd:=an hh;clear hk hh;go_wp2_with fail
    go_roundw
    case rel=>exact⟨j+1,_,by omega,by go_num,hB.o,by rw[hM.o]; exact eY.miss' (hH.o w9 (hr.o w9 hd.o)) (hA.o.mono (hI.o w9 hd.o)) hL.o,hr.o w9 hd.o⟩
    case measure=>simp[intOf]; omega
  ·have Ha:j=n:=by omega
   subst Ha;go_wp2_with fail;go_ret;have h1:=hA.o;rw[bC (by rw[<-hO.o,aE,<-HN.o]; exact au _)]at h1;exact⟨_,m,rfl,au _,hs.o,h1,HB.o⟩
def fV (bb:Nat) (k:dm) (c:fL) (tv gv v:Value) (lg cl:Bool) (w:World):Prop:=w.heap[bb]? =some (.cells (tr k c tv gv v lg cl).toArray 130 (0,0))
theorem fV.below {bb:Nat} {k:dm} {c:fL} {tv gv v:Value} {lg cl:Bool} {w w':World} (h:fV bb k c tv gv v lg cl w) (hb:Below w.heap.size w w'):fV bb k c tv gv v lg cl w':=dV hb h
theorem pp (w:World) (n:Nat):Below w.heap.size w (w.drewN n):=⟨rfl,rfl,rfl,au _,fun _ _=>rfl⟩
theorem Gu {α:Type} {p:α->Bool} : ∀ {l:List α} {j:Nat} {b:α},l[j]? =some b->p b=true->(∀y∈l.take j,p y=false)->l.find? p=some b
 | [],_,_,h,_,_=>by simp at h
 | a::l,0,b,h,hp,_=>by
  obtain rfl:a=b:=by simpa using h
  simp[hp]
 | a::l,j+1,b,h,hp,hn=>by
  have h1:p a=false:=hn a (by simp);rw[List.find?_cons,h1];exact Gu (l:=l) (j:=j) (by simpa using h) hp (fun y hy=>hn y (by simp[hy]))
theorem jV.other {w w':World} {base bb b:Nat} {k:dm} {c:fL} {tv gv v:Value} {lg:Bool} {s:List dq×Bool} {cs:Array Value} {t:TypeId} {z:Nat×Nat} (h:jV w base bb k c tv gv v lg s) (hb:w.heap[b]? =some (.cells cs t z)) (h1:t≠130) (h2:t≠53) (h3:t≠5) (hs: ∀i,i≠b->i<w.heap.size->w'.heap[i]? =w.heap[i]?):jV w' base bb k c tv gv v lg s:=by
 obtain⟨zs,hz,hr,hd⟩:=h.own;refine⟨(hs bb (fun e=> ?_) (az h.box)).trans h.box,zs,hz,eV hr (fun i hi hu=>hs i (fun e=> ?_) hi),fun y hy=>eV (hd y hy) (fun i hi hu=>hs i (fun e=> ?_) hi)⟩
 ·subst e; exact h1 (bV hb h.box)
 ·subst e;obtain⟨cs2,ha⟩:=bL hr hu;exact h2 (bV hb ha)
 ·subst e;obtain⟨cs2,ha⟩:=bL (hd y hy) hu;exact h3 (bV hb ha)
theorem jC.setNew {base bb b j:Nat} {v v' u:Value} {w w':World} (h:jC base bb v v' w w') (hb:w.heap.size<=b) (hbz:base<=w.heap.size):jC base bb v v' w (w'.setCell ⟨b,j,none⟩ u):=
 ⟨cC h.below (show base<=b by omega) u,fun i h1 h2 h3=>(aF _ _ _ _ (show i≠b by omega)).trans (h.same i h1 h2 h3),h.place⟩
theorem zW (base bb:Nat) (k:dm) (c:fL) (tv gv v cv:Value) (gs:List (ByteArray×Int)) (lg cl:Bool) (bs:List dq) (x:List UInt8) (w:World) (h:jV w base bb k c tv gv v lg (bs,cl)) (hk:jA k=true) (hG:kR (· <base) w gv gs) (hgs:kq gs) (hx:w.ownsRow base 5 1 cv x.length (x.map aY)) (hl:x.length<=32768) (hbs:bs.length<=1000000) (hbe:base<=bb):
  Calls Tryz.prog 126 #[.pointer (some ⟨bb,0,none⟩),cv] w fun e w'=>e= .returned (fa (bD k gs x))/\ ∃v',jV w' base bb k c tv gv v' lg (pQ k gs (bs,cl) x)/\jC base bb v v' w w':=by
 have H4:=az h.box;have hf:base<=w.heap.size:=by omega
 obtain⟨zs,Hr,ho⟩:=h.own;obtain⟨av,cvv,hv,hB,hC⟩:=aI ho.row;obtain⟨n,hn⟩: ∃n,n=zs.length:=⟨_,rfl⟩;rw[<-hn]at hv hB;subst hv;unfold maxLen at hC;have hL:=an hn;have Hj:=an Hr;have HO:=an ho;have H6:n<=1000000:=by rw[hn,<-aE (f:=Prod.snd),Hr]; exact hbs
 clear hbs Hr ho hn;obtain⟨W1,h2⟩: ∃W1,W1=w.alloc (.cells #[.string ⟨#[]⟩, .int .i64 0, .int .i64 0] 26):=⟨_,rfl⟩;have HL:=an (show Below w.heap.size w W1 by rw[h2]; exact eN);have HP:=an (show W1.heap[w.heap.size]? =some (.cells #[.string ⟨#[]⟩, .int .i64 0, .int .i64 0] 26 (0,0)) by rw[h2]; exact aH w _);have HH:=an h;have HK:=an hk;have HG:=an hG
 have Ht:=an hgs;have hW:=an hx;obtain⟨ax,cx,rfl,hA,H3⟩:=aI hx;obtain⟨xl,Hp⟩: ∃l,l=x.length:=⟨_,rfl⟩;rw[<-Hp]at hl hW ⊢;have hJ:=an Hp;clear h hk hG hgs hx hA H3 Hp
 go_enter Tryz.func126,Tryz.ntmps126
 go_upto_region 1 with fail
 rw[<-h2];clear h2;refine eH (fV bb k c tv gv (.slice av n cvv) lg cl) (by kernel_rfl) ?_;obtain⟨V,hV⟩: ∃V:World,V=W1.drew:=⟨_,rfl⟩;rw[<-hV];have hb:Below W1.heap.size W1 V:=by rw[hV]; exact(ay _ _).drew
 have hQ:=an (aw HL.o hb);have He:=an (dV hb HP.o);have SV:=an (show fV bb k c tv gv (.slice av n cvv) lg cl V from fV.below HH.o.box hQ.o);clear hV hb
 iterate 9 (refine cF rfl (by kernel_rfl) (fun _ _ _ h=>h) rfl SV.o (by rintro w' hx; have ha:=hx; unfold fV at ha; have k0:=aA (k:=0) ha; have k1:=aA (k:=1) ha; have k2:=aA (k:=2) ha; have k3:=aA (k:=3) ha; have k4:=aA (k:=4) ha; have k11:=aA (k:=11) ha; simp only[tr,eI,fR,aM,aL,ak,am,aj]at k0 k1 k2 k3 k4 k11; clear hx ha; go_simp; rfl) ?_; simp only[Act.put,ag,ai,ah])
 obtain⟨rf,HJ⟩: ∃r,r=bD k gs x:=⟨_,rfl⟩;have hF:=an HJ;clear HJ;have HZ: ∀i,(· <base) i->i<V.heap.size:=fun i hi=>aR hi (aB hf hQ.o.size)
 refine sS 9 10 rfl rfl (by kernel_rfl) rfl rfl (fun K hK=> ?ca) (fun K hK=> ?al)
 case' ca=>
  have H0:Below V.heap.size V V:=ay _ _;go_wp2_with fail;refine(wG _ _ k gs gv x _ _ HK.o (HG.o.keep (w':=V) (fun i hi _=>hQ.o.block i (aR hi hf))) HZ Ht.o (show bG (fun _=>True) V (.slice ax xl cx) x by
   have h1:=cG (cU hW.o hQ.o)
   show cE _ V 1 _ x.length (x.map aY)
   rw[<-hJ.o];exact h1.weak fun _ _=>trivial) (by rw[<-hJ.o]; exact hl)).mono ?_
  rintro e w2 ⟨rfl,hd⟩;rw[<-hF.o];have hP:=an (aw hQ.o hd);have h0:=an (dV hd He.o);have S2:=an (fV.below SV.o hd);clear hd H0;unfold fa;go_wp2_with fail;refine⟨S2.o, ?_⟩;refine cy 10 rfl (fun K hK=> ?_);go_wp2_with fail;obtain⟨Z,hZ⟩: ∃Z,Z=w2.alloc (.cells #[.string ⟨#[]⟩, .int .i64 0, .int .i64 0] 26):=⟨_,rfl⟩;rw[<-hZ];have hc:Below w2.heap.size w2 Z:=by rw[hZ]; exact eN
  have h9:=an (aw hP.o hc);have Hf:=an (dV hc h0.o);have SZ:=an (fV.below S2.o hc);obtain⟨xb,hE⟩: ∃b,b=w2.heap.size:=⟨_,rfl⟩;have hU:=an (show Z.heap[xb]? =some (.cells #[.string ⟨#[]⟩, .int .i64 0, .int .i64 0] 26 (0,0)) by rw[hZ,hE]; exact aH w2 _);have Ho:w.heap.size<xb:=by rw[hE]; exact az h0.o
  rw[<-hE];clear hZ hc hE;refine⟨SZ.o, ?_⟩
 case' al=>
  go_wp2_with fail;obtain⟨w2,h7⟩: ∃Z,Z=V.alloc (.cells #[.string ⟨#[]⟩, .int .i64 0, .int .i64 0] 26):=⟨_,rfl⟩;rw[<-h7];have hd:Below V.heap.size V w2:=by rw[h7]; exact eN
  have hP:=an (aw hQ.o hd);have h0:=an (dV hd He.o);have S2:=an (fV.below SV.o hd);obtain⟨xb,hE⟩: ∃b,b=V.heap.size:=⟨_,rfl⟩;have HU:=an (show w2.heap[xb]? =some (.cells #[.string ⟨#[]⟩, .int .i64 0, .int .i64 0] 26 (0,0)) by rw[h7,hE]; exact aH V _);have Ho:w.heap.size<xb:=by rw[hE]; exact az He.o
  rw[<-hE];have Hk: ∀i,(· <base) i->i<w2.heap.size:=fun i hi=>aR hi (aB hf hP.o.size)
  clear h7 hd hE;refine⟨S2.o, ?_⟩;refine cy 9 rfl (fun K hK=> ?_);go_wp2_with fail;refine(wG _ _ k gs gv x _ _ HK.o (HG.o.keep (w':=w2) (fun i hi _=>hP.o.block i (aR hi hf))) Hk Ht.o (show bG (fun _=>True) w2 (.slice ax xl cx) x by
   have h1:=cG (cU hW.o hP.o)
   show cE _ w2 1 _ x.length (x.map aY)
   rw[<-hJ.o];exact h1.weak fun _ _=>trivial) (by rw[<-hJ.o]; exact hl)).mono ?_
  rintro e Z ⟨rfl,hc⟩;rw[<-hF.o];have h9:=an (aw hP.o hc);have Hf:=an (dV hc h0.o);have SZ:=an (fV.below S2.o hc);have hU:=an (dV hc HU.o);clear hc;unfold fa;go_wp2_with fail;refine⟨SZ.o, ?_⟩
 all_goals
  obtain⟨z0,z1,z2,_⟩:=aT hU.o;obtain⟨y0,y1,y2,_⟩:=gu hU.o;refine cy 11 rfl (fun K hK=> ?_);go_wp2_with fail;obtain⟨Y,hY⟩: ∃Y,Y=(((Z.setCell ⟨xb,0,none⟩ (.string rf.name)).setCell ⟨xb,1,none⟩ (.int .i64 rf.gen)).setCell ⟨xb,2,none⟩ (.int .i64 rf.size)):=⟨_,rfl⟩;have HN:=an (show Below w.heap.size w Y by rw[hY]; exact gW h9.o (by omega));have HW:=an (show Y.heap[xb]? =some (.cells #[.string rf.name, .int .i64 rf.gen, .int .i64 rf.size] 26 (0,0)) by rw[hY]; exact ve hU.o)
  have HS:=an (show Y.heap[w.heap.size]? =some (.cells #[.string ⟨#[]⟩, .int .i64 0, .int .i64 0] 26 (0,0)) by rw[hY]; exact(eh (by omega)).trans Hf.o);have SY:=an (show fV bb k c tv gv (.slice av n cvv) lg cl Y by rw[hY]; exact(eh (by omega)).trans SZ.o);rw[<-hY];clear hY z0 z1 z2 y0 y1 y2 SZ hU Hf h9;refine⟨SY.o, ?_⟩;refine cH (by kernel_rfl) ?_;go_wp2_with fail
  go_loopw [6] (fun i wr=> ∃j:Nat,j<=n/\i= .int .i64 (j:Int)/\(∀b∈bs.take j,¬b.ref=rf)/\Below Y.heap.size Y wr) (fun i _=>n-(intOf i).toNat)
  case atStart=>exact⟨0,aX _,rfl,by simp,ay _ _⟩
  case round=>
   obtain⟨j,hj,rfl,HF,hb⟩:=hrel;have Ha:=an HF;have HB:=an hb;have h8:=an (aw HN.o hb);have Hi:=an (dV hb HW.o);have Hw:=an (dV hb HS.o);have SW:=an (fV.below SY.o hb);clear HF hb
   by_cases H2:j<n
   ·obtain⟨z,hz⟩: ∃z,zs[j]? =some z:=⟨zs[j]'(by rw[<-hL.o]; exact H2),by simp⟩;have Hz:=an (HO.o.dat z (aS hz));have HA:=an (show bs[j]? =some z.2 by rw[<-Hj.o,bn,hz]; rfl);have hO:=cG (cU HO.o.row h8.o);rw[<-hL.o]at hO;obtain⟨gb,go,rfl,-,H5,hh⟩:=sI (by rw[<-hL.o]; exact hO) hz;have q0:=hh 0 (by omega)
    have q1:=hh 1 (by omega);have q2:=hh 2 (by omega);have q3:=hh 3 (by omega);simp only[nL,aj,am,de]at q0 q1 q2 q3;obtain⟨za,zc,Hs,-,-⟩:=aI Hz.o;rw[Hs]at q3;have HX:=an Hs;obtain⟨zl,Hq⟩: ∃zl,zl=z.2.con.length:=⟨_,rfl⟩;rw[<-Hq]at q3;have HC:=an Hq;have HD:=an q3;obtain⟨r,hr⟩: ∃r,r=z.2.ref:=⟨_,rfl⟩
    rw[<-hr]at q0 q1 q2;have HR:=an hr;have h4:=Oz r rf;have ha:=SW.o;unfold fV at ha;have k0:=aA (k:=0) ha;have k1:=aA (k:=1) ha;have k2:=aA (k:=2) ha;have k3:=aA (k:=3) ha;have k4:=aA (k:=4) ha;have k11:=aA (k:=11) ha;have k12:=aA (k:=12) ha;have k14:=aA (k:=14) ha;simp only[tr,eI,fR,aM,aL,ak,am,aj]at k0 k1 k2 k3 k4 k11 k12 k14
    obtain⟨p0,p1,p2,_⟩:=aT Hi.o;unfold fa at h4;clear ha hO hz hh q3 Hs Hq hr k0 k1 k2 k3 k4 k11 k14
    by_cases hm:r=rf
    ·have e1:decide (r=rf)=true:=by simp[hm]
     rw[e1]at h4;clear e1;go_wp2_with fail
     go_quiet (fail)
     obtain⟨W2,hM⟩: ∃W,W=wr.drewN nq:=⟨_,rfl⟩;rw[<-hM];have hd:Below wr.heap.size wr W2:=by rw[hM]; exact pp wr nq
     have hX:=an (show pQ k gs (bs,cl) x=(bs,cl || !decide (z.2.con=x)) by
      unfold pQ;rw[Gu (b:=z.2) HA.o (by rw[<-HR.o,<-hF.o]; simp[hm]) (fun y hy=>by rw[<-hF.o]; simpa using Ha.o y hy)])
     have HM:=an (aw h8.o hd);have Hx:=an (dV hd Hi.o);have Hu:=an (dV hd Hw.o);have S3:=an (fV.below SW.o hd);have HQ:=an ((hd.cell (p:=⟨gb,go+j*4+3,none⟩) (bS HD.o)).trans HD.o);clear hM hd k12 q0 q1 q2 p0 p1 p2 h4;go_wp2_with fail;obtain⟨W3,hN⟩: ∃W,W=W2.drew:=⟨_,rfl⟩;refine ey (fun w'=>fV bb k c tv gv (.slice (some ⟨gb,go,none⟩) n cvv) lg cl w'/\w'.cell? ⟨gb,go+j*4+3,none⟩=some (.slice za zl zc)/\bG (fun _=>True) w' (.slice za zl zc) z.2.con/\bG (fun _=>True) w' (.slice ax xl cx) x) (by kernel_rfl) (by kernel_rfl) ?_
     simp only[bw,bz,aG,bo,Nat.reduceAdd,Nat.reduceSub];rw[<-hN];have hs:Below W2.heap.size W2 W3:=by rw[hN]; exact(ay _ _).drew
     have hu:=an (aw HM.o hs);have hH:=an (dV hs Hx.o);have hR:=an (dV hs Hu.o);have S4:=an (fV.below S3.o hs);have SM:=an (show fV bb k c tv gv (.slice (some ⟨gb,go,none⟩) n cvv) lg cl W3/\W3.cell? ⟨gb,go+j*4+3,none⟩=some (.slice za zl zc)/\bG (fun _=>True) W3 (.slice za zl zc) z.2.con/\bG (fun _=>True) W3 (.slice ax xl cx) x from
      ⟨S4.o,(hs.cell (p:=⟨gb,go+j*4+3,none⟩) (bS HQ.o)).trans HQ.o,by
       have h1:=cG (cU Hz.o hu.o);rw[HX.o,<-HC.o]at h1
       show cE _ W3 1 _ z.2.con.length (z.2.con.map aY)
       rw[<-HC.o];exact h1.weak fun _ _=>trivial,by
       have h1:=cG (cU hW.o hu.o)
       show cE _ W3 1 _ x.length (x.map aY)
       rw[<-hJ.o];exact h1.weak fun _ _=>trivial⟩)
     clear hs hN S3 Hx Hu HQ
     cases cl with
     | true=>
      iterate 6 (refine cF rfl (by kernel_rfl) (fun _ _ _ h=>h) rfl SM.o (by rintro w' ⟨ha,hq,hB,hC⟩; unfold fV at ha; have k12:=aA (k:=12) ha; have k14:=aA (k:=14) ha; have HE:=ir hB; have h3:=ir hC; simp only[tr,eI,fR,aM,aL,ak,am,aj]at k12 k14; clear ha hB hC; go_simp; rfl) ?_; simp only[Act.put,ag,ai,ah])
      iterate 12 (refine LA rfl (by kernel_rfl) (fun _ _ _ h=>h) rfl SM.o ?_; simp only[Act.put,ag,ai,ah])
      iterate 3 (refine cF rfl (by kernel_rfl) (fun _ _ _ h=>h) rfl SM.o (by rintro w' ⟨ha,hq,hB,hC⟩; unfold fV at ha; have k12:=aA (k:=12) ha; have k14:=aA (k:=14) ha; have HE:=ir hB; have h3:=ir hC; simp only[tr,eI,fR,aM,aL,ak,am,aj]at k12 k14; clear ha hB hC; go_simp; rfl) ?_; simp only[Act.put,ag,ai,ah])
      refine cH (by kernel_rfl) ?_;refine eJ rfl rfl (fun K hK=> ?_);have ha:=S4.o;unfold fV at ha;have k0:=aA (k:=0) ha;have k1:=aA (k:=1) ha;have k2:=aA (k:=2) ha;have k3:=aA (k:=3) ha;have k4:=aA (k:=4) ha;have k11:=aA (k:=11) ha;have k12:=aA (k:=12) ha;have k14:=aA (k:=14) ha;simp only[tr,eI,fR,aM,aL,ak,am,aj]at k0 k1 k2 k3 k4 k11 k12 k14
      have kz14:=dy (k:=14) ha;clear ha
      go_upto_region 7 with(fail)
      have hh:=jV.clash (HH.o.below hu.o) (true) hbe;have Hb:=an (show pQ k gs (bs,_) x=(bs,true) by rw[hX.o]; by_cases he:z.2.con=x<;> simp[he]);obtain⟨W5,hp⟩: ∃W,W=W3.setCell ⟨bb,14,none⟩ (.bool (true)):=⟨_,rfl⟩;have Hg:=an (show W5.heap[xb]? =some (.cells #[.string rf.name, .int .i64 rf.gen, .int .i64 rf.size] 26 (0,0)) by rw[hp]; exact(aF _ _ _ _ (show xb≠bb by omega)).trans hH.o)
      have hD:=an (show W5.heap[w.heap.size]? =some (.cells #[.string ⟨#[]⟩, .int .i64 0, .int .i64 0] 26 (0,0)) by rw[hp]; exact(aF _ _ _ _ (show w.heap.size≠bb by omega)).trans hR.o);rw[<-hp]at hh ⊢;have hS:=an hh;clear hh hp k0 k1 k2 k3 k4 k11 k12 k14 kz14 SM S4 hH hR;obtain⟨p0,p1,p2,_⟩:=aT Hg.o;obtain⟨z0,z1,z2,_⟩:=aT hD.o;obtain⟨y0,y1,y2,_⟩:=gu hD.o
      go_wp2_with fail;refine Bi hD.o rfl rfl ?_;refine⟨by rw[<-hF.o]; rfl, .slice (some ⟨gb,go,none⟩) n cvv, ?_, ?_⟩
      ·rw[Hb.o];exact hS.o.1.other hD.o (by decide) (by decide) (by decide) (fun i hi _=>eh hi)
      ·exact((((jC.ofBelow hu.o hf).trans hS.o.2).setNew (au _) hf).setNew (au _) hf).setNew (au _) hf
     | false=>
      iterate 21 (refine cF rfl (by kernel_rfl) (fun _ _ _ h=>h) rfl SM.o (by rintro w' ⟨ha,hq,hB,hC⟩; unfold fV at ha; have k12:=aA (k:=12) ha; have k14:=aA (k:=14) ha; have HE:=ir hB; have h3:=ir hC; simp only[tr,eI,fR,aM,aL,ak,am,aj]at k12 k14; clear ha hB hC; go_simp; rfl) ?_; simp only[Act.put,ag,ai,ah])
      refine cH (by kernel_rfl) ?_;refine eJ rfl rfl (fun K hK=> ?_);have ha:=S4.o;unfold fV at ha;have k0:=aA (k:=0) ha;have k1:=aA (k:=1) ha;have k2:=aA (k:=2) ha;have k3:=aA (k:=3) ha;have k4:=aA (k:=4) ha;have k11:=aA (k:=11) ha;have k12:=aA (k:=12) ha;have k14:=aA (k:=14) ha;simp only[tr,eI,fR,aM,aL,ak,am,aj]at k0 k1 k2 k3 k4 k11 k12 k14
      have kz14:=dy (k:=14) ha;clear ha
      go_upto_region 7 with(fail)
      have hh:=jV.clash (HH.o.below hu.o) ((!(z.2.con == x))) hbe;have Hb:=an (show pQ k gs (bs,_) x=(bs,(!(z.2.con == x))) by rw[hX.o]; by_cases he:z.2.con=x<;> simp[he]);obtain⟨W5,hp⟩: ∃W,W=W3.setCell ⟨bb,14,none⟩ (.bool ((!(z.2.con == x)))):=⟨_,rfl⟩;have Hg:=an (show W5.heap[xb]? =some (.cells #[.string rf.name, .int .i64 rf.gen, .int .i64 rf.size] 26 (0,0)) by rw[hp]; exact(aF _ _ _ _ (show xb≠bb by omega)).trans hH.o)
      have hD:=an (show W5.heap[w.heap.size]? =some (.cells #[.string ⟨#[]⟩, .int .i64 0, .int .i64 0] 26 (0,0)) by rw[hp]; exact(aF _ _ _ _ (show w.heap.size≠bb by omega)).trans hR.o);rw[<-hp]at hh ⊢;have hS:=an hh;clear hh hp k0 k1 k2 k3 k4 k11 k12 k14 kz14 SM S4 hH hR;obtain⟨p0,p1,p2,_⟩:=aT Hg.o;obtain⟨z0,z1,z2,_⟩:=aT hD.o;obtain⟨y0,y1,y2,_⟩:=gu hD.o
      go_wp2_with fail;refine Bi hD.o rfl rfl ?_;refine⟨by rw[<-hF.o]; rfl, .slice (some ⟨gb,go,none⟩) n cvv, ?_, ?_⟩
      ·rw[Hb.o];exact hS.o.1.other hD.o (by decide) (by decide) (by decide) (fun i hi _=>eh hi)
      ·exact((((jC.ofBelow hu.o hf).trans hS.o.2).setNew (au _) hf).setNew (au _) hf).setNew (au _) hf
    ·have e1:decide (r=rf)=false:=by simp[hm]
     rw[e1]at h4;have HT:=an (show ∀b∈bs.take (j+1),¬b.ref=rf by
      rw[dZ HA.o];intro b hb
      rcases aU.1 hb with hb | hb
      ·exact Ha.o b hb
      ·rw[aQ]at hb; subst hb; rw[<-HR.o]; exact hm)
     clear e1 hm;go_wp2_with fail
     go_quiet (fail)
     obtain⟨W2,hM⟩: ∃W,W=wr.drewN nq:=⟨_,rfl⟩;rw[<-hM];have hd:Below wr.heap.size wr W2:=by rw[hM]; exact pp wr nq
     clear hM;go_wp2_with fail
     go_roundw
     case rel=>exact⟨j+1,by omega,by go_num,HT.o,HB.o.trans (hd.mono HB.o.size)⟩
     case measure=>simp[intOf]; omega
   ·have H1:j=n:=by omega
    subst H1;have hX:=an (show pQ k gs (bs,cl) x=(bs++[⟨rf,x⟩],cl) by
     unfold pQ;rw[<-hF.o];rw[eS.2 (fun y hy=>by
      have:=Ha.o y (by rw[bC (by rw[<-Hj.o,aE,<-hL.o]; exact au _)]; exact hy)
      simpa using this)])
    have ha:=SW.o;unfold fV at ha;have k0:=aA (k:=0) ha;have k1:=aA (k:=1) ha;have k2:=aA (k:=2) ha;have k3:=aA (k:=3) ha;have k4:=aA (k:=4) ha;have k11:=aA (k:=11) ha;have k12:=aA (k:=12) ha;have k14:=aA (k:=14) ha;simp only[tr,eI,fR,aM,aL,ak,am,aj]at k0 k1 k2 k3 k4 k11 k12 k14
    clear ha k0 k1 k2 k3 k4 k11 k14;go_wp2_with fail;clear k12;obtain⟨W3,hN⟩: ∃W,W=wr.drew:=⟨_,rfl⟩;refine ey (fun w'=>fV bb k c tv gv (.slice av j cvv) lg cl w'/\w'.heap[xb]? =some (.cells #[.string rf.name, .int .i64 rf.gen, .int .i64 rf.size] 26 (0,0))) (by kernel_rfl) (by kernel_rfl) ?_;simp only[bw,bz,aG,bo,Nat.reduceAdd,Nat.reduceSub]
    rw[<-hN];have hs:Below wr.heap.size wr W3:=by rw[hN]; exact(ay _ _).drew
    have hu:=an (aw h8.o hs);have hH:=an (dV hs Hi.o);have hR:=an (dV hs Hw.o);have S4:=an (fV.below SW.o hs);have SM:=an (aD S4.o hH.o);clear hs hN
    iterate 8 (refine cF rfl (by kernel_rfl) (fun _ _ _ h=>h) rfl SM.o (by rintro w' ⟨ha,hA⟩; unfold fV at ha; have k12:=aA (k:=12) ha; have p0:=bH (k:=0) hA; have p1:=bH (k:=1) hA; have p2:=bH (k:=2) hA; simp only[tr,eI,fR,aM,aL,ak,am,aj]at k12 p0 p1 p2; clear ha hA; go_simp; rfl) ?_; simp only[Act.put,ag,ai,ah])
    refine cy 8 rfl (fun K hK=> ?_);go_wp2_with fail;have Hl:=(ay W3.heap.size W3).alloc (au _) (.cells #[.string rf.name, .int .i64 rf.gen, .int .i64 rf.size, .slice ax xl cx] 53);have HY:=an (aD (fV.below S4.o Hl) (dV Hl hH.o));have Hd:=an (HO.o.below hu.o);have HV:=an (cU hW.o hu.o);clear Hl SM;refine⟨HY.o, ?_⟩;refine cy 9 rfl (fun K hK=> ?_)
    go_wp2_with (at_builtin; go_must (refine bR Tryz.appBlobs rfl _ _ rfl base (.slice av j cvv) j (kh zs) rfl W3 [.string rf.name, .int .i64 rf.gen, .int .i64 rf.size, .slice ax xl cx] _ rfl rfl (tN (b:=⟨rf,x⟩)) (by have h1:=Hd.o.row; rw[<-hL.o]at h1; exact h1) (by omega) (aB hf hu.o.size) ?_); intro v' wc hw hg _ HI; obtain⟨ae,ce,rfl,-,-⟩:=aI hw)
    have Hn:=Hd.o.row;rw[<-hL.o]at Hn;have Hm: ∀(i:Nat) (cs:Array Value) (t:TypeId) (z:Nat×Nat),W3.heap[i]? =some (.cells cs t z)->t≠53->i<W3.heap.size/\some i≠(Value.slice av j cvv).ownBlock:=fun i cs t z hi ht=>⟨az hi,fun e=>by
     obtain⟨cs2,h3⟩:=bL Hn e.symm;exact ht (bV hi h3)⟩
    have keepC: ∀(i:Nat) (cs:Array Value) (t:TypeId) (z:Nat×Nat),W3.heap[i]? =some (.cells cs t z)->t≠53->wc.heap[i]? =some (.cells cs t z):=fun i cs t z hi ht=>(hg.block i (Hm i cs t z hi ht).1 (fun e=>(Hm i cs t z hi ht).2 e)).trans hi
    have SC:=an (show fV bb k c tv gv (.slice av j cvv) lg cl wc from keepC _ _ _ _ S4.o (by decide));have Hh:=an (keepC _ _ _ _ hH.o (by decide));have Hv:=an (keepC _ _ _ _ hR.o (by decide));have SM:=an (aD SC.o Hh.o);have hI:=jV.push (c:=c) (k:=k) (tv:=tv) (gv:=gv) (lg:=lg) (cl:=cl) (b:=⟨rf,x⟩) Hj.o Hd.o S4.o (by have h1:=HV.o; rw[hJ.o]at h1; exact h1) (by rw[<-hL.o]; exact(by rw[<-hJ.o]; exact hw)) hg HI hbe
    have Hc:=an hI;have kb:bb<wc.heap.size:=az SC.o;have Hy:=an ((aF wc ⟨bb,12,none⟩ (.slice ae (j+1) ce) xb (show xb≠bb by omega)).trans Hh.o);have hT:=an ((aF wc ⟨bb,12,none⟩ (.slice ae (j+1) ce) w.heap.size (show w.heap.size≠bb by omega)).trans Hv.o);clear hw hg HI Hn Hm keepC hI;refine⟨SM.o, ?_⟩
    iterate 2 (refine cF rfl (by kernel_rfl) (fun _ _ _ h=>h) rfl SM.o (by rintro w' ⟨ha,hA⟩; unfold fV at ha; have k12:=aA (k:=12) ha; have p0:=bH (k:=0) hA; have p1:=bH (k:=1) hA; have p2:=bH (k:=2) hA; simp only[tr,eI,fR,aM,aL,ak,am,aj]at k12 p0 p1 p2; clear ha hA; go_simp; rfl) ?_; simp only[Act.put,ag,ai,ah])
    refine cH (by kernel_rfl) ?_;refine eJ rfl rfl (fun K hK=> ?_);have ha:=SC.o;unfold fV at ha;have k12:=aA (k:=12) ha;have kz12:=dy (k:=12) ha;simp only[tr,eI,fR,aM,aL,ak,am,aj]at k12;clear ha
    go_upto_region 9 with(fail)
    obtain⟨W5,hp⟩: ∃W,W=wc.setCell ⟨bb,12,none⟩ (.slice ae (j+1) ce):=⟨_,rfl⟩;rw[<-hp]at Hc Hy hT ⊢;clear hp k12 kz12 SM SC Hh Hv kb;obtain⟨p0,p1,p2,_⟩:=aT Hy.o;obtain⟨z0,z1,z2,_⟩:=aT hT.o;obtain⟨y0,y1,y2,_⟩:=gu hT.o;go_wp2_with fail;refine Bi hT.o rfl rfl ?_;refine⟨by rw[<-hF.o]; rfl, .slice ae (j+1) ce, ?_, ?_⟩
    ·rw[hX.o];exact Hc.o.1.other hT.o (by decide) (by decide) (by decide) (fun i hi _=>eh hi)
    ·exact((((jC.ofBelow hu.o hf).trans Hc.o.2).setNew (au _) hf).setNew (au _) hf).setNew (au _) hf
theorem jV.otherRow {w w':World} {base bb B sz n:Nat} {k:dm} {c:fL} {tv gv v r:Value} {lg:Bool} {s:List dq×Bool} {t:TypeId} {xs:List Value} (h:jV w base bb k c tv gv v lg s) (hr:w.ownsRow B t sz r n xs) (hg:w.grownBy w' r.ownBlock) (h1:t≠130) (h2:t≠53) (h3:t≠5):jV w' base bb k c tv gv v lg s:=by
 obtain⟨zs,hz,ho,hd⟩:=h.own;refine⟨(hg.block bb (az h.box) (fun e=> ?_)).trans h.box,zs,hz,gI ho hr hg (fun e=>h2 e.symm),fun z hz=>gI (hd z hz) hr hg (fun e=>h3 e.symm)⟩;obtain⟨cs,hc⟩:=bL hr e.symm;exact h1 (bV hc h.box)
theorem jC.otherRow {w0 w w':World} {base bb B sz n:Nat} {v v' r:Value} {t:TypeId} {xs:List Value} (h:jC base bb v v' w0 w) (hr:w.ownsRow B t sz r n xs) (hg:w.grownBy w' r.ownBlock) (hB:w0.heap.size<=B) (hbz:base<=w0.heap.size):jC base bb v v' w0 w':=
 ⟨h.below.grown hg (aB hbz h.below.size) (fun i hi=>aB (aB hbz hB) (hr.lt i hi).1),fun i h1 h2 h3=>(hg.block i (aR h1 h.below.size) (fun e=>by have:=(hr.lt i e.symm).1; omega)).trans (h.same i h1 h2 h3),h.place⟩
structure rD (w : World) (B M : Nat) (iv : Value) (its : List cr) : Prop where
 row: ∃zs:List uz,zs.map Prod.snd=its/\w.ownsRow B 28 10 iv zs.length (pI zs)/\(∀i,iv.ownBlock=some i->i<M)/\ ∀z∈zs,(w.ownsRow B 26 3 z.1 z.2.chunks.length (z.2.chunks.flatMap ji)/\ii z.2/\ ∀r∈z.2.chunks,eC r)/\ ∀i,z.1.ownBlock=some i->i<M
theorem lC.lt {w:World} {B:Nat} {iv:Value} {its:List cr} (h:lC w B iv its):rD w B w.heap.size iv its:=by
 obtain⟨zs,h1,h2,h3⟩:=h.row;exact⟨zs,h1,h2,fun i hi=>(h2.lt i hi).2,fun z hz=>⟨h3 z hz,fun i hi=>((h3 z hz).1.lt i hi).2⟩⟩
theorem rD.own {w:World} {B M:Nat} {iv:Value} {its:List cr} (h:rD w B M iv its):lC w B iv its:=by
 obtain⟨zs,h1,h2,_,h3⟩:=h.row;exact⟨zs,h1,h2,fun z hz=>(h3 z hz).1⟩
theorem rD.same {w w':World} {B M:Nat} {iv:Value} {its:List cr} (h:rD w B M iv its) (hs: ∀i,i<M->w'.heap[i]? =w.heap[i]?):rD w' B M iv its:=by
 obtain⟨zs,h1,h2,h4,h3⟩:=h.row;exact⟨zs,h1,eV h2 (fun i _ hi=>hs i (h4 i hi)),h4,fun z hz=>⟨⟨eV (h3 z hz).1.1 (fun i _ hi=>hs i ((h3 z hz).2 i hi)),(h3 z hz).1.2⟩,(h3 z hz).2⟩⟩
theorem rD.keep {w w':World} {base bb B M:Nat} {k:dm} {c:fL} {tv gv v v' iv:Value} {lg:Bool} {s:List dq×Bool} {its:List cr} (hi:rD w B M iv its) (h:jV w base bb k c tv gv v lg s) (hk:jC base bb v v' w w'):rD w' B M iv its:=by
 obtain⟨zs,h1,h2,h4,h3⟩:=hi.row;exact⟨zs,h1,jC.row h hk h2 (by decide) (by decide),h4,fun z hz=>⟨⟨jC.row h hk (h3 z hz).1.1 (by decide) (by decide),(h3 z hz).1.2⟩,(h3 z hz).2⟩⟩
structure KG (w : World) (base bb : Nat) (k : dm) (c : fL) (tv gv v : Value) (lg : Bool) (wr : World) (v2 iv : Value) (s2 : List dq × Bool) (its : List cr) : Prop where
 bd:jV wr base bb k c tv gv v2 lg s2
 kp:jC base bb v v2 w wr
 its:lC wr w.heap.size iv its
 res:wr.heap[w.heap.size]? =some (.cells #[.string ⟨#[]⟩, .int .i64 0, .int .i64 0] 26 (0,0))
structure yK (w : World) (base bb : Nat) (k : dm) (c : fL) (tv gv v : Value) (lg : Bool) (M xb : Nat) (wr : World) (v2 iv : Value) (s2 : List dq × Bool) (its : List cr) (rv : Value) (it : cr) (rs : List cX) : Prop where
 bd:jV wr base bb k c tv gv v2 lg s2
 kp:jC base bb v v2 w wr
 its:rD wr w.heap.size M iv its
 res:wr.heap[w.heap.size]? =some (.cells #[.string ⟨#[]⟩, .int .i64 0, .int .i64 0] 26 (0,0))
 box:wr.heap[xb]? =some (.cells (fh rv it).toArray 28 (0,0))
 row:wr.ownsRow M 26 3 rv rs.length (rs.flatMap ji)
 mark:w.heap.size<M/\M<=xb
section
variable {w wr w' : World} {base bb M xb : Nat} {k : dm} {c : fL} {tv gv v v2 v3 iv rv : Value} {lg : Bool} {s2 s3 : List dq × Bool} {its : List cr} {it : cr} {rs : List cX}
theorem KG.step (h:KG w base bb k c tv gv v lg wr v2 iv s2 its) (h1:jV w' base bb k c tv gv v3 lg s3) (h2:jC base bb v2 v3 wr w'):KG w base bb k c tv gv v lg w' v3 iv s3 its:=
 ⟨h1,h.kp.trans h2,(h.its.lt.keep h.bd h2).own,jC.blk h.bd h2 h.res (by decide) (by decide)⟩
theorem KG.below (h:KG w base bb k c tv gv v lg wr v2 iv s2 its) (hb:Below wr.heap.size wr w') (hbz:base<=wr.heap.size):KG w base bb k c tv gv v lg w' v2 iv s2 its:=
 h.step (h.bd.below hb) (jC.ofBelow hb hbz)
theorem yK.step (h:yK w base bb k c tv gv v lg M xb wr v2 iv s2 its rv it rs) (h1:jV w' base bb k c tv gv v3 lg s3) (h2:jC base bb v2 v3 wr w'):yK w base bb k c tv gv v lg M xb w' v3 iv s3 its rv it rs:=
 ⟨h1,h.kp.trans h2,h.its.keep h.bd h2,jC.blk h.bd h2 h.res (by decide) (by decide),jC.blk h.bd h2 h.box (by decide) (by decide),jC.row h.bd h2 h.row (by decide) (by decide),h.mark⟩
theorem yK.below (h:yK w base bb k c tv gv v lg M xb wr v2 iv s2 its rv it rs) (hb:Below wr.heap.size wr w') (hbz:base<=wr.heap.size):yK w base bb k c tv gv v lg M xb w' v2 iv s2 its rv it rs:=
 h.step (h.bd.below hb) (jC.ofBelow hb hbz)
theorem KG.item {W:World} (h:KG w base bb k c tv gv v lg wr v2 iv s2 its) (hb:Below wr.heap.size wr W) (hbx:W.heap[xb]? =some (.cells (fh (.slice none 0 0) it).toArray 28 (0,0))) (hx:wr.heap.size<=xb) (hbz:base<=wr.heap.size):yK w base bb k c tv gv v lg wr.heap.size xb W v2 iv s2 its (.slice none 0 0) it []:=by
 have h2:=h.below hb hbz;exact⟨h2.bd,h2.kp,h.its.lt.same (fun i hi=>hb.block i hi),h2.res,hbx,bN _ _ _ _,az h.res,hx⟩
theorem yK.set (h:yK w base bb k c tv gv v lg M xb wr v2 iv s2 its rv it rs) {q:Nat} {u:Value} {it':cr} (hc:(fh rv it).toArray.setIfInBounds q u=(fh rv it').toArray) (hbz:base<=w.heap.size):yK w base bb k c tv gv v lg M xb (wr.setCell ⟨xb,q,none⟩ u) v2 iv s2 its rv it' rs:=by
 have hm:=h.mark;have hs: ∀j,j≠xb->(wr.setCell ⟨xb,q,none⟩ u).heap[j]? =wr.heap[j]? :=fun j hj=>aF _ _ _ _ hj
 refine⟨h.bd.other h.box (by decide) (by decide) (by decide) (fun j hj _=>hs j hj),h.kp.setNew (by omega) hbz,h.its.same (fun i hi=>hs i (by omega)),(hs _ (by omega)).trans h.res,by rw[<-hc]; exact jf h.box u,eV h.row (fun j hj hu=>hs j (fun e=> ?_)),hm⟩;obtain⟨cs2,ha⟩:=bL h.row hu;exact absurd (bV h.box (e▸ha)) (by decide)
theorem yK.push {wc:World} {rv':Value} {r:cX} (h:yK w base bb k c tv gv v lg M xb wr v2 iv s2 its rv it rs) (hown:wc.ownsRow M 26 3 rv' (rs.length+1) (rs.flatMap ji++ji r)) (hg:wr.grownBy wc rv.ownBlock) (hbz:base<=w.heap.size):yK w base bb k c tv gv v lg M xb (wc.setCell ⟨xb,6,none⟩ rv') v2 iv s2 its rv' it (rs++[r]):=by
 have hm:=h.mark;have hd:=az h.box;have hs: ∀j,j≠xb->(wc.setCell ⟨xb,6,none⟩ rv').heap[j]? =wc.heap[j]? :=fun j hj=>aF _ _ _ _ hj
 have ha:wc.heap[xb]? =some (.cells (fh rv it).toArray 28 (0,0)):=(hg.block xb hd (fun e=>by
  obtain⟨cs2,hb⟩:=bL h.row e.symm;exact absurd (bV h.box hb) (by decide))).trans h.box
 have hc:=h.bd.otherRow h.row hg (by decide) (by decide) (by decide);have hM: ∀i,i<M->(wc.setCell ⟨xb,6,none⟩ rv').heap[i]? =wr.heap[i]? :=fun i hi=>(hs i (by omega)).trans (hg.block i (by omega) (fun e=>by have:=(h.row.lt i e.symm).1; omega))
 refine⟨hc.other ha (by decide) (by decide) (by decide) (fun j hj _=>hs j hj),(h.kp.otherRow h.row hg (by omega) hbz).setNew (by omega) hbz,h.its.same hM,(hM _ hm.1).trans h.res, ?_, ?_,hm⟩
 ·have:=jf (k:=6) ha rv'
  simpa [fh]using this
 ·rw[ar,bW];have h1:wc.ownsRow M 26 3 rv' (rs.length+[r].length) (rs.flatMap ji++[r].flatMap ji):=by simpa using hown
  refine eV h1 (fun j hj hu=>hs j (fun e=> ?_));obtain⟨cs2,hb⟩:=bL h1 hu;exact absurd (bV ha (e▸hb)) (by decide)
theorem yK.done {wd:World} {iv':Value} {zs:List uz} (h:yK w base bb k c tv gv v lg M xb wr v2 iv s2 its rv it it.chunks) (hz:zs.map Prod.snd=its) (hrow:wr.ownsRow w.heap.size 28 10 iv zs.length (pI zs)) (hdat: ∀z∈zs,wr.ownsRow w.heap.size 26 3 z.1 z.2.chunks.length (z.2.chunks.flatMap ji)/\ii z.2/\ ∀r∈z.2.chunks,eC r)
  (hown:wd.ownsRow w.heap.size 28 10 iv' (zs.length+1) (pI zs++fh rv it)) (hg:wr.grownBy wd iv.ownBlock) (hok:ii it) (hrs: ∀r∈it.chunks,eC r) (hbz:base<=w.heap.size):KG w base bb k c tv gv v lg wd v2 iv' s2 (its++[it]):=by
 have hm:=h.mark;refine⟨h.bd.otherRow hrow hg (by decide) (by decide) (by decide),h.kp.otherRow hrow hg (au _) hbz,⟨zs++[(rv,it)],by simp[hz],by rw[ar,bQ,zC]; exact hown,fun z ha=> ?_⟩, ?_⟩
 ·rcases aU.1 ha with ha | ha
  ·exact⟨gI (hdat z ha).1 hrow hg (by decide),(hdat z ha).2⟩
  ·rw[aQ]at ha;subst ha;exact⟨gI (fT h.row (by omega)) hrow hg (by decide),hok,hrs⟩
 ·refine(hg.block _ (az h.res) (fun e=> ?_)).trans h.res;obtain⟨cs2,hb⟩:=bL hrow e.symm;exact absurd (bV h.res hb) (by decide)
end
theorem Ms {a:Act} {w:World} {b:Nat} {x0 x1 x2:Value} (h:w.heap[b]? =some (.cells #[x0,x1,x2] 26 (0,0)))
  (h4:a.tmps[4]? =some (.pointer (some ⟨b,0,none⟩))):(results Tryz.f76 a.tmps).run Tryz.prog w= .ok (.agg #[x0,x1,x2]) w:=by
 obtain⟨m0,m1,m2,_⟩:=aT h;simp[results,Tryz.results76,go_sem,h4,m0,m1,m2]
theorem Mr {a:Act} {w:World} {b:Nat} {a0 a1 a2 x0 x1 x2:Value} {Q:Ending->World->Prop} (h:w.heap[b]? =some (.cells #[a0,a1,a2] 26 (0,0)))
  (h4:a.tmps[4]? =some (.pointer (some ⟨b,0,none⟩))) (hd:a.defers=[])
  (hQ:Q (.returned (.agg #[x0,x1,x2])) (((w.setCell ⟨b,0,none⟩ x0).setCell ⟨b,1,none⟩ x1).setCell ⟨b,2,none⟩ x2)):
  bodyPost Tryz.prog Tryz.f76 Q Exit.ret a (((w.setCell ⟨b,0,none⟩ x0).setCell ⟨b,1,none⟩ x1).setCell ⟨b,2,none⟩ x2):=cN (Ms (ve h) h4) hd hQ
end Go.Proofs.YtpffpjbkbaleiaaGreatDoor
namespace Go.Proofs.YtpffpjbkbaleiaaGreatDoor
open Go.RowKit
theorem Ev {n:Nat} (h:n<=127):(bE n).length=1:=by
 unfold bE jM; rw[if_neg (by omega)]; rfl
structure nG (tree : List dj) : Prop where
 len:tree.length<=12
 data: ∀e∈tree,e.data.length<=60
theorem sP {c:fL} (hc:jJ c=true) (x:List UInt8):(fS c x).length<=x.length:=by
 have h: ∀(l:List (List UInt8)),(∀y∈l,1<=y.length)->l.length<=l.flatten.length:=by
  intro l
  induction l with
  | nil=>simp
  | cons y l ih=>
   intro h;have h1:=h y (by simp);have h2:=ih fun z hz=>h z (by simp[hz])
   rw[iC,ar,aG]; omega
 have:=h (fS c x) fun y hy=>(qr hc x y hy).1
 rw[sO]at this;exact this
theorem Li {c:fL} {x y:List UInt8} (h:y∈fS c x):y.length<=x.length:=by
 obtain⟨s,t,e⟩:=kC h;have h1:=sO c x;rw[e,List.flatten_append,iC]at h1;rw[<-h1];simp only[ar];omega
theorem IK (r:cX) (h:r.name.size=32):(fw r).length<=54:=by
 have h1:=dw r.gen.toNat
 have h2:=dw r.size.toNat
 unfold fw;simp only[ar,<-bi];omega
section
variable {k : dm} {gs : List (ByteArray × Int)} {c : fL} {tree : List dj}
theorem Ew (hg:kq gs) {y:List UInt8} (h:y.length<=60):(fw (bD k gs y)).length<=43:=by
 unfold fw;have h1:(bD k gs y).name.size=32:=lp _ _ _;have h2:=AZ hg (lW k 0 y);have h3:(bD k gs y).size=(y.length:Int):=rfl;have h4:=iE (n:=(bD k gs y).gen.toNat) (by
  show(mH gs (lW k 0 y)).toNat<_
  omega)
 rw[ar,ar,<-bi,h1,h3,Ev (n:=(y.length:Int).toNat) (by omega)];omega
theorem xx (hg:kq gs): ∀(l:List (List UInt8)),(∀y∈l,y.length<=60)->((l.map (bD k gs)).flatMap fw).length<=43*l.length
 | [],_=>by simp
 | y::l,h=>by
  have h1:=Ew (k:=k) hg (h y (by simp));have h2:=xx hg l fun z hz=>h z (by simp[hz])
  rw[cw,bq,ar,aG];omega
theorem LD (hg:kq gs) (hc:jJ c=true) {d:ByteArray} {e:dj} {nd:cX} (hv:gX e=true) (hp:cu (bl e.path)=bl d) (hd:e.data.length<=60) (hn:nd.name.size=32):(gp (cM k gs c d e nd)).length<=2720:=by
 have hk:=nw (cY hv) hp;have hl:(mM (bl d) (bl e.path)).length<=64:=by
  have h:=hk.comp;unfold iK at h;simp only[aJ,aK]at h;exact h.1.1.1.1.2
 have ha:(bl (cM k gs c d e nd).name).length<=64:=by
  show(bl ⟨(lV (bl d) (bl e.path)).toArray⟩).length<=64
  rw[iu]; exact hl
 have k1:=dw (cM k gs c d e nd).name.size;have k2:=dw (cM k gs c d e nd).kind.toNat
 have k3:=dw (cM k gs c d e nd).mode.toNat
 have k4:=dw (cM k gs c d e nd).time.toNat
 have ht:(lj (cM k gs c d e nd)).length<=2600:=by
  unfold lj
  show(if e.kind=1 then bE (if e.kind=1 then(fS c e.data).map (bD k gs)else []).length++(if e.kind=1 then(fS c e.data).map (bD k gs)else []).flatMap fw else if e.kind=2 then fw (if e.kind=2 then nd else ef)else bE e.link.size++bl e.link).length<=_
  by_cases h1:e.kind=1
  ·rw[if_pos h1,if_pos h1,ar];have h6:=xx (k:=k) hg (fS c e.data) fun y hy=>by have:=Li hy; omega
   have h2:=sP hc e.data;have h3:=dw ((fS c e.data).map (bD k gs)).length;omega
  ·rw[if_neg h1]
   by_cases h2:e.kind=2
   ·rw[if_pos h2,if_pos h2];have:=IK nd hn;omega
   ·rw[if_neg h2];have h3:=dw e.link.size
    rcases sQ hv with h4 | h4 | h4
    ·exact absurd h4.1 h1
    ·exact absurd h4.1 h2
    ·have:=h4.2.2.2.1;rw[ar,<-bi];omega
 unfold gp;simp only[ar];omega
theorem pm (hg:kq gs) (hc:jJ c=true) (h:yM tree) (hs:nG tree) (f:Nat) (d:ByteArray):(eK k gs c tree f d).1.length<=32768:=by
 cases f with
 | zero=>simp[eK]
 | succ f=>
  rw[gx]
  show(fY (nS k gs c tree f d)).length<=32768
  have hl:(dz tree d).length<=tree.length:=dF _ _;have hd:=hs.len;have hf: ∀(L:List dj),(∀e∈L,e∈dz tree d)->((L.map fun e=>cM k gs c d e (bD k gs (eK k gs c tree f e.path).1)).flatMap gp).length<=2720*L.length:=by
   intro L
   induction L with
   | nil=>simp
   | cons e L ih=>
    intro hL;have h1:=ih fun x hx=>hL x (by simp[hx])
    obtain⟨ha,hb⟩:=ez.1 (hL e (by simp));have h2:=LD (k:=k) (gs:=gs) (nd:=bD k gs (eK k gs c tree f e.path).1) hg hc (h.val e ha) hb (hs.data e ha) (lp _ _ _);rw[cw,bq,ar,aG];omega
  have h3:=hf (dz tree d) fun _ he=>he
  have h4:=dw (nS k gs c tree f d).length;unfold fY;rw[ar];have h5:((nS k gs c tree f d).flatMap gp).length<=2720*(dz tree d).length:=h3;omega
theorem rp (hg:kq gs) (hc:jJ c=true) (h:yM tree) (hs:nG tree): ∀(f:Nat) (d:ByteArray),mU k gs c tree f d=false
 | 0,_=>rfl
 | f+1,d=>by
  unfold mU;rw[fH,List.any_eq_false,ee];refine⟨fun e _=>by rw[rp hg hc h hs f e.path]; simp, ?_⟩;have:=pm (k:=k) hg hc h hs (f+1) d;omega
theorem mI :kq []:=fun p hp=>by cases hp
theorem BO (hk:jA k=true) (hc:jJ c=true) (hg:kq gs) (h:yM tree) (hs:nG tree):ik k c tree gs= .ok (bD k gs (eK k gs c tree 514 ⟨#[]⟩).1,et k gs (eK k gs c tree 514 ⟨#[]⟩).2 []):=by
 have h0:(bl (⟨#[]⟩:ByteArray)).length=0:=rfl;unfold ik;rw[if_pos ⟨hk,hc⟩,if_pos (by
  rw[cz];intro p hp;have:=hg p hp;simp only[aJ,aK];exact this),if_pos (pD.2 h),Gs h hc hg 514 ⟨#[]⟩ (by omega) (by omega),rp hg hc h hs]
 rfl
end
open Go Go.RowKit Go.Maps
theorem BN {k:dm} {c:fL} {tree:List dj} {gs:List (ByteArray×Int)} {r:cX} {bs:List dq} {w w':World} {e:Ending} (h:sC (ik k c tree gs) w e w') (hb:ik k c tree gs= .ok (r,bs)) (hr: ∀b∈bs,eC b.ref):
  Below w.heap.size w w'/\ ∃a cap,e= .returned (.tuple #[fa r, .slice a bs.length cap, .int .i64 0])/\bs.length<=cap/\cap<=maxLen/\ni (fun i=>w.heap.size<=i) w' (.slice a bs.length cap) bs:=by
 rw[hb]at h;obtain⟨h1,v,zs,h2,hc,h4⟩:=h;have h3:zs.map Prod.snd=bs:=hc;have ha:bs.length=zs.length:=by rw[<-h3,aE]
 obtain⟨a,cap,rfl,h5,h6⟩:=aI h4.row;refine⟨h1,a,cap,by rw[ha]; exact h2,by omega,h6,zs,h3, ?_,fun z hz=>⟨cE.weak (cG (h4.dat z hz)) (fun i hi=>hi.1),hr _ (by rw[<-h3]; exact aW.2 ⟨z,hz,rfl⟩)⟩⟩;rw[ha];exact cE.weak (cG h4.row) (fun i hi=>hi.1)
theorem rM {S:Nat->Prop} {w w':World} {a:Option Addr} {n cap:Nat} {bs:List dq} (h:ni S w (.slice a n cap) bs) (hb:Below w.heap.size w w') {k:Nat} {b:dq} (hk:bs[k]? =some b):
  ∃bk o za zc,a=some ⟨bk,o,none⟩/\bk<w.heap.size/\bG S w' (.slice za b.con.length zc) b.con/\w'.cell? ⟨bk,o+k*4,none⟩=some (.string b.ref.name)/\w'.cell? ⟨bk,o+k*4+1,none⟩=some (.int .i64 b.ref.gen)/\w'.cell? ⟨bk,o+k*4+2,none⟩=some (.int .i64 b.ref.size)/\w'.cell? ⟨bk,o+k*4+3,none⟩=some (.slice za b.con.length zc):=by
 obtain⟨zs,h1,h2,h3⟩:=h;rw[<-h1,bn,ie]at hk;obtain⟨z,hz,rfl⟩:=hk;obtain⟨bk,o,rfl,-,ha,hc⟩:=sI h2 hz;have hd:=(h3 z (aS hz)).1;obtain⟨_,za,zc,he,-,-,-⟩:=id hd;have g:=fun i (hi:i<4)=>(hb.cell (p:=⟨bk,o+k*4+i,none⟩) ha).trans (hc i hi)
 have q0:=g 0 (by omega);have q1:=g 1 (by omega);have q2:=g 2 (by omega);have q3:=g 3 (by omega);simp only[nL,aj,am,de]at q0 q1 q2 q3;rw[he]at q3;exact⟨bk,o,za,zc,rfl,ha,by rw[<-he]; exact cE.below hd (by omega) hb,q0,q1,q2,q3⟩
def MQ :List Value:=[.string ⟨#[97]⟩, .int .i64 1, .int .i64 0, .int .i64 0, .slice none 0 0, .string ⟨#[]⟩, .string ⟨#[100]⟩, .int .i64 2, .int .i64 0, .int .i64 0, .slice none 0 0, .string ⟨#[]⟩, .string ⟨#[100,47,108]⟩, .int .i64 3, .int .i64 5, .int .i64 6, .slice none 0 0, .string ⟨#[97]⟩]
theorem FL (S:Nat->Prop) (w:World):eQ (lX S w) MQ oF:=by
 refine⟨[.string ⟨#[97]⟩, .int .i64 1, .int .i64 0, .int .i64 0, .slice none 0 0, .string ⟨#[]⟩],_,rfl,⟨.slice none 0 0,rfl,dJ.nil _ _,⟨by decide,by decide,by decide,by decide,by decide⟩⟩, ?_⟩;refine⟨[.string ⟨#[100]⟩, .int .i64 2, .int .i64 0, .int .i64 0, .slice none 0 0, .string ⟨#[]⟩],_,rfl,⟨.slice none 0 0,rfl,dJ.nil _ _,⟨by decide,by decide,by decide,by decide,by decide⟩⟩, ?_⟩
 exact⟨[.string ⟨#[100,47,108]⟩, .int .i64 3, .int .i64 5, .int .i64 6, .slice none 0 0, .string ⟨#[97]⟩],[],rfl,⟨.slice none 0 0,rfl,dJ.nil _ _,⟨by decide,by decide,by decide,by decide,by decide⟩⟩,rfl⟩
theorem Eh {S:Nat->Prop} {w:World} {b o n c:Nat} {x:dq} {bs:List dq} (h:ni S w (.slice (some ⟨b,o,none⟩) (n+1) c) (x::bs)):ni S w (.slice (some ⟨b,o+4,none⟩) n (c-1)) bs:=by
 obtain⟨zs,h1,h2,h3⟩:=h
 cases zs with
 | nil=>simp at h1
 | cons z zs=>
  simp only[cw,fi]at h1;refine⟨zs,h1.2, ?_,fun y hy=>h3 y (by simp[hy])⟩;obtain⟨h4,a',c',he,h5,h6,h7⟩:=h2;simp only[cS,aG]at he;obtain⟨rfl,hn,rfl⟩:=he;have hb:(kh (z::zs)).length=4+(kh zs).length:=by unfold kh; rw[bq,ar]; rfl
  simp only[aG]at h4 h5 h7;refine⟨by omega,some ⟨b,o+4,none⟩,c-1,by rw[show n=zs.length by omega],by omega,by omega, ?_⟩
  rcases h7 with h7 | ⟨b9,o9,ha,hS,hc⟩
  ·omega
  ·cases ha
   refine .inr ⟨b,o+4,rfl,hS,fun j u hj=> ?_⟩;have:=hc (4+j) u (by
    unfold kh at hj ⊢;rw[bq,bI (by show 4<=_; omega)];rw[show 4+j-(nL z.1 z.2).length=j by show 4+j-4=j; omega];exact hj)
   rwa [<-df]at this
theorem Of :eC (bD eZ [] [0]):=jo (by simp) (by decide)
theorem Oe :eC qI:=jo (by simp) (by decide)
theorem GT :eC mX:=jo (by simp) (by decide+kernel)
theorem BJ (w:World) (hE:rx w):Calls Tryz.prog 14 #[] w fun e w'=>e= .returned (.bool true)/\Below w.heap.size w w':=by
 have HE:=an hE;obtain⟨W0,h9⟩: ∃W0,W0=w.alloc (.cells #[.int .u8 0] 5):=⟨_,rfl⟩;have Hj:Below w.heap.size w W0:=by rw[h9]; exact eN
 have HH:=an Hj;have HC:bG (fun i=>i=w.heap.size) W0 (.slice (some ⟨w.heap.size,0,none⟩) 1 1) [0]:=vJ (cells:=[aY 0]) (by rw[h9]; exact dY w _) rfl (by decide);have Hc:=zy _ [0] _ W0 HC (hE.below Hj).env;unfold BE at Hc;rw[OW]at Hc;have Hu:=an Hc;clear hE Hj HC Hc
 go_enter Tryz.func14,Tryz.ntmps14
 go_wp2_with fail;rw[<-h9];clear h9;refine Hu.o.mono ?_;rintro e w1 ⟨Hw,iv,rfl,HD⟩;obtain⟨ia,ic,rfl,-,-,-⟩:=cL.shape HD lr.len;have HI:=an (aw HH.o Hw);clear Hw HD Hu;go_wp2_with fail;refine(sW w1).mono ?_;rintro e w2 ⟨rfl,Hx⟩;have HJ:=an (aw HI.o Hx);clear Hx;go_wp2_with fail;refine(ou w2).mono ?_;rintro e w3 ⟨rfl,Hy⟩;have Hs:=an (aw HJ.o Hy)
 clear Hy;go_wp2_with fail;refine(tO (fun _=>True) (fun _=>True) eZ kF [] [] (.slice none 0 0) (.map none) w3 (by decide) (dP.nil _ _) (.inl ⟨rfl,rfl⟩) (HE.o.below Hs.o)).mono ?_;rintro e w4 hk;obtain⟨Hz,a4,c4,rfl,HX,H0,hI⟩:=BN hk ON (by intro b hb; simp only[aQ]at hb; subst hb; exact Of);obtain⟨r,hr⟩: ∃r,r=bD eZ [] [0]:=⟨_,rfl⟩
 rw[<-hr]at hI ⊢;have HK:=an (aw Hs.o Hz);have Hh:=an hI;unfold maxLen at H0;simp only[bQ]at HX ⊢;clear hk Hz hI hr;unfold fa;go_wp2_with fail;obtain⟨W5,Ha⟩: ∃W5:World,W5=(w4.alloc (.cells #[.string r.name, .int .i64 r.gen, .int .i64 r.size] 26)).drew:=⟨_,rfl⟩;have Hk:Below w4.heap.size w4 W5:=by rw[Ha]; exact(eN).drew
 have HP:=an (show W5.heap[w4.heap.size]? =some (.cells #[.string r.name, .int .i64 r.gen, .int .i64 r.size] 26 (0,0)) by rw[Ha]; exact dY w4 _);obtain⟨bk,o,za,zc,rfl,H4,hd,q0,q1,q2,q3⟩:=rM Hh.o Hk (k:=0) (b:=⟨r,[0]⟩) rfl;simp only[bQ,iZ,de]at hd q0 q1 q2 q3;have Hn:=ir hd;obtain⟨r0,r1,r2,_⟩:=aT HP.o
 have HL:=an (aw HK.o Hk);clear Hk hd;refine bP [some 32] (by kernel_rfl) (by kernel_rfl) (by kernel_rfl) ?_;simp only[dQ,aV,aZ];rw[<-Ha];clear Ha
 repeat (first | (refine cB rfl ?_; simp only[Act.put,ag,ai,ah]) | (refine cR rfl (fun K hK=> ?_); go_simp; refine hK _ ?_; clear hK K))
 refine cQ ?_;go_wp2_with fail;obtain⟨W6,Hb⟩: ∃W6:World,W6=W5.alloc (.cells MQ.toArray 79):=⟨_,rfl⟩;have HA:Below W5.heap.size W5 W6:=by rw[Hb]; exact eN
 have HM:=an (aw HL.o HA);have HW:=an (show dP (fun i=>i=W5.heap.size) W6 (.slice (some ⟨W5.heap.size,0,none⟩) 3 3) oF from⟨MQ,vJ (by rw[Hb]; exact dY W5 _) rfl (by decide),FL _ _⟩);have hY:W6=W5.alloc (.cells #[.string ⟨#[97]⟩, .int .i64 1, .int .i64 0, .int .i64 0, .slice none 0 0, .string ⟨#[]⟩, .string ⟨#[100]⟩, .int .i64 2, .int .i64 0, .int .i64 0, .slice none 0 0, .string ⟨#[]⟩, .string ⟨#[100,47,108]⟩, .int .i64 3, .int .i64 5, .int .i64 6, .slice none 0 0, .string ⟨#[97]⟩] 79):=Hb
 rw[<-hY];clear Hb hY HA q0 q1 q2 q3 r0 r1 r2 Hn;refine(sW W6).mono ?_;rintro e w7 ⟨rfl,Hl⟩;have HN:=an (aw HM.o Hl);have HU:=an (dP.below HW.o Hl);clear Hl;go_wp2_with fail;refine(ou w7).mono ?_;rintro e w8 ⟨rfl,Hm⟩;have Ht:=an (aw HN.o Hm);have HV:=an (dP.below HU.o Hm);clear Hm;go_wp2_with fail;refine(tO _ (fun _=>True) eZ kF oF [] _ (.map none) w8 (by decide) HV.o (.inl ⟨rfl,rfl⟩) (HE.o.below Ht.o)).mono ?_
 rintro e w9 hk;obtain⟨HB,a9,c9,rfl,HY,H1,hZ⟩:=BN hk OO (by intro b hb; simp only[bh,dt,or_false]at hb; rcases hb with rfl | rfl; exact Oe; exact GT);have HO:=an (aw Ht.o HB);have hl:=an hZ;unfold maxLen at H1;simp only[aG,bo,Nat.reduceAdd]at HY hl ⊢;clear hk HB hZ
 unfold fa;obtain⟨rt,Hr⟩: ∃rt,rt=mX:=⟨_,rfl⟩;have hJ:=an Hr;rw[<-Hr]at hl ⊢;clear Hr
 go_upto_region 7 with(fail)
 obtain⟨hG,hm⟩: ∃hG:World,hG=w9.alloc (.cells #[.string rt.name, .int .i64 rt.gen, .int .i64 rt.size] 26):=⟨_,rfl⟩;rw[<-hm];have ho:Below w9.heap.size w9 hG:=by rw[hm]; exact eN
 have Hd:=an (aw HO.o ho);have hS:=an (show hG.heap[w9.heap.size]? =some (.cells #[.string rt.name, .int .i64 rt.gen, .int .i64 rt.size] 26 (0,0)) by rw[hm]; exact dY w9 _);obtain⟨bb,oo,ya,yc,rfl,H3,hd,q0,q1,q2,q3⟩:=rM hl.o ho (k:=0) (b:=⟨qI,ry⟩) rfl;have Hn:(convert 29 9 (.slice ya 8 yc)).run Tryz.prog hG= .ok (.string ⟨#[1,1,108,3,5,6,1,97]⟩) hG:=ir hd
 replace q3:hG.cell? ⟨bb,oo+0*4+3,none⟩=some (.slice ya 8 yc):=q3
 simp only[iZ,de]at q0 q1 q2 q3;have he:=an (hl.o.below ho);clear hm ho hd
 go_upto_region 9 with(fail)
 clear q0 q1 q2 q3 Hn;go_wp2_with fail;refine(sL _ _ _ _ (Eh (n:=1) he.o) (by simp)).mono ?_;rintro e w11 ⟨mb,mm,rfl,H2,HG,Ho,hp⟩;have hL:=an (aw Hd.o hp);have hz:=an (show fU (fun _=>True) w11 (.map (some mb)) ws from by
  rw[hJ.o]at Ho;exact .inr ⟨mb,mm,rfl,trivial,HG.is,eY.wide Ho⟩)
 have hC:=an (dV hp hS.o);have hq:=an (he.o.below hp);clear hp H2 HG Ho he hS;obtain⟨r0,r1,r2,_⟩:=aT hC.o;go_wp2_with fail;have h7:=an (show eC rt by rw[hJ.o]; exact GT);have HS:=an (show oz ws rt= .error 10 by rw[hJ.o]; exact Py);have HT:=an (show LP ws rt= .ok [qI] by rw[hJ.o]; exact PC);have HQ:=an (show jW ws rt ⟨#[97]⟩= .ok sU by rw[hJ.o]; exact PB)
 have HR:=an (show jW ws rt ⟨#[100,47,108]⟩= .error 10 by rw[hJ.o]; exact Pb);refine(uT _ (.map (some mb)) ws rt w11 hz.o (HE.o.below hL.o).env h7.o).mono ?_;rintro e w12 ⟨hf,h1⟩;rw[HS.o]at h1;obtain⟨rfl,-⟩:=h1;have hM:=an (aw hL.o hf);have hA:=an (hz.o.below hf);have hD:=an (dV hf hC.o);have hs:=an (hq.o.below hf)
 clear hf hz hC hq r0 r1 r2;obtain⟨r0,r1,r2,_⟩:=aT hD.o;go_wp2_with fail;refine(ym (by decide) _ (.map (some mb)) rt w12 hA.o (HE.o.below hM.o).env h7.o).mono ?_;rintro e w13 ⟨hg,h4⟩;rw[HT.o]at h4;obtain⟨mv,rfl,Hp⟩:=h4;obtain⟨ma,mc,rfl,-,-,-⟩:=cL.shape Hp oJ.len;have Hv:=an Hp;have hN:=an (aw hM.o hg);have hB:=an (hA.o.below hg)
 have hF:=an (dV hg hD.o);have hu:=an (hs.o.below hg);clear hg Hp hA hD hs r0 r1 r2;obtain⟨r0,r1,r2,_⟩:=aT hF.o;go_wp2_with fail;refine(oM _ (.map (some mb)) ws rt ⟨#[97]⟩ w13 hB.o (HE.o.below hN.o).env h7.o).mono ?_;rintro e w14 ⟨ha,h2⟩;rw[HQ.o]at h2;obtain⟨lv,rfl,HF,-⟩:=h2;have He:=an (aw hN.o ha);have hQ:=an (hB.o.below ha)
 have hT:=an (dV ha hF.o);have hv:=an (hu.o.below ha);have hx:=an (cL.below Hv.o (by omega) ha (fun _ _ _ h=>h));obtain⟨la,lc,rfl,-,-,-⟩:=cL.shape HF oJ.len;clear ha HF hB hF hu Hv r0 r1 r2;unfold lT
 go_upto_region 13 with(fail)
 obtain⟨hX,hn⟩: ∃hX:World,hX=w14.alloc (.cells #[.string sU.name, .int .i64 sU.kind, .int .i64 sU.mode, .int .i64 sU.time, .int .i64 sU.size, .string sU.link, .slice la sU.chunks.length lc, .string sU.node.name, .int .i64 sU.node.gen, .int .i64 sU.node.size] 28):=⟨_,rfl⟩;rw[<-hn];have hc:Below w14.heap.size w14 hX:=by rw[hn]; exact eN
 have hV:=an (show hX.heap[w14.heap.size]? =some (.cells #[.string sU.name, .int .i64 sU.kind, .int .i64 sU.mode, .int .i64 sU.time, .int .i64 sU.size, .string sU.link, .slice la sU.chunks.length lc, .string sU.node.name, .int .i64 sU.node.gen, .int .i64 sU.node.size] 28 (0,0)) by rw[hn]; exact dY w14 _);have hO:=an (aw He.o hc);have hR:=an (hQ.o.below hc)
 have hU:=an (dV hc hT.o);have hw:=an (hv.o.below hc);have hy:=an (cL.below hx.o (by omega) hc (fun _ _ _ h=>h));clear hc hn hQ hT hv hx;obtain⟨r0,r1,r2,_⟩:=aT hU.o;go_wp2_with fail;refine(oM _ (.map (some mb)) ws rt ⟨#[100,47,108]⟩ hX hR.o (HE.o.below hO.o).env h7.o).mono ?_;rintro e w16 ⟨hh,h3⟩;rw[HR.o]at h3
 obtain⟨rfl,-⟩:=h3;have Hf:=an (aw hO.o hh);have Hi:=an (dV hh hV.o);have hP:=an (hw.o.below hh);have hW:=an (cL.below hy.o (by omega) hh (fun _ _ _ h=>h));clear hh hR hU hw hy hV r0 r1 r2
 go_upto_region 14 with(fail)
 obtain⟨h8,hH⟩: ∃h8:World,h8=(w16.alloc (.cells #[.string ⟨#[]⟩, .int .i64 0, .int .i64 0, .int .i64 0, .int .i64 0, .string ⟨#[]⟩, .slice none 0 0, .string ⟨#[]⟩, .int .i64 0, .int .i64 0] 28)).drew:=⟨_,rfl⟩;have hj:Below w16.heap.size w16 h8:=by rw[hH]; exact(eN).drew
 have Hg:=an (aw Hf.o hj);have h0:=dV hj Hi.o;have i1:=aA (k:=1) h0;simp only[ak,am,aj]at i1
 replace i1:h8.cell? ⟨w14.heap.size,1,none⟩=some (.int .i64 1):=i1
 obtain⟨mb2,mo2,rfl,-,p0,p1,p2⟩:=oE hW.o hj (k:=0) (r:=qI) rfl;obtain⟨rd,Hq⟩: ∃rd,rd=qI:=⟨_,rfl⟩;rw[<-Hq]at p0 p1 p2;obtain⟨b9,o9,y9,z9,HZ,-,-,q0,q1,q2,-⟩:=rM hP.o hj (k:=0) (b:=⟨qI,ry⟩) rfl
 cases HZ
 simp only at q0 q1 q2;rw[<-Hq]at q0 q1 q2;simp only[iZ,de]at p0 p1 p2 q0 q1 q2;clear h0 hj Hq;refine bP [some 35] (by kernel_rfl) (by kernel_rfl) (by kernel_rfl) ?_;simp only[dQ,aV,aZ];rw[<-hH];clear hH
 repeat (first | (refine cB rfl ?_; simp only[Act.put,ag,ai,ah]) | (refine cR rfl (fun K hK=> ?_); go_simp; refine hK _ ?_; clear hK K))
 refine cQ ?_;go_wp2_with fail;go_ret;exact⟨rfl,Hg.o⟩
end Go.Proofs.YtpffpjbkbaleiaaGreatDoor
namespace Go.Proofs.YtpffpjbkbaleiaaGreatDoor
open Go.RowKit
theorem FK (n:Nat):ob n<9223372036854775808:=by unfold ob wrap64; omega
theorem EL {data:List UInt8} {nm:List UInt8} {kd md td:Nat} {s s':RS} {it:cr} (h:ph data nm kd md td s=some (it,s')):it.time<9223372036854775808:=by
 unfold ph at h
 split at h
 ·simp only[br,cW]at h;rw[<-h.1];exact FK td
 ·split at h
  ·simp only[br,cW]at h;rw[<-h.1];exact FK td
  ·split at h
   ·simp only[br,cW]at h;rw[<-h.1];exact FK td
   ·cases h
theorem uQ {data:List UInt8} {s0:RS} : ∀(k:Nat) (l:List cr) (s:RS),jh data s0 k=some (l,s)-> ∀it∈l,it.time<9223372036854775808
 | 0,l,s,h=>by
  simp only[jh,br,cW]at h;obtain⟨rfl,rfl⟩:=h;intro it hit
  cases hit
 | k+1,l,s,h=>by
  cases hk:jh data s0 k with
  | none=>rw[mK,hk]at h; cases h
  | some p=>
   obtain⟨l1,s1⟩:=p
   cases hi:mZ data s1 with
   | none=>rw[uP hk hi]at h; cases h
   | some q=>
    obtain⟨it,s2⟩:=q;rw[mJ hk hi]at h;simp only[br,cW]at h;obtain⟨rfl,rfl⟩:=h;intro x hx
    rcases aU.1 hx with hx | hx
    ·exact uQ k l1 s1 hk x hx
    ·obtain rfl:=aQ.1 hx;exact EL hi
theorem CG {data:List UInt8} {l:List cr} (h:iR data=some l): ∀it∈l,it.time<9223372036854775808:=by
 by_cases hb:32768<data.length
 ·rw[wQ hb]at h; cases h
 ·obtain⟨n,s1,e1⟩: ∃n s1,AO data 4096 ⟨0,0,0⟩=(n,s1):=⟨_,_,rfl⟩
  cases e2:jh data s1 n with
  | none=>rw[uR hb e1 e2]at h; cases h
  | some p=>
   obtain⟨l2,s2⟩:=p;rw[qy hb e1 e2]at h
   split at h
   ·simp only[br]at h;subst h;exact uQ n l2 s2 e2
   ·cases h
end Go.Proofs.YtpffpjbkbaleiaaGreatDoor
namespace Go.Proofs.YtpffpjbkbaleiaaGreatDoor
theorem wv : ∀ {l m:List jF} {a b:List UInt8},fu l= .ok a->fu m= .ok b->fu (l++m)= .ok (a++b)
 | [],m,a,b,h1,h2=>by
  simp only[fu,dr]at h1;subst h1
  simpa using h2
 | y::l,m,a,b,h1,h2=>by
  rw[fu]at h1
  cases hy:lB y with
  | error e=>rw[hy]at h1; simp at h1
  | ok c=>
   rw[hy]at h1;simp only at h1
   cases hk:fu l with
   | error e=>rw[hk]at h1; simp at h1
   | ok d=>
    rw[hk]at h1;simp only[dr]at h1;subst h1;simp only[aM,fu,hy,wv hk h2,bp]
theorem iM {x:jF} {l:List jF} {a b:List UInt8} (h1:lB x= .ok a) (h2:fu l= .ok b):fu (x::l)= .ok (a++b):=by
 simp only[fu,h1,h2]
theorem qt {α:Type} {f:α->List jF} {g:α->List UInt8} : ∀ {l:List α},(∀x∈l,fu (f x)= .ok (g x))->fu (l.flatMap f)= .ok (l.flatMap g)
 | [],_=>rfl
 | x::l,h=>by
  rw[bq,bq];exact wv (h x (by simp)) (qt (fun y hy=>h y (by simp[hy])))
theorem qs {n:Int} (h0:0<=n) (h1:n<18446744073709551616):lB (iS n)= .ok (bE n.toNat):=by
 unfold lB iS;rw[if_pos rfl,show n%18446744073709551616=n by omega]
theorem ze (s:ByteArray):lB (oa s)= .ok (bE s.size++bl s):=by simp[lB,oa]
theorem Ln {s:ByteArray} (h:s.size=32):lB (FI s)= .ok (bl s):=by simp[lB,FI,h]
theorem wu (n:Nat):lB (jR n)= .ok (bE n):=by
 have h: ¬((n:Int)<0):=by omega
 have e:lB (jR n)=if(n:Int)<0 then .error 1 else .ok (bE (n:Int).toNat):=rfl
 rw[e,if_neg h,eE]
theorem ww {r:cX} (h:ld r=true):fu (eA r)= .ok (fw r):=by
 obtain⟨h1,h2,h3,h4,h5⟩:=mQ.1 h;have:=iM (Ln h1) (iM (qs h2 (by omega)) (iM (qs h4 (by omega)) (show fu []= .ok []from rfl)))
 simpa [eA,fw]using this
theorem Cm {it:cr} (hv:gO it=true) (ht:it.time<9223372036854775808):fu (fW it)= .ok (gp it):=by
 have ha:=hv;unfold gO at ha;rw[aJ]at ha;have hh:=pg.1 ha.1;have hk:=nA ha.2;have hb:fu (if it.kind=1 then jR it.chunks.length::it.chunks.flatMap eA else if it.kind=2 then eA it.node else [oa it.link])= .ok (lj it):=by
  unfold lj
  rcases hk with hk | hk | hk
  ·rw[if_pos hk,if_pos hk];exact iM (wu _) (qt (fun r hr=>ww ((lw hk ha.2).2.2.1 r hr).1))
  ·rw[if_neg (by omega),if_pos hk,if_neg (by omega),if_pos hk];exact ww (qn hk ha.2).2.2.2
  ·rw[if_neg (by omega),if_neg (by omega),if_neg (by omega),if_neg (by omega)];have:=iM (ze it.link) (show fu []= .ok []from rfl)
   simpa using this
 have:=iM (ze it.name) (iM (qs (n:=it.kind) (by omega) (by omega)) (iM (qs (n:=it.mode) hh.md0 (by have:=hh.md1; omega)) (iM (qs (n:=it.time) hh.tm0 (by omega)) hb)));unfold fW gp
 simpa using this
theorem LU {l:List cr} (hv:jB l=true) (ht: ∀it∈l,it.time<9223372036854775808) (hs:(fY l).length<=1048576):th l=fY l:=by
 have h:fu (iA l)= .ok (fY l):=by
  unfold iA fY;exact iM (wu _) (qt (fun it ha=>Cm ((nF hv).2 it ha) (ht it ha)))
 unfold th yf;rw[h];simp only;rw[if_neg (by omega)]
open Go.RowKit
theorem xd :ef.name.size=0:=rfl
theorem DV {it:cr} (hv:gO it=true):KD it/\kO it=true:=by
 unfold gO at hv;rw[aJ]at hv;exact⟨pg.1 hv.1,hv.2⟩
theorem EM {it:cr} (hv:gO it=true):vy it:=by
 obtain⟨hh,hb⟩:=DV hv;have hn:=sJ hh.val hh.nos;rw[<-bi]at hn;have he:(⟨#[]⟩:ByteArray).size=0:=rfl
 rcases nA hb with hk | hk | hk
 ·obtain⟨h1,h2,h3,-,-⟩:=lw hk hb;exact⟨by omega,by rw[h1,he]; omega,by rw[h2,xd]; omega,fun c hc=>by have:=(mQ.1 (h3 c hc).1).1; omega⟩
 ·obtain⟨h1,-,h3,h4⟩:=qn hk hb;exact⟨by omega,by rw[h1,he]; omega,by have:=(mQ.1 h4).1; omega,fun c hc=>by rw[h3]at hc; cases hc⟩
 ·obtain⟨-,h2,h3,h4,h5,-⟩:=qX hk hb;exact⟨by omega,by omega,by rw[h3,xd]; omega,fun c hc=>by rw[h2]at hc; cases hc⟩
section
variable {k : dm} {gs : List (ByteArray × Int)} {c : fL} {tree : List dj}
theorem wT {d:ByteArray} {j:Nat} {e:dj} (h:tree[j]? =some e):dz (tree.take (j+1)) d=dz (tree.take j) d++(if cu (bl e.path)=bl d then [e]else []):=by
 rw[dZ h];unfold dz;rw[gA]
 congr 1
 by_cases hp:cu (bl e.path)=bl d<;> simp[hp]
theorem Jd {d:ByteArray} {g:dj->List (List UInt8)} {j:Nat} {e:dj} (h:tree[j]? =some e) (hp:cu (bl e.path)=bl d):((dz (tree.take j) d).flatMap g).length+(g e).length<=((dz tree d).flatMap g).length:=by
 have h1:=wT (d:=d) h;rw[if_pos hp]at h1;have h2:dz tree d=dz (tree.take (j+1)) d++dz (tree.drop (j+1)) d:=by
  unfold dz;rw[<-gA,dx]
 rw[h2,h1,bW,bW,ar,ar];simp
theorem rk (cs:List (List UInt8)) (s:List dq×Bool):(gD k gs cs s).1.length<=s.1.length+cs.length:=by
 rw[uW]; exact qW k gs cs s.1
theorem pR (a b:List (List UInt8)) (s:List dq×Bool):gD k gs (a++b) s=gD k gs b (gD k gs a s):=by
 unfold gD; rw[eF]
theorem Fj {cs:List (List UInt8)} {s:List dq×Bool} {j:Nat} {x:List UInt8} (h:cs[j]? =some x):gD k gs (cs.take (j+1)) s=pQ k gs (gD k gs (cs.take j) s) x:=by
 rw[dZ h,pR]; rfl
theorem zu {d:ByteArray} {e:dj} {nd:cX} (h:gX e=true):(cM k gs c d e nd).size=(e.data.length:Int):=by
 show(if e.kind=1 then(e.data.length:Int)else 0)=_
 rcases sQ h with⟨h1,_⟩ | ⟨h1,h2,_⟩ | ⟨h1,h2,_⟩
 ·rw[if_pos h1]
 ·rw[if_neg (by omega),h2]; rfl
 ·rw[if_neg (by omega),h2]; rfl
theorem IW {it:cr} (hc:it.chunks.length<=60):(fW it).length<=250:=by
 have hf:(it.chunks.flatMap eA).length=3*it.chunks.length:=by
  induction it.chunks with
  | nil=>rfl
  | cons r l ih=>rw[bq,ar,ih,aG]; simp[eA]; omega
 unfold fW;rw[ar]
 split
 ·simp[hf]; omega
 ·split<;> simp[eA]
theorem Df {l:List cr} (hl:l.length<=12) (hc: ∀it∈l,it.chunks.length<=60):(iA l).length<=10000:=by
 have: ∀ {l:List cr},(∀it∈l,it.chunks.length<=60)->(l.flatMap fW).length<=250*l.length:=by
  intro l
  induction l with
  | nil=>intro _; simp
  | cons x l ih=>
   intro h;have h1:=IW (h x (by simp));have h2:=ih (fun y hy=>h y (by simp[hy]));rw[bq,ar,aG];omega
 have h:=this hc;unfold iA;rw[aG];omega
theorem EN (hc:jJ c=true) (hs:nG tree) (f:Nat) (d:ByteArray):(nS k gs c tree f d).length<=12/\ ∀it∈nS k gs c tree f d,it.chunks.length<=60:=by
 unfold nS;refine⟨?_,fun it ha=> ?_⟩
 ·rw[aE];exact aB (dF _ _) hs.len
 ·obtain⟨e,he,rfl⟩:=aW.1 ha
  show(if e.kind=1 then(fS c e.data).map (bD k gs)else []).length<=60
  split
  ·rw[aE];exact aB (sP hc _) (hs.data e (ez.1 he).1)
  ·simp
theorem IZ (hg:kq gs) (hc:jJ c=true) (h:yM tree) (hs:nG tree) (f:Nat) (d:ByteArray):jB (nS k gs c tree f d)=true:=
 rX h hc hg d (fun e=>bD k gs (eK k gs c tree f e.path).1) (fun e _ _=>lq hg (pm hg hc h hs f e.path))
theorem LJ {d:ByteArray} {e:dj} (h:gX e=true) (hp:cu (bl e.path)=bl d):wY (bl e.path)=⟨(lV (bl d) (bl e.path)).toArray⟩:=Je (nw (cY h) hp)
end
open Go.RowKit Go.Maps
def ks :List dj->ByteArray->Nat->Int
 | [],_,_=> -1
 | e::L,p,i=>if e.path=p then(i:Int)else ks L p (i+1)
theorem Cr {L:List dj} {p:ByteArray} {k:Nat} {e:dj} (h:L[k]? =some e):ks (L.drop k) p k=if e.path=p then(k:Int)else ks (L.drop (k+1)) p (k+1):=by
 obtain⟨hk,he⟩:=aN.1 h;rw[cI hk,ks,he]
theorem uK {p:ByteArray} : ∀(L:List dj) (i:Nat),(kM L p=none/\ks L p i= -1)\/ ∃j e,kM L p=some e/\L[j]? =some e/\ks L p i=((i+j:Nat):Int)
 | [],i=> .inl ⟨rfl,rfl⟩
 | e::L,i=>by
  by_cases h:e.path=p
  ·right
   refine⟨0,e, ?_,rfl, ?_⟩
   ·unfold kM; rw[List.find?_cons_of_pos (by simp[h])]
   ·rw[ks,if_pos h]; simp
  ·have hf:kM (e::L) p=kM L p:=by unfold kM; rw[List.find?_cons_of_neg (by simp[h])]
   rw[ks,if_neg h,hf]
   rcases uK L (i+1)with h1 | ⟨j,f,h1,h2,h3⟩
   ·exact .inl h1
   ·exact .inr ⟨j+1,f,h1,by simpa using h2,by rw[h3]; congr 1; omega⟩
theorem Fl (S:Nat->Prop) (L:List dj) (v:Value) (p:ByteArray) (w:World) (hv:dP S w v L):
  Calls Tryz.prog 131 #[v, .string p] w fun e w'=>e= .returned (.int .i64 (ks L p 0))/\Below w.heap.size w w':=by
 have HV:=an hv;obtain⟨a,cap,rfl,hc,hm,-⟩:=cL.shape hv lX.len;obtain⟨n,hn⟩: ∃n,n=L.length:=⟨_,rfl⟩;have HN:=an hn;rw[<-hn]at HV hc ⊢;unfold maxLen at hm;clear hv hn
 go_enter Tryz.func131,Tryz.ntmps131
 go_wp2_with fail
 go_loopw [5,9] (fun _ i wr=> ∃k:Nat,k<=n/\i= .int .i64 k/\ks L p 0=ks (L.drop k) p k/\Below w.heap.size w wr) (fun _ i _=>n-(intOf i).toNat)
 case atStart=>exact⟨0,aX _,rfl,rfl,ay _ _⟩
 case round=>
  obtain⟨k,hk,rfl,hh,ha⟩:=hrel;have hg:=an hh;have hf:=an ha
  by_cases hl:k<n
  ·obtain⟨e,he⟩: ∃e,L[k]? =some e:=⟨L[k]'(by rw[<-HN.o]; exact hl),by simp⟩;obtain⟨b,o,dv,rfl,-,hb,hd,-,-,q0,q1,q2,q3,q4,q5⟩:=iF (HV.o.below ha) he;obtain⟨_,ad,cd,rfl,ho,hq,-⟩:=hd;have hj:=an (Cr (p:=p) he);clear he hh ha
   by_cases hp:e.path=p
   ·have e1:(e.path.toList == p.toList)=true:=by rw[hp]; simp
    have HR:=an (show ks L p 0=(k:Int) by rw[hg.o,hj.o,if_pos hp]);clear hp;go_wp2_with fail;go_ret;exact⟨dK HR.o.symm,aw hf.o (eN)⟩
   ·have e1:(e.path.toList == p.toList)=false:=by
     rw[gV]; intro h; exact hp (jP (by rw[<-eB,<-eB]; exact h))
    have HR:=an (show ks L p 0=ks (L.drop (k+1)) p (k+1) by rw[hg.o,hj.o,if_neg hp]);clear hp;go_wp2_with fail
    go_roundw
    case rel=>exact⟨k+1,by omega,by go_num,HR.o,aw hf.o (eN)⟩
    case measure=>simp[intOf]; omega
  ·have HR:=an (show ks L p 0= -1 by rw[hg.o,fZ (by rw[<-HN.o]; omega)]; rfl);clear hh ha;go_wp2_with fail;go_ret;exact⟨dK HR.o.symm,hf.o⟩
theorem Le {S:Nat->Prop} {w:World} {v:Value} {bs:List UInt8} (hd:dJ S w v bs):(convert 29 9 v).run Tryz.prog w= .ok (.string ⟨bs.toArray⟩) w:=by
 have h:=yX hd;have e:strOfNums (bs.map fun b=>(b.toNat:Int))=⟨bs.toArray⟩:=by
  simp only[strOfNums,jL,Function.comp_def,eE];simp
 rw[e]at h;exact h
theorem Bj (S T:Nat->Prop) (a b:dj) (va vb:Value) (w:World) (ha:dJ S w va a.data) (hb:dJ T w vb b.data):Calls Tryz.prog 81 #[wD va a,wD vb b] w fun e w'=>e= .returned (.bool (decide (a=b)))/\Below w.heap.size w w':=by
 obtain⟨sa,hc⟩: ∃sa:ByteArray,sa=⟨a.data.toArray⟩:=⟨_,rfl⟩;obtain⟨sb,hd⟩: ∃sb:ByteArray,sb=⟨b.data.toArray⟩:=⟨_,rfl⟩;have hl: ∀c1 c2:Array Value,(convert 29 9 va).run Tryz.prog ((w.alloc (.cells c1 79)).alloc (.cells c2 79))= .ok (.string sa) ((w.alloc (.cells c1 79)).alloc (.cells c2 79)):=fun c1 c2=>by
  rw[hc]; exact Le (ha.below ((eN).alloc (by simp) _))
 have hm: ∀c1 c2:Array Value,(convert 29 9 vb).run Tryz.prog ((w.alloc (.cells c1 79)).alloc (.cells c2 79))= .ok (.string sb) ((w.alloc (.cells c1 79)).alloc (.cells c2 79)):=fun c1 c2=>by
  rw[hd]; exact Le (hb.below ((eN).alloc (by simp) _))
 have he:=an (show bl sa=a.data by rw[hc]; exact iu _);have hf:=an (show bl sb=b.data by rw[hd]; exact iu _);obtain⟨_,aa,ca,rfl,hj,hg,-⟩:=ha;obtain⟨_,ab,cb,rfl,hk,hh,-⟩:=hb;unfold maxLen at hg hh;unfold wD;clear hc hd;have HN:=an (show ∀x y:ByteArray,x.toList=y.toList<->x=y from fun x y=>by rw[eB,eB]; exact⟨jP,fun h=>by rw[h]⟩)
 go_enter Tryz.func81,Tryz.ntmps81
 go_wp2_with fail
 ·have y1:a.path.toList=b.path.toList:=by assumption
  have y2:a.kind=b.kind:=by assumption
  have y3:a.mode=b.mode:=by assumption
  have y4:a.time=b.time:=by assumption
  have y5:a.link.toList=b.link.toList:=by assumption
  have HX:=an (show(sa.toList == sb.toList)=decide (a=b) by
   rw[eB,eB,he.o,hf.o]
   cases a; cases b
   rw[HN.o]at y1 y5;simp only at y1 y2 y3 y4 y5;subst y1 y2 y3 y4 y5;rw[dk]
   simp)
  go_ret;exact⟨bY HX.o,(eN).alloc (by simp) _⟩
 all_goals (
  go_ret;refine⟨bY ?_,(eN).alloc (by simp) _⟩
  symm
  rw[ee];rintro rfl;exact absurd rfl (by assumption))
theorem uY (S T:Nat->Prop) (a b:dj) (va vb:Value) (r:Bool) (w:World) (ha:dJ S w va a.data) (hb:dJ T w vb b.data) (hr:decide (a=b)=r):Calls Tryz.prog 81 #[wD va a,wD vb b] w fun e w'=>e= .returned (.bool r)/\Below w.heap.size w w':=by
 rw[<-hr]; exact Bj S T a b va vb w ha hb
theorem yz (S T:Nat->Prop) (L M:List dj) (v u:Value) (w:World) (hv:dP S w v L) (hu:dP T w u M):
  Calls Tryz.prog 27 #[v,u] w fun e w'=>e= .returned (.bool (decide (L=M)))/\Below w.heap.size w w':=by
 have HV:=an hv;have HU:=an hu;obtain⟨a,cap,rfl,hc,hm,-⟩:=cL.shape hv lX.len;obtain⟨a2,cap2,rfl,hz,hF,-⟩:=cL.shape hu lX.len;unfold maxLen at hm hF;clear hv hu
 by_cases hg:L.length=M.length
 ·have e1:((L.length:Int) != (M.length:Int))=false:=by simp[hg]
  obtain⟨n,hn⟩: ∃n,n=L.length:=⟨_,rfl⟩;have hC:n=M.length:=by omega
  have HN:=an hn;have hy:=an hC;rw[<-hg]at HU hz e1 ⊢;rw[<-hn]at HV HU hc hz e1 ⊢;clear hn hC hg
  go_enter Tryz.func27,Tryz.ntmps27
  go_wp2_with fail
  go_loopw [5,13] (fun _ i wr=> ∃k:Nat,k<=n/\i= .int .i64 k/\L.take k=M.take k/\Below w.heap.size w wr) (fun _ i _=>n-(intOf i).toNat)
  case atStart=>exact⟨0,aX _,rfl,by simp,ay _ _⟩
  case round=>
   obtain⟨k,hk,rfl,hw,ho⟩:=hrel;have hx:=an hw;have hs:=an ho
   by_cases hB:k<n
   ·obtain⟨e,he⟩: ∃e,L[k]? =some e:=⟨L[k]'(by rw[<-HN.o]; exact hB),by simp⟩;obtain⟨f,hf⟩: ∃f,M[k]? =some f:=⟨M[k]'(by rw[<-hy.o]; exact hB),by simp⟩;obtain⟨b,o,dv,rfl,-,hb,hd,-,-,q0,q1,q2,q3,q4,q5⟩:=iF (HV.o.below ho) he;obtain⟨b2,o2,dv2,rfl,-,hH,hA,-,-,p0,p1,p2,p3,p4,p5⟩:=iF (HU.o.below ho) hf;have HD:=an hd;have HE:=an hA
    obtain⟨_,ad,cd,rfl,hI,hJ,-⟩:=hd;obtain⟨_,ad2,cd2,rfl,hD,hG,-⟩:=hA;have hq:=an (aD he hf);clear he hf hw ho
    cases hp:decide (e=f)
    ·have hj:=an hp;clear hp
     go_upto_region 6 with(fail)
     refine bP [some 8,none,some 1] (by kernel_rfl) (by kernel_rfl) (by kernel_rfl) ?_;simp only[dQ,aV,aZ,bB,bT];obtain⟨W,hW⟩: ∃W:World,W=wr.drew:=⟨_,rfl⟩;rw[<-hW];have ha:Below wr.heap.size wr W:=by rw[hW]; exact(ay _ _).drew
     have hh:=an ha;have z0:=(ha.cell (bS q0)).trans q0;have z1:=(ha.cell (bS q1)).trans q1;have z2:=(ha.cell (bS q2)).trans q2;have z3:=(ha.cell (bS q3)).trans q3;have z4:=(ha.cell (bS q4)).trans q4;have z5:=(ha.cell (bS q5)).trans q5;have x0:=(ha.cell (bS p0)).trans p0;have x1:=(ha.cell (bS p1)).trans p1;have x2:=(ha.cell (bS p2)).trans p2
     have x3:=(ha.cell (bS p3)).trans p3;have x4:=(ha.cell (bS p4)).trans p4;have x5:=(ha.cell (bS p5)).trans p5;clear hW ha q0 q1 q2 q3 q4 q5 p0 p1 p2 p3 p4 p5
     repeat (first | (refine cB rfl ?_; simp only[Act.put,ag,ai,ah]) | (refine cR rfl (fun K hK=> ?_); go_simp; refine hK _ ?_; clear hK K))
     refine cQ ?_;refine ei rfl (fun K hK=> ?_);go_wp2_with (go_at_call 81; refine(uY S T e f _ _ false _ (by exact HD.o.below hh.o) (by exact HE.o.below hh.o) hj.o).mono ?_; rintro e1 w1 ⟨rfl,hl⟩; have hr:=an (aw hs.o (aw hh.o hl)); clear hl);clear z0 z1 z2 z3 z4 z5 x0 x1 x2 x3 x4 x5
     repeat (first | (refine cB rfl ?_; simp only[Act.put,ag,ai,ah]) | (refine cR rfl (fun K hK=> ?_); go_simp; refine hK _ ?_; clear hK K))
     refine cQ ?_;go_wp2_with fail;go_ret;refine⟨bY ?_,hr.o⟩
     symm
     rw[ee];intro hc;obtain⟨h1,h2⟩:=hq.o;rw[hc,h2]at h1;exact(of_decide_eq_false hj.o) (bK h1).symm
    ·have hj:=an hp;clear hp
     go_upto_region 6 with(fail)
     refine bP [some 8,none,some 1] (by kernel_rfl) (by kernel_rfl) (by kernel_rfl) ?_;simp only[dQ,aV,aZ,bB,bT];obtain⟨W,hW⟩: ∃W:World,W=wr.drew:=⟨_,rfl⟩;rw[<-hW];have ha:Below wr.heap.size wr W:=by rw[hW]; exact(ay _ _).drew
     have hh:=an ha;have z0:=(ha.cell (bS q0)).trans q0;have z1:=(ha.cell (bS q1)).trans q1;have z2:=(ha.cell (bS q2)).trans q2;have z3:=(ha.cell (bS q3)).trans q3;have z4:=(ha.cell (bS q4)).trans q4;have z5:=(ha.cell (bS q5)).trans q5;have x0:=(ha.cell (bS p0)).trans p0;have x1:=(ha.cell (bS p1)).trans p1;have x2:=(ha.cell (bS p2)).trans p2
     have x3:=(ha.cell (bS p3)).trans p3;have x4:=(ha.cell (bS p4)).trans p4;have x5:=(ha.cell (bS p5)).trans p5;clear hW ha q0 q1 q2 q3 q4 q5 p0 p1 p2 p3 p4 p5
     repeat (first | (refine cB rfl ?_; simp only[Act.put,ag,ai,ah]) | (refine cR rfl (fun K hK=> ?_); go_simp; refine hK _ ?_; clear hK K))
     refine cQ ?_;refine ei rfl (fun K hK=> ?_);go_wp2_with (go_at_call 81; refine(uY S T e f _ _ true _ (by exact HD.o.below hh.o) (by exact HE.o.below hh.o) hj.o).mono ?_; rintro e1 w1 ⟨rfl,hl⟩; have hr:=an (aw hs.o (aw hh.o hl)); clear hl);clear z0 z1 z2 z3 z4 z5 x0 x1 x2 x3 x4 x5
     repeat (first | (refine cB rfl ?_; simp only[Act.put,ag,ai,ah]) | (refine cR rfl (fun K hK=> ?_); go_simp; refine hK _ ?_; clear hK K))
     refine cQ ?_;go_wp2_with fail
     go_roundw
     case rel=>
      refine⟨k+1,by omega,by go_num, ?_,hr.o⟩;rw[bZ,bZ,hx.o,hq.o.1,hq.o.2,fN hj.o]
     case measure=>simp[intOf]; omega
   ·clear hw ho;have hE:k=n:=by omega
    have HR:=an (show L=M by
     have h1:=hx.o;rw[bC (by rw[<-HN.o]; omega),bC (by rw[<-hy.o]; omega)]at h1;exact h1)
    clear hE;go_wp2_with fail;go_ret;exact⟨bY (cO HR.o).symm,hs.o⟩
 ·have HF:=an (show decide (L=M)=false from cD (fun e=>hg (by rw[e])));have e1:((L.length:Int) != (M.length:Int))=true:=by simp; omega
  clear hg
  go_enter Tryz.func27,Tryz.ntmps27
  go_wp2_with fail;go_ret;exact⟨bY HF.o.symm,ay _ _⟩
theorem FG {S:Nat->Prop} {w:World} {a:Option Addr} {n c:Nat} {xs:List ByteArray} (h:lF S w (.slice a n c) xs):lF S w (.slice a (n-1) c) xs.dropLast:=by
 obtain⟨hl,a',cap,he,hn,hm,h0⟩:=h;simp only[cS]at he;obtain⟨rfl,rfl,rfl⟩:=he;refine⟨by simp,a,c,by rw[fJ],by rw[fJ]; omega,hm, ?_⟩
 rcases h0 with h0 | ⟨b,o,ha,hb,hc⟩
 ·left; rw[fJ]; omega
 ·right
  refine⟨b,o,ha,hb,fun j u hj=>hc j u ?_⟩;rw[bn,List.getElem?_dropLast]at hj;rw[bn]
  split at hj
  ·exact hj
  ·simp at hj
theorem xt (s:ByteArray) (w:World) (hs:s.size<=65000):
  Calls Tryz.prog 92 #[.string s] w fun e w'=>e= .returned (.string ⟨(cu (bl s)).toArray⟩)/\Below w.heap.size w w':=by
 go_enter Tryz.func92,Tryz.ntmps92
 go_wp2_with (go_at_call 87; refine(nx s _ (by omega)).mono ?_; rintro e w1 ⟨v,xs,rfl,hx,hv,hb⟩; have HX:=an hx; have HB:=an hb; obtain⟨a,c,rfl,hc,hm,-⟩:=hv.shape; have HV:=an hv; have ha:1<=xs.length:=(by rw[<-aE (f:=bl),hx]; exact sw 47 _); have hd:xs.length<=65001:=(by rw[<-aE (f:=bl),hx]; have:=oR 47 (bl s); rw[<-bi]at this; omega); clear hx hv hb; unfold maxLen at hm)
 refine(Du xs.dropLast _ _ w1 (FG HV.o) (by rw[fJ]; omega) (fun x hx=> ?_)).mono ?_
 ·have h1:bl x∈dd 47 (bl s):=by rw[<-HX.o]; exact aW.2 ⟨x,List.dropLast_subset _ hx,rfl⟩
  have h2:=sX 47 (bl s) _ h1;rw[<-bi,<-bi]at h2;omega
 ·rintro e w2 ⟨rfl,rfl⟩;go_wp2_with fail;go_ret;refine⟨?_,HB.o⟩;unfold cu;rw[<-HX.o,<-List.map_dropLast]
  rfl
theorem uh (S:Nat->Prop) (L:List dj) (v:Value) (p:ByteArray) (x:Int) (w:World) (hv:dP S w v L) (hx:ks L p 0=x):
  Calls Tryz.prog 131 #[v, .string p] w fun e w'=>e= .returned (.int .i64 x)/\Below w.heap.size w w':=by
 rw[<-hx]; exact Fl S L v p w hv
theorem vD (L:List dj) (p:ByteArray):nt L (bl p)=if bl p=[]then 0 else match kM L p with
 | none=>4
 | some e=>if e.kind=2 then 0 else 13:=by
 unfold nt;rw[te]
 cases kM L p<;> rfl
theorem JE (S:Nat->Prop) (L:List dj) (v:Value) (p:ByteArray) (w:World) (hv:dP S w v L):
  Calls Tryz.prog 91 #[v, .string p] w fun e w'=>e= .returned (.int .i64 (nt L (bl p)))/\Below w.heap.size w w':=by
 have HV:=an hv
 by_cases h0:bl p=[]
 ·have e1:p.toList.isEmpty=true:=by rw[ov,cO h0]
  have HR:=an (show nt L (bl p)=0 by rw[vD,if_pos h0]);clear h0 hv
  go_enter Tryz.func91,Tryz.ntmps91
  go_wp2_with fail;go_ret;exact⟨dK HR.o.symm,ay _ _⟩
 ·have e1:p.toList.isEmpty=false:=by rw[ov,cD h0]
  rcases uK (p:=p) L 0 with⟨h1,h2⟩ | ⟨j,f,h1,h2,h3⟩
  ·have HR:=an (show nt L (bl p)=4 by rw[vD,if_neg h0,h1]);have HI:=an h2;clear h0 h1 h2 hv
   go_enter Tryz.func91,Tryz.ntmps91
   go_wp2_with (go_at_call 131; refine(uh S L v p (-1) _ HV.o HI.o).mono ?_; rintro e w1 ⟨rfl,ha⟩; have hd:=an ha; clear ha);go_ret;exact⟨dK HR.o.symm,hd.o⟩
  ·have HI:=an (show ks L p 0=(j:Int) by rw[h3]; simp);obtain⟨a,cap,rfl,hc,hm,-⟩:=cL.shape hv lX.len;have he:j<L.length:=(aN.1 h2).1;obtain⟨n,hn⟩: ∃n,n=L.length:=⟨_,rfl⟩;rw[<-hn]at HV hc he ⊢;obtain⟨b,o,dv,rfl,-,hb,-,-,-,q0,q1,q2,q3,q4,q5⟩:=iF HV.o h2;unfold maxLen at hm
   by_cases hk:f.kind=2
   ·have HR:=an (show nt L (bl p)=0 by rw[vD,if_neg h0,h1]; simp only[if_pos hk]);have e2:(f.kind != 2)=false:=by simp[hk]
    clear h0 h1 h2 h3 hv hk hn q0 q2 q3 q4 q5
    go_enter Tryz.func91,Tryz.ntmps91
    go_wp2_with (go_at_call 131; refine(uh S L _ p j _ HV.o HI.o).mono ?_; rintro e w1 ⟨rfl,ha⟩; have q9:=(ha.cell (bS q1)).trans q1; have hd:=an ha; clear ha);go_ret;exact⟨dK HR.o.symm,hd.o⟩
   ·have HR:=an (show nt L (bl p)=13 by rw[vD,if_neg h0,h1]; simp only[if_neg hk]);have e2:(f.kind != 2)=true:=by simp[hk]
    clear h0 h1 h2 h3 hv hk hn q0 q2 q3 q4 q5
    go_enter Tryz.func91,Tryz.ntmps91
    go_wp2_with (go_at_call 131; refine(uh S L _ p j _ HV.o HI.o).mono ?_; rintro e w1 ⟨rfl,ha⟩; have q9:=(ha.cell (bS q1)).trans q1; have hd:=an ha; clear ha);go_ret;exact⟨dK HR.o.symm,hd.o⟩
theorem gZ (s:ByteArray) (b:Bool) (w:World) (hs:s.size<=16777216) (h:dB (bl s)=b):Calls Tryz.prog 86 #[.string s] w fun e w'=>e= .returned (.bool b)/\Below w.heap.size w w':=by
 rw[<-h]; exact Dv s w hs
theorem xe {l:List UInt8} :l.contains 0=false<-> ∀k:Nat,∀b,l[k]? =some b->b≠0:=by
 rw[fd,ne_eq,List.contains_iff_mem,List.mem_iff_getElem?]
 constructor
 ·intro h k b hb e; subst e; exact h ⟨k,hb⟩
 ·rintro h ⟨k,hk⟩; exact h k 0 hk rfl
theorem DW {en:dj} (h:(en.kind=1\/en.kind=2\/en.kind=3)/\en.data.length<=1048576/\(en.kind=1\/en.data.length=0)) (hz:(bl en.link).contains 0=false):kZ en=((decide (en.kind=3) == decide (en.link.size≠0)) && decide (en.link.size<=512)):=by
 obtain⟨h1,h2,h3⟩:=h;unfold kZ oT;rw[hz,<-bi]
 rcases h1 with h1 | h1 | h1
 ·rw[if_pos h1,cO h2,h1]
  by_cases hs:en.link.size=0
  ·simp[hs]
  ·simp[hs]
 ·have h4:en.data.length=0:=h3.resolve_left (by omega);rw[if_neg (by omega),if_pos h1,cO h4,h1]
  by_cases hs:en.link.size=0
  ·simp[hs]
  ·simp[hs]
 ·have h4:en.data.length=0:=h3.resolve_left (by omega);rw[if_neg (by omega),if_neg (by omega),if_pos h1,cO h4,h1]
  by_cases hs:en.link.size=0
  ·simp[hs]
  ·rw[cO (by omega:1<=en.link.size)];simp[hs]
theorem Bk (S:Nat->Prop) (en:dj) (v:Value) (w:World) (hd:dJ S w v en.data) (hok:jE en) (hps:en.path.size<=16777216):Calls Tryz.prog 89 #[wD v en] w fun e w'=>e= .returned (.bool (gX en))/\Below w.heap.size w w':=by
 obtain⟨a,cap,rfl,hc,hm⟩:=hd.slice;unfold maxLen at hm;have hl:=an hps;have hM:=hok.lnk;unfold maxLen at hM;clear hok;unfold wD
 cases hv:dB (bl en.path)
 ·have HV:=an hv;have HF:=an (show gX en=false by unfold gX; rw[hv]; rfl);clear hv
  go_enter gC,gj
  go_wp2_with fail;obtain⟨W,hW⟩: ∃W,W=w.alloc (.cells #[.string en.path, .int .i64 en.kind, .int .i64 en.mode, .int .i64 en.time, .slice a en.data.length cap, .string en.link] 79):=⟨_,rfl⟩;rw[<-hW];have hh:=an (show Below w.heap.size w W by rw[hW]; exact eN);have he:=an (show W.heap[w.heap.size]? =some (.cells #[.string en.path, .int .i64 en.kind, .int .i64 en.mode, .int .i64 en.time, .slice a en.data.length cap, .string en.link] 79 (0,0)) by rw[hW]; exact dY w _)
  clear hW;refine(gZ en.path false _ hl.o HV.o).mono ?_;rintro e w1 ⟨rfl,ha⟩;have hf:=an (aw hh.o ha);clear ha;go_wp2_with fail;go_ret;exact⟨bY (by rw[HF.o]),hf.o⟩
 have HV:=an hv
 by_cases h1:en.mode<0
 ·have e1:decide (en.mode<0)=true:=by simp[h1]
  have HF:=an (show gX en=false by unfold gX oS; rw[cD (by omega: ¬0<=en.mode)]; simp);clear hv
  go_enter gC,gj
  go_wp2_with fail;obtain⟨W,hW⟩: ∃W,W=w.alloc (.cells #[.string en.path, .int .i64 en.kind, .int .i64 en.mode, .int .i64 en.time, .slice a en.data.length cap, .string en.link] 79):=⟨_,rfl⟩;rw[<-hW];have hh:=an (show Below w.heap.size w W by rw[hW]; exact eN);have he:=an (show W.heap[w.heap.size]? =some (.cells #[.string en.path, .int .i64 en.kind, .int .i64 en.mode, .int .i64 en.time, .slice a en.data.length cap, .string en.link] 79 (0,0)) by rw[hW]; exact dY w _)
  clear hW;refine(gZ en.path true _ hl.o HV.o).mono ?_;rintro e w1 ⟨rfl,ha⟩;have hf:=an (aw hh.o ha);have hg:=an ((ha.block w.heap.size (lR he.o)).trans he.o);clear ha;obtain⟨c0,c1,c2,c3,c4,c5,_⟩:=aT hg.o;go_wp2_with fail;go_ret;exact⟨bY (by rw[HF.o]),hf.o⟩
 have e1:decide (en.mode<0)=false:=by simp[h1]
 by_cases h2:511<en.mode
 ·have e2:decide (511<en.mode)=true:=by simp[h2]
  have HF:=an (show gX en=false by unfold gX oS; rw[cD (by omega: ¬en.mode<=511)]; simp);clear hv
  go_enter gC,gj
  go_wp2_with fail;obtain⟨W,hW⟩: ∃W,W=w.alloc (.cells #[.string en.path, .int .i64 en.kind, .int .i64 en.mode, .int .i64 en.time, .slice a en.data.length cap, .string en.link] 79):=⟨_,rfl⟩;rw[<-hW];have hh:=an (show Below w.heap.size w W by rw[hW]; exact eN);have he:=an (show W.heap[w.heap.size]? =some (.cells #[.string en.path, .int .i64 en.kind, .int .i64 en.mode, .int .i64 en.time, .slice a en.data.length cap, .string en.link] 79 (0,0)) by rw[hW]; exact dY w _)
  clear hW;refine(gZ en.path true _ hl.o HV.o).mono ?_;rintro e w1 ⟨rfl,ha⟩;have hf:=an (aw hh.o ha);have hg:=an ((ha.block w.heap.size (lR he.o)).trans he.o);clear ha;obtain⟨c0,c1,c2,c3,c4,c5,_⟩:=aT hg.o;go_wp2_with fail;go_ret;exact⟨bY (by rw[HF.o]),hf.o⟩
 have e2:decide (511<en.mode)=false:=by simp[h2]
 by_cases h3:en.time<0
 ·have e3:decide (en.time<0)=true:=by simp[h3]
  have HF:=an (show gX en=false by unfold gX oS; rw[cD (by omega: ¬0<=en.time)]; simp);clear hv
  go_enter gC,gj
  go_wp2_with fail;obtain⟨W,hW⟩: ∃W,W=w.alloc (.cells #[.string en.path, .int .i64 en.kind, .int .i64 en.mode, .int .i64 en.time, .slice a en.data.length cap, .string en.link] 79):=⟨_,rfl⟩;rw[<-hW];have hh:=an (show Below w.heap.size w W by rw[hW]; exact eN);have he:=an (show W.heap[w.heap.size]? =some (.cells #[.string en.path, .int .i64 en.kind, .int .i64 en.mode, .int .i64 en.time, .slice a en.data.length cap, .string en.link] 79 (0,0)) by rw[hW]; exact dY w _)
  clear hW;refine(gZ en.path true _ hl.o HV.o).mono ?_;rintro e w1 ⟨rfl,ha⟩;have hf:=an (aw hh.o ha);have hg:=an ((ha.block w.heap.size (lR he.o)).trans he.o);clear ha;obtain⟨c0,c1,c2,c3,c4,c5,_⟩:=aT hg.o;go_wp2_with fail;go_ret;exact⟨bY (by rw[HF.o]),hf.o⟩
 have e3:decide (en.time<0)=false:=by simp[h3]
 by_cases h4:en.kind<1
 ·have e4:decide (en.kind<1)=true:=by simp[h4]
  have HF:=an (show gX en=false by unfold gX kZ; rw[if_neg (by omega),if_neg (by omega),if_neg (by omega)]; simp);clear hv
  go_enter gC,gj
  go_wp2_with fail;obtain⟨W,hW⟩: ∃W,W=w.alloc (.cells #[.string en.path, .int .i64 en.kind, .int .i64 en.mode, .int .i64 en.time, .slice a en.data.length cap, .string en.link] 79):=⟨_,rfl⟩;rw[<-hW];have hh:=an (show Below w.heap.size w W by rw[hW]; exact eN);have he:=an (show W.heap[w.heap.size]? =some (.cells #[.string en.path, .int .i64 en.kind, .int .i64 en.mode, .int .i64 en.time, .slice a en.data.length cap, .string en.link] 79 (0,0)) by rw[hW]; exact dY w _)
  clear hW;refine(gZ en.path true _ hl.o HV.o).mono ?_;rintro e w1 ⟨rfl,ha⟩;have hf:=an (aw hh.o ha);have hg:=an ((ha.block w.heap.size (lR he.o)).trans he.o);clear ha;obtain⟨c0,c1,c2,c3,c4,c5,_⟩:=aT hg.o;go_wp2_with fail;go_ret;exact⟨bY (by rw[HF.o]),hf.o⟩
 have e4:decide (en.kind<1)=false:=by simp[h4]
 by_cases h5:3<en.kind
 ·have e5:decide (3<en.kind)=true:=by simp[h5]
  have HF:=an (show gX en=false by unfold gX kZ; rw[if_neg (by omega),if_neg (by omega),if_neg (by omega)]; simp);clear hv
  go_enter gC,gj
  go_wp2_with fail;obtain⟨W,hW⟩: ∃W,W=w.alloc (.cells #[.string en.path, .int .i64 en.kind, .int .i64 en.mode, .int .i64 en.time, .slice a en.data.length cap, .string en.link] 79):=⟨_,rfl⟩;rw[<-hW];have hh:=an (show Below w.heap.size w W by rw[hW]; exact eN);have he:=an (show W.heap[w.heap.size]? =some (.cells #[.string en.path, .int .i64 en.kind, .int .i64 en.mode, .int .i64 en.time, .slice a en.data.length cap, .string en.link] 79 (0,0)) by rw[hW]; exact dY w _)
  clear hW;refine(gZ en.path true _ hl.o HV.o).mono ?_;rintro e w1 ⟨rfl,ha⟩;have hf:=an (aw hh.o ha);have hg:=an ((ha.block w.heap.size (lR he.o)).trans he.o);clear ha;obtain⟨c0,c1,c2,c3,c4,c5,_⟩:=aT hg.o;go_wp2_with fail;go_ret;exact⟨bY (by rw[HF.o]),hf.o⟩
 have e5:decide (3<en.kind)=false:=by simp[h5]
 have hu:=an (show gX en=kZ en by
  unfold gX oS;rw[hv,cO (by omega:0<=en.mode),cO (by omega:en.mode<=511),cO (by omega:0<=en.time)]; simp)
 by_cases h6:en.kind≠1/\0<en.data.length
 ·have e6:(en.kind != 1)=true:=by simp[h6.1]
  have e7:decide (0<en.data.length)=true:=by simp[h6.2]
  have e8:0<en.data.length:=h6.2;have HF:=an (show gX en=false by
   rw[hu.o]; unfold kZ; rw[if_neg h6.1,cD (by omega: ¬en.data.length=0)]; simp)
  clear hv h6
  go_enter gC,gj
  go_wp2_with fail;obtain⟨W,hW⟩: ∃W,W=w.alloc (.cells #[.string en.path, .int .i64 en.kind, .int .i64 en.mode, .int .i64 en.time, .slice a en.data.length cap, .string en.link] 79):=⟨_,rfl⟩;rw[<-hW];have hh:=an (show Below w.heap.size w W by rw[hW]; exact eN);have he:=an (show W.heap[w.heap.size]? =some (.cells #[.string en.path, .int .i64 en.kind, .int .i64 en.mode, .int .i64 en.time, .slice a en.data.length cap, .string en.link] 79 (0,0)) by rw[hW]; exact dY w _)
  clear hW;refine(gZ en.path true _ hl.o HV.o).mono ?_;rintro e w1 ⟨rfl,ha⟩;have hf:=an (aw hh.o ha);have hg:=an ((ha.block w.heap.size (lR he.o)).trans he.o);clear ha;obtain⟨c0,c1,c2,c3,c4,c5,_⟩:=aT hg.o;go_wp2_with fail;go_ret;exact⟨bY (by rw[HF.o]),hf.o⟩
 by_cases h7:1048576<en.data.length
 ·have hn:en.kind=1:=by
   by_cases hk:en.kind=1
   ·exact hk
   ·exact absurd ⟨hk,by omega⟩ h6
  have e6:(en.kind != 1)=false:=by simp[hn]
  have e7:decide (1048576<en.data.length)=true:=by simp[h7]
  have HF:=an (show gX en=false by
   rw[hu.o]; unfold kZ; rw[if_pos hn,cD (by omega: ¬en.data.length<=1048576)]; simp)
  clear hv h6 hn
  go_enter gC,gj
  go_wp2_with fail;obtain⟨W,hW⟩: ∃W,W=w.alloc (.cells #[.string en.path, .int .i64 en.kind, .int .i64 en.mode, .int .i64 en.time, .slice a en.data.length cap, .string en.link] 79):=⟨_,rfl⟩;rw[<-hW];have hh:=an (show Below w.heap.size w W by rw[hW]; exact eN);have he:=an (show W.heap[w.heap.size]? =some (.cells #[.string en.path, .int .i64 en.kind, .int .i64 en.mode, .int .i64 en.time, .slice a en.data.length cap, .string en.link] 79 (0,0)) by rw[hW]; exact dY w _)
  clear hW;refine(gZ en.path true _ hl.o HV.o).mono ?_;rintro e w1 ⟨rfl,ha⟩;have hf:=an (aw hh.o ha);have hg:=an ((ha.block w.heap.size (lR he.o)).trans he.o);clear ha;obtain⟨c0,c1,c2,c3,c4,c5,_⟩:=aT hg.o;go_wp2_with fail;go_ret;exact⟨bY (by rw[HF.o]),hf.o⟩
 have e7:decide (1048576<en.data.length)=false:=by simp; omega
 have hL:=an (show(en.kind=1\/en.kind=2\/en.kind=3)/\en.data.length<=1048576/\(en.kind=1\/en.data.length=0)from⟨by omega,by omega,by
  by_cases hk:en.kind=1
  ·exact .inl hk
  ·exact .inr (by rcases eU en.data.length with h | h; exact h; exact absurd ⟨hk,h⟩ h6)⟩)
 clear hv
 by_cases hn:en.kind=1
 ·have e6:(en.kind != 1)=false:=by simp[hn]
  clear h6 hn
  go_enter gC,gj
  go_wp2_with fail;obtain⟨W,hW⟩: ∃W,W=w.alloc (.cells #[.string en.path, .int .i64 en.kind, .int .i64 en.mode, .int .i64 en.time, .slice a en.data.length cap, .string en.link] 79):=⟨_,rfl⟩;rw[<-hW];have hh:=an (show Below w.heap.size w W by rw[hW]; exact eN);have he:=an (show W.heap[w.heap.size]? =some (.cells #[.string en.path, .int .i64 en.kind, .int .i64 en.mode, .int .i64 en.time, .slice a en.data.length cap, .string en.link] 79 (0,0)) by rw[hW]; exact dY w _)
  clear hW;refine(gZ en.path true _ hl.o HV.o).mono ?_;rintro e w1 ⟨rfl,ha⟩;have hf:=an (aw hh.o ha);have hg:=an ((ha.block w.heap.size (lR he.o)).trans he.o);clear ha;obtain⟨c0,c1,c2,c3,c4,c5,_⟩:=aT hg.o;go_wp2_with fail
  go_loopw [3] (fun i wr=> ∃k:Nat,k<=en.link.size/\i= .int .i64 k/\(∀j b,j<k->(bl en.link)[j]? =some b->b≠0)/\Below w1.heap.size w1 wr) (fun i _=>en.link.size-(intOf i).toNat)
  case atStart=>exact⟨0,aX _,rfl,fun _ _ h=>absurd h (Nat.not_lt_zero _),ay _ _⟩
  case round=>
   obtain⟨k,hk,rfl,hz,hs⟩:=hrel;have HZ:=an hz;have ho:=an hs;have hF:=an ((hs.block w.heap.size (lR hg.o)).trans hg.o);clear hz hs c0 c1 c2 c3 c4 c5;obtain⟨c0,c1,c2,c3,c4,c5,_⟩:=aT hF.o
   by_cases hx:k<en.link.size
   ·have hw:=an (show(bl en.link)[k]? =some en.link[k] by rw[bM (by rw[<-bi]; exact hx)]; rfl)
    by_cases h0:(en.link[k]'hx).toNat=0
    ·have HF:=an (show gX en=false by
      rw[hu.o];unfold kZ;have hJ: ¬en.link.size=0:=by omega
      have hG:(bl en.link).contains 0=true:=by
       have h9:en.link[k]'hx=0:=gH.1 h0;have:=hw.o;rw[h9]at this;exact List.contains_iff_mem.2 (aS this)
      rw[cD hJ];unfold oT;rw[hG]
      simp)
     go_wp2_with fail;go_ret;exact⟨bY (by rw[HF.o]),aw hf.o ho.o⟩
    ·have hC:=an h0;go_wp2_with fail
     go_roundw
     case rel=>
      refine⟨k+1,by omega,by go_num,fun j b hj hb e=> ?_,ho.o⟩
      by_cases hH:j=k
      ·subst hH;rw[hw.o]at hb;have:=bK hb;subst this;exact hC.o (by rw[e]; rfl)
      ·exact HZ.o j b (by omega) hb e
     case measure=>simp[intOf]; omega
   ·have hI:k=en.link.size:=by omega
    have hB:=an (show(bl en.link).contains 0=false from xe.2 (fun j b hj e=>by
     have h1:=(aN.1 hj).1;exact HZ.o j b (by rw[hI,bi]; exact h1) hj e))
    have hE:=an (DW hL.o hB.o);have hA:=an (show en.link.toList.isEmpty= !decide (en.link.size≠0) by rw[ov]; by_cases h:en.link.size=0<;> simp[h,nE.1,<-nE]);obtain⟨b3,hp⟩: ∃b,decide (en.kind=3)=b:=⟨_,rfl⟩;obtain⟨be,hr⟩: ∃b,decide (en.link.size≠0)=b:=⟨_,rfl⟩;obtain⟨b5,hq⟩: ∃b,decide (en.link.size<=512)=b:=⟨_,rfl⟩;have f3:(en.kind == 3)=b3:=by rw[<-hp]; rfl
    have fe:=hA.o;rw[hr]at fe;have hD:=an (show gX en=((b3 == be) && b5) by rw[hu.o,hE.o,hp,hr,hq]);have hy:=an hq;clear hr hx hk hp hq
    cases b3<;> cases be<;> simp only[Bool.not_true,Bool.not_false]at fe<;> (go_wp2_with fail)<;> (go_ret)<;> exact⟨bY (by rw[hD.o,<-hy.o]; simp[show(((en.link.size:Nat):Int)<=512<->en.link.size<=512)from by omega]),aw hf.o ho.o⟩
 ·have e6:(en.kind != 1)=true:=by simp[hn]
  have e8:decide (0<en.data.length)=false:=by rw[ee]; exact fun h=>h6 ⟨hn,h⟩
  clear h6 hn
  go_enter gC,gj
  go_wp2_with fail;obtain⟨W,hW⟩: ∃W,W=w.alloc (.cells #[.string en.path, .int .i64 en.kind, .int .i64 en.mode, .int .i64 en.time, .slice a en.data.length cap, .string en.link] 79):=⟨_,rfl⟩;rw[<-hW];have hh:=an (show Below w.heap.size w W by rw[hW]; exact eN);have he:=an (show W.heap[w.heap.size]? =some (.cells #[.string en.path, .int .i64 en.kind, .int .i64 en.mode, .int .i64 en.time, .slice a en.data.length cap, .string en.link] 79 (0,0)) by rw[hW]; exact dY w _)
  clear hW;refine(gZ en.path true _ hl.o HV.o).mono ?_;rintro e w1 ⟨rfl,ha⟩;have hf:=an (aw hh.o ha);have hg:=an ((ha.block w.heap.size (lR he.o)).trans he.o);clear ha;obtain⟨c0,c1,c2,c3,c4,c5,_⟩:=aT hg.o;go_wp2_with fail
  go_loopw [3] (fun i wr=> ∃k:Nat,k<=en.link.size/\i= .int .i64 k/\(∀j b,j<k->(bl en.link)[j]? =some b->b≠0)/\Below w1.heap.size w1 wr) (fun i _=>en.link.size-(intOf i).toNat)
  case atStart=>exact⟨0,aX _,rfl,fun _ _ h=>absurd h (Nat.not_lt_zero _),ay _ _⟩
  case round=>
   obtain⟨k,hk,rfl,hz,hs⟩:=hrel;have HZ:=an hz;have ho:=an hs;have hF:=an ((hs.block w.heap.size (lR hg.o)).trans hg.o);clear hz hs c0 c1 c2 c3 c4 c5;obtain⟨c0,c1,c2,c3,c4,c5,_⟩:=aT hF.o
   by_cases hx:k<en.link.size
   ·have hw:=an (show(bl en.link)[k]? =some en.link[k] by rw[bM (by rw[<-bi]; exact hx)]; rfl)
    by_cases h0:(en.link[k]'hx).toNat=0
    ·have HF:=an (show gX en=false by
      rw[hu.o];unfold kZ;have hJ: ¬en.link.size=0:=by omega
      have hG:(bl en.link).contains 0=true:=by
       have h9:en.link[k]'hx=0:=gH.1 h0;have:=hw.o;rw[h9]at this;exact List.contains_iff_mem.2 (aS this)
      rw[cD hJ];unfold oT;rw[hG]
      simp)
     go_wp2_with fail;go_ret;exact⟨bY (by rw[HF.o]),aw hf.o ho.o⟩
    ·have hC:=an h0;go_wp2_with fail
     go_roundw
     case rel=>
      refine⟨k+1,by omega,by go_num,fun j b hj hb e=> ?_,ho.o⟩
      by_cases hH:j=k
      ·subst hH;rw[hw.o]at hb;have:=bK hb;subst this;exact hC.o (by rw[e]; rfl)
      ·exact HZ.o j b (by omega) hb e
     case measure=>simp[intOf]; omega
   ·have hI:k=en.link.size:=by omega
    have hB:=an (show(bl en.link).contains 0=false from xe.2 (fun j b hj e=>by
     have h1:=(aN.1 hj).1;exact HZ.o j b (by rw[hI,bi]; exact h1) hj e))
    have hE:=an (DW hL.o hB.o);have hA:=an (show en.link.toList.isEmpty= !decide (en.link.size≠0) by rw[ov]; by_cases h:en.link.size=0<;> simp[h,nE.1,<-nE]);obtain⟨b3,hp⟩: ∃b,decide (en.kind=3)=b:=⟨_,rfl⟩;obtain⟨be,hr⟩: ∃b,decide (en.link.size≠0)=b:=⟨_,rfl⟩;obtain⟨b5,hq⟩: ∃b,decide (en.link.size<=512)=b:=⟨_,rfl⟩;have f3:(en.kind == 3)=b3:=by rw[<-hp]; rfl
    have fe:=hA.o;rw[hr]at fe;have hD:=an (show gX en=((b3 == be) && b5) by rw[hu.o,hE.o,hp,hr,hq]);have hy:=an hq;clear hr hx hk hp hq
    cases b3<;> cases be<;> simp only[Bool.not_true,Bool.not_false]at fe<;> (go_wp2_with fail)<;> (go_ret)<;> exact⟨bY (by rw[hD.o,<-hy.o]; simp[show(((en.link.size:Nat):Int)<=512<->en.link.size<=512)from by omega]),aw hf.o ho.o⟩
end Go.Proofs.YtpffpjbkbaleiaaGreatDoor
namespace Go.Proofs.YtpffpjbkbaleiaaGreatDoor
open Go.RowKit
theorem nY (c:Int) (w:World) (h0:0<=c) (h1:c<=255):Calls Tryz.prog 130 #[.int .u8 c] w fun e w'=>e= .returned (.int .i64 (nh c))/\w=w':=by
 by_cases h:c=47
 ·subst h
  go_enter Tryz.func130,Tryz.ntmps130
  go_wp2
  go_ret;exact⟨rfl,rfl⟩
 ·have hr:nh c=c:=if_neg h;have HR:=an hr;clear hr;have h2:(c == 47)=false:=by simpa using h
  go_enter Tryz.func130,Tryz.ntmps130
  go_wp2
  go_ret;exact⟨dK HR.o.symm,rfl⟩
theorem yy (a b:ByteArray) (w:World) (ha:a.size<=65536):
  Calls Tryz.prog 90 #[.string a, .string b] w fun e w'=>e= .returned (.int .i64 (fg (bl a) (bl b)))/\Below w.heap.size w w':=by
 go_enter Tryz.func90,Tryz.ntmps90
 go_wp2_with fail
 go_loopw [5] (fun i wr=> ∃k:Nat,k<=a.size/\k<=b.size/\i= .int .i64 k/\Below w.heap.size w wr/\fg (bl a) (bl b)=fg ((bl a).drop k) ((bl b).drop k)) (fun i _=>a.size-(intOf i).toNat)
 case atStart=>exact⟨0,aX _,aX _,rfl,ay _ _,rfl⟩
 case round=>
  obtain⟨k,hu,hv,rfl,ho,hc⟩:=hrel;have HC:=an hc;have HB:=an ho;clear hc ho
  by_cases hp:k<a.size
  ·by_cases hl:k<b.size
   ·have i1:(k:Int)<(a.size:Int):=by omega
    have i2:(k:Int)<(b.size:Int):=by omega
    have hd:k<(bl a).length:=by rw[<-bi]; exact hp
    have he:k<(bl b).length:=by rw[<-bi]; exact hl
    have hw:=(a[k]).toNat_lt;have hx:=(b[k]).toNat_lt;have hq:il (bl a)[k]=nh (a[k].toNat:Int):=by rw[tq]; exact congrArg il (kE a k hp).symm
    have hr:il (bl b)[k]=nh (b[k].toNat:Int):=by rw[tq]; exact congrArg il (kE b k hl).symm
    have hg:=an hq;have hh:=an hr;clear hq hr
    rcases Int.lt_trichotomy (nh (a[k].toNat:Int)) (nh (b[k].toNat:Int))with hf | hf | hf
    ·have hb:=an hf;go_wp2_with fail
     go_quiet ((go_at_call 130; refine kT (nY _ _ (by omega) (by omega))))
     go_wp2_with fail;go_ret;refine⟨dK ?_,fO HB.o _⟩;have hn:(bl a)[k]≠(bl b)[k]:=by intro e; have:=hb.o; rw[<-hg.o,<-hh.o,e]at this; omega
     rw[HC.o,wj hd he hn,hg.o,hh.o,Lib.compareInt,if_pos hb.o]
    ·have e1: ¬nh (a[k].toNat:Int)<nh (b[k].toNat:Int):=by omega
     have e2: ¬nh (b[k].toNat:Int)<nh (a[k].toNat:Int):=by omega
     have hb:=an hf;clear hf;go_wp2_with fail
     go_quiet ((go_at_call 130; refine kT (nY _ _ (by omega) (by omega))))
     go_wp2_with fail;have hW: ∃W,W=wr.drewN nq/\Below w.heap.size w W:=⟨_,rfl,fO HB.o nq⟩;obtain⟨W,hk,hj⟩:=hW;rw[<-hk];have hm:=an hj;clear hk hj HB
     go_quiet ((go_at_call 130; refine kT (nY _ _ (by omega) (by omega))))
     go_wp2_with fail
     go_roundw
     case rel=>
      refine⟨k+1,by omega,by omega,by go_num,fO hm.o _, ?_⟩;rw[HC.o];exact BZ hd he (mp (hg.o.trans (hb.o.trans hh.o.symm)))
     case measure=>simp[intOf]; omega
    ·have e1: ¬nh (a[k].toNat:Int)<nh (b[k].toNat:Int):=by omega
     have hb:=an hf;go_wp2_with fail
     go_quiet ((go_at_call 130; refine kT (nY _ _ (by omega) (by omega))))
     go_wp2_with fail;have hW: ∃W,W=wr.drewN nq/\Below w.heap.size w W:=⟨_,rfl,fO HB.o nq⟩;obtain⟨W,hk,hj⟩:=hW;rw[<-hk];have hm:=an hj;clear hk hj HB
     go_quiet ((go_at_call 130; refine kT (nY _ _ (by omega) (by omega))))
     go_wp2_with fail;go_ret;refine⟨dK ?_,fO hm.o _⟩;have hn:(bl a)[k]≠(bl b)[k]:=by intro e; have:=hb.o; rw[<-hg.o,<-hh.o,e]at this; omega
     rw[HC.o,wj hd he hn,hg.o,hh.o,Lib.compareInt,if_neg (by have:=hb.o; omega),if_pos hb.o]
   ·obtain rfl:k=b.size:=by omega
    have i2:decide ((b.size:Int)<(b.size:Int))=false:=by simp
    have i3:(b.size:Int)<(a.size:Int):=by omega
    go_wp2_with fail;go_ret;refine⟨dK ?_,HB.o⟩;rw[HC.o,vC (by rw[<-bi]; omega) (by rw[<-bi]; exact au _) (.inr (by rw[<-bi])),<-bi,<-bi,Lib.compareInt,if_neg (by omega),if_pos (by omega)]
  ·obtain rfl:k=a.size:=by omega
   rcases dI a.size b.size with hl | hl
   ·have i3:(a.size:Int)<(b.size:Int):=by omega
    go_wp2_with fail;go_ret;refine⟨dK ?_,HB.o⟩;rw[HC.o,vC (by rw[<-bi]; exact au _) (by rw[<-bi]; omega) (.inl (by rw[<-bi])),<-bi,<-bi,Lib.compareInt,if_pos (by omega)]
   ·obtain heq:a.size=b.size:=by omega
    have hs:=an heq;have i3: ¬(a.size:Int)<(b.size:Int):=by omega
    have i4: ¬(b.size:Int)<(a.size:Int):=by omega
    clear heq;go_wp2_with fail;go_ret;refine⟨dK ?_,HB.o⟩;rw[HC.o,vC (by rw[<-bi]; exact au _) (by rw[<-bi]; omega) (.inl (by rw[<-bi])),<-bi,<-bi,Lib.compareInt,if_neg (by omega),if_neg (by omega)]
open Go.RowKit Go.Maps
theorem eQ.take {α:Type} {R:List Value->α->Prop} {sz:Nat} (hs: ∀c x,R c x->c.length=sz): ∀ {xs:List α} {cells:List Value} (k:Nat),eQ R cells xs->k<=xs.length->eQ R (cells.take (k*sz)) (xs.take k)
 | _,_,0,_,_=>by simp[eQ]
 | [],_,k+1,_,h=>by simp at h
 | x::xs,cells,k+1,⟨c,rest,hc,hx,hr⟩,h=>by
  subst hc;have hl:=hs c x hx;refine⟨c,rest.take (k*sz), ?_,hx,eQ.take hs k hr (by simpa using h)⟩;rw[List.take_append,hl,bC (by rw[hl,Nat.succ_mul]; omega),Nat.succ_mul]
  congr 2; omega
theorem cL.takeN {α:Type} {S:Nat->Prop} {w:World} {sz:Nat} {R:List Value->α->Prop} {a:Option Addr} {n cap:Nat} {xs:List α} (hs: ∀c x,R c x->c.length=sz) (h:cL S w sz R (.slice a n cap) xs) {k:Nat} (hk:k<=xs.length):cL S w sz R (.slice a k cap) (xs.take k):=by
 obtain⟨cells,⟨hl,a',cap',hv,hn,hm,h0⟩,hr⟩:=h
 cases hv
 have hd:(xs.take k).length=k:=by rw[bm]; omega
 refine⟨cells.take (k*sz),⟨?_,a,cap,by rw[hd],by omega,hm, ?_⟩,eQ.take hs k hr hk⟩
 ·rw[bm,hl,hd];exact fm (dl _ hk)
 ·rcases h0 with h0 | ⟨b,o,ha,hb,hc⟩
  ·exact .inl (by omega)
  ·refine .inr ⟨b,o,ha,hb,fun j u hj=>hc j u ?_⟩;rw[em]at hj
   split at hj
   ·exact hj
   ·cases hj
theorem oC (S:Nat->Prop) (en:dj) (v:Value) (b:Bool) (w:World) (hd:dJ S w v en.data) (hok:jE en) (hps:en.path.size<=16777216) (h:gX en=b):Calls Tryz.prog 89 #[wD v en] w fun e w'=>e= .returned (.bool b)/\Below w.heap.size w w':=by
 rw[<-h]; exact Bk S en v w hd hok hps
theorem uX (a b:ByteArray) (o:Int) (w:World) (ha:a.size<=65536) (h:fg (bl a) (bl b)=o):Calls Tryz.prog 90 #[.string a, .string b] w fun e w'=>e= .returned (.int .i64 o)/\Below w.heap.size w w':=by
 rw[<-h]; exact yy a b w ha
theorem oB (s q:ByteArray) (w:World) (hs:s.size<=65000) (hq:q=⟨(cu (bl s)).toArray⟩):Calls Tryz.prog 92 #[.string s] w fun e w'=>e= .returned (.string q)/\Below w.heap.size w w':=by
 rw[hq]; exact xt s w hs
theorem Ds (S:Nat->Prop) (L:List dj) (v:Value) (p:ByteArray) (x:Int) (w:World) (hv:dP S w v L) (hx:nt L (bl p)=x):Calls Tryz.prog 91 #[v, .string p] w fun e w'=>e= .returned (.int .i64 x)/\Below w.heap.size w w':=by
 rw[<-hx]; exact JE S L v p w hv
theorem Ao {e:dj} (h:gX e=true):e.path.size<=65000:=by
 have:=mu (cY h);rw[bi]; omega
theorem Dr (S:Nat->Prop) (L:List dj) (v:Value) (w:World) (hv:dP S w v L) (hps: ∀e∈L,e.path.size<=16777216):Calls Tryz.prog 31 #[v] w fun e w'=>e= .returned (.int .i64 (iq L))/\Below w.heap.size w w':=by
 have HV:=an hv;obtain⟨a,cap,rfl,hc,hm,-⟩:=cL.shape hv lX.len;unfold maxLen at hm;obtain⟨n,hn⟩: ∃n,n=L.length:=⟨_,rfl⟩;have HN:=an hn;rw[<-hn]at hc HV ⊢;clear hv
 by_cases hA:4096<n
 ·have He:(4096:Int)<(n:Int):=by omega
  have HC:=an (yS (by rw[<-hn]; exact hA));clear hA hn
  go_enter Tryz.func31,Tryz.ntmps31
  go_wp2_with fail;go_ret;exact⟨dK (by rw[HC.o]),ay _ _⟩
 ·have He:(n:Int)<=(4096:Int):=by omega
  have hF:=an (show L.length<=4096 by omega);have Hc:=an hps;clear hA hn hps
  go_enter Tryz.func31,Tryz.ntmps31
  go_wp2_with fail
  go_loopw [11] (fun i wr=> ∃k:Nat,k<=n/\i= .int .i64 k/\Tr (L.take k)/\Below w.heap.size w wr) (fun i _=>n-(intOf i).toNat)
  case atStart=>exact⟨0,aX _,rfl,⟨ff,by simp,by simp⟩,ay _ _⟩
  case round=>
   obtain⟨k,hk,rfl,Hb,h8⟩:=hrel;have hr:=an Hb;have hj:=an h8;clear Hb h8
   by_cases Hj:k<n
   ·obtain⟨e,he⟩: ∃e,L[k]? =some e:=⟨L[k]'(by rw[<-HN.o]; exact Hj),by simp⟩;obtain⟨b,o,dv,rfl,-,hb,hd,Ha,-,q0,q1,q2,q3,q4,q5⟩:=iF (HV.o.below hj.o) he;have hB:=an he;have HD:=an hd;have hJ:=an Ha;have hL:=an (Hc.o e (aS he));obtain⟨a1,cap1,rfl,Hk,Hf⟩:=hd.slice;unfold maxLen at Hf;have Hn:k<=cap:=by omega
    have h3:=an (show k<=L.length by rw[<-HN.o]; omega);clear he hd Ha
    cases hD:gX e
    ·have hw:=an hD;have ho:=an (show fP (L.take k) e=1 by unfold fP; rw[hD]; rfl);clear hD;go_wp2_with fail;refine bP [some 1,none,some 13,none,some 3] (by kernel_rfl) (by kernel_rfl) (by kernel_rfl) ?_;simp only[dQ,aV,aZ,bB,bT];obtain⟨W,hW⟩: ∃W:World,W=(wr.alloc (.cells #[.string e.path, .int .i64 e.kind, .int .i64 e.mode, .int .i64 e.time, .slice a1 e.data.length cap1, .string e.link] 79)).drew:=⟨_,rfl⟩
     rw[<-hW];have ha:=an (show Below wr.heap.size wr W by rw[hW]; exact(eN).drew);have HX:=an (show W.heap[wr.heap.size]? =some (.cells #[.string e.path, .int .i64 e.kind, .int .i64 e.mode, .int .i64 e.time, .slice a1 e.data.length cap1, .string e.link] 79 (0,0)) by rw[hW]; exact dY wr _);have hO:=an (aw hj.o ha.o);clear hW;obtain⟨c0,c1,c2,c3,c4,c5,_⟩:=aT HX.o
     repeat (first | (refine cB rfl ?_; simp only[Act.put,ag,ai,ah]) | (refine cR rfl (fun K hK=> ?_); go_simp; refine hK _ ?_; clear hK K))
     refine cQ ?_;refine ei rfl (fun K hK=> ?_);go_wp2_with (go_at_call 89; refine(oC S e (.slice a1 e.data.length cap1) false _ (HD.o.below ha.o) hJ.o hL.o hw.o).mono ?_; rintro e7 w7 ⟨rfl,hh⟩; have hl:=an (ha.o.trans (hh.mono ha.o.size)); have hs:=an ((hh.block wr.heap.size (lR HX.o)).trans HX.o); clear hh c0 c1 c2 c3 c4 c5)
     repeat (first | (refine cB rfl ?_; simp only[Act.put,ag,ai,ah]) | (refine cR rfl (fun K hK=> ?_); go_simp; refine hK _ ?_; clear hK K))
     refine cQ ?_;refine vR rfl ?_;simp only[Act.put,ag,ai,ah]
     repeat (first | (refine cB rfl ?_; simp only[Act.put,ag,ai,ah]) | (refine cR rfl (fun K hK=> ?_); go_simp; refine hK _ ?_; clear hK K))
     refine cQ ?_;have hN:=an (aw hj.o hl.o);go_wp2_with fail;go_ret;exact⟨dK (by rw[jv hF.o hr.o hB.o (x:=1) ho.o (by decide)]),hN.o⟩
    ·have hw:=an hD;have h7:=an (show e.path.size<=65000 from Ao hD);obtain⟨q,hq⟩: ∃q:ByteArray,q=⟨(cu (bl e.path)).toArray⟩:=⟨_,rfl⟩;have h2:=an (show bl q=cu (bl e.path) by rw[hq]; exact iu _);have HQ:=an hq;clear hD hq
     rcases eU k with hM | hM
     ·have e9:decide (0<k)=false:=by simp; omega
      have e8:(k:Int)<=0:=by omega
      have hP:=an (show(gX e && nH (L.take k) e)=true by rw[hM,hw.o]; rfl);clear hM;obtain⟨x,hx⟩: ∃x,nt (L.take k) (bl q)=x:=⟨_,rfl⟩;have hQ:=an hx;have ho:=an (show fP (L.take k) e=x by unfold fP; rw[if_pos hP.o,<-h2.o,hx]);clear hx;go_wp2_with fail;refine bP [some 1,none,some 13,none,some 3] (by kernel_rfl) (by kernel_rfl) (by kernel_rfl) ?_
      simp only[dQ,aV,aZ,bB,bT];obtain⟨W,hW⟩: ∃W:World,W=(wr.alloc (.cells #[.string e.path, .int .i64 e.kind, .int .i64 e.mode, .int .i64 e.time, .slice a1 e.data.length cap1, .string e.link] 79)).drew:=⟨_,rfl⟩;rw[<-hW];have ha:=an (show Below wr.heap.size wr W by rw[hW]; exact(eN).drew);have HX:=an (show W.heap[wr.heap.size]? =some (.cells #[.string e.path, .int .i64 e.kind, .int .i64 e.mode, .int .i64 e.time, .slice a1 e.data.length cap1, .string e.link] 79 (0,0)) by rw[hW]; exact dY wr _)
      have hO:=an (aw hj.o ha.o);clear hW;obtain⟨c0,c1,c2,c3,c4,c5,_⟩:=aT HX.o
      repeat (first | (refine cB rfl ?_; simp only[Act.put,ag,ai,ah]) | (refine cR rfl (fun K hK=> ?_); go_simp; refine hK _ ?_; clear hK K))
      refine cQ ?_;refine ei rfl (fun K hK=> ?_);go_wp2_with (go_at_call 89; refine(oC S e (.slice a1 e.data.length cap1) true _ (HD.o.below ha.o) hJ.o hL.o hw.o).mono ?_; rintro e7 w7 ⟨rfl,hh⟩; have hl:=an (ha.o.trans (hh.mono ha.o.size)); have hs:=an ((hh.block wr.heap.size (lR HX.o)).trans HX.o); clear hh c0 c1 c2 c3 c4 c5)
      repeat (first | (refine cB rfl ?_; simp only[Act.put,ag,ai,ah]) | (refine cR rfl (fun K hK=> ?_); go_simp; refine hK _ ?_; clear hK K))
      refine cQ ?_;refine vR rfl ?_;simp only[Act.put,ag,ai,ah]
      repeat (first | (refine cB rfl ?_; simp only[Act.put,ag,ai,ah]) | (refine cR rfl (fun K hK=> ?_); go_simp; refine hK _ ?_; clear hK K))
      refine cQ ?_;go_wp2_with fail;refine eH (fun w'=>w'.cell? ⟨wr.heap.size,0,none⟩=some (.string e.path)) (by kernel_rfl) ?_;obtain⟨V,hV⟩: ∃V:World,V=(w7).drew:=⟨_,rfl⟩;rw[<-hV];have hG:=an (show Below wr.heap.size wr V by rw[hV]; exact hl.o.trans ((ay (w7).heap.size (w7)).drew.mono hl.o.size));have hX:=an (show V.heap[wr.heap.size]? =some (.cells #[.string e.path, .int .i64 e.kind, .int .i64 e.mode, .int .i64 e.time, .slice a1 e.data.length cap1, .string e.link] 79 (0,0)) by rw[hV]; exact hs.o)
      clear hV;have hg:=aA (k:=0) hX.o;simp only[ak,aj]at hg
      iterate 5 (refine cF rfl (by kernel_rfl) (fun _ _ _ h=>h) rfl hg (by intro w' hZ; go_simp; rfl) ?_; simp only[Act.put,ag,ai,ah])
      refine cy 5 rfl (fun K hK=> ?_);go_wp2_with (go_at_call 92; refine(oB e.path q _ h7.o HQ.o).mono ?_; rintro e9 w9 ⟨rfl,hy⟩);have hu:=an (hG.o.trans (hy.mono hG.o.size));have hp:=(hy.cell (bS hg)).trans hg;clear hy;refine⟨hp, ?_⟩;refine cy 6 rfl (fun K hK=> ?_);have hS:=an (show dP S w9 (.slice (some ⟨b,o,none⟩) (k) cap) (L.take (k))from cL.takeN lX.len (HV.o.below (aw hj.o hu.o)) h3.o)
      go_wp2_with (go_at_call 91; refine(Ds S (L.take (k)) (.slice (some ⟨b,o,none⟩) (k) cap) q x _ hS.o hQ.o).mono ?_; rintro ea wa ⟨rfl,hz⟩);have hR:=an (hu.o.trans (hz.mono hu.o.size));have hg:=(hz.cell (bS hp)).trans hp;clear hz;refine⟨hg, ?_⟩;refine cF rfl (by kernel_rfl) (fun _ _ _ h=>h) rfl hg (by intro w' hZ; go_simp; rfl) ?_;simp only[Act.put,ag,ai,ah]
      refine cH (by kernel_rfl) ?_;have hE:=an (aw hj.o hR.o);clear hg hp
      by_cases h0:x=0
      ·subst h0;have hT:=an (mg hr.o hB.o ho.o);go_wp2_with fail
       go_roundw
       case rel=>exact⟨k+1,by omega,by go_num,hT.o,hE.o⟩
       case measure=>simp[intOf]; omega
      ·have e1:(x != 0)=true:=by simp[h0]
       have hU:=an h0;clear h0;go_wp2_with fail;go_ret;exact⟨dK (by rw[jv hF.o hr.o hB.o (x:=x) ho.o hU.o]),hE.o⟩
     ·obtain⟨j,rfl⟩: ∃j,k=j+1:=⟨k-1,by omega⟩;obtain⟨f,hf⟩: ∃f,L[j]? =some f:=⟨L[j]'(by rw[<-HN.o]; omega),by simp⟩;obtain⟨b',o',dv',h9,-,-,-,hY,-,p0,-⟩:=iF (HV.o.below hj.o) hf;simp only[br,jk,and_true]at h9;obtain⟨rfl,rfl⟩:=h9;have h4:=an (show f.path.size<=65536 from aB (Ao (hr.o.val f (aS (i:=j) (by rw[em,if_pos (Nat.lt_succ_self j)]; exact hf)))) (by omega))
      obtain⟨c,hc⟩: ∃c,fg (bl f.path) (bl e.path)=c:=⟨_,rfl⟩;have HC:=an hc;have e9:decide (0<j+1)=true:=by simp
      have Hm:j<n:=by omega
      have Hg:(j:Int)<(n:Int):=by omega
      have Hh:decide (j<n)=true:=by simp; omega
      have Hl:0<=(j:Int)+1/\(j:Int)+1<=(cap:Int):=by omega
      have Ho:IntKind.i64.wrap (j:Int)=j:=by rw[bF]; omega
      have h1:=an (show nH (L.take (j+1)) e=decide (c<0) by rw[BH hf,hc]);clear hf hY hc hM
      by_cases hH:c<0
      ·have hP:=an (show(gX e && nH (L.take (j+1)) e)=true by rw[hw.o,h1.o,cO hH]; rfl);have e8:decide (0<=c)=false:=by simp; omega
       obtain⟨x,hx⟩: ∃x,nt (L.take (j+1)) (bl q)=x:=⟨_,rfl⟩;have hQ:=an hx;have ho:=an (show fP (L.take (j+1)) e=x by unfold fP; rw[if_pos hP.o,<-h2.o,hx]);clear hx;go_wp2_with fail;refine bP [some 1,none,some 13,none,some 3] (by kernel_rfl) (by kernel_rfl) (by kernel_rfl) ?_;simp only[dQ,aV,aZ,bB,bT]
       obtain⟨W,hW⟩: ∃W:World,W=(wr.alloc (.cells #[.string e.path, .int .i64 e.kind, .int .i64 e.mode, .int .i64 e.time, .slice a1 e.data.length cap1, .string e.link] 79)).drew:=⟨_,rfl⟩;rw[<-hW];have ha:=an (show Below wr.heap.size wr W by rw[hW]; exact(eN).drew);have HX:=an (show W.heap[wr.heap.size]? =some (.cells #[.string e.path, .int .i64 e.kind, .int .i64 e.mode, .int .i64 e.time, .slice a1 e.data.length cap1, .string e.link] 79 (0,0)) by rw[hW]; exact dY wr _)
       have hO:=an (aw hj.o ha.o);clear hW;obtain⟨c0,c1,c2,c3,c4,c5,_⟩:=aT HX.o
       repeat (first | (refine cB rfl ?_; simp only[Act.put,ag,ai,ah]) | (refine cR rfl (fun K hK=> ?_); go_simp; refine hK _ ?_; clear hK K))
       refine cQ ?_;refine ei rfl (fun K hK=> ?_);go_wp2_with (go_at_call 89; refine(oC S e (.slice a1 e.data.length cap1) true _ (HD.o.below ha.o) hJ.o hL.o hw.o).mono ?_; rintro e7 w7 ⟨rfl,hh⟩; have hl:=an (ha.o.trans (hh.mono ha.o.size)); have hs:=an ((hh.block wr.heap.size (lR HX.o)).trans HX.o); clear hh c0 c1 c2 c3 c4 c5);obtain⟨c0,c1,c2,c3,c4,c5,_⟩:=aT hs.o
       have y0:=(hl.o.cell (bS p0)).trans p0
       repeat (first | (refine cB rfl ?_; simp only[Act.put,ag,ai,ah]) | (refine cR rfl (fun K hK=> ?_); go_simp; refine hK _ ?_; clear hK K))
       refine cQ ?_;refine ei rfl (fun K hK=> ?_);go_wp2_with (go_at_call 90; refine(uX f.path e.path c _ h4.o HC.o).mono ?_; rintro e8' w8 ⟨rfl,hC⟩; have hI:=an (hl.o.trans (hC.mono hl.o.size)); have Hd:=an ((hC.block wr.heap.size (lR hs.o)).trans hs.o); clear hC c0 c1 c2 c3 c4 c5 y0)
       repeat (first | (refine cB rfl ?_; simp only[Act.put,ag,ai,ah]) | (refine cR rfl (fun K hK=> ?_); go_simp; refine hK _ ?_; clear hK K))
       refine cQ ?_;go_wp2_with fail;refine eH (fun w'=>w'.cell? ⟨wr.heap.size,0,none⟩=some (.string e.path)) (by kernel_rfl) ?_;obtain⟨V,hV⟩: ∃V:World,V=(w8).drew:=⟨_,rfl⟩;rw[<-hV];have hG:=an (show Below wr.heap.size wr V by rw[hV]; exact hI.o.trans ((ay (w8).heap.size (w8)).drew.mono hI.o.size));have hX:=an (show V.heap[wr.heap.size]? =some (.cells #[.string e.path, .int .i64 e.kind, .int .i64 e.mode, .int .i64 e.time, .slice a1 e.data.length cap1, .string e.link] 79 (0,0)) by rw[hV]; exact Hd.o)
       clear hV;have hg:=aA (k:=0) hX.o;simp only[ak,aj]at hg
       iterate 5 (refine cF rfl (by kernel_rfl) (fun _ _ _ h=>h) rfl hg (by intro w' hZ; go_simp; rfl) ?_; simp only[Act.put,ag,ai,ah])
       refine cy 5 rfl (fun K hK=> ?_);go_wp2_with (go_at_call 92; refine(oB e.path q _ h7.o HQ.o).mono ?_; rintro e9 w9 ⟨rfl,hy⟩);have hu:=an (hG.o.trans (hy.mono hG.o.size));have hp:=(hy.cell (bS hg)).trans hg;clear hy;refine⟨hp, ?_⟩;refine cy 6 rfl (fun K hK=> ?_);have hS:=an (show dP S w9 (.slice (some ⟨b,o,none⟩) (j+1) cap) (L.take (j+1))from cL.takeN lX.len (HV.o.below (aw hj.o hu.o)) h3.o)
       go_wp2_with (go_at_call 91; refine(Ds S (L.take (j+1)) (.slice (some ⟨b,o,none⟩) (j+1) cap) q x _ hS.o hQ.o).mono ?_; rintro ea wa ⟨rfl,hz⟩);have hR:=an (hu.o.trans (hz.mono hu.o.size));have hg:=(hz.cell (bS hp)).trans hp;clear hz;refine⟨hg, ?_⟩;refine cF rfl (by kernel_rfl) (fun _ _ _ h=>h) rfl hg (by intro w' hZ; go_simp; rfl) ?_;simp only[Act.put,ag,ai,ah]
       refine cH (by kernel_rfl) ?_;have hE:=an (aw hj.o hR.o);clear hg hp
       by_cases h0:x=0
       ·subst h0;have hT:=an (mg hr.o hB.o ho.o);go_wp2_with fail
        go_roundw
        case rel=>exact⟨j+1+1,by omega,by go_num,hT.o,hE.o⟩
        case measure=>simp[intOf]; omega
       ·have e1:(x != 0)=true:=by simp[h0]
        have hU:=an h0;clear h0;go_wp2_with fail;go_ret;exact⟨dK (by rw[jv hF.o hr.o hB.o (x:=x) ho.o hU.o]),hE.o⟩
      ·have ho:=an (show fP (L.take (j+1)) e=1 by unfold fP; rw[h1.o,cD hH]; simp);have e8:decide (0<=c)=true:=by simp; omega
       have e7:0<=c:=by omega
       go_wp2_with fail;refine bP [some 1,none,some 13,none,some 3] (by kernel_rfl) (by kernel_rfl) (by kernel_rfl) ?_;simp only[dQ,aV,aZ,bB,bT];obtain⟨W,hW⟩: ∃W:World,W=(wr.alloc (.cells #[.string e.path, .int .i64 e.kind, .int .i64 e.mode, .int .i64 e.time, .slice a1 e.data.length cap1, .string e.link] 79)).drew:=⟨_,rfl⟩
       rw[<-hW];have ha:=an (show Below wr.heap.size wr W by rw[hW]; exact(eN).drew);have HX:=an (show W.heap[wr.heap.size]? =some (.cells #[.string e.path, .int .i64 e.kind, .int .i64 e.mode, .int .i64 e.time, .slice a1 e.data.length cap1, .string e.link] 79 (0,0)) by rw[hW]; exact dY wr _);have hO:=an (aw hj.o ha.o);clear hW;obtain⟨c0,c1,c2,c3,c4,c5,_⟩:=aT HX.o
       repeat (first | (refine cB rfl ?_; simp only[Act.put,ag,ai,ah]) | (refine cR rfl (fun K hK=> ?_); go_simp; refine hK _ ?_; clear hK K))
       refine cQ ?_;refine ei rfl (fun K hK=> ?_);go_wp2_with (go_at_call 89; refine(oC S e (.slice a1 e.data.length cap1) true _ (HD.o.below ha.o) hJ.o hL.o hw.o).mono ?_; rintro e7 w7 ⟨rfl,hh⟩; have hl:=an (ha.o.trans (hh.mono ha.o.size)); have hs:=an ((hh.block wr.heap.size (lR HX.o)).trans HX.o); clear hh c0 c1 c2 c3 c4 c5);obtain⟨c0,c1,c2,c3,c4,c5,_⟩:=aT hs.o
       have y0:=(hl.o.cell (bS p0)).trans p0
       repeat (first | (refine cB rfl ?_; simp only[Act.put,ag,ai,ah]) | (refine cR rfl (fun K hK=> ?_); go_simp; refine hK _ ?_; clear hK K))
       refine cQ ?_;refine ei rfl (fun K hK=> ?_);go_wp2_with (go_at_call 90; refine(uX f.path e.path c _ h4.o HC.o).mono ?_; rintro e8' w8 ⟨rfl,hC⟩; have hI:=an (hl.o.trans (hC.mono hl.o.size)); clear hC c0 c1 c2 c3 c4 c5 y0)
       repeat (first | (refine cB rfl ?_; simp only[Act.put,ag,ai,ah]) | (refine cR rfl (fun K hK=> ?_); go_simp; refine hK _ ?_; clear hK K))
       refine cQ ?_;have hN:=an (aw hj.o hI.o);go_wp2_with fail;go_ret;exact⟨dK (by rw[jv hF.o hr.o hB.o (x:=1) ho.o (by decide)]),hN.o⟩
   ·have Hi:k=n:=by omega
    subst Hi;go_wp2_with fail;go_ret;exact⟨dK (by rw[vW hF.o (by rw[<-HN.o]; exact hr.o)]),hj.o⟩
end Go.Proofs.YtpffpjbkbaleiaaGreatDoor
namespace Go.Proofs.YtpffpjbkbaleiaaGreatDoor
open Go Go.RowKit
theorem Bg (seed k:Nat) (w:World) (_hs:seed<18446744073709551616) (hk:k<256):Calls Tryz.prog 214 #[.int .u64 (seed:Int), .int .i64 (k:Int)] w fun e w'=>e= .returned (.int .u64 ((ue seed k:Nat):Int))/\w=w':=by
 have h0:IntKind.u64.wrap ((seed:Int)+IntKind.u64.wrap (((k:Int)+1)*11400714819323198485))=((tC seed k:Nat):Int):=Ae seed k;have h1:=zI (tC seed k) (DE seed k);have h2:=zJ (EW (tC seed k)) (GF _);have h3:=zK (Jl (EW (tC seed k))) (GG _);have hw:IntKind.u64.wrap ((k:Int)+1)=(k:Int)+1:=by rw[cT]; omega
 go_enter Tryz.func214,Tryz.ntmps214
 go_wp2_with fail;go_ret;exact⟨rfl,rfl⟩
theorem Bn (x n:Nat) (w:World) (hx:x<18446744073709551616) (hn:n<64):Calls Tryz.prog 213 #[.int .u64 (x:Int), .int .i64 (n:Int)] w fun e w'=>e= .returned (.int .u64 ((pu n x:Nat):Int))/\w=w':=by
 go_enter Tryz.func213,Tryz.ntmps213
 go_wp2_with fail
 go_loopw [0,5] (fun y i wr=> ∃k:Nat,k<=n/\i= .int .i64 (k:Int)/\y= .int .u64 ((pu k x:Nat):Int)/\w=wr) (fun _ i _=>n-(intOf i).toNat)
 case atStart=>exact⟨0,by omega,rfl,rfl,rfl⟩
 case round=>
  obtain⟨k,hk,rfl,rfl,rfl⟩:=hrel;obtain⟨z,hz⟩: ∃z,z=pu k x:=⟨_,rfl⟩;rw[<-hz];have HZ:=an hz;have hb:z<18446744073709551616:=by rw[hz]; exact vI k hx
  have HR:=an (show bits BinOp.or IntKind.u64 (IntKind.u64.wrap ((z:Int)*2)) ((z:Int)/9223372036854775808)=((pu (k+1) x:Nat):Int) by
   have h1:=Ab (s:=1) hb;rw[cT,pu,<-hz];exact h1)
  clear hz
  by_cases hc:k<n
  ·go_wp2_with fail
   go_roundw
   case rel=>exact⟨k+1,by omega,by go_num,by rw[HR.o],trivial⟩
   case measure=>simp[intOf]; omega
  ·have ha:k=n:=by omega
   subst ha;go_wp2_with fail;go_ret;exact⟨by rw[HZ.o]; rfl,rfl⟩
theorem Cw {T:Nat->Nat} {l:List UInt8} {k:Nat} {b:UInt8} (h:l[k]? =some b):rW T (l.drop k)=pu (l.length-1-k) (T b.toNat)^^^rW T (l.drop (k+1)):=by
 obtain⟨hk,rfl⟩:=aN.1 h;rw[cI hk,rW,bA,show l.length-(k+1)=l.length-1-k by omega]
theorem EC (S:Nat->Prop) (seed:Nat) (data:List UInt8) (v:Value) (w:World) (hs:seed<18446744073709551616) (hv:bG S w v data) (hl:data.length<=64):Calls Tryz.prog 205 #[.int .u64 (seed:Int),v] w fun e w'=>e= .returned (.int .u64 ((qc seed data:Nat):Int))/\w=w':=by
 obtain⟨hp,a,cap,rfl,hn,hm,-⟩:=id hv;unfold maxLen at hm;have HV:=an hv;obtain⟨n,hd⟩: ∃n,n=data.length:=⟨_,rfl⟩;rw[<-hd]at HV hl hn ⊢;have HN:=an hd;clear hv hp hd
 go_enter Tryz.func205,Tryz.ntmps205
 go_wp2_with fail
 go_loopw [5,6] (fun y i wr=> ∃k s:Nat,k<=n/\i= .int .i64 (k:Int)/\y= .int .u64 (s:Int)/\s<18446744073709551616/\s^^^rW (ue seed) (data.drop k)=qc seed data/\w=wr) (fun _ i _=>n-(intOf i).toNat)
 case atStart=>exact⟨0,0,by omega,rfl,rfl,by omega,by rw[bT,Nat.zero_xor,zm (rj seed)]; rfl,rfl⟩
 case round=>
  obtain⟨k,s,hk,rfl,rfl,hg,hb,rfl⟩:=hrel;have HS:=an hb;clear hb
  by_cases hq:k<n
  ·obtain⟨b,hc⟩: ∃b,data[k]? =some b:=⟨data[k]'(by have:=HN.o; omega),bM (by have:=HN.o; omega)⟩;obtain⟨bb,oo,rfl,q0⟩:=KZ HV.o (ay _ _) hc;have HD:=an (Cw (T:=ue seed) hc);rw[<-HN.o]at HD;have ha:=b.toNat_lt;have hx:IntKind.i64.wrap (b.toNat:Int)=(b.toNat:Int):=by rw[bF]; omega
   clear hc;go_wp2_with fail;refine(Bg seed b.toNat _ hs ha).mono ?_;rintro e w1 ⟨rfl,rfl⟩;obtain⟨r,hr⟩: ∃r:Nat,r=n-1-k:=⟨_,rfl⟩;have hu:IntKind.i64.wrap (IntKind.i64.wrap ((n:Int)-1)-(k:Int))=(r:Int):=by rw[bF,bF]; omega
   have hw:(n:Int)-1-(k:Int)=(r:Int):=by omega
   rw[<-hr]at HD;have he:r<64:=by omega
   obtain⟨tv,hf⟩: ∃t,t=ue seed b.toNat:=⟨_,rfl⟩;have hh:tv<18446744073709551616:=by rw[hf]; exact rj _ _
   rw[<-hf]at HD ⊢;clear hf hr;go_wp2_with fail;refine(Bn tv r _ hh he).mono ?_;rintro e w2 ⟨rfl,rfl⟩;obtain⟨z,hz⟩: ∃z,z=pu r tv:=⟨_,rfl⟩;have hj:z<18446744073709551616:=by rw[hz]; exact vI _ hh
   rw[<-hz]at HD ⊢;have HX:=an (u64_xor_nat s z hg hj);clear hz;go_wp2_with fail
   go_roundw
   case rel=>
    refine⟨k+1,s^^^z,by omega,by go_num,by rw[HX.o],qT hg hj, ?_,trivial⟩;rw[Nat.xor_assoc,<-HD.o];exact HS.o
   case measure=>simp[intOf]; omega
  ·have ho:k=n:=by omega
   subst ho;have HF:=an (show s=qc seed data by
    have h1:=HS.o;rw[HN.o,iW]at h1;rw[<-h1]
    show s=s^^^0
    rw[Nat.xor_zero])
   go_wp2_with fail;go_ret;exact⟨by rw[<-HF.o]; rfl,rfl⟩
theorem sM : ∀f,Lib.ctzFrom f 0=f
 | 0=>rfl
 | f+1=>by rw[Lib.ctzFrom,if_neg (by decide),Nat.zero_div,sM f]; omega
theorem Lh (x:Nat):Lib.ctz 64 x=Lib.ctzFrom 64 x:=by
 unfold Lib.ctz
 split
 ·rename_i h; rw[h,sM]
 ·rfl
theorem Ea (x:Nat) (w:World) (hx:x<18446744073709551616):Calls Tryz.prog 204 #[.int .u64 (x:Int)] w fun e w'=>e= .returned (.int .i64 ((Lib.ctz 64 x:Nat):Int))/\w=w':=by
 have HC:=an (Lh x)
 go_enter Tryz.func204,Tryz.ntmps204
 go_wp2_with fail
 go_loopw [3] (fun i wr=> ∃k:Nat,k<=64/\i= .int .i64 (k:Int)/\Lib.ctzFrom 64 x=k+Lib.ctzFrom (64-k) (x/2^k)/\w=wr) (fun i _=>64-(intOf i).toNat)
 case atStart=>exact⟨0,by omega,rfl,by simp,rfl⟩
 case round=>
  obtain⟨k,hk,rfl,hg,rfl⟩:=hrel;have HT:=an hg;clear hg
  by_cases hl:k<64
  ·obtain⟨y,hy⟩: ∃y,y=x/2^k:=⟨_,rfl⟩;have hj:y<18446744073709551616:=by rw[hy]; exact dD (eP _ _) hx
   have ha:Lib.ctzFrom (64-k) y=if y%2=1 then 0 else 1+Lib.ctzFrom (64-(k+1)) (y/2):=by
    rw[show 64-k=(64-(k+1))+1 by omega,Lib.ctzFrom]
   have hc:bits BinOp.and IntKind.u64 ((x:Int)/2^k) 1=((y%2:Nat):Int):=by
    rw[show((x:Int)/2^k)=((y:Nat):Int) by rw[hy]; simp,show(1:Int)=((1:Nat):Int)from rfl,u64_and_nat _ _ hj (by decide),Nat.and_one_is_mod]
   have hf:=an (show Lib.ctzFrom 64 x=k+Lib.ctzFrom (64-k) y by rw[hy]; exact HT.o);have HY:=an (show y/2=x/2^(k+1) by rw[hy,Nat.div_div_eq_div_mul,Nat.pow_succ]);clear hy
   by_cases hb:y%2=1
   ·have hh:(bits BinOp.and IntKind.u64 ((x:Int)/2^k) 1 == 0)=false:=by rw[hc,hb]; rfl
    rw[if_pos hb]at ha;have HR:=an (show Lib.ctz 64 x=k by rw[HC.o,hf.o,ha]; omega);clear hc ha hb;go_wp2_with fail;go_ret;exact⟨by rw[HR.o]; rfl,rfl⟩
   ·have hd:y%2=0:=by omega
    have hh:(bits BinOp.and IntKind.u64 ((x:Int)/2^k) 1 == 0)=true:=by rw[hc,hd]; rfl
    rw[if_neg hb]at ha;have HR:=an (show Lib.ctzFrom 64 x=(k+1)+Lib.ctzFrom (64-(k+1)) (x/2^(k+1)) by rw[hf.o,ha,HY.o]; omega);clear hc ha hb hd;go_wp2_with fail
    go_roundw
    case rel=>exact⟨k+1,by omega,by go_num,HR.o,trivial⟩
    case measure=>simp[intOf]; omega
  ·have he:k=64:=by omega
   subst he;have HR:=an (show Lib.ctz 64 x=64 by
    have h1:=HT.o;rw[HC.o,h1]; rfl)
   go_wp2_with fail;go_ret;exact⟨by rw[HR.o]; rfl,rfl⟩
end Go.Proofs.YtpffpjbkbaleiaaGreatDoor
