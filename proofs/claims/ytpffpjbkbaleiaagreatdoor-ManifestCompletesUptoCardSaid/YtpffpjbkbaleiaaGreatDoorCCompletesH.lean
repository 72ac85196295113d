/- Texts of this proof, one after the other: RbA, GdQ, ContP, NcP, RbB, AwR, RbC, RbD, SmP, AwS, LawIts, NodB, LawNod, RdP, RfA, RfB, RfC, RfD, RfE, RfF, RcT, RfG, R14, R16A, R16B. -/
import Derived.Test.YtpffpjbkbaleiaaGreatDoorCCompletesG
set_option maxRecDepth 100000
set_option maxHeartbeats 8000000
namespace Go.Proofs.YtpffpjbkbaleiaaGreatDoor
section
open Go Go.RowKit Go.Maps
theorem Aj (S:Nat->Prop) (k:dl) (g:Nat) (gi:Int) (data:List UInt8) (dv:Value) (w:World) (hgi:gi=(g:Int)) (hk:jK k=true) (hg:g<=1099511627776) (hv:bD S w dv data) (hl:data.length<=32768):
  Calls Tryz.prog 178 #[kF k, .int .i64 gi,dv] w fun e w'=>e= .returned (.tuple #[.string (mi k g data), .int .i64 0])/\Below w.heap.size w w':=by
 subst hgi;exact FM S k g data dv w hk hg hv hl
theorem Mz {a:Act} {w:World} {b:Nat} {x0 x1 x2:Value} (h:w.heap[b]? =some (.cells #[x0,x1,x2] 26 (0,0)))
  (h4:a.tmps[6]? =some (.pointer (some ⟨b,0,none⟩))):(results Tryz.f158 a.tmps).run Tryz.prog w= .ok (.agg #[x0,x1,x2]) w:=by
 obtain⟨m0,m1,m2,_⟩:=aS h;simp[results,Tryz.results158,go_sem,h4,m0,m1,m2]
theorem My {a:Act} {w:World} {b:Nat} {a0 a1 a2 x0 x1 x2:Value} {Q:Ending->World->Prop} (h:w.heap[b]? =some (.cells #[a0,a1,a2] 26 (0,0)))
  (h4:a.tmps[6]? =some (.pointer (some ⟨b,0,none⟩))) (hd:a.defers=[])
  (hQ:Q (.returned (.agg #[x0,x1,x2])) (((w.setCell ⟨b,0,none⟩ x0).setCell ⟨b,1,none⟩ x1).setCell ⟨b,2,none⟩ x2)):
  bodyPost Tryz.prog Tryz.f158 Q Exit.ret a (((w.setCell ⟨b,0,none⟩ x0).setCell ⟨b,1,none⟩ x1).setCell ⟨b,2,none⟩ x2):=cP (Mz (vu h) h4) hd hQ
def Oy (k:dl) (b:Nat) (w:World):Prop:=w.heap[b]? =some (.cells #[.string k.nm, .string k.st, .string k.ck, .string k.ix, .string k.tk] 42 (0,0))/\w.heap[b+1]? =some (.cells #[.string ⟨#[]⟩, .int .i64 0, .int .i64 0] 26 (0,0))
theorem Oy.below {k:dl} {b:Nat} {w w':World} (h:Oy k b w) (hb:Below w.heap.size w w'):Oy k b w':=⟨(hb.block _ (am h.1)).trans h.1,(hb.block _ (am h.2)).trans h.2⟩
theorem wY (S T:Nat->Prop) (k:dl) (gs:List (ByteArray×Int)) (gv:Value) (x:List UInt8) (cv:Value) (w:World) (hk:jK k=true) (hG:kZ T w gv gs) (hT: ∀i,T i->i<w.heap.size) (hgs:kC gs) (hv:bD S w cv x) (hl:x.length<=32768):
  Calls Tryz.prog 158 #[kF k,cv,gv] w fun e w'=>e= .returned (fi (aV k gs x))/\Below w.heap.size w w':=by
 obtain⟨hJ,a,cap,rfl,hn,hm,-⟩:=id hv;unfold maxLen at hm;obtain⟨n,hp⟩:=bI x.length;have HN:=ah hp;obtain⟨W,hW⟩:=bI ((w.alloc (.cells #[.string k.nm, .string k.st, .string k.ck, .string k.ix, .string k.tk] 42)).alloc (.cells #[.string ⟨#[]⟩, .int .i64 0, .int .i64 0] 26));have HB:=ah (show Below w.heap.size w W by rw[hW]; exact(eW).alloc (by simp) _);have HX:=ah (show Oy k w.heap.size W by rw[hW]; exact⟨mY (aG w _) _,by have:=aG (w.alloc (.cells #[.string k.nm, .string k.st, .string k.ck, .string k.ix, .string k.tk] 42)) (.cells #[.string ⟨#[]⟩, .int .i64 0, .int .i64 0] 26); rw[show(w.alloc (.cells #[.string k.nm, .string k.st, .string k.ck, .string k.ix, .string k.tk] 42)).heap.size=w.heap.size+1 by simp]at this; exact this⟩)
 have he:=ah (show bD S w (.slice a x.length cap) x from hv);rw[<-hp]at hl he ⊢;have HK:=ah hk;have hC:=ah hG;have hr:=ah hgs;have hE:=ah hT;clear hv hJ hp hk hG hgs hT;unfold kF
 go_enter Tryz.func158,Tryz.ntmps158
 go_upto_region 1 with fail
 rw[<-hW];clear hW;have hb:=HX.o.1;obtain⟨k0,k1,k2,k3,k4,_⟩:=aS hb;clear hb;have hF:=ah (show bD S W (.slice a n cap) x from cD.below he.o (by omega) HB.o);go_wp2_with fail;clear k0 k1 k2 k3 k4;refine(Aj S k 0 0 x _ _ rfl HK.o (by decide) hF.o (by rw[<-HN.o]; exact hl)).mono ?_;rintro e w1 ⟨rfl,hg⟩;obtain⟨nm,hc⟩:=bI (mi k 0 x);have hq:nm.size=32:=by rw[hc]; exact lD _ _ _
 rw[<-hc];have hD:=ah hc;have hd:=ah (aj HB.o hg);have hu:=ah (HX.o.below hg);have ho:=CZ (hC.o.keep (w':=w1) (fun i hi _=>hd.o.block i (hE.o i hi))) (n:=nm) (by rw[hq]; decide);obtain⟨gi,ha⟩:=bI (mQ gs nm);rw[<-ha]at ho;obtain⟨gn,hw⟩:=bI (gi.toNat:Nat);have hj:gi=(gn:Int):=by have:=BA hr.o nm; rw[<-ha]at this; omega
 have hI:gn<=1099511627776:=by have:=BA hr.o nm; rw[<-ha]at this; omega
 have hA:=ah ha;rw[hj]at ho;have hz:=ah hj;have hB:=ah hw;have hb:=hu.o.1;obtain⟨k0,k1,k2,k3,k4,_⟩:=aS hb;clear hb hg hc ha hw hj;have hH:=ah (show bD S w1 (.slice a n cap) x from cD.below he.o (by omega) hd.o);go_wp2_with fail;refine(Aj S k gn gn x _ _ rfl HK.o hI hH.o (by rw[<-HN.o]; exact hl)).mono ?_;rintro e w2 ⟨rfl,hh⟩;clear k0 k1 k2 k3 k4 ho
 have hy:=ah (aj hd.o hh);have hf:=ah (hu.o.below hh);have hs:=ah (show aV k gs x=⟨mi k gn x,(gn:Int),(n:Int)⟩ by unfold aV;rw[<-hD.o,<-hA.o,<-hB.o,<-hz.o,<-HN.o])
 clear hh;obtain⟨z0,z1,z2,_⟩:=aS hf.o.2;obtain⟨y0,y1,y2,_⟩:=gI hf.o.2;obtain⟨rn,hx⟩:=bI (mi k gn x);rw[<-hx]at hs ⊢;clear hx;go_wp2_with fail;refine My hf.o.2 rfl rfl ⟨?_, ?_⟩
 ·rw[hs.o]; rfl
 ·exact il hy.o (by omega)
def xx (l:List UInt8):ByteArray:=(jR l).getLast?.getD ⟨#[]⟩
theorem Kb {d p t:List UInt8} (h:rx d p t):xx p=⟨t.toArray⟩:=by
 unfold xx jR;have h1:(dg 47 p).getLast? =some t:=by
  rw[h.path]
  split
  ·rw[fP 47 _ h.no]; rfl
  ·rw[ou,fP 47 _ h.no]; simp
 rw[List.getLast?_map,h1]; rfl
theorem FW (l:List UInt8):1<=(jR l).length:=by unfold jR; rw[aw]; exact sT 47 l
theorem xw (s:ByteArray) (w:World) (hs:s.size<=16777216):Calls Tryz.prog 124 #[.string s] w fun e w'=>e= .returned (.string (xx (bl s)))/\Below w.heap.size w w':=by
 go_enter Tryz.func124,Tryz.ntmps124
 go_wp2_with fail;refine(Mt s w hs).mono ?_;rintro e w1 ⟨a,cap,rfl,hc,hm,hd,hb⟩;obtain⟨n,hn⟩:=bI ((jR (bl s)).length);have hh:1<=n:=by rw[hn]; exact FW _
 unfold maxLen at hm;obtain⟨x,hx⟩: ∃x,(jR (bl s))[n-1]? =some x:=⟨_,bG (by omega)⟩;have HL:=ah (show xx (bl s)=x by unfold xx; rw[List.getLast?_eq_getElem?,<-hn,hx]; rfl);have hf:=ah hb;obtain⟨_,_,he,-,-,ha⟩:=lP.shape hd;simp only[cY]at he;obtain⟨rfl,-,rfl⟩:=he;obtain⟨b,o,rfl,-,q0⟩:=ha (n-1) x hx
 rw[<-hn]at hc ⊢;have hj:IntKind.i64.wrap ((n:Int)-1)=((n-1:Nat):Int):=by rw[bF]; omega
 have hg:(n:Int)-1=((n-1:Nat):Int):=by omega
 clear hd hb hn hx ha;go_wp2_with fail;go_ret;exact⟨by rw[HL.o]; rfl,hf.o⟩
end
section
open Go.RowKit
section
variable (k : dl) (gs : List (ByteArray × Int)) (c : fC) (tree : List dd)
def df :Nat->ByteArray->List UInt8×List (List UInt8)
 | 0,_=>([],[])
 | f+1,d=>(gk ((dB tree d).map fun e=>cE k gs c d e (aV k gs (df f e.path).1)),
  ((dB tree d).flatMap fun e=>if e.kind=1 then fO c e.data else if e.kind=2 then(df f e.path).2 else [])++[gk ((dB tree d).map fun e=>cE k gs c d e (aV k gs (df f e.path).1))])
def nA (f:Nat) (d:ByteArray):List cj:=(dB tree d).map fun e=>cE k gs c d e (aV k gs (df k gs c tree f e.path).1)
def gH (f:Nat) (e:dd):List (List UInt8):=if e.kind=1 then fO c e.data else if e.kind=2 then(df k gs c tree f e.path).2 else []
theorem eL (f:Nat) (d:ByteArray):df k gs c tree (f+1) d=(gk (nA k gs c tree f d),(dB tree d).flatMap (gH k gs c tree f)++[gk (nA k gs c tree f d)]):=rfl
def lB :Nat->ByteArray->Bool
 | 0,_=>false
 | f+1,d=>(dB tree d).any (fun e=>decide (e.kind=2) && lB f e.path) || decide (32768<(df k gs c tree (f+1) d).1.length)
end
section
variable {k : dl} {gs : List (ByteArray × Int)} {c : fC} {tree : List dd}
theorem oa {d:ByteArray} {e:dd} (h:e.kind≠2) (a b:cH):cE k gs c d e a=cE k gs c d e b:=by unfold cE; rw[if_neg h,if_neg h]
def DM (k:dl) (gs:List (ByteArray×Int)) (rec:ByteArray->Except Int (List UInt8×List (List UInt8))) (e:dd):cH:=match rec e.path with
 | .ok p=>aV k gs p.1
 | .error _=>eq
def Bs (c:fC) (rec:ByteArray->Except Int (List UInt8×List (List UInt8))) (e:dd):List (List UInt8):=if e.kind=1 then fO c e.data else if e.kind=2 then(match rec e.path with | .ok p=>p.2 | .error _=>[])else []
theorem Dt {rec:ByteArray->Except Int (List UInt8×List (List UInt8))} {d:ByteArray} : ∀(L:List dd) (its:List cj) (cs:List (List UInt8)),(∀e∈L,e.kind=2-> ∃p,rec e.path= .ok p)->
  gZ k gs c rec d L its cs= .ok (its++L.map (fun e=>cE k gs c d e (DM k gs rec e)),cs++L.flatMap (Bs c rec))
 | [],its,cs,_=>by simp[gZ]
 | e::L,its,cs,h=>by
  have ih:=fun its cs=>Dt (d:=d) L its cs fun x hx=>h x (by simp[hx])
  by_cases h1:e.kind=1
  ·rw[gZ,if_pos h1,ih,oa (b:=DM k gs rec e) (by omega)];rw[bW,bm,show Bs c rec e=fO c e.data by unfold Bs; rw[if_pos h1]];simp
  ·by_cases h2:e.kind=2
   ·obtain⟨p,hp⟩:=h e (by simp) h2;rw[gZ,if_neg h1,if_pos h2,hp];simp only;rw[ih,bW,bm,show Bs c rec e=p.2 by unfold Bs; rw[if_neg h1,if_pos h2,hp],show DM k gs rec e=aV k gs p.1 by unfold DM; rw[hp]];simp
   ·rw[gZ,if_neg h1,if_neg h2,ih,oa (b:=DM k gs rec e) h2];rw[bW,bm,show Bs c rec e=[] by unfold Bs; rw[if_neg h1,if_neg h2]];simp
theorem Du {rec:ByteArray->Except Int (List UInt8×List (List UInt8))} {d:ByteArray} : ∀(L:List dd) (its:List cj) (cs:List (List UInt8)),(∀e∈L,e.kind=2->(∃p,rec e.path= .ok p)\/rec e.path= .error 2)->
  (∃e∈L,e.kind=2/\rec e.path= .error 2)->gZ k gs c rec d L its cs= .error 2
 | [],its,cs,_,h=>by obtain⟨e,he,_⟩:=h; cases he
 | e::L,its,cs,h,hx=>by
  have ih:=fun its cs hx=>Du (d:=d) L its cs (fun x hx=>h x (by simp[hx])) hx
  by_cases h1:e.kind=1
  ·rw[gZ,if_pos h1];refine ih _ _ ?_;obtain⟨x,hx,h3,h4⟩:=hx
   rcases aT.1 hx with rfl | hx
   ·omega
   ·exact⟨x,hx,h3,h4⟩
  ·by_cases h2:e.kind=2
   ·rw[gZ,if_neg h1,if_pos h2]
    rcases h e (by simp) h2 with⟨p,hp⟩ | hp
    ·rw[hp];simp only;refine ih _ _ ?_;obtain⟨x,hx,h3,h4⟩:=hx
     rcases aT.1 hx with rfl | hx
     ·rw[hp]at h4; cases h4
     ·exact⟨x,hx,h3,h4⟩
    ·rw[hp]
   ·rw[gZ,if_neg h1,if_neg h2];refine ih _ _ ?_;obtain⟨x,hx,h3,h4⟩:=hx
    rcases aT.1 hx with rfl | hx
    ·exact absurd h3 h2
    ·exact⟨x,hx,h3,h4⟩
theorem kN {f:Nat} {d:ByteArray} (h:lB k gs c tree (f+1) d=false):(∀e∈dB tree d,e.kind=2->lB k gs c tree f e.path=false)/\(df k gs c tree (f+1) d).1.length<=32768:=by
 unfold lB at h;rw[fQ,eo,List.any_eq_false]at h;refine⟨fun e he hk=> ?_,by omega⟩;have:=h.1 e he
 simpa [hk]using this
theorem Il (h:Bi tree) (hc:jU c=true) (hg:kC gs): ∀(f:Nat) (d:ByteArray),(bl d).length<=512->512<f+(bl d).length->gV k gs c tree f d=if lB k gs c tree f d=true then .error 2 else .ok (df k gs c tree f d)
 | 0,d,h1,h2=>by omega
 | f+1,d,h1,h2=>by
  have ih: ∀e∈dB tree d,gV k gs c tree f e.path=if lB k gs c tree f e.path=true then .error 2 else .ok (df k gs c tree f e.path):=fun e he=>by obtain⟨he1,he2⟩:=eK.1 he;have h3:=dj (h.val e he1);have h4:=fF h3;rw[he2]at h4;exact Il h hc hg f e.path (mH h3) (by omega)
  have hf: ∀e∈dB tree d,1<=f:=fun e he=>by obtain⟨he1,he2⟩:=eK.1 he;have h3:=dj (h.val e he1);have h4:=fF h3;have h5:=mH h3;rw[he2]at h4;omega
  rw[gV,MQ]
  by_cases hb: ∃e∈dB tree d,e.kind=2/\lB k gs c tree f e.path=true
  ·obtain⟨e,he,hk,hbe⟩:=hb;rw[Du (dB tree d) [] [] (fun x hx hk=>by
    rw[ih x hx]
    cases hbx:lB k gs c tree f x.path
    ·exact .inl ⟨_,if_neg (by simp)⟩
    ·exact .inr (if_pos rfl)) ⟨e,he,hk,by rw[ih e he,hbe]; simp⟩]
   have hbt:lB k gs c tree (f+1) d=true:=by unfold lB;rw[gK,List.any_eq_true];exact .inl ⟨e,he,by simp[hk,hbe]⟩
   rw[hbt];simp
  ·have hd: ∀e∈dB tree d,e.kind=2->lB k gs c tree f e.path=false:=fun e he hk=>by
    cases hbe:lB k gs c tree f e.path
    ·rfl
    ·exact absurd ⟨e,he,hk,hbe⟩ hb
   have hh: ∀e∈dB tree d,e.kind=2->gV k gs c tree f e.path= .ok (df k gs c tree f e.path):=fun e he hk=>by rw[ih e he,hd e he hk]; simp
   rw[Dt (dB tree d) [] [] fun e he hk=>⟨_,hh e he hk⟩];simp only[aI];have e1:(dB tree d).map (fun e=>cE k gs c d e (DM k gs (gV k gs c tree f) e))=nA k gs c tree f d:=by
    refine List.map_congr_left fun e he=> ?_
    by_cases hk:e.kind=2
    ·rw[show DM k gs (gV k gs c tree f) e=aV k gs (df k gs c tree f e.path).1 by unfold DM; rw[hh e he hk]]
    ·exact oa hk _ _
   have e2:(dB tree d).flatMap (Bs c (gV k gs c tree f))=(dB tree d).flatMap (gH k gs c tree f):=by
    rw[List.flatMap_def,List.flatMap_def]
    congr 1
    refine List.map_congr_left fun e he=> ?_
    unfold Bs gH
    by_cases h1:e.kind=1
    ·rw[if_pos h1,if_pos h1]
    ·rw[if_neg h1,if_neg h1]
     by_cases hk:e.kind=2
     ·rw[if_pos hk,if_pos hk,hh e he hk]
     ·rw[if_neg hk,if_neg hk]
   rw[e1,e2];have hj:jL (nA k gs c tree f d)=true:=sJ h hc hg d _ fun e he hk=>by refine lE hg ?_;have h6:=hf e he;obtain⟨g,rfl⟩: ∃g,f=g+1:=⟨f-1,by omega⟩;exact(kN (hd e he hk)).2
   rw[if_pos hj];have ha:((dB tree d).any fun e=>decide (e.kind=2) && lB k gs c tree f e.path)=false:=by
    rw[List.any_eq_false];intro e he
    by_cases hk:e.kind=2
    ·simp[hk,hd e he hk]
    ·simp[hk]
   have hbt:lB k gs c tree (f+1) d=decide (32768<(gk (nA k gs c tree f d)).length):=by unfold lB;rw[ha,Bool.false_or,eL]
   rw[hbt,eL]
   by_cases hl:(gk (nA k gs c tree f d)).length<=32768
   ·rw[if_pos hl,if_neg (by simp; omega)]
   ·rw[if_neg hl,if_pos (by simp; omega)]
end
def ng :List (ByteArray×List UInt8)->ByteArray->List UInt8->List (ByteArray×List UInt8)
 | [],n,x=>[(n,x)]
 | p::cs,n,x=>if p.1=n then(n,x)::cs else p::ng cs n x
def kU (bs:List dt):List (ByteArray×List UInt8):=bs.foldl (fun cs b=>ng cs b.ref.name b.con) []
section
variable (k : dl) (gs : List (ByteArray × Int))
def qf (s:List dt×Bool) (x:List UInt8):List dt×Bool:=match s.1.find? (fun b=>decide (b.ref=aV k gs x))with
 | some b=>(s.1,s.2 || !decide (b.con=x))
 | none=>(s.1++[⟨aV k gs x,x⟩],s.2)
def gJ (cs:List (List UInt8)) (s:List dt×Bool):List dt×Bool:=cs.foldl (qf k gs) s
end
def EE (bs:List dt):Bool:= !decide ((bs.map fun b=>b.ref.name).Nodup)
section
variable {k : dl} {gs : List (ByteArray × Int)}
theorem FY (s:List dt×Bool) (x:List UInt8):(qf k gs s x).1=kJ k gs s.1 x:=by
 unfold qf kJ
 cases hf:s.1.find? (fun b=>decide (b.ref=aV k gs x))with
 | some b=>
  have h1:=jz hf;have h2:=dR hf;rw[if_pos (aP.2 ⟨b,h2,by simpa using h1⟩)]
 | none=>
  rw[if_neg];intro hm;obtain⟨b,hb,he⟩:=aP.1 hm;have:=eZ.1 hf b hb;simp[he]at this
theorem vo : ∀(cs:List (List UInt8)) (s:List dt×Bool),(gJ k gs cs s).1=eG k gs cs s.1
 | [],_=>rfl
 | x::cs,s=>by
  show(gJ k gs cs (qf k gs s x)).1=eG k gs cs (kJ k gs s.1 x)
  rw[vo cs,FY]
theorem Nx {s:List dt×Bool} {x:List UInt8} (h:(qf k gs s x).2=false):s.2=false/\(∀b∈s.1,b∈(qf k gs s x).1)/\ ∃b∈(qf k gs s x).1,b.ref=aV k gs x/\b.con=x:=by
 unfold qf at h ⊢
 cases hf:s.1.find? (fun b=>decide (b.ref=aV k gs x))with
 | some b=>
  rw[hf]at h;simp only[fQ,Bool.not_eq_false',aJ]at h;have h1:=jz hf;exact⟨h.1,fun b hb=>hb,b,dR hf,by simpa using h1,h.2⟩
 | none=>
  rw[hf]at h;exact⟨h,fun b hb=>dQ _ hb,_,gF _ (aE.2 rfl),rfl,rfl⟩
theorem ux : ∀ {cs:List (List UInt8)} {s:List dt×Bool},(gJ k gs cs s).2=false->s.2=false/\(∀b∈s.1,b∈(gJ k gs cs s).1)/\ ∀x∈cs,∃b∈(gJ k gs cs s).1,b.ref=aV k gs x/\b.con=x
 | [],s,h=>⟨h,fun _ hb=>hb,fun x hx=>by cases hx⟩
 | y::cs,s,h=>by
  have h0:(gJ k gs cs (qf k gs s y)).2=false:=h;obtain⟨h1,h2,h3⟩:=ux h0;obtain⟨h4,h5,b,h6,h7,h8⟩:=Nx h1;refine⟨h4,fun b hb=>h2 b (h5 b hb),fun x hx=> ?_⟩
  rcases aT.1 hx with rfl | hx
  ·exact⟨b,h2 b h6,h7,h8⟩
  ·exact h3 x hx
theorem mA (n m:ByteArray) (x:List UInt8): ∀(cs:List (ByteArray×List UInt8)),di (ng cs n x) m=if n=m then some x else di cs m
 | []=>rfl
 | (a,b)::cs=>by
  unfold ng
  by_cases h:a=n
  ·subst h;rw[if_pos rfl,di,di]
   by_cases h2:a=m
   ·rw[if_pos h2,if_pos h2]
   ·rw[if_neg h2,if_neg h2,if_neg h2]
  ·rw[if_neg h,di,mA n m x cs]
   by_cases h2:a=m
   ·subst h2;rw[if_pos rfl,if_neg (fun e=>h e.symm),di,if_pos rfl]
   ·rw[if_neg h2,di,if_neg h2]
theorem CJ : ∀(bs:List dt) (cs:List (ByteArray×List UInt8)) (m:ByteArray),(∀b∈bs,b.ref.name≠m)->di (bs.foldl (fun cs b=>ng cs b.ref.name b.con) cs) m=di cs m
 | [],_,_,_=>rfl
 | b::bs,cs,m,h=>by rw[ez,CJ bs _ m fun x hx=>h x (by simp[hx]),mA,if_neg (h b (by simp))]
theorem oD {cs:List (ByteArray×List UInt8)} {x:List UInt8} (h:di cs (aV k gs x).name=some x):iK cs (aV k gs x)= .ok x:=by
 unfold iK;rw[h]
 show(if(x.length:Int)=(x.length:Int)then _ else _)=_
 rw[if_pos rfl]
end
open Go Go.RowKit Go.Maps
def tL (k:dl) (c:fC) (tv gv v:Value) (lg cl:Bool):List Value:=eT k++fZ c++[tv,gv,v, .bool lg, .bool cl]
structure kg (w : World) (base bb : Nat) (k : dl) (c : fC) (tv gv v : Value) (lg : Bool) (s : List dt × Bool) : Prop where
 box:w.heap[bb]? =some (.cells (tL k c tv gv v lg s.2).toArray 130 (0,0))
 own: ∃zs:List mN,zs.map Prod.snd=s.1/\iw w base v zs
theorem kg.below {w w':World} {base bb:Nat} {k:dl} {c:fC} {tv gv v:Value} {lg:Bool} {s:List dt×Bool} (h:kg w base bb k c tv gv v lg s) (hb:Below w.heap.size w w'):kg w' base bb k c tv gv v lg s:=by obtain⟨zs,h1,h2⟩:=h.own;exact⟨(hb.block _ (am h.box)).trans h.box,zs,h1,h2.below hb⟩
structure jM (base bb : Nat) (v v' : Value) (w w' : World) : Prop where
 below:Below base w w'
 same: ∀i,i<w.heap.size->i≠bb->v.ownBlock≠some i->w'.heap[i]? =w.heap[i]?
 place: ∀i,v'.ownBlock=some i->v.ownBlock=some i\/w.heap.size<=i
theorem jM.refl (base bb:Nat) (v:Value) (w:World):jM base bb v v w w:=⟨ak _ _,fun _ _ _ _=>rfl,fun _ h=> .inl h⟩
theorem jM.trans {base bb:Nat} {v v1 v2:Value} {A B C:World} (h:jM base bb v v1 A B) (k:jM base bb v1 v2 B C):jM base bb v v2 A C:=by
 have hs:=h.below.size;refine⟨h.below.trans k.below,fun i h1 h2 h3=>(k.same i (by omega) h2 (fun e=> ?_)).trans (h.same i h1 h2 h3),fun i e=> ?_⟩
 ·rcases h.place i e with e2 | e2
  ·exact h3 e2
  ·omega
 ·rcases k.place i e with e2 | e2
  ·exact h.place i e2
  ·exact .inr (by omega)
theorem jM.ofBelow {base bb:Nat} {v:Value} {w w':World} (h:Below w.heap.size w w') (hb:base<=w.heap.size):jM base bb v v w w':=⟨h.mono hb,fun k h1 _ _=>h.block k h1,fun _ e=> .inl e⟩
theorem jM.row {w w':World} {base bb B sz n:Nat} {k:dl} {c:fC} {tv gv v v' u:Value} {lg:Bool} {s:List dt×Bool} {t:TypeId} {xs:List Value} (h:kg w base bb k c tv gv v lg s) (hk:jM base bb v v' w w') (hr:w.ownsRow B t sz u n xs) (h1:t≠130) (h2:t≠53):w'.ownsRow B t sz u n xs:=
 ff hr (fun i hi hu=>by
  obtain⟨cs,hc⟩:=bJ hr hu;refine hk.same i hi (fun e=> ?_) (fun e=> ?_)
  ·subst e; exact h1 (bU hc h.box)
  ·obtain⟨zs,_,ho⟩:=h.own;obtain⟨cs2,hc2⟩:=bJ ho.row e;exact h2 (bU hc hc2))
theorem jM.blk {w w':World} {base bb i:Nat} {k:dl} {c:fC} {tv gv v v':Value} {lg:Bool} {s:List dt×Bool} {cs:Array Value} {t:TypeId} {z:Nat×Nat} (h:kg w base bb k c tv gv v lg s) (hk:jM base bb v v' w w') (hx:w.heap[i]? =some (.cells cs t z)) (h1:t≠130) (h2:t≠53):w'.heap[i]? =some (.cells cs t z):=
 (hk.same i (am hx) (fun e=>by subst e; exact h1 (bU hx h.box)) (fun e=>by obtain⟨zs,_,ho⟩:=h.own;obtain⟨cs2,hc2⟩:=bJ ho.row e;exact h2 (bU hx hc2))).trans hx
theorem kg.clash {w:World} {base bb:Nat} {k:dl} {c:fC} {tv gv v:Value} {lg cl:Bool} {bs:List dt} (h:kg w base bb k c tv gv v lg (bs,cl)) (cl':Bool) (hb:base<=bb):kg (w.setCell ⟨bb,14,none⟩ (.bool cl')) base bb k c tv gv v lg (bs,cl')/\jM base bb v v w (w.setCell ⟨bb,14,none⟩ (.bool cl')):=by
 obtain⟨zs,h1,h2⟩:=h.own;have hs: ∀j,j≠bb->(w.setCell ⟨bb,14,none⟩ (.bool cl')).heap[j]? =w.heap[j]? :=fun j hj=>ay _ _ _ _ hj
 have ha: ∀ {t:TypeId} {n sz:Nat} {u:Value} {xs:List Value},w.ownsRow base t sz u n xs->t≠130->(w.setCell ⟨bb,14,none⟩ (.bool cl')).ownsRow base t sz u n xs:=fun hr ht=>ff hr (fun i hi hu=>hs i (fun e=>by obtain⟨cs,hc⟩:=bJ hr hu;subst e;exact ht (bU hc h.box)))
 refine⟨⟨?_,zs,h1,ha h2.row (by decide),fun z hz=>ha (h2.dat z hz) (by decide)⟩,(ak _ _).grown (cK w bb 14 _) ?_ (fun i hi=>by cases hi; exact hb),fun i hi e1 _=>hs i e1,fun i e=> .inl e⟩
 ·have:=jm (k:=14) h.box (.bool cl')
  simpa [tL,eT,fZ]using this
 ·have:=am h.box; omega
theorem kg.push {w w2:World} {base bb:Nat} {k:dl} {c:fC} {tv gv v v' dv:Value} {lg cl:Bool} {bs:List dt} {zs:List mN} {b:dt} (hz:zs.map Prod.snd=bs) (h:iw w base v zs) (hx:w.heap[bb]? =some (.cells (tL k c tv gv v lg cl).toArray 130 (0,0)))
  (hn:w.ownsRow base 5 1 dv b.con.length (b.con.map aY)) (hown:w2.ownsRow base 53 4 v' (zs.length+1) (ks zs++nT dv b)) (hg:w.grownBy w2 v.ownBlock) (hpl: ∀k,v'.ownBlock=some k->v.ownBlock=some k\/w.heap.size<=k) (hbe:base<=bb):
  kg (w2.setCell ⟨bb,12,none⟩ v') base bb k c tv gv v' lg (bs++[b],cl)/\jM base bb v v' w (w2.setCell ⟨bb,12,none⟩ v'):=by
 have hk:=am hx;have he:base<=w.heap.size:=by omega
 have hf:v.ownBlock≠some bb:=fun e=>by obtain⟨cs,hc⟩:=bJ h.row e;exact absurd (bU hx hc) (by decide)
 have hb:v'.ownBlock≠some bb:=fun e=>by
  rcases hpl bb e with e | e
  ·exact hf e
  ·omega
 have hh:=(hg.block bb hk (fun e=>hf e.symm)).trans hx;have ha: ∀(u:Value) (ds:List UInt8),w.ownsRow base 5 1 u ds.length (ds.map aY)->(w2.setCell ⟨bb,12,none⟩ v').ownsRow base 5 1 u ds.length (ds.map aY):=by intro u ds hd;refine ff hd (fun i hi hu=> ?_);obtain⟨cs,hc⟩:=bJ hd hu;rw[ay _ _ _ _ (show i≠bb from fun e=>absurd (bU (e▸hc) hx) (by decide))];refine hg.block i hi (fun e=> ?_);obtain⟨cs2,hj⟩:=bJ h.row e.symm;exact absurd (bU hc hj) (by decide)
 refine⟨⟨?_,zs++[(dv,b)],by simp[hz], ?_,fun z hz=> ?_⟩,⟨?_,fun i hi e1 e3=> ?_,fun i e=> ?_⟩⟩
 ·have:=jm (k:=12) hh v'
  simpa [tL,eT,fZ]using this
 ·rw[ag,bB,uP];exact hown.kept (cK _ _ _ _) (.inr (fun e=>hb e))
 ·rcases aN.1 hz with hz | hz
  ·exact ha _ _ (h.dat z hz)
  ·rw[aE]at hz;subst hz;exact ha _ _ hn
 ·exact((ak _ _).grown hg he (fun i hi=>(h.row.lt i hi).1)).grown (cK w2 bb 12 v') (an he hg.size) (fun i hi=>by cases hi; exact hbe)
 ·rw[ay _ _ _ _ (show i≠bb from e1)];exact hg.block i hi (fun e=>e3 e.symm)
 ·rcases hpl i e with e | e
  ·exact .inl e
  ·exact .inr (by omega)
theorem Pn {a:Act} {w:World} {b:Nat} {x0 x1 x2:Value} (h:w.heap[b]? =some (.cells #[x0,x1,x2] 26 (0,0)))
  (h4:a.tmps[4]? =some (.pointer (some ⟨b,0,none⟩))):(results Tryz.f126 a.tmps).run Tryz.prog w= .ok (.agg #[x0,x1,x2]) w:=by
 obtain⟨m0,m1,m2,_⟩:=aS h;simp[results,Tryz.results126,go_sem,h4,m0,m1,m2]
theorem BN {a:Act} {w:World} {b:Nat} {a0 a1 a2 x0 x1 x2:Value} {Q:Ending->World->Prop} (h:w.heap[b]? =some (.cells #[a0,a1,a2] 26 (0,0)))
  (h4:a.tmps[4]? =some (.pointer (some ⟨b,0,none⟩))) (hd:a.defers=[])
  (hQ:Q (.returned (.agg #[x0,x1,x2])) (((w.setCell ⟨b,0,none⟩ x0).setCell ⟨b,1,none⟩ x1).setCell ⟨b,2,none⟩ x2)):
  bodyPost Tryz.prog Tryz.f126 Q Exit.ret a (((w.setCell ⟨b,0,none⟩ x0).setCell ⟨b,1,none⟩ x1).setCell ⟨b,2,none⟩ x2):=cP (Pn (vu h) h4) hd hQ
theorem Fc {bs:List dt} {j:Nat} {b:dt} (h:bs[j]? =some b):kU (bs.take (j+1))=ng (kU (bs.take j)) b.ref.name b.con:=by
 unfold kU;rw[dZ h,eR]
 rfl
theorem dG.miss' {S:Nat->Prop} {w:World} {n:ByteArray} {v:Value} {x:List UInt8} (hv:bD S w v x): ∀ {m:List (Value×Value)} {cs:List (ByteArray×List UInt8)},dG S w m cs->(∀p∈m,p.1≠Value.string n)->dG S w (m++[(.string n,v)]) (ng cs n x)
 | [],[],_,_=>⟨rfl,hv,trivial⟩
 | [],_::_,h,_=>False.elim h
 | _::_,[],h,_=>False.elim h
 | (k,u)::m,(n',b')::cs,h,hm=>by
  have hne:n'≠n:=fun e=>hm (k,u) (by simp) (by rw[h.1,e])
  rw[ng,if_neg hne];exact⟨h.1,h.2.1,dG.miss' hv h.2.2 (fun p hp=>hm p (by simp[hp]))⟩
theorem dG.hit' {S:Nat->Prop} {w:World} {n:ByteArray} : ∀ {m:List (Value×Value)} {cs:List (ByteArray×List UInt8)},dG S w m cs->(∃p∈m,p.1=Value.string n)-> ∃m1 old m2,m=m1++(.string n,old)::m2/\ ∀(w':World) (S':Nat->Prop) (v:Value) (x:List UInt8),(∀v bs,bD S w v bs->bD S' w' v bs)->bD S' w' v x->dG S' w' (m1++(.string n,v)::m2) (ng cs n x)
 | [],[],_,⟨_,hp,_⟩=>by simp at hp
 | [],_::_,h,_=>False.elim h
 | _::_,[],h,_=>False.elim h
 | (k,u)::m,(n',b')::cs,h,hp=>by
  have hmono: ∀ {w':World} {S':Nat->Prop},(∀v bs,bD S w v bs->bD S' w' v bs)->dG S w m cs->dG S' w' m cs:=by
   intro w' S' hm;have: ∀ {m:List (Value×Value)} {cs:List (ByteArray×List UInt8)},dG S w m cs->dG S' w' m cs:=by
    intro m
    induction m with
    | nil=>intro cs h; cases cs with
     | nil=>trivial
     | cons=>exact h
    | cons p m ih=>intro cs h; cases cs with
     | nil=>exact h
     | cons q cs=>exact⟨h.1,hm _ _ h.2.1,ih h.2.2⟩
   exact this
  by_cases hn:n'=n
  ·subst hn;refine⟨[],u,m,by rw[h.1]; rfl,fun w' S' v x hm hv=> ?_⟩;rw[ng,if_pos rfl];exact⟨rfl,hv,hmono hm h.2.2⟩
  ·obtain⟨p,hc,hb⟩:=hp;have ha:p∈m:=by
    rcases aT.1 hc with rfl | ha
    ·have:=h.1.symm.trans hb;simp only[eD]at this;exact absurd this hn
    ·exact ha
   obtain⟨m1,old,m2,h1,h2⟩:=dG.hit' h.2.2 ⟨p,ha,hb⟩;refine⟨(k,u)::m1,old,m2,by rw[h1]; rfl,fun w' S' v x hm hv=> ?_⟩;rw[ng,if_neg hn];exact⟨h.1,hm _ _ h.2.1,h2 w' S' v x hm hv⟩
def mI (S:Nat->Prop) (w:World) (v:Value) (bs:List dt):Prop:= ∃zs:List mN,zs.map Prod.snd=bs/\cD S w 4 v zs.length (ks zs)/\ ∀z∈zs,bD S w z.1 z.2.con/\eF z.2.ref
theorem wu : ∀ {zs:List mN} {k:Nat} {z:mN},zs[k]? =some z-> ∀j,j<4->(ks zs)[k*4+j]? =(nT z.1 z.2)[j]?
 | [],k,_,h,_,_=>by simp at h
 | x::zs,0,z,h,j,hj=>by simp at h; subst h;unfold ks;rw[bm,jh,bT,bH (by exact hj)]
 | x::zs,k+1,z,h,j,hj=>by
  have:=wu (zs:=zs) (k:=k) (z:=z) (by simpa using h) j hj;unfold ks at this ⊢;rw[bm,bC (by show 4<=_; omega),<-this]
  congr 1
  show(k+1)*4+j-4=_
  omega
theorem tj {S:Nat->Prop} {w:World} {a:Option Addr} {n cap:Nat} {zs:List mN} (h:cD S w 4 (.slice a n cap) zs.length (ks zs)) {k:Nat} {z:mN} (hz:zs[k]? =some z):
  ∃b o,a=some ⟨b,o,none⟩/\S b/\b<w.heap.size/\ ∀j,j<4->w.cell? ⟨b,o+k*4+j,none⟩=(nT z.1 z.2)[j]? :=by
 obtain⟨_,a',cap',he,_,_,h0⟩:=h
 cases he
 have ha:=(aD.1 hz).1
 rcases h0 with h0 | ⟨b,o,rfl,hS,hc⟩
 ·omega
 ·have g:=fun j (hj:j<4)=>hc (k*4+j) _ ((wu hz j hj).trans (bG (l:=nT z.1 z.2) hj))
  have g0:=g 0 (by omega);refine⟨b,o,rfl,hS,bP (a:=⟨b,o+(k*4+0),none⟩) g0,fun j hj=> ?_⟩;rw[dk,g j hj];exact(bG (l:=nT z.1 z.2) hj).symm
theorem mI.below {S:Nat->Prop} {w w':World} {v:Value} {bs:List dt} (h:mI S w v bs) (hb:Below w.heap.size w w'):mI S w' v bs:=by obtain⟨zs,h1,h2,h3⟩:=h;exact⟨zs,h1,cD.below h2 (by omega) hb,fun z hz=>⟨cD.below (h3 z hz).1 (by omega) hb,(h3 z hz).2⟩⟩
def AY (S:Nat->Prop) (bs:List dt) (w:World) (e:Ending) (w':World):Prop:= ∃mb m,e= .returned (.map (some mb))/\w.heap.size<=mb/\ik Tryz.prog 9 w' mb m/\dG S w' m (kU bs)/\Below w.heap.size w w'
theorem pQ (S:Nat->Prop) (bs:List dt) (v:Value) (w:World) (hv:mI S w v bs) (hl:bs.length<=1000000):Calls Tryz.prog 36 #[v] w (AY S bs w):=by
 obtain⟨zs,hF,he,hf⟩:=hv;obtain⟨_,a,cap,rfl,Ha,hm,-⟩:=id he;unfold maxLen at hm;have hC:=ah he;have hy:=ah hf
 have hO:=ah hF;obtain⟨n,hn⟩:=bI zs.length;have Hf:n<=1000000:=by rw[hn,<-aw (f:=Prod.snd),hF]; exact hl
 rw[<-hn]at Ha ⊢;have HN:=ah hn;have Hd:= @run_makeMap Tryz.prog;obtain⟨W0,hu⟩:=bI (w.alloc (.map #[] 0));have hY:=ah (show ik Tryz.prog 9 W0 w.heap.size [] by rw[hu]; exact ik.made w);have hX:=ah (show Below w.heap.size w W0 by rw[hu]; exact eW);clear he hf hF hn hl
 go_enter Tryz.func36,Tryz.ntmps36
 go_upto_region 2 with(fail)
 rw[<-hu];clear hu Hd;go_wp2_with fail
 go_loopw [4] (fun i wr=> ∃(j:Nat) (m:List (Value×Value)),j<=n/\i= .int .i64 (j:Int)/\ik Tryz.prog 9 wr w.heap.size m/\dG S wr m (kU (bs.take j))/\Below w.heap.size w wr) (fun i _=>n-(intOf i).toNat)
 ·exact⟨0,[],aU _,rfl,hY.o,trivial,hX.o⟩
 ·obtain⟨j,m,hj,rfl,hU,hT,hb⟩:=hrel;have hs:=ah hU;have hA:=ah hT;have HB:=ah hb;clear hU hT hb
  by_cases Hc:j<n
  ·obtain⟨z,hz⟩: ∃z,zs[j]? =some z:=⟨zs[j]'(by rw[<-HN.o]; exact Hc),by simp⟩;obtain⟨b,o,rfl,-,h8,hR⟩:=tj hC.o hz;have hq:=hy.o z (aQ hz);have He:=ah hq;have h0:=ah (show bs[j]? =some z.2 by rw[<-hO.o,bh,hz]; rfl);obtain⟨_,za,zc,hG,-,-,-⟩:=id hq.1;have g:=fun i (hi:i<4)=>(HB.o.cell (p:=⟨b,o+j*4+i,none⟩) h8).trans (hR i hi)
   have q0:=g 0 (by omega);have q3:=g 3 (by omega);simp only[nT,aB,cQ,cZ]at q0 q3;rw[hG]at q3;obtain⟨zl,hE⟩:=bI z.2.con.length;rw[<-hE]at q3;obtain⟨nm,hx⟩:=bI z.2.ref.name;rw[<-hx]at q0;have hD:nm.size<=maxLen:=by rw[hx]; exact hq.2.nm
   have ht:Tryz.prog.underlying 55=some (.map 9 29):=gS;have hN:=ah ht;have hM:=ah (show kU (bs.take (j+1))=ng (kU (bs.take j)) nm z.2.con by rw[Fc h0.o,hx]);have hH:=ah (show ∀W:World,Below w.heap.size w W->bD S W (.slice za zl zc) z.2.con from fun W hW=>by rw[hE,<-hG]; exact cD.below hq.1 (by omega) hW);have h9:w.heap.size<wr.heap.size:=hs.o.lt
   clear ht hz hR hq hG g hE hx;go_wp2_with fail;refine bL [some 12,none] (by kernel_rfl) (by kernel_rfl) (by kernel_rfl) ?_;simp only[ed,aR,aZ,bA,bR];have hJ:=ah (hs.o.same (w':=wr.drew) rfl)
   repeat (first | (refine cy rfl ?_; simp only[bN]) | (refine cU rfl (fun K hK=> ?_); go_simp; refine hK _ ?_; clear hK K))
   refine cT ?_;refine eu rfl (fun K hK=> ?_);have hP: ∀(w9:World),wr.drew.grownBy w9 (some w.heap.size)->Below w.heap.size w w9:=fun w9 hg=>(HB.o.trans ((ak wr.heap.size wr).drew.mono HB.o.size)).grown hg (fH h9) (fun i hi=>by cases hi; exact ai _)
   have hr:=ah hP
   have ha: ∀(w9:World),wr.drew.grownBy w9 (some w.heap.size)-> ∀v bs,bD S wr v bs->bD S w9 v bs:=fun w9 hg v bs hv=>by
    obtain⟨h1,a9,cap9,rfl,h2,h3,h4⟩:=hv;refine⟨h1,a9,cap9,rfl,h2,h3, ?_⟩
    rcases h4 with h4 | ⟨b9,o9,rfl,hS,hc⟩
    ·exact .inl h4
    ·refine .inr ⟨b9,o9,rfl,hS,fun i u hi=> ?_⟩;have q:=hc i u hi;rw[<-q];refine cw (hg.block b9 (bP (a:=⟨b9,o9+i,none⟩) q) (fun e=> ?_));have:b9=w.heap.size:=by simpa using e
     subst this;obtain⟨es,clock,h7,_⟩:=hs.o;simp[World.cell?,h7]at q
   have hI:=ah ha;clear hP ha
   by_cases hw: ∃p∈m,p.1=Value.string nm
   ·obtain⟨m1,old,m2,rfl,ho⟩:=hA.o.hit' hw;have hZ:=ah ho;clear hw ho;go_wp2_with (at_mapUpdate; go_must (refine qo fw rfl _ _ _ _ rfl hN.o w.heap.size m1 m2 (.string nm) (.slice za zl zc) old hJ.o rfl rfl rfl ?_); intro w9 hk hh);have hB:=ah hk;have hd:=ah hh;clear hk hh;go_wp2_with fail
    go_roundw
    ·exact⟨j+1,_,by omega,by go_num,hB.o,by rw[hM.o]; exact hZ.o w9 S _ _ (hI.o w9 hd.o) (hH.o w9 (hr.o w9 hd.o)),hr.o w9 hd.o⟩
    simp[intOf]; omega
   ·have hV: ∀p∈m,p.1≠Value.string nm:=fun p hp e=>hw ⟨p,hp,e⟩
    have hL:=ah hV;clear hw hV;go_wp2_with (at_mapUpdate; go_must (refine jY fw rfl _ _ _ _ rfl hN.o w.heap.size m hJ.o rfl (.string nm) (.slice za zl zc) rfl rfl (gY hD) hL.o ?_); intro w9 hk hh);have hB:=ah hk;have hd:=ah hh;clear hk hh;go_wp2_with fail
    go_roundw
    ·exact⟨j+1,_,by omega,by go_num,hB.o,by rw[hM.o]; exact dG.miss' (hH.o w9 (hr.o w9 hd.o)) (hA.o.mono (hI.o w9 hd.o)) hL.o,hr.o w9 hd.o⟩
    simp[intOf]; omega
  ·have Hb:j=n:=by omega
   subst Hb;go_wp2_with fail;go_ret;have h1:=hA.o;rw[bw (by rw[<-hO.o,aw,<-HN.o]; exact ai _)]at h1;exact⟨_,m,rfl,ai _,hs.o,h1,HB.o⟩
def gg (bb:Nat) (k:dl) (c:fC) (tv gv v:Value) (lg cl:Bool) (w:World):Prop:=w.heap[bb]? =some (.cells (tL k c tv gv v lg cl).toArray 130 (0,0))
theorem gg.below {bb:Nat} {k:dl} {c:fC} {tv gv v:Value} {lg cl:Bool} {w w':World} (h:gg bb k c tv gv v lg cl w) (hb:Below w.heap.size w w'):gg bb k c tv gv v lg cl w':=er hb h
theorem Eg (w:World) (n:Nat):Below w.heap.size w (w.drewN n):=⟨rfl,rfl,rfl,ai _,fun _ _=>rfl⟩
theorem Ip {α:Type} {p:α->Bool} : ∀ {l:List α} {j:Nat} {b:α},l[j]? =some b->p b=true->(∀y∈l.take j,p y=false)->l.find? p=some b
 | [],_,_,h,_,_=>by simp at h
 | a::l,0,b,h,hp,_=>by
  obtain rfl:a=b:=by simpa using h
  simp[hp]
 | a::l,j+1,b,h,hp,hn=>by have h1:p a=false:=hn a (by simp);rw[List.find?_cons,h1];exact Ip (l:=l) (j:=j) (by simpa using h) hp (fun y hy=>hn y (by simp[hy]))
theorem kg.other {w w':World} {base bb b:Nat} {k:dl} {c:fC} {tv gv v:Value} {lg:Bool} {s:List dt×Bool} {cs:Array Value} {t:TypeId} {z:Nat×Nat} (h:kg w base bb k c tv gv v lg s) (hb:w.heap[b]? =some (.cells cs t z)) (h1:t≠130) (h2:t≠53) (h3:t≠5) (hs: ∀i,i≠b->i<w.heap.size->w'.heap[i]? =w.heap[i]?):kg w' base bb k c tv gv v lg s:=by
 obtain⟨zs,hz,hr,hd⟩:=h.own;refine⟨(hs bb (fun e=> ?_) (am h.box)).trans h.box,zs,hz,ff hr (fun i hi hu=>hs i (fun e=> ?_) hi),fun y hy=>ff (hd y hy) (fun i hi hu=>hs i (fun e=> ?_) hi)⟩
 ·subst e; exact h1 (bU hb h.box)
 ·subst e;obtain⟨cs2,ha⟩:=bJ hr hu;exact h2 (bU hb ha)
 ·subst e;obtain⟨cs2,ha⟩:=bJ (hd y hy) hu;exact h3 (bU hb ha)
theorem jM.setNew {base bb b j:Nat} {v v' u:Value} {w w':World} (h:jM base bb v v' w w') (hb:w.heap.size<=b) (hbz:base<=w.heap.size):jM base bb v v' w (w'.setCell ⟨b,j,none⟩ u):=
 ⟨cz h.below (show base<=b by omega) u,fun i h1 h2 h3=>(ay _ _ _ _ (show i≠b by omega)).trans (h.same i h1 h2 h3),h.place⟩
theorem Av (base bb:Nat) (k:dl) (c:fC) (tv gv v cv:Value) (gs:List (ByteArray×Int)) (lg cl:Bool) (bs:List dt) (x:List UInt8) (w:World) (h:kg w base bb k c tv gv v lg (bs,cl)) (hk:jK k=true) (hG:kZ (· <base) w gv gs) (hgs:kC gs) (hx:w.ownsRow base 5 1 cv x.length (x.map aY)) (hl:x.length<=32768) (hbs:bs.length<=1000000) (hbe:base<=bb):
  Calls Tryz.prog 126 #[.pointer (some ⟨bb,0,none⟩),cv] w fun e w'=>e= .returned (fi (aV k gs x))/\ ∃v',kg w' base bb k c tv gv v' lg (qf k gs (bs,cl) x)/\jM base bb v v' w w':=by
 have H5:=am h.box;have hf:base<=w.heap.size:=by omega
 obtain⟨zs,Hs,ho⟩:=h.own;obtain⟨av,cvv,hv,hB,hC⟩:=aH ho.row;obtain⟨n,hn⟩:=bI zs.length;rw[<-hn]at hv hB;subst hv;unfold maxLen at hC;have hL:=ah hn;have Hk:=ah Hs;have HO:=ah ho;have H7:n<=1000000:=by rw[hn,<-aw (f:=Prod.snd),Hs]; exact hbs
 clear hbs Hs ho hn;obtain⟨W1,h3⟩:=bI (w.alloc (.cells #[.string ⟨#[]⟩, .int .i64 0, .int .i64 0] 26));have HM:=ah (show Below w.heap.size w W1 by rw[h3]; exact eW);have HS:=ah (show W1.heap[w.heap.size]? =some (.cells #[.string ⟨#[]⟩, .int .i64 0, .int .i64 0] 26 (0,0)) by rw[h3]; exact aG w _);have HH:=ah h;have HK:=ah hk;have HG:=ah hG;have Hu:=ah hgs
 have hX:=ah hx;obtain⟨ax,cx,rfl,hA,H4⟩:=aH hx;obtain⟨xl,Hq⟩:=bI x.length;rw[<-Hq]at hl hX ⊢;have hJ:=ah Hq;clear h hk hG hgs hx hA H4 Hq
 go_enter Tryz.func126,Tryz.ntmps126
 go_upto_region 1 with fail
 rw[<-h3];clear h3;refine fd (gg bb k c tv gv (.slice av n cvv) lg cl) (by kernel_rfl) ?_;obtain⟨V,hV⟩:=bI W1.drew;rw[<-hV];have hb:Below W1.heap.size W1 V:=by rw[hV]; exact(ak _ _).drew
 have hR:=ah (aj HM.o hb);have Hf:=ah (er hb HS.o);have SV:=ah (show gg bb k c tv gv (.slice av n cvv) lg cl V from gg.below HH.o.box hR.o);clear hV hb
 iterate 9 (refine cI rfl SV.o (by rintro w' hx; have ha:=hx; unfold gg at ha; have k0:=ar (k:=0) ha; have k1:=ar (k:=1) ha; have k2:=ar (k:=2) ha; have k3:=ar (k:=3) ha; have k4:=ar (k:=4) ha; have k11:=ar (k:=11) ha; simp only[tL,eT,fZ,aK,aI,gd]at k0 k1 k2 k3 k4 k11; clear hx ha; go_simp; rfl) ?_; simp only[bN])
 obtain⟨rf,HL⟩:=bI (aV k gs x);have hF:=ah HL;clear HL;have H0: ∀i,(· <base) i->i<V.heap.size:=fun i hi=>aO hi (an hf hR.o.size)
 refine xf 9 10 rfl rfl (by kernel_rfl) rfl rfl (fun K hK=> ?ca) (fun K hK=> ?al)
 case' ca=>
  have H1:Below V.heap.size V V:=ak _ _;go_wp2_with fail;refine(wY _ _ k gs gv x _ _ HK.o (HG.o.keep (w':=V) (fun i hi _=>hR.o.block i (aO hi hf))) H0 Hu.o (show bD (fun _=>True) V (.slice ax xl cx) x by
   have h1:=cJ (cW hX.o hR.o)
   show cD _ V 1 _ x.length (x.map aY)
   rw[<-hJ.o];exact h1.weak fun _ _=>trivial) (by rw[<-hJ.o]; exact hl)).mono ?_
  rintro e w2 ⟨rfl,hd⟩;rw[<-hF.o];have hP:=ah (aj hR.o hd);have h2:=ah (er hd Hf.o);have S2:=ah (gg.below SV.o hd);clear hd H1;unfold fi;go_wp2_with fail;refine⟨S2.o, ?_⟩;refine cC 10 rfl (fun K hK=> ?_);go_wp2_with fail;obtain⟨Z,hZ⟩:=bI (w2.alloc (.cells #[.string ⟨#[]⟩, .int .i64 0, .int .i64 0] 26));rw[<-hZ];have hc:Below w2.heap.size w2 Z:=by rw[hZ]; exact eW
  have Ha:=ah (aj hP.o hc);have Hg:=ah (er hc h2.o);have SZ:=ah (gg.below S2.o hc);obtain⟨xb,hE⟩:=bI w2.heap.size;have hW:=ah (show Z.heap[xb]? =some (.cells #[.string ⟨#[]⟩, .int .i64 0, .int .i64 0] 26 (0,0)) by rw[hZ,hE]; exact aG w2 _);have Hp:w.heap.size<xb:=by rw[hE]; exact am h2.o
  rw[<-hE];clear hZ hc hE;refine⟨SZ.o, ?_⟩
 case' al=>
  go_wp2_with fail;obtain⟨w2,h8⟩:=bI (V.alloc (.cells #[.string ⟨#[]⟩, .int .i64 0, .int .i64 0] 26));rw[<-h8];have hd:Below V.heap.size V w2:=by rw[h8]; exact eW
  have hP:=ah (aj hR.o hd);have h2:=ah (er hd Hf.o);have S2:=ah (gg.below SV.o hd);obtain⟨xb,hE⟩:=bI V.heap.size;have HV:=ah (show w2.heap[xb]? =some (.cells #[.string ⟨#[]⟩, .int .i64 0, .int .i64 0] 26 (0,0)) by rw[h8,hE]; exact aG V _);have Hp:w.heap.size<xb:=by rw[hE]; exact am Hf.o
  rw[<-hE];have Hl: ∀i,(· <base) i->i<w2.heap.size:=fun i hi=>aO hi (an hf hP.o.size)
  clear h8 hd hE;refine⟨S2.o, ?_⟩;refine cC 9 rfl (fun K hK=> ?_);go_wp2_with fail;refine(wY _ _ k gs gv x _ _ HK.o (HG.o.keep (w':=w2) (fun i hi _=>hP.o.block i (aO hi hf))) Hl Hu.o (show bD (fun _=>True) w2 (.slice ax xl cx) x by
   have h1:=cJ (cW hX.o hP.o)
   show cD _ w2 1 _ x.length (x.map aY)
   rw[<-hJ.o];exact h1.weak fun _ _=>trivial) (by rw[<-hJ.o]; exact hl)).mono ?_
  rintro e Z ⟨rfl,hc⟩;rw[<-hF.o];have Ha:=ah (aj hP.o hc);have Hg:=ah (er hc h2.o);have SZ:=ah (gg.below S2.o hc);have hW:=ah (er hc HV.o);clear hc;unfold fi;go_wp2_with fail;refine⟨SZ.o, ?_⟩
 all_goals
  obtain⟨z0,z1,z2,_⟩:=aS hW.o;obtain⟨y0,y1,y2,_⟩:=gI hW.o;refine cC 11 rfl (fun K hK=> ?_);go_wp2_with fail;obtain⟨Y,hY⟩:=bI ((((Z.setCell ⟨xb,0,none⟩ (.string rf.name)).setCell ⟨xb,1,none⟩ (.int .i64 rf.gen)).setCell ⟨xb,2,none⟩ (.int .i64 rf.size)));have HP:=ah (show Below w.heap.size w Y by rw[hY]; exact il Ha.o (by omega));have HX:=ah (show Y.heap[xb]? =some (.cells #[.string rf.name, .int .i64 rf.gen, .int .i64 rf.size] 26 (0,0)) by rw[hY]; exact vu hW.o)
  have HU:=ah (show Y.heap[w.heap.size]? =some (.cells #[.string ⟨#[]⟩, .int .i64 0, .int .i64 0] 26 (0,0)) by rw[hY]; exact(et (by omega)).trans Hg.o);have SY:=ah (show gg bb k c tv gv (.slice av n cvv) lg cl Y by rw[hY]; exact(et (by omega)).trans SZ.o);rw[<-hY];clear hY z0 z1 z2 y0 y1 y2 SZ hW Hg Ha;refine⟨SY.o, ?_⟩;refine cL (by kernel_rfl) ?_;go_wp2_with fail
  go_loopw [6] (fun i wr=> ∃j:Nat,j<=n/\i= .int .i64 (j:Int)/\(∀b∈bs.take j,¬b.ref=rf)/\Below Y.heap.size Y wr) (fun i _=>n-(intOf i).toNat)
  ·exact⟨0,aU _,rfl,by simp,ak _ _⟩
  ·obtain⟨j,hj,rfl,HI,hb⟩:=hrel;have Hb:=ah HI;have HB:=ah hb;have h9:=ah (aj HP.o hb);have Hj:=ah (er hb HX.o);have Hx:=ah (er hb HU.o);have SW:=ah (gg.below SY.o hb);clear HI hb
   by_cases H3:j<n
   ·obtain⟨z,hz⟩: ∃z,zs[j]? =some z:=⟨zs[j]'(by rw[<-hL.o]; exact H3),by simp⟩;have HA:=ah (HO.o.dat z (aQ hz));have HC:=ah (show bs[j]? =some z.2 by rw[<-Hk.o,bh,hz]; rfl);have hO:=cJ (cW HO.o.row h9.o);rw[<-hL.o]at hO;obtain⟨gb,go,rfl,-,H6,hh⟩:=tj (by rw[<-hL.o]; exact hO) hz;have q0:=hh 0 (by omega)
    have q1:=hh 1 (by omega);have q2:=hh 2 (by omega);have q3:=hh 3 (by omega);simp only[nT,aB,cQ,cZ]at q0 q1 q2 q3;obtain⟨za,zc,Ht,-,-⟩:=aH HA.o;rw[Ht]at q3;have HY:=ah Ht;obtain⟨zl,Hr⟩:=bI z.2.con.length;rw[<-Hr]at q3;have HD:=ah Hr;have HE:=ah q3;obtain⟨r,hr⟩:=bI z.2.ref;rw[<-hr]at q0 q1 q2
    have HR:=ah hr;have h7:=PI r rf;have ha:=SW.o;unfold gg at ha;have k0:=ar (k:=0) ha;have k1:=ar (k:=1) ha;have k2:=ar (k:=2) ha;have k3:=ar (k:=3) ha;have k4:=ar (k:=4) ha;have k11:=ar (k:=11) ha;have k12:=ar (k:=12) ha;have k14:=ar (k:=14) ha;simp only[tL,eT,fZ,aK,aI,gd]at k0 k1 k2 k3 k4 k11 k12 k14
    obtain⟨p0,p1,p2,_⟩:=aS Hj.o;unfold fi at h7;clear ha hO hz hh q3 Ht Hr hr k0 k1 k2 k3 k4 k11 k14
    by_cases hm:r=rf
    ·have e1:decide (r=rf)=true:=by simp[hm]
     rw[e1]at h7;clear e1;go_wp2_with fail
     go_quiet (fail)
     obtain⟨W2,hM⟩:=bI (wr.drewN nq);rw[<-hM];have hd:Below wr.heap.size wr W2:=by rw[hM]; exact Eg wr nq
     have h0:=ah (show qf k gs (bs,cl) x=(bs,cl || !decide (z.2.con=x)) by unfold qf;rw[Ip (b:=z.2) HC.o (by rw[<-HR.o,<-hF.o]; simp[hm]) (fun y hy=>by rw[<-hF.o]; simpa using Hb.o y hy)])
     have HN:=ah (aj h9.o hd);have Hy:=ah (er hd Hj.o);have Hv:=ah (er hd Hx.o);have S3:=ah (gg.below SW.o hd);have HQ:=ah ((hd.cell (p:=⟨gb,go+j*4+3,none⟩) (bP HE.o)).trans HE.o);clear hM hd k12 q0 q1 q2 p0 p1 p2 h7;go_wp2_with fail;obtain⟨W3,hN⟩:=bI W2.drew;refine eJ (fun w'=>gg bb k c tv gv (.slice (some ⟨gb,go,none⟩) n cvv) lg cl w'/\w'.cell? ⟨gb,go+j*4+3,none⟩=some (.slice za zl zc)/\bD (fun _=>True) w' (.slice za zl zc) z.2.con/\bD (fun _=>True) w' (.slice ax xl cx) x) (by kernel_rfl) (by kernel_rfl) ?_
     simp only[bt,bu,az,bo,Nat.reduceAdd,Nat.reduceSub];rw[<-hN];have hs:Below W2.heap.size W2 W3:=by rw[hN]; exact(ak _ _).drew
     have hu:=ah (aj HN.o hs);have hH:=ah (er hs Hy.o);have hS:=ah (er hs Hv.o);have S4:=ah (gg.below S3.o hs);have SM:=ah (show gg bb k c tv gv (.slice (some ⟨gb,go,none⟩) n cvv) lg cl W3/\W3.cell? ⟨gb,go+j*4+3,none⟩=some (.slice za zl zc)/\bD (fun _=>True) W3 (.slice za zl zc) z.2.con/\bD (fun _=>True) W3 (.slice ax xl cx) x from
      ⟨S4.o,(hs.cell (p:=⟨gb,go+j*4+3,none⟩) (bP HQ.o)).trans HQ.o,by
       have h1:=cJ (cW HA.o hu.o);rw[HY.o,<-HD.o]at h1
       show cD _ W3 1 _ z.2.con.length (z.2.con.map aY)
       rw[<-HD.o];exact h1.weak fun _ _=>trivial,by
       have h1:=cJ (cW hX.o hu.o)
       show cD _ W3 1 _ x.length (x.map aY)
       rw[<-hJ.o];exact h1.weak fun _ _=>trivial⟩)
     clear hs hN S3 Hy Hv HQ
     cases cl with
     | true=>
      iterate 6 (refine cI rfl SM.o (by rintro w' ⟨ha,hq,hB,hC⟩; unfold gg at ha; have k12:=ar (k:=12) ha; have k14:=ar (k:=14) ha; have HF:=jG hB; have h4:=jG hC; simp only[tL,eT,fZ,aK,aI,gd]at k12 k14; clear ha hB hC; go_simp; rfl) ?_; simp only[bN])
      iterate 12 (refine MF rfl SM.o ?_; simp only[bN])
      iterate 3 (refine cI rfl SM.o (by rintro w' ⟨ha,hq,hB,hC⟩; unfold gg at ha; have k12:=ar (k:=12) ha; have k14:=ar (k:=14) ha; have HF:=jG hB; have h4:=jG hC; simp only[tL,eT,fZ,aK,aI,gd]at k12 k14; clear ha hB hC; go_simp; rfl) ?_; simp only[bN])
      refine cL (by kernel_rfl) ?_;refine eU rfl rfl (fun K hK=> ?_);have ha:=S4.o;unfold gg at ha;have k0:=ar (k:=0) ha;have k1:=ar (k:=1) ha;have k2:=ar (k:=2) ha;have k3:=ar (k:=3) ha;have k4:=ar (k:=4) ha;have k11:=ar (k:=11) ha;have k12:=ar (k:=12) ha;have k14:=ar (k:=14) ha;simp only[tL,eT,fZ,aK,aI,gd]at k0 k1 k2 k3 k4 k11 k12 k14
      have kz14:=dE (k:=14) ha;clear ha
      go_upto_region 7 with(fail)
      have hh:=kg.clash (HH.o.below hu.o) (true) hbe;have Hc:=ah (show qf k gs (bs,_) x=(bs,true) by rw[h0.o]; by_cases he:z.2.con=x<;> simp[he]);obtain⟨W5,hp⟩:=bI (W3.setCell ⟨bb,14,none⟩ (.bool (true)));have Hh:=ah (show W5.heap[xb]? =some (.cells #[.string rf.name, .int .i64 rf.gen, .int .i64 rf.size] 26 (0,0)) by rw[hp]; exact(ay _ _ _ _ (show xb≠bb by omega)).trans hH.o)
      have hD:=ah (show W5.heap[w.heap.size]? =some (.cells #[.string ⟨#[]⟩, .int .i64 0, .int .i64 0] 26 (0,0)) by rw[hp]; exact(ay _ _ _ _ (show w.heap.size≠bb by omega)).trans hS.o);rw[<-hp]at hh ⊢;have hT:=ah hh;clear hh hp k0 k1 k2 k3 k4 k11 k12 k14 kz14 SM S4 hH hS;obtain⟨p0,p1,p2,_⟩:=aS Hh.o;obtain⟨z0,z1,z2,_⟩:=aS hD.o;obtain⟨y0,y1,y2,_⟩:=gI hD.o
      go_wp2_with fail;refine BN hD.o rfl rfl ?_;refine⟨by rw[<-hF.o]; rfl, .slice (some ⟨gb,go,none⟩) n cvv, ?_, ?_⟩
      ·rw[Hc.o];exact hT.o.1.other hD.o (by decide) (by decide) (by decide) (fun i hi _=>et hi)
      ·exact((((jM.ofBelow hu.o hf).trans hT.o.2).setNew (ai _) hf).setNew (ai _) hf).setNew (ai _) hf
     | false=>
      iterate 21 (refine cI rfl SM.o (by rintro w' ⟨ha,hq,hB,hC⟩; unfold gg at ha; have k12:=ar (k:=12) ha; have k14:=ar (k:=14) ha; have HF:=jG hB; have h4:=jG hC; simp only[tL,eT,fZ,aK,aI,gd]at k12 k14; clear ha hB hC; go_simp; rfl) ?_; simp only[bN])
      refine cL (by kernel_rfl) ?_;refine eU rfl rfl (fun K hK=> ?_);have ha:=S4.o;unfold gg at ha;have k0:=ar (k:=0) ha;have k1:=ar (k:=1) ha;have k2:=ar (k:=2) ha;have k3:=ar (k:=3) ha;have k4:=ar (k:=4) ha;have k11:=ar (k:=11) ha;have k12:=ar (k:=12) ha;have k14:=ar (k:=14) ha;simp only[tL,eT,fZ,aK,aI,gd]at k0 k1 k2 k3 k4 k11 k12 k14
      have kz14:=dE (k:=14) ha;clear ha
      go_upto_region 7 with(fail)
      have hh:=kg.clash (HH.o.below hu.o) ((!(z.2.con == x))) hbe;have Hc:=ah (show qf k gs (bs,_) x=(bs,(!(z.2.con == x))) by rw[h0.o]; by_cases he:z.2.con=x<;> simp[he]);obtain⟨W5,hp⟩:=bI (W3.setCell ⟨bb,14,none⟩ (.bool ((!(z.2.con == x)))));have Hh:=ah (show W5.heap[xb]? =some (.cells #[.string rf.name, .int .i64 rf.gen, .int .i64 rf.size] 26 (0,0)) by rw[hp]; exact(ay _ _ _ _ (show xb≠bb by omega)).trans hH.o)
      have hD:=ah (show W5.heap[w.heap.size]? =some (.cells #[.string ⟨#[]⟩, .int .i64 0, .int .i64 0] 26 (0,0)) by rw[hp]; exact(ay _ _ _ _ (show w.heap.size≠bb by omega)).trans hS.o);rw[<-hp]at hh ⊢;have hT:=ah hh;clear hh hp k0 k1 k2 k3 k4 k11 k12 k14 kz14 SM S4 hH hS;obtain⟨p0,p1,p2,_⟩:=aS Hh.o;obtain⟨z0,z1,z2,_⟩:=aS hD.o;obtain⟨y0,y1,y2,_⟩:=gI hD.o
      go_wp2_with fail;refine BN hD.o rfl rfl ?_;refine⟨by rw[<-hF.o]; rfl, .slice (some ⟨gb,go,none⟩) n cvv, ?_, ?_⟩
      ·rw[Hc.o];exact hT.o.1.other hD.o (by decide) (by decide) (by decide) (fun i hi _=>et hi)
      ·exact((((jM.ofBelow hu.o hf).trans hT.o.2).setNew (ai _) hf).setNew (ai _) hf).setNew (ai _) hf
    ·have e1:decide (r=rf)=false:=by simp[hm]
     rw[e1]at h7;have HT:=ah (show ∀b∈bs.take (j+1),¬b.ref=rf by
      rw[dZ HC.o];intro b hb
      rcases aN.1 hb with hb | hb
      ·exact Hb.o b hb
      ·rw[aE]at hb; subst hb; rw[<-HR.o]; exact hm)
     clear e1 hm;go_wp2_with fail
     go_quiet (fail)
     obtain⟨W2,hM⟩:=bI (wr.drewN nq);rw[<-hM];have hd:Below wr.heap.size wr W2:=by rw[hM]; exact Eg wr nq
     clear hM;go_wp2_with fail
     go_roundw
     ·exact⟨j+1,by omega,by go_num,HT.o,HB.o.trans (hd.mono HB.o.size)⟩
     simp[intOf]; omega
   ·have H2:j=n:=by omega
    subst H2;have h0:=ah (show qf k gs (bs,cl) x=(bs++[⟨rf,x⟩],cl) by
     unfold qf;rw[<-hF.o];rw[eZ.2 (fun y hy=>by
      have:=Hb.o y (by rw[bw (by rw[<-Hk.o,aw,<-hL.o]; exact ai _)]; exact hy)
      simpa using this)])
    have ha:=SW.o;unfold gg at ha;have k0:=ar (k:=0) ha;have k1:=ar (k:=1) ha;have k2:=ar (k:=2) ha;have k3:=ar (k:=3) ha;have k4:=ar (k:=4) ha;have k11:=ar (k:=11) ha;have k12:=ar (k:=12) ha;have k14:=ar (k:=14) ha;simp only[tL,eT,fZ,aK,aI,gd]at k0 k1 k2 k3 k4 k11 k12 k14;clear ha k0 k1 k2 k3 k4 k11 k14
    go_wp2_with fail;clear k12;obtain⟨W3,hN⟩:=bI wr.drew;refine eJ (fun w'=>gg bb k c tv gv (.slice av j cvv) lg cl w'/\w'.heap[xb]? =some (.cells #[.string rf.name, .int .i64 rf.gen, .int .i64 rf.size] 26 (0,0))) (by kernel_rfl) (by kernel_rfl) ?_;simp only[bt,bu,az,bo,Nat.reduceAdd,Nat.reduceSub]
    rw[<-hN];have hs:Below wr.heap.size wr W3:=by rw[hN]; exact(ak _ _).drew
    have hu:=ah (aj h9.o hs);have hH:=ah (er hs Hj.o);have hS:=ah (er hs Hx.o);have S4:=ah (gg.below SW.o hs);have SM:=ah (aA S4.o hH.o);clear hs hN
    iterate 8 (refine cI rfl SM.o (by rintro w' ⟨ha,hA⟩; unfold gg at ha; have k12:=ar (k:=12) ha; have p0:=bQ (k:=0) hA; have p1:=bQ (k:=1) hA; have p2:=bQ (k:=2) hA; simp only[tL,eT,fZ,aK,aI,gd]at k12 p0 p1 p2; clear ha hA; go_simp; rfl) ?_; simp only[bN])
    refine cC 8 rfl (fun K hK=> ?_);go_wp2_with fail;have Hm:=(ak W3.heap.size W3).alloc (ai _) (.cells #[.string rf.name, .int .i64 rf.gen, .int .i64 rf.size, .slice ax xl cx] 53);have HZ:=ah (aA (gg.below S4.o Hm) (er Hm hH.o));have He:=ah (HO.o.below hu.o);have HW:=ah (cW hX.o hu.o);clear Hm SM;refine⟨HZ.o, ?_⟩;refine cC 9 rfl (fun K hK=> ?_)
    go_wp2_with (at_builtin; go_must (refine bO Tryz.appBlobs rfl _ _ rfl base (.slice av j cvv) j (ks zs) rfl W3 [.string rf.name, .int .i64 rf.gen, .int .i64 rf.size, .slice ax xl cx] _ rfl rfl (ub (b:=⟨rf,x⟩)) (by have h1:=He.o.row; rw[<-hL.o]at h1; exact h1) (by omega) (an hf hu.o.size) ?_); intro v' wc hw hg _ HJ; obtain⟨ae,ce,rfl,-,-⟩:=aH hw)
    have Ho:=He.o.row;rw[<-hL.o]at Ho;have Hn: ∀(i:Nat) (cs:Array Value) (t:TypeId) (z:Nat×Nat),W3.heap[i]? =some (.cells cs t z)->t≠53->i<W3.heap.size/\some i≠(Value.slice av j cvv).ownBlock:=fun i cs t z hi ht=>⟨am hi,fun e=>by obtain⟨cs2,h4⟩:=bJ Ho e.symm;exact ht (bU hi h4)⟩
    have keepC: ∀(i:Nat) (cs:Array Value) (t:TypeId) (z:Nat×Nat),W3.heap[i]? =some (.cells cs t z)->t≠53->wc.heap[i]? =some (.cells cs t z):=fun i cs t z hi ht=>(hg.block i (Hn i cs t z hi ht).1 (fun e=>(Hn i cs t z hi ht).2 e)).trans hi
    have SC:=ah (show gg bb k c tv gv (.slice av j cvv) lg cl wc from keepC _ _ _ _ S4.o (by decide));have Hi:=ah (keepC _ _ _ _ hH.o (by decide));have Hw:=ah (keepC _ _ _ _ hS.o (by decide));have SM:=ah (aA SC.o Hi.o);have hI:=kg.push (c:=c) (k:=k) (tv:=tv) (gv:=gv) (lg:=lg) (cl:=cl) (b:=⟨rf,x⟩) Hk.o He.o S4.o (by have h1:=HW.o; rw[hJ.o]at h1; exact h1) (by rw[<-hL.o]; exact(by rw[<-hJ.o]; exact hw)) hg HJ hbe
    have Hd:=ah hI;have kb:bb<wc.heap.size:=am SC.o;have Hz:=ah ((ay wc ⟨bb,12,none⟩ (.slice ae (j+1) ce) xb (show xb≠bb by omega)).trans Hi.o);have hU:=ah ((ay wc ⟨bb,12,none⟩ (.slice ae (j+1) ce) w.heap.size (show w.heap.size≠bb by omega)).trans Hw.o);clear hw hg HJ Ho Hn keepC hI;refine⟨SM.o, ?_⟩
    iterate 2 (refine cI rfl SM.o (by rintro w' ⟨ha,hA⟩; unfold gg at ha; have k12:=ar (k:=12) ha; have p0:=bQ (k:=0) hA; have p1:=bQ (k:=1) hA; have p2:=bQ (k:=2) hA; simp only[tL,eT,fZ,aK,aI,gd]at k12 p0 p1 p2; clear ha hA; go_simp; rfl) ?_; simp only[bN])
    refine cL (by kernel_rfl) ?_;refine eU rfl rfl (fun K hK=> ?_);have ha:=SC.o;unfold gg at ha;have k12:=ar (k:=12) ha;have kz12:=dE (k:=12) ha;simp only[tL,eT,fZ,aK,aI,gd]at k12;clear ha
    go_upto_region 9 with(fail)
    obtain⟨W5,hp⟩:=bI (wc.setCell ⟨bb,12,none⟩ (.slice ae (j+1) ce));rw[<-hp]at Hd Hz hU ⊢;clear hp k12 kz12 SM SC Hi Hw kb;obtain⟨p0,p1,p2,_⟩:=aS Hz.o;obtain⟨z0,z1,z2,_⟩:=aS hU.o;obtain⟨y0,y1,y2,_⟩:=gI hU.o;go_wp2_with fail;refine BN hU.o rfl rfl ?_;refine⟨by rw[<-hF.o]; rfl, .slice ae (j+1) ce, ?_, ?_⟩
    ·rw[h0.o];exact Hd.o.1.other hU.o (by decide) (by decide) (by decide) (fun i hi _=>et hi)
    ·exact((((jM.ofBelow hu.o hf).trans Hd.o.2).setNew (ai _) hf).setNew (ai _) hf).setNew (ai _) hf
theorem kg.otherRow {w w':World} {base bb B sz n:Nat} {k:dl} {c:fC} {tv gv v r:Value} {lg:Bool} {s:List dt×Bool} {t:TypeId} {xs:List Value} (h:kg w base bb k c tv gv v lg s) (hr:w.ownsRow B t sz r n xs) (hg:w.grownBy w' r.ownBlock) (h1:t≠130) (h2:t≠53) (h3:t≠5):kg w' base bb k c tv gv v lg s:=by obtain⟨zs,hz,ho,hd⟩:=h.own;refine⟨(hg.block bb (am h.box) (fun e=> ?_)).trans h.box,zs,hz,gO ho hr hg (fun e=>h2 e.symm),fun z hz=>gO (hd z hz) hr hg (fun e=>h3 e.symm)⟩;obtain⟨cs,hc⟩:=bJ hr e.symm;exact h1 (bU hc h.box)
theorem jM.otherRow {w0 w w':World} {base bb B sz n:Nat} {v v' r:Value} {t:TypeId} {xs:List Value} (h:jM base bb v v' w0 w) (hr:w.ownsRow B t sz r n xs) (hg:w.grownBy w' r.ownBlock) (hB:w0.heap.size<=B) (hbz:base<=w0.heap.size):jM base bb v v' w0 w':=
 ⟨h.below.grown hg (an hbz h.below.size) (fun i hi=>an (an hbz hB) (hr.lt i hi).1),fun i h1 h2 h3=>(hg.block i (aO h1 h.below.size) (fun e=>by have:=(hr.lt i e.symm).1; omega)).trans (h.same i h1 h2 h3),h.place⟩
structure rU (w : World) (B M : Nat) (iv : Value) (its : List cj) : Prop where
 row: ∃zs:List uO,zs.map Prod.snd=its/\w.ownsRow B 28 10 iv zs.length (pW zs)/\(∀i,iv.ownBlock=some i->i<M)/\ ∀z∈zs,(w.ownsRow B 26 3 z.1 z.2.chunks.length (z.2.chunks.flatMap jp)/\iC z.2/\ ∀r∈z.2.chunks,eF r)/\ ∀i,z.1.ownBlock=some i->i<M
theorem lM.lt {w:World} {B:Nat} {iv:Value} {its:List cj} (h:lM w B iv its):rU w B w.heap.size iv its:=by obtain⟨zs,h1,h2,h3⟩:=h.row;exact⟨zs,h1,h2,fun i hi=>(h2.lt i hi).2,fun z hz=>⟨h3 z hz,fun i hi=>((h3 z hz).1.lt i hi).2⟩⟩
theorem rU.own {w:World} {B M:Nat} {iv:Value} {its:List cj} (h:rU w B M iv its):lM w B iv its:=by obtain⟨zs,h1,h2,_,h3⟩:=h.row;exact⟨zs,h1,h2,fun z hz=>(h3 z hz).1⟩
theorem rU.same {w w':World} {B M:Nat} {iv:Value} {its:List cj} (h:rU w B M iv its) (hs: ∀i,i<M->w'.heap[i]? =w.heap[i]?):rU w' B M iv its:=by obtain⟨zs,h1,h2,h4,h3⟩:=h.row;exact⟨zs,h1,ff h2 (fun i _ hi=>hs i (h4 i hi)),h4,fun z hz=>⟨⟨ff (h3 z hz).1.1 (fun i _ hi=>hs i ((h3 z hz).2 i hi)),(h3 z hz).1.2⟩,(h3 z hz).2⟩⟩
theorem rU.keep {w w':World} {base bb B M:Nat} {k:dl} {c:fC} {tv gv v v' iv:Value} {lg:Bool} {s:List dt×Bool} {its:List cj} (hi:rU w B M iv its) (h:kg w base bb k c tv gv v lg s) (hk:jM base bb v v' w w'):rU w' B M iv its:=by obtain⟨zs,h1,h2,h4,h3⟩:=hi.row;exact⟨zs,h1,jM.row h hk h2 (by decide) (by decide),h4,fun z hz=>⟨⟨jM.row h hk (h3 z hz).1.1 (by decide) (by decide),(h3 z hz).1.2⟩,(h3 z hz).2⟩⟩
structure LK (w : World) (base bb : Nat) (k : dl) (c : fC) (tv gv v : Value) (lg : Bool) (wr : World) (v2 iv : Value) (s2 : List dt × Bool) (its : List cj) : Prop where
 bd:kg wr base bb k c tv gv v2 lg s2
 kp:jM base bb v v2 w wr
 its:lM wr w.heap.size iv its
 res:wr.heap[w.heap.size]? =some (.cells #[.string ⟨#[]⟩, .int .i64 0, .int .i64 0] 26 (0,0))
structure zg (w : World) (base bb : Nat) (k : dl) (c : fC) (tv gv v : Value) (lg : Bool) (M xb : Nat) (wr : World) (v2 iv : Value) (s2 : List dt × Bool) (its : List cj) (rv : Value) (it : cj) (rs : List cH) : Prop where
 bd:kg wr base bb k c tv gv v2 lg s2
 kp:jM base bb v v2 w wr
 its:rU wr w.heap.size M iv its
 res:wr.heap[w.heap.size]? =some (.cells #[.string ⟨#[]⟩, .int .i64 0, .int .i64 0] 26 (0,0))
 box:wr.heap[xb]? =some (.cells (fu rv it).toArray 28 (0,0))
 row:wr.ownsRow M 26 3 rv rs.length (rs.flatMap jp)
 mark:w.heap.size<M/\M<=xb
section
variable {w wr w' : World} {base bb M xb : Nat} {k : dl} {c : fC} {tv gv v v2 v3 iv rv : Value} {lg : Bool} {s2 s3 : List dt × Bool} {its : List cj} {it : cj} {rs : List cH}
theorem LK.step (h:LK w base bb k c tv gv v lg wr v2 iv s2 its) (h1:kg w' base bb k c tv gv v3 lg s3) (h2:jM base bb v2 v3 wr w'):LK w base bb k c tv gv v lg w' v3 iv s3 its:=
 ⟨h1,h.kp.trans h2,(h.its.lt.keep h.bd h2).own,jM.blk h.bd h2 h.res (by decide) (by decide)⟩
theorem LK.below (h:LK w base bb k c tv gv v lg wr v2 iv s2 its) (hb:Below wr.heap.size wr w') (hbz:base<=wr.heap.size):LK w base bb k c tv gv v lg w' v2 iv s2 its:=
 h.step (h.bd.below hb) (jM.ofBelow hb hbz)
theorem zg.step (h:zg w base bb k c tv gv v lg M xb wr v2 iv s2 its rv it rs) (h1:kg w' base bb k c tv gv v3 lg s3) (h2:jM base bb v2 v3 wr w'):zg w base bb k c tv gv v lg M xb w' v3 iv s3 its rv it rs:=
 ⟨h1,h.kp.trans h2,h.its.keep h.bd h2,jM.blk h.bd h2 h.res (by decide) (by decide),jM.blk h.bd h2 h.box (by decide) (by decide),jM.row h.bd h2 h.row (by decide) (by decide),h.mark⟩
theorem zg.below (h:zg w base bb k c tv gv v lg M xb wr v2 iv s2 its rv it rs) (hb:Below wr.heap.size wr w') (hbz:base<=wr.heap.size):zg w base bb k c tv gv v lg M xb w' v2 iv s2 its rv it rs:=
 h.step (h.bd.below hb) (jM.ofBelow hb hbz)
theorem LK.item {W:World} (h:LK w base bb k c tv gv v lg wr v2 iv s2 its) (hb:Below wr.heap.size wr W) (hbx:W.heap[xb]? =some (.cells (fu (.slice none 0 0) it).toArray 28 (0,0))) (hx:wr.heap.size<=xb) (hbz:base<=wr.heap.size):zg w base bb k c tv gv v lg wr.heap.size xb W v2 iv s2 its (.slice none 0 0) it []:=by have h2:=h.below hb hbz;exact⟨h2.bd,h2.kp,h.its.lt.same (fun i hi=>hb.block i hi),h2.res,hbx,bM _ _ _ _,am h.res,hx⟩
theorem zg.set (h:zg w base bb k c tv gv v lg M xb wr v2 iv s2 its rv it rs) {q:Nat} {u:Value} {it':cj} (hc:(fu rv it).toArray.setIfInBounds q u=(fu rv it').toArray) (hbz:base<=w.heap.size):zg w base bb k c tv gv v lg M xb (wr.setCell ⟨xb,q,none⟩ u) v2 iv s2 its rv it' rs:=by
 have hm:=h.mark;have hs: ∀j,j≠xb->(wr.setCell ⟨xb,q,none⟩ u).heap[j]? =wr.heap[j]? :=fun j hj=>ay _ _ _ _ hj
 refine⟨h.bd.other h.box (by decide) (by decide) (by decide) (fun j hj _=>hs j hj),h.kp.setNew (by omega) hbz,h.its.same (fun i hi=>hs i (by omega)),(hs _ (by omega)).trans h.res,by rw[<-hc]; exact jm h.box u,ff h.row (fun j hj hu=>hs j (fun e=> ?_)),hm⟩;obtain⟨cs2,ha⟩:=bJ h.row hu;exact absurd (bU h.box (e▸ha)) (by decide)
theorem zg.push {wc:World} {rv':Value} {r:cH} (h:zg w base bb k c tv gv v lg M xb wr v2 iv s2 its rv it rs) (hown:wc.ownsRow M 26 3 rv' (rs.length+1) (rs.flatMap jp++jp r)) (hg:wr.grownBy wc rv.ownBlock) (hbz:base<=w.heap.size):zg w base bb k c tv gv v lg M xb (wc.setCell ⟨xb,6,none⟩ rv') v2 iv s2 its rv' it (rs++[r]):=by
 have hm:=h.mark;have hd:=am h.box;have hs: ∀j,j≠xb->(wc.setCell ⟨xb,6,none⟩ rv').heap[j]? =wc.heap[j]? :=fun j hj=>ay _ _ _ _ hj
 have ha:wc.heap[xb]? =some (.cells (fu rv it).toArray 28 (0,0)):=(hg.block xb hd (fun e=>by obtain⟨cs2,hb⟩:=bJ h.row e.symm;exact absurd (bU h.box hb) (by decide))).trans h.box
 have hc:=h.bd.otherRow h.row hg (by decide) (by decide) (by decide);have hM: ∀i,i<M->(wc.setCell ⟨xb,6,none⟩ rv').heap[i]? =wr.heap[i]? :=fun i hi=>(hs i (by omega)).trans (hg.block i (by omega) (fun e=>by have:=(h.row.lt i e.symm).1; omega))
 refine⟨hc.other ha (by decide) (by decide) (by decide) (fun j hj _=>hs j hj),(h.kp.otherRow h.row hg (by omega) hbz).setNew (by omega) hbz,h.its.same hM,(hM _ hm.1).trans h.res, ?_, ?_,hm⟩
 ·have:=jm (k:=6) ha rv'
  simpa [fu]using this
 ·rw[ag,bV];have h1:wc.ownsRow M 26 3 rv' (rs.length+[r].length) (rs.flatMap jp++[r].flatMap jp):=by simpa using hown
  refine ff h1 (fun j hj hu=>hs j (fun e=> ?_));obtain⟨cs2,hb⟩:=bJ h1 hu;exact absurd (bU ha (e▸hb)) (by decide)
theorem zg.done {wd:World} {iv':Value} {zs:List uO} (h:zg w base bb k c tv gv v lg M xb wr v2 iv s2 its rv it it.chunks) (hz:zs.map Prod.snd=its) (hrow:wr.ownsRow w.heap.size 28 10 iv zs.length (pW zs)) (hdat: ∀z∈zs,wr.ownsRow w.heap.size 26 3 z.1 z.2.chunks.length (z.2.chunks.flatMap jp)/\iC z.2/\ ∀r∈z.2.chunks,eF r)
  (hown:wd.ownsRow w.heap.size 28 10 iv' (zs.length+1) (pW zs++fu rv it)) (hg:wr.grownBy wd iv.ownBlock) (hok:iC it) (hrs: ∀r∈it.chunks,eF r) (hbz:base<=w.heap.size):LK w base bb k c tv gv v lg wd v2 iv' s2 (its++[it]):=by
 have hm:=h.mark;refine⟨h.bd.otherRow hrow hg (by decide) (by decide) (by decide),h.kp.otherRow hrow hg (ai _) hbz,⟨zs++[(rv,it)],by simp[hz],by rw[ag,bB,zZ]; exact hown,fun z ha=> ?_⟩, ?_⟩
 ·rcases aN.1 ha with ha | ha
  ·exact⟨gO (hdat z ha).1 hrow hg (by decide),(hdat z ha).2⟩
  ·rw[aE]at ha;subst ha;exact⟨gO (gB h.row (by omega)) hrow hg (by decide),hok,hrs⟩
 ·refine(hg.block _ (am h.res) (fun e=> ?_)).trans h.res;obtain⟨cs2,hb⟩:=bJ hrow e.symm;exact absurd (bU h.res hb) (by decide)
end
theorem NB {a:Act} {w:World} {b:Nat} {x0 x1 x2:Value} (h:w.heap[b]? =some (.cells #[x0,x1,x2] 26 (0,0)))
  (h4:a.tmps[4]? =some (.pointer (some ⟨b,0,none⟩))):(results Tryz.f76 a.tmps).run Tryz.prog w= .ok (.agg #[x0,x1,x2]) w:=by
 obtain⟨m0,m1,m2,_⟩:=aS h;simp[results,Tryz.results76,go_sem,h4,m0,m1,m2]
theorem NA {a:Act} {w:World} {b:Nat} {a0 a1 a2 x0 x1 x2:Value} {Q:Ending->World->Prop} (h:w.heap[b]? =some (.cells #[a0,a1,a2] 26 (0,0)))
  (h4:a.tmps[4]? =some (.pointer (some ⟨b,0,none⟩))) (hd:a.defers=[])
  (hQ:Q (.returned (.agg #[x0,x1,x2])) (((w.setCell ⟨b,0,none⟩ x0).setCell ⟨b,1,none⟩ x1).setCell ⟨b,2,none⟩ x2)):
  bodyPost Tryz.prog Tryz.f76 Q Exit.ret a (((w.setCell ⟨b,0,none⟩ x0).setCell ⟨b,1,none⟩ x1).setCell ⟨b,2,none⟩ x2):=cP (NB (vu h) h4) hd hQ
end
section
open Go.RowKit
theorem Fj {n:Nat} (h:n<=127):(bE n).length=1:=by unfold bE jW; rw[if_neg (by omega)]; rfl
structure nO (tree : List dd) : Prop where
 len:tree.length<=12
 data: ∀e∈tree,e.data.length<=60
theorem vQ {c:fC} (hc:jU c=true) (x:List UInt8):(fO c x).length<=x.length:=by
 have h: ∀(l:List (List UInt8)),(∀y∈l,1<=y.length)->l.length<=l.flatten.length:=by
  intro l
  induction l with
  | nil=>simp
  | cons y l ih=>
   intro h;have h1:=h y (by simp);have h2:=ih fun z hz=>h z (by simp[hz])
   rw[iI,ag,az]; omega
 have:=h (fO c x) fun y hy=>(qF hc x y hy).1
 rw[tr]at this;exact this
theorem Mp {c:fC} {x y:List UInt8} (h:y∈fO c x):y.length<=x.length:=by obtain⟨s,t,e⟩:=jy h;have h1:=tr c x;rw[e,List.flatten_append,iI]at h1;rw[<-h1];simp only[ag];omega
theorem JJ (r:cH) (h:r.name.size=32):(fE r).length<=54:=by
 have h1:=dD r.gen.toNat
 have h2:=dD r.size.toNat
 unfold fE;simp only[ag,<-bi];omega
section
variable {k : dl} {gs : List (ByteArray × Int)} {c : fC} {tree : List dd}
theorem Fk (hg:kC gs) {y:List UInt8} (h:y.length<=60):(fE (aV k gs y)).length<=43:=by
 unfold fE;have h1:(aV k gs y).name.size=32:=lD _ _ _;have h2:=BA hg (mi k 0 y);have h3:(aV k gs y).size=(y.length:Int):=rfl;have h4:=iL (n:=(aV k gs y).gen.toNat) (by
  show(mQ gs (mi k 0 y)).toNat<_
  omega)
 rw[ag,ag,<-bi,h1,h3,Fj (n:=(y.length:Int).toNat) (by omega)];omega
theorem xQ (hg:kC gs): ∀(l:List (List UInt8)),(∀y∈l,y.length<=60)->((l.map (aV k gs)).flatMap fE).length<=43*l.length
 | [],_=>by simp
 | y::l,h=>by
  have h1:=Fk (k:=k) hg (h y (by simp));have h2:=xQ hg l fun z hz=>h z (by simp[hz])
  rw[bW,bm,ag,az];omega
theorem MK (hg:kC gs) (hc:jU c=true) {d:ByteArray} {e:dd} {nd:cH} (hv:ig e=true) (hp:cr (bl e.path)=bl d) (hd:e.data.length<=60) (hn:nd.name.size=32):(gx (cE k gs c d e nd)).length<=2720:=by
 have hk:=pX (dj hv) hp;have hl:(vh (bl d) (bl e.path)).length<=64:=by have h:=hk.comp;unfold iO at h;simp only[aF,aJ]at h;exact h.1.1.1.1.2
 have ha:(bl (cE k gs c d e nd).name).length<=64:=by
  show(bl ⟨(mh (bl d) (bl e.path)).toArray⟩).length<=64
  rw[iX]; exact hl
 have k1:=dD (cE k gs c d e nd).name.size;have k2:=dD (cE k gs c d e nd).kind.toNat
 have k3:=dD (cE k gs c d e nd).mode.toNat
 have k4:=dD (cE k gs c d e nd).time.toNat
 have ht:(ly (cE k gs c d e nd)).length<=2600:=by
  unfold ly
  show(if e.kind=1 then bE (if e.kind=1 then(fO c e.data).map (aV k gs)else []).length++(if e.kind=1 then(fO c e.data).map (aV k gs)else []).flatMap fE else if e.kind=2 then fE (if e.kind=2 then nd else eq)else bE e.link.size++bl e.link).length<=_
  by_cases h1:e.kind=1
  ·rw[if_pos h1,if_pos h1,ag];have h6:=xQ (k:=k) hg (fO c e.data) fun y hy=>by have:=Mp hy; omega
   have h2:=vQ hc e.data;have h3:=dD ((fO c e.data).map (aV k gs)).length;omega
  ·rw[if_neg h1]
   by_cases h2:e.kind=2
   ·rw[if_pos h2,if_pos h2];have:=JJ nd hn;omega
   ·rw[if_neg h2];have h3:=dD e.link.size
    rcases qJ hv with h4 | h4 | h4
    ·exact absurd h4.1 h1
    ·exact absurd h4.1 h2
    ·have:=h4.2.2.2.1;rw[ag,<-bi];omega
 unfold gx;simp only[ag];omega
theorem pE (hg:kC gs) (hc:jU c=true) (h:Bi tree) (hs:nO tree) (f:Nat) (d:ByteArray):(df k gs c tree f d).1.length<=32768:=by
 cases f with
 | zero=>simp[df]
 | succ f=>
  rw[eL]
  show(gk (nA k gs c tree f d)).length<=32768
  have hl:(dB tree d).length<=tree.length:=dM _ _;have hd:=hs.len;have hf: ∀(L:List dd),(∀e∈L,e∈dB tree d)->((L.map fun e=>cE k gs c d e (aV k gs (df k gs c tree f e.path).1)).flatMap gx).length<=2720*L.length:=by
   intro L
   induction L with
   | nil=>simp
   | cons e L ih=>
    intro hL;have h1:=ih fun x hx=>hL x (by simp[hx])
    obtain⟨ha,hb⟩:=eK.1 (hL e (by simp));have h2:=MK (k:=k) (gs:=gs) (nd:=aV k gs (df k gs c tree f e.path).1) hg hc (h.val e ha) hb (hs.data e ha) (lD _ _ _);rw[bW,bm,ag,az];omega
  have h3:=hf (dB tree d) fun _ he=>he
  have h4:=dD (nA k gs c tree f d).length;unfold gk;rw[ag];have h5:((nA k gs c tree f d).flatMap gx).length<=2720*(dB tree d).length:=h3;omega
theorem rK (hg:kC gs) (hc:jU c=true) (h:Bi tree) (hs:nO tree): ∀(f:Nat) (d:ByteArray),lB k gs c tree f d=false
 | 0,_=>rfl
 | f+1,d=>by unfold lB;rw[fQ,List.any_eq_false,eo];refine⟨fun e _=>by rw[rK hg hc h hs f e.path]; simp, ?_⟩;have:=pE (k:=k) hg hc h hs (f+1) d;omega
theorem nX :kC []:=fun p hp=>by cases hp
theorem Cs (hk:jK k=true) (hc:jU c=true) (hg:kC gs) (h:Bi tree) (hs:nO tree):iy k c tree gs= .ok (aV k gs (df k gs c tree 514 ⟨#[]⟩).1,eG k gs (df k gs c tree 514 ⟨#[]⟩).2 []):=by
 have h0:(bl (⟨#[]⟩:ByteArray)).length=0:=rfl;unfold iy;rw[if_pos ⟨hk,hc⟩,if_pos (by rw[cu];intro p hp;have:=hg p hp;simp only[aF,aJ];exact this),if_pos (pP.2 h),Il h hc hg 514 ⟨#[]⟩ (by omega) (by omega),rK hg hc h hs]
 rfl
end
open Go Go.RowKit Go.Maps
theorem Cr {k:dl} {c:fC} {tree:List dd} {gs:List (ByteArray×Int)} {r:cH} {bs:List dt} {w w':World} {e:Ending} (h:sY (iy k c tree gs) w e w') (hb:iy k c tree gs= .ok (r,bs)) (hr: ∀b∈bs,eF b.ref):
  Below w.heap.size w w'/\ ∃a cap,e= .returned (.tuple #[fi r, .slice a bs.length cap, .int .i64 0])/\bs.length<=cap/\cap<=maxLen/\mI (fun i=>w.heap.size<=i) w' (.slice a bs.length cap) bs:=by
 rw[hb]at h;obtain⟨h1,v,zs,h2,hc,h4⟩:=h;have h3:zs.map Prod.snd=bs:=hc;have ha:bs.length=zs.length:=by rw[<-h3,aw]
 obtain⟨a,cap,rfl,h5,h6⟩:=aH h4.row;refine⟨h1,a,cap,by rw[ha]; exact h2,by omega,h6,zs,h3, ?_,fun z hz=>⟨cD.weak (cJ (h4.dat z hz)) (fun i hi=>hi.1),hr _ (by rw[<-h3]; exact aP.2 ⟨z,hz,rfl⟩)⟩⟩;rw[ha];exact cD.weak (cJ h4.row) (fun i hi=>hi.1)
theorem sx {S:Nat->Prop} {w w':World} {a:Option Addr} {n cap:Nat} {bs:List dt} (h:mI S w (.slice a n cap) bs) (hb:Below w.heap.size w w') {k:Nat} {b:dt} (hk:bs[k]? =some b):
  ∃bk o za zc,a=some ⟨bk,o,none⟩/\bk<w.heap.size/\bD S w' (.slice za b.con.length zc) b.con/\w'.cell? ⟨bk,o+k*4,none⟩=some (.string b.ref.name)/\w'.cell? ⟨bk,o+k*4+1,none⟩=some (.int .i64 b.ref.gen)/\w'.cell? ⟨bk,o+k*4+2,none⟩=some (.int .i64 b.ref.size)/\w'.cell? ⟨bk,o+k*4+3,none⟩=some (.slice za b.con.length zc):=by
 obtain⟨zs,h1,h2,h3⟩:=h;rw[<-h1,bh,iu]at hk;obtain⟨z,hz,rfl⟩:=hk;obtain⟨bk,o,rfl,-,ha,hc⟩:=tj h2 hz;have hd:=(h3 z (aQ hz)).1;obtain⟨_,za,zc,he,-,-,-⟩:=id hd;have g:=fun i (hi:i<4)=>(hb.cell (p:=⟨bk,o+k*4+i,none⟩) ha).trans (hc i hi)
 have q0:=g 0 (by omega);have q1:=g 1 (by omega);have q2:=g 2 (by omega);have q3:=g 3 (by omega);simp only[nT,aB,cQ,cZ]at q0 q1 q2 q3;rw[he]at q3;exact⟨bk,o,za,zc,rfl,ha,by rw[<-he]; exact cD.below hd (by omega) hb,q0,q1,q2,q3⟩
def Oa :List Value:=[.string ⟨#[97]⟩, .int .i64 1, .int .i64 0, .int .i64 0, .slice none 0 0, .string ⟨#[]⟩, .string ⟨#[100]⟩, .int .i64 2, .int .i64 0, .int .i64 0, .slice none 0 0, .string ⟨#[]⟩, .string ⟨#[100,47,108]⟩, .int .i64 3, .int .i64 5, .int .i64 6, .slice none 0 0, .string ⟨#[97]⟩]
theorem GB (S:Nat->Prop) (w:World):eO (mj S w) Oa oP:=by
 refine⟨[.string ⟨#[97]⟩, .int .i64 1, .int .i64 0, .int .i64 0, .slice none 0 0, .string ⟨#[]⟩],_,rfl,⟨.slice none 0 0,rfl,el.nil _ _,⟨by decide,by decide,by decide,by decide,by decide⟩⟩, ?_⟩;refine⟨[.string ⟨#[100]⟩, .int .i64 2, .int .i64 0, .int .i64 0, .slice none 0 0, .string ⟨#[]⟩],_,rfl,⟨.slice none 0 0,rfl,el.nil _ _,⟨by decide,by decide,by decide,by decide,by decide⟩⟩, ?_⟩
 exact⟨[.string ⟨#[100,47,108]⟩, .int .i64 3, .int .i64 5, .int .i64 6, .slice none 0 0, .string ⟨#[97]⟩],[],rfl,⟨.slice none 0 0,rfl,el.nil _ _,⟨by decide,by decide,by decide,by decide,by decide⟩⟩,rfl⟩
theorem EW {S:Nat->Prop} {w:World} {b o n c:Nat} {x:dt} {bs:List dt} (h:mI S w (.slice (some ⟨b,o,none⟩) (n+1) c) (x::bs)):mI S w (.slice (some ⟨b,o+4,none⟩) n (c-1)) bs:=by
 obtain⟨zs,h1,h2,h3⟩:=h
 cases zs with
 | nil=>simp at h1
 | cons z zs=>
  simp only[bW,gL]at h1;refine⟨zs,h1.2, ?_,fun y hy=>h3 y (by simp[hy])⟩;obtain⟨h4,a',c',he,h5,h6,h7⟩:=h2;simp only[cY,az]at he;obtain⟨rfl,hn,rfl⟩:=he;have hb:(ks (z::zs)).length=4+(ks zs).length:=by unfold ks; rw[bm,ag]; rfl
  simp only[az]at h4 h5 h7;refine⟨by omega,some ⟨b,o+4,none⟩,c-1,by rw[show n=zs.length by omega],by omega,by omega, ?_⟩
  rcases h7 with h7 | ⟨b9,o9,ha,hS,hc⟩
  ·omega
  ·cases ha
   refine .inr ⟨b,o+4,rfl,hS,fun j u hj=> ?_⟩;have:=hc (4+j) u (by unfold ks at hj ⊢;rw[bm,bC (by show 4<=_; omega)];rw[show 4+j-(nT z.1 z.2).length=j by show 4+j-4=j; omega];exact hj)
   rwa [<-dk]at this
theorem Pr :eF (aV fh [] [0]):=jv (by simp) (by decide)
theorem Pq :eF qZ:=jv (by simp) (by decide)
theorem IR :eF nh:=jv (by simp) (by decide+kernel)
theorem Cn (w:World) (hE:rP w):Calls Tryz.prog 14 #[] w fun e w'=>e= .returned (.bool true)/\Below w.heap.size w w':=by
 have HE:=ah hE;obtain⟨W0,h8⟩:=bI (w.alloc (.cells #[.int .u8 0] 5));have Hj:Below w.heap.size w W0:=by rw[h8]; exact eW
 have HI:=ah Hj;have HD:bD (fun i=>i=w.heap.size) W0 (.slice (some ⟨w.heap.size,0,none⟩) 1 1) [0]:=vX (cells:=[aY 0]) (by rw[h8]; exact ep w _) rfl (by decide);have Hb:=zW _ [0] _ W0 HD (hE.below Hj).env;unfold Ci at Hb;rw[Qd]at Hb;have Hu:=ah Hb;clear hE Hj HD Hb
 go_enter Tryz.func14,Tryz.ntmps14
 go_wp2_with fail;rw[<-h8];clear h8;refine Hu.o.mono ?_;rintro e w1 ⟨Hx,iv,rfl,HF⟩;obtain⟨ia,ic,rfl,-,-,-⟩:=cN.shape HF lG.len;have HJ:=ah (aj HI.o Hx);clear Hx HF Hu;go_wp2_with fail;refine(tB w1).mono ?_;rintro e w2 ⟨rfl,Hy⟩;have HK:=ah (aj HJ.o Hy);clear Hy;go_wp2_with fail;refine(oF w2).mono ?_;rintro e w3 ⟨rfl,Hz⟩;have Hs:=ah (aj HK.o Hz)
 clear Hz;go_wp2_with fail;refine(uc (fun _=>True) (fun _=>True) fh kP [] [] (.slice none 0 0) (.map none) w3 (by decide) (dY.nil _ _) (.inl ⟨rfl,rfl⟩) (HE.o.below Hs.o)).mono ?_;rintro e w4 hk;obtain⟨HA,a4,c4,rfl,HY,H1,hH⟩:=Cr hk PW (by intro b hb; simp only[aE]at hb; subst hb; exact Pr);obtain⟨r,hr⟩:=bI (aV fh [] [0])
 rw[<-hr]at hH ⊢;have HL:=ah (aj Hs.o HA);have Hg:=ah hH;unfold maxLen at H1;simp only[bB]at HY ⊢;clear hk HA hH hr;unfold fi;go_wp2_with fail;obtain⟨W5,h9⟩:=bI ((w4.alloc (.cells #[.string r.name, .int .i64 r.gen, .int .i64 r.size] 26)).drew);have Hk:Below w4.heap.size w4 W5:=by rw[h9]; exact(eW).drew
 have HQ:=ah (show W5.heap[w4.heap.size]? =some (.cells #[.string r.name, .int .i64 r.gen, .int .i64 r.size] 26 (0,0)) by rw[h9]; exact ep w4 _);obtain⟨bk,o,za,zc,rfl,H5,hd,q0,q1,q2,q3⟩:=sx Hg.o Hk (k:=0) (b:=⟨r,[0]⟩) rfl;simp only[bB,jh,cZ]at hd q0 q1 q2 q3;have Hn:=jG hd;obtain⟨r0,r1,r2,_⟩:=aS HQ.o
 have HM:=ah (aj HL.o Hk);clear Hk hd;refine bL [some 32] (by kernel_rfl) (by kernel_rfl) (by kernel_rfl) ?_;simp only[ed,aR,aZ];rw[<-h9];clear h9
 repeat (first | (refine cy rfl ?_; simp only[bN]) | (refine cU rfl (fun K hK=> ?_); go_simp; refine hK _ ?_; clear hK K))
 refine cT ?_;go_wp2_with fail;obtain⟨W6,Ha⟩:=bI (W5.alloc (.cells Oa.toArray 79));have HB:Below W5.heap.size W5 W6:=by rw[Ha]; exact eW
 have HN:=ah (aj HM.o HB);have HX:=ah (show dY (fun i=>i=W5.heap.size) W6 (.slice (some ⟨W5.heap.size,0,none⟩) 3 3) oP from⟨Oa,vX (by rw[Ha]; exact ep W5 _) rfl (by decide),GB _ _⟩);have hY:W6=W5.alloc (.cells #[.string ⟨#[97]⟩, .int .i64 1, .int .i64 0, .int .i64 0, .slice none 0 0, .string ⟨#[]⟩, .string ⟨#[100]⟩, .int .i64 2, .int .i64 0, .int .i64 0, .slice none 0 0, .string ⟨#[]⟩, .string ⟨#[100,47,108]⟩, .int .i64 3, .int .i64 5, .int .i64 6, .slice none 0 0, .string ⟨#[97]⟩] 79):=Ha
 rw[<-hY];clear Ha hY HB q0 q1 q2 q3 r0 r1 r2 Hn;refine(tB W6).mono ?_;rintro e w7 ⟨rfl,Hl⟩;have HO:=ah (aj HN.o Hl);have HV:=ah (dY.below HX.o Hl);clear Hl;go_wp2_with fail;refine(oF w7).mono ?_;rintro e w8 ⟨rfl,Hm⟩;have Ht:=ah (aj HO.o Hm);have HW:=ah (dY.below HV.o Hm);clear Hm;go_wp2_with fail;refine(uc _ (fun _=>True) fh kP oP [] _ (.map none) w8 (by decide) HW.o (.inl ⟨rfl,rfl⟩) (HE.o.below Ht.o)).mono ?_
 rintro e w9 hk;obtain⟨HC,a9,c9,rfl,HZ,H2,hZ⟩:=Cr hk PX (by intro b hb; simp only[aT,dz,or_false]at hb; rcases hb with rfl | rfl; exact Pq; exact IR);have HP:=ah (aj Ht.o HC);have hl:=ah hZ;unfold maxLen at H2;simp only[az,bo,Nat.reduceAdd]at HZ hl ⊢;clear hk HC hZ
 unfold fi;obtain⟨rt,Hr⟩:=bI nh;have hI:=ah Hr;rw[<-Hr]at hl ⊢;clear Hr
 go_upto_region 7 with(fail)
 obtain⟨hX,hm⟩:=bI (w9.alloc (.cells #[.string rt.name, .int .i64 rt.gen, .int .i64 rt.size] 26));rw[<-hm];have ho:Below w9.heap.size w9 hX:=by rw[hm]; exact eW
 have Hc:=ah (aj HP.o ho);have hS:=ah (show hX.heap[w9.heap.size]? =some (.cells #[.string rt.name, .int .i64 rt.gen, .int .i64 rt.size] 26 (0,0)) by rw[hm]; exact ep w9 _);obtain⟨bb,oo,ya,yc,rfl,H4,hd,q0,q1,q2,q3⟩:=sx hl.o ho (k:=0) (b:=⟨qZ,rQ⟩) rfl;have Hn:(convert 29 9 (.slice ya 8 yc)).run Tryz.prog hX= .ok (.string ⟨#[1,1,108,3,5,6,1,97]⟩) hX:=jG hd
 replace q3:hX.cell? ⟨bb,oo+0*4+3,none⟩=some (.slice ya 8 yc):=q3
 simp only[jh,cZ]at q0 q1 q2 q3;have he:=ah (hl.o.below ho);clear hm ho hd
 go_upto_region 9 with(fail)
 clear q0 q1 q2 q3 Hn;go_wp2_with fail;refine(pQ _ _ _ _ (EW (n:=1) he.o) (by simp)).mono ?_;rintro e w11 ⟨mb,mm,rfl,H3,HH,Ho,hp⟩;have hJ:=ah (aj Hc.o hp);have hz:=ah (show gy (fun _=>True) w11 (.map (some mb)) wK from by rw[hI.o]at Ho;exact .inr ⟨mb,mm,rfl,trivial,HH.is,dG.wide Ho⟩)
 have hC:=ah (er hp hS.o);have hq:=ah (he.o.below hp);clear hp H3 HH Ho he hS;obtain⟨r0,r1,r2,_⟩:=aS hC.o;go_wp2_with fail;have h7:=ah (show eF rt by rw[hI.o]; exact IR);have HT:=ah (show lI wK rt= .error 10 by rw[hI.o]; exact QH);have HU:=ah (show MU wK rt= .ok [qZ] by rw[hI.o]; exact QL);have HR:=ah (show lm wK rt ⟨#[97]⟩= .ok tz by rw[hI.o]; exact QK)
 have HS:=ah (show lm wK rt ⟨#[100,47,108]⟩= .error 10 by rw[hI.o]; exact Qi);refine(vl _ (.map (some mb)) wK rt w11 hz.o (HE.o.below hJ.o).env h7.o).mono ?_;rintro e w12 ⟨hf,h1⟩;rw[HT.o]at h1;obtain⟨rfl,-⟩:=h1;have hL:=ah (aj hJ.o hf);have hA:=ah (hz.o.below hf);have hD:=ah (er hf hC.o);have hs:=ah (hq.o.below hf)
 clear hf hz hC hq r0 r1 r2;obtain⟨r0,r1,r2,_⟩:=aS hD.o;go_wp2_with fail;refine(yJ (by decide) _ (.map (some mb)) rt w12 hA.o (HE.o.below hL.o).env h7.o).mono ?_;rintro e w13 ⟨hg,h4⟩;rw[HU.o]at h4;obtain⟨mv,rfl,Hp⟩:=h4;obtain⟨ma,mc,rfl,-,-,-⟩:=cN.shape Hp qA.len;have Hv:=ah Hp;have hM:=ah (aj hL.o hg);have hB:=ah (hA.o.below hg)
 have hF:=ah (er hg hD.o);have hu:=ah (hs.o.below hg);clear hg Hp hA hD hs r0 r1 r2;obtain⟨r0,r1,r2,_⟩:=aS hF.o;go_wp2_with fail;refine(sj _ (.map (some mb)) wK rt ⟨#[97]⟩ w13 hB.o (HE.o.below hM.o).env h7.o).mono ?_;rintro e w14 ⟨ha,h2⟩;rw[HR.o]at h2;obtain⟨lv,rfl,HG,-⟩:=h2;have Hd:=ah (aj hM.o ha);have hP:=ah (hB.o.below ha)
 have hT:=ah (er ha hF.o);have hv:=ah (hu.o.below ha);have hx:=ah (cN.below Hv.o (by omega) ha (fun _ _ _ h=>h));obtain⟨la,lc,rfl,-,-,-⟩:=cN.shape HG qA.len;clear ha HG hB hF hu Hv r0 r1 r2;unfold rZ
 go_upto_region 13 with(fail)
 obtain⟨Hi,hn⟩:=bI (w14.alloc (.cells #[.string tz.name, .int .i64 tz.kind, .int .i64 tz.mode, .int .i64 tz.time, .int .i64 tz.size, .string tz.link, .slice la tz.chunks.length lc, .string tz.node.name, .int .i64 tz.node.gen, .int .i64 tz.node.size] 28));rw[<-hn];have hc:Below w14.heap.size w14 Hi:=by rw[hn]; exact eW
 have hV:=ah (show Hi.heap[w14.heap.size]? =some (.cells #[.string tz.name, .int .i64 tz.kind, .int .i64 tz.mode, .int .i64 tz.time, .int .i64 tz.size, .string tz.link, .slice la tz.chunks.length lc, .string tz.node.name, .int .i64 tz.node.gen, .int .i64 tz.node.size] 28 (0,0)) by rw[hn]; exact ep w14 _);have hN:=ah (aj Hd.o hc);have hR:=ah (hP.o.below hc)
 have hU:=ah (er hc hT.o);have hw:=ah (hv.o.below hc);have hy:=ah (cN.below hx.o (by omega) hc (fun _ _ _ h=>h));clear hc hn hP hT hv hx;obtain⟨r0,r1,r2,_⟩:=aS hU.o;go_wp2_with fail;refine(sj _ (.map (some mb)) wK rt ⟨#[100,47,108]⟩ Hi hR.o (HE.o.below hN.o).env h7.o).mono ?_;rintro e w16 ⟨hh,h3⟩;rw[HS.o]at h3
 obtain⟨rfl,-⟩:=h3;have He:=ah (aj hN.o hh);have Hh:=ah (er hh hV.o);have hO:=ah (hw.o.below hh);have hW:=ah (cN.below hy.o (by omega) hh (fun _ _ _ h=>h));clear hh hR hU hw hy hV r0 r1 r2
 go_upto_region 14 with(fail)
 obtain⟨Hw,hG⟩:=bI ((w16.alloc (.cells #[.string ⟨#[]⟩, .int .i64 0, .int .i64 0, .int .i64 0, .int .i64 0, .string ⟨#[]⟩, .slice none 0 0, .string ⟨#[]⟩, .int .i64 0, .int .i64 0] 28)).drew);have hj:Below w16.heap.size w16 Hw:=by rw[hG]; exact(eW).drew
 have Hf:=ah (aj He.o hj);have h0:=er hj Hh.o;have i1:=ar (k:=1) h0;simp only[gd]at i1
 replace i1:Hw.cell? ⟨w14.heap.size,1,none⟩=some (.int .i64 1):=i1
 obtain⟨mb2,mo2,rfl,-,p0,p1,p2⟩:=nE hW.o hj (k:=0) (r:=qZ) rfl;obtain⟨rd,Hq⟩:=bI qZ;rw[<-Hq]at p0 p1 p2;obtain⟨b9,o9,y9,z9,H0,-,-,q0,q1,q2,-⟩:=sx hO.o hj (k:=0) (b:=⟨qZ,rQ⟩) rfl
 cases H0
 simp only at q0 q1 q2;rw[<-Hq]at q0 q1 q2;simp only[jh,cZ]at p0 p1 p2 q0 q1 q2;clear h0 hj Hq;refine bL [some 35] (by kernel_rfl) (by kernel_rfl) (by kernel_rfl) ?_;simp only[ed,aR,aZ];rw[<-hG];clear hG
 repeat (first | (refine cy rfl ?_; simp only[bN]) | (refine cU rfl (fun K hK=> ?_); go_simp; refine hK _ ?_; clear hK K))
 refine cT ?_;go_wp2_with fail;go_ret;exact⟨rfl,Hf.o⟩
end
section
open Go.RowKit
theorem GA (n:Nat):ow n<9223372036854775808:=by unfold ow wrap64; omega
theorem FB {data:List UInt8} {nm:List UInt8} {kd md td:Nat} {s s':RS} {it:cj} (h:px data nm kd md td s=some (it,s')):it.time<9223372036854775808:=by
 unfold px at h
 split at h
 ·simp only[aX,cF]at h;rw[<-h.1];exact GA td
 ·split at h
  ·simp only[aX,cF]at h;rw[<-h.1];exact GA td
  ·split at h
   ·simp only[aX,cF]at h;rw[<-h.1];exact GA td
   ·cases h
theorem vf {data:List UInt8} {s0:RS} : ∀(k:Nat) (l:List cj) (s:RS),jo data s0 k=some (l,s)-> ∀it∈l,it.time<9223372036854775808
 | 0,l,s,h=>by
  simp only[jo,aX,cF]at h;obtain⟨rfl,rfl⟩:=h;intro it hit
  cases hit
 | k+1,l,s,h=>by
  cases hk:jo data s0 k with
  | none=>rw[mS,hk]at h; cases h
  | some p=>
   obtain⟨l1,s1⟩:=p
   cases hi:nj data s1 with
   | none=>rw[ve hk hi]at h; cases h
   | some q=>
    obtain⟨it,s2⟩:=q;rw[mR hk hi]at h;simp only[aX,cF]at h;obtain⟨rfl,rfl⟩:=h;intro x hx
    rcases aN.1 hx with hx | hx
    ·exact vf k l1 s1 hk x hx
    ·obtain rfl:=aE.1 hx;exact FB hi
theorem Dn {data:List UInt8} {l:List cj} (h:iY data=some l): ∀it∈l,it.time<9223372036854775808:=by
 by_cases hb:32768<data.length
 ·rw[xn hb]at h; cases h
 ·obtain⟨n,s1,e1⟩: ∃n s1,Bq data 4096 ⟨0,0,0⟩=(n,s1):=⟨_,_,rfl⟩
  cases e2:jo data s1 n with
  | none=>rw[vg hb e1 e2]at h; cases h
  | some p=>
   obtain⟨l2,s2⟩:=p;rw[qN hb e1 e2]at h
   split at h
   ·simp only[aX]at h;subst h;exact vf n l2 s2 e2
   ·cases h
end
section
theorem wO : ∀ {l m:List jQ} {a b:List UInt8},fD l= .ok a->fD m= .ok b->fD (l++m)= .ok (a++b)
 | [],m,a,b,h1,h2=>by
  simp only[fD,dr]at h1;subst h1
  simpa using h2
 | y::l,m,a,b,h1,h2=>by
  rw[fD]at h1
  cases hy:lL y with
  | error e=>rw[hy]at h1; simp at h1
  | ok c=>
   rw[hy]at h1;simp only at h1
   cases hk:fD l with
   | error e=>rw[hk]at h1; simp at h1
   | ok d=>
    rw[hk]at h1;simp only[dr]at h1;subst h1;simp only[aK,fD,hy,wO hk h2,bp]
theorem iP {x:jQ} {l:List jQ} {a b:List UInt8} (h1:lL x= .ok a) (h2:fD l= .ok b):fD (x::l)= .ok (a++b):=by simp only[fD,h1,h2]
theorem qH {α:Type} {f:α->List jQ} {g:α->List UInt8} : ∀ {l:List α},(∀x∈l,fD (f x)= .ok (g x))->fD (l.flatMap f)= .ok (l.flatMap g)
 | [],_=>rfl
 | x::l,h=>by rw[bm,bm];exact wO (h x (by simp)) (qH (fun y hy=>h y (by simp[hy])))
theorem qG {n:Int} (h0:0<=n) (h1:n<18446744073709551616):lL (iZ n)= .ok (bE n.toNat):=by unfold lL iZ;rw[if_pos rfl,show n%18446744073709551616=n by omega]
theorem zB (s:ByteArray):lL (ov s)= .ok (bE s.size++bl s):=by simp[lL,ov]
theorem Mu {s:ByteArray} (h:s.size=32):lL (Gy s)= .ok (bl s):=by simp[lL,Gy,h]
theorem wN (n:Nat):lL (ka n)= .ok (bE n):=by
 have h: ¬((n:Int)<0):=by omega
 have e:lL (ka n)=if(n:Int)<0 then .error 1 else .ok (bE (n:Int).toNat):=rfl
 rw[e,if_neg h,eQ]
theorem wP {r:cH} (h:lF r=true):fD (eM r)= .ok (fE r):=by
 obtain⟨h1,h2,h3,h4,h5⟩:=mV.1 h;have:=iP (Mu h1) (iP (qG h2 (by omega)) (iP (qG h4 (by omega)) (show fD []= .ok []from rfl)))
 simpa [eM,fE]using this
theorem CQ {it:cj} (hv:iG it=true) (ht:it.time<9223372036854775808):fD (gh it)= .ok (gx it):=by
 have ha:=hv;unfold iG at ha;rw[aF]at ha;have hh:=pw.1 ha.1;have hk:=nI ha.2;have hb:fD (if it.kind=1 then ka it.chunks.length::it.chunks.flatMap eM else if it.kind=2 then eM it.node else [ov it.link])= .ok (ly it):=by
  unfold ly
  rcases hk with hk | hk | hk
  ·rw[if_pos hk,if_pos hk];exact iP (wN _) (qH (fun r hr=>wP ((ms hk ha.2).2.2.1 r hr).1))
  ·rw[if_neg (by omega),if_pos hk,if_neg (by omega),if_pos hk];exact wP (qB hk ha.2).2.2.2
  ·rw[if_neg (by omega),if_neg (by omega),if_neg (by omega),if_neg (by omega)];have:=iP (zB it.link) (show fD []= .ok []from rfl)
   simpa using this
 have:=iP (zB it.name) (iP (qG (n:=it.kind) (by omega) (by omega)) (iP (qG (n:=it.mode) hh.md0 (by have:=hh.md1; omega)) (iP (qG (n:=it.time) hh.tm0 (by omega)) hb)));unfold gh gx
 simpa using this
theorem MZ {l:List cj} (hv:jL l=true) (ht: ∀it∈l,it.time<9223372036854775808) (hs:(gk l).length<=1048576):tH l=gk l:=by
 have h:fD (iF l)= .ok (gk l):=by unfold iF gk;exact iP (wN _) (qH (fun it ha=>CQ ((nN hv).2 it ha) (ht it ha)))
 unfold tH yD;rw[h];simp only;rw[if_neg (by omega)]
open Go.RowKit
theorem xB :eq.name.size=0:=rfl
theorem EH {it:cj} (hv:iG it=true):LH it/\kX it=true:=by unfold iG at hv;rw[aF]at hv;exact⟨pw.1 hv.1,hv.2⟩
theorem FC {it:cj} (hv:iG it=true):vL it:=by
 obtain⟨hh,hb⟩:=EH hv;have hn:=tn hh.val hh.nos;rw[<-bi]at hn;have he:(⟨#[]⟩:ByteArray).size=0:=rfl
 rcases nI hb with hk | hk | hk
 ·obtain⟨h1,h2,h3,-,-⟩:=ms hk hb;exact⟨by omega,by rw[h1,he]; omega,by rw[h2,xB]; omega,fun c hc=>by have:=(mV.1 (h3 c hc).1).1; omega⟩
 ·obtain⟨h1,-,h3,h4⟩:=qB hk hb;exact⟨by omega,by rw[h1,he]; omega,by have:=(mV.1 h4).1; omega,fun c hc=>by rw[h3]at hc; cases hc⟩
 ·obtain⟨-,h2,h3,h4,h5,-⟩:=rz hk hb;exact⟨by omega,by omega,by rw[h3,xB]; omega,fun c hc=>by rw[h2]at hc; cases hc⟩
section
variable {k : dl} {gs : List (ByteArray × Int)} {c : fC} {tree : List dd}
theorem xq {d:ByteArray} {j:Nat} {e:dd} (h:tree[j]? =some e):dB (tree.take (j+1)) d=dB (tree.take j) d++(if cr (bl e.path)=bl d then [e]else []):=by
 rw[dZ h];unfold dB;rw[gE]
 congr 1
 by_cases hp:cr (bl e.path)=bl d<;> simp[hp]
theorem Ka {d:ByteArray} {g:dd->List (List UInt8)} {j:Nat} {e:dd} (h:tree[j]? =some e) (hp:cr (bl e.path)=bl d):((dB (tree.take j) d).flatMap g).length+(g e).length<=((dB tree d).flatMap g).length:=by
 have h1:=xq (d:=d) h;rw[if_pos hp]at h1;have h2:dB tree d=dB (tree.take (j+1)) d++dB (tree.drop (j+1)) d:=by unfold dB;rw[<-gE,dx]
 rw[h2,h1,bV,bV,ag,ag];simp
theorem rH (cs:List (List UInt8)) (s:List dt×Bool):(gJ k gs cs s).1.length<=s.1.length+cs.length:=by rw[vo]; exact ry k gs cs s.1
theorem qg (a b:List (List UInt8)) (s:List dt×Bool):gJ k gs (a++b) s=gJ k gs b (gJ k gs a s):=by unfold gJ; rw[eR]
theorem FZ {cs:List (List UInt8)} {s:List dt×Bool} {j:Nat} {x:List UInt8} (h:cs[j]? =some x):gJ k gs (cs.take (j+1)) s=qf k gs (gJ k gs (cs.take j) s) x:=by rw[dZ h,qg]; rfl
theorem JV {d:ByteArray} {e:dd} {nd:cH} (h:ig e=true):(cE k gs c d e nd).size=(e.data.length:Int):=by
 show(if e.kind=1 then(e.data.length:Int)else 0)=_
 rcases qJ h with⟨h1,_⟩ | ⟨h1,h2,_⟩ | ⟨h1,h2,_⟩
 ·rw[if_pos h1]
 ·rw[if_neg (by omega),h2]; rfl
 ·rw[if_neg (by omega),h2]; rfl
theorem JT {it:cj} (hc:it.chunks.length<=60):(gh it).length<=250:=by
 have hf:(it.chunks.flatMap eM).length=3*it.chunks.length:=by
  induction it.chunks with
  | nil=>rfl
  | cons r l ih=>rw[bm,ag,ih,az]; simp[eM]; omega
 unfold gh;rw[ag]
 split
 ·simp[hf]; omega
 ·split<;> simp[eM]
theorem DO {l:List cj} (hl:l.length<=12) (hc: ∀it∈l,it.chunks.length<=60):(iF l).length<=10000:=by
 have: ∀ {l:List cj},(∀it∈l,it.chunks.length<=60)->(l.flatMap gh).length<=250*l.length:=by
  intro l
  induction l with
  | nil=>intro _; simp
  | cons x l ih=>
   intro h;have h1:=JT (h x (by simp));have h2:=ih (fun y hy=>h y (by simp[hy]));rw[bm,ag,az];omega
 have h:=this hc;unfold iF;rw[az];omega
theorem FD (hc:jU c=true) (hs:nO tree) (f:Nat) (d:ByteArray):(nA k gs c tree f d).length<=12/\ ∀it∈nA k gs c tree f d,it.chunks.length<=60:=by
 unfold nA;refine⟨?_,fun it ha=> ?_⟩
 ·rw[aw];exact an (dM _ _) hs.len
 ·obtain⟨e,he,rfl⟩:=aP.1 ha
  show(if e.kind=1 then(fO c e.data).map (aV k gs)else []).length<=60
  split
  ·rw[aw];exact an (vQ hc _) (hs.data e (eK.1 he).1)
  ·simp
theorem JW (hg:kC gs) (hc:jU c=true) (h:Bi tree) (hs:nO tree) (f:Nat) (d:ByteArray):jL (nA k gs c tree f d)=true:=
 sJ h hc hg d (fun e=>aV k gs (df k gs c tree f e.path).1) (fun e _ _=>lE hg (pE hg hc h hs f e.path))
theorem MO {d:ByteArray} {e:dd} (h:ig e=true) (hp:cr (bl e.path)=bl d):xx (bl e.path)=⟨(mh (bl d) (bl e.path)).toArray⟩:=Kb (pX (dj h) hp)
end
open Go.RowKit Go.Maps
def kE :List dd->ByteArray->Nat->Int
 | [],_,_=> -1
 | e::L,p,i=>if e.path=p then(i:Int)else kE L p (i+1)
theorem CW {L:List dd} {p:ByteArray} {k:Nat} {e:dd} (h:L[k]? =some e):kE (L.drop k) p k=if e.path=p then(k:Int)else kE (L.drop (k+1)) p (k+1):=by obtain⟨hk,he⟩:=aD.1 h;rw[cA hk,kE,he]
theorem uY {p:ByteArray} : ∀(L:List dd) (i:Nat),(kV L p=none/\kE L p i= -1)\/ ∃j e,kV L p=some e/\L[j]? =some e/\kE L p i=((i+j:Nat):Int)
 | [],i=> .inl ⟨rfl,rfl⟩
 | e::L,i=>by
  by_cases h:e.path=p
  ·right
   refine⟨0,e, ?_,rfl, ?_⟩
   ·unfold kV; rw[List.find?_cons_of_pos (by simp[h])]
   ·rw[kE,if_pos h]; simp
  ·have hf:kV (e::L) p=kV L p:=by unfold kV; rw[List.find?_cons_of_neg (by simp[h])]
   rw[kE,if_neg h,hf]
   rcases uY L (i+1)with h1 | ⟨j,f,h1,h2,h3⟩
   ·exact .inl h1
   ·exact .inr ⟨j+1,f,h1,by simpa using h2,by rw[h3]; congr 1; omega⟩
theorem Gb (S:Nat->Prop) (L:List dd) (v:Value) (p:ByteArray) (w:World) (hv:dY S w v L):
  Calls Tryz.prog 131 #[v, .string p] w fun e w'=>e= .returned (.int .i64 (kE L p 0))/\Below w.heap.size w w':=by
 have HV:=ah hv;obtain⟨a,cap,rfl,hc,hm,-⟩:=cN.shape hv mj.len;obtain⟨n,hn⟩:=bI L.length;have HN:=ah hn;rw[<-hn]at HV hc ⊢;unfold maxLen at hm;clear hv hn
 go_enter Tryz.func131,Tryz.ntmps131
 go_wp2_with fail
 go_loopw [5,9] (fun _ i wr=> ∃k:Nat,k<=n/\i= .int .i64 k/\kE L p 0=kE (L.drop k) p k/\Below w.heap.size w wr) (fun _ i _=>n-(intOf i).toNat)
 ·exact⟨0,aU _,rfl,rfl,ak _ _⟩
 ·obtain⟨k,hk,rfl,hh,ha⟩:=hrel;have hg:=ah hh;have hf:=ah ha
  by_cases hl:k<n
  ·obtain⟨e,he⟩: ∃e,L[k]? =some e:=⟨L[k]'(by rw[<-HN.o]; exact hl),by simp⟩;obtain⟨b,o,dv,rfl,-,hb,hd,-,-,q0,q1,q2,q3,q4,q5⟩:=jN (HV.o.below ha) he;obtain⟨_,ad,cd,rfl,ho,hq,-⟩:=hd;have hj:=ah (CW (p:=p) he);clear he hh ha
   by_cases hp:e.path=p
   ·have e1:(e.path.toList == p.toList)=true:=by rw[hp]; simp
    have HR:=ah (show kE L p 0=(k:Int) by rw[hg.o,hj.o,if_pos hp]);clear hp;go_wp2_with fail;go_ret;exact⟨dP HR.o.symm,aj hf.o (eW)⟩
   ·have e1:(e.path.toList == p.toList)=false:=by rw[ij]; intro h; exact hp (kr (by rw[<-eN,<-eN]; exact h))
    have HR:=ah (show kE L p 0=kE (L.drop (k+1)) p (k+1) by rw[hg.o,hj.o,if_neg hp]);clear hp;go_wp2_with fail
    go_roundw
    ·exact⟨k+1,by omega,by go_num,HR.o,aj hf.o (eW)⟩
    simp[intOf]; omega
  ·have HR:=ah (show kE L p 0= -1 by rw[hg.o,gm (by rw[<-HN.o]; omega)]; rfl);clear hh ha;go_wp2_with fail;go_ret;exact⟨dP HR.o.symm,hf.o⟩
theorem Mk {S:Nat->Prop} {w:World} {v:Value} {bs:List UInt8} (hd:el S w v bs):(convert 29 9 v).run Tryz.prog w= .ok (.string ⟨bs.toArray⟩) w:=by
 have h:=zu hd;have e:strOfNums (bs.map fun b=>(b.toNat:Int))=⟨bs.toArray⟩:=by simp only[strOfNums,je,Function.comp_def,eQ];simp
 rw[e]at h;exact h
theorem BO (S T:Nat->Prop) (a b:dd) (va vb:Value) (w:World) (ha:el S w va a.data) (hb:el T w vb b.data):Calls Tryz.prog 81 #[wU va a,wU vb b] w fun e w'=>e= .returned (.bool (decide (a=b)))/\Below w.heap.size w w':=by
 obtain⟨sa,hc⟩: ∃sa:ByteArray,sa=⟨a.data.toArray⟩:=⟨_,rfl⟩;obtain⟨sb,hd⟩: ∃sb:ByteArray,sb=⟨b.data.toArray⟩:=⟨_,rfl⟩;have hl: ∀c1 c2:Array Value,(convert 29 9 va).run Tryz.prog ((w.alloc (.cells c1 79)).alloc (.cells c2 79))= .ok (.string sa) ((w.alloc (.cells c1 79)).alloc (.cells c2 79)):=fun c1 c2=>by rw[hc]; exact Mk (ha.below ((eW).alloc (by simp) _))
 have hm: ∀c1 c2:Array Value,(convert 29 9 vb).run Tryz.prog ((w.alloc (.cells c1 79)).alloc (.cells c2 79))= .ok (.string sb) ((w.alloc (.cells c1 79)).alloc (.cells c2 79)):=fun c1 c2=>by rw[hd]; exact Mk (hb.below ((eW).alloc (by simp) _))
 have he:=ah (show bl sa=a.data by rw[hc]; exact iX _);have hf:=ah (show bl sb=b.data by rw[hd]; exact iX _);obtain⟨_,aa,ca,rfl,hj,hg,-⟩:=ha;obtain⟨_,ab,cb,rfl,hk,hh,-⟩:=hb;unfold maxLen at hg hh;unfold wU;clear hc hd;have HN:=ah (show ∀x y:ByteArray,x.toList=y.toList<->x=y from fun x y=>by rw[eN,eN]; exact⟨kr,fun h=>by rw[h]⟩)
 go_enter Tryz.func81,Tryz.ntmps81
 go_wp2_with fail
 ·have y1:a.path.toList=b.path.toList:=by assumption
  have y2:a.kind=b.kind:=by assumption
  have y3:a.mode=b.mode:=by assumption
  have y4:a.time=b.time:=by assumption
  have y5:a.link.toList=b.link.toList:=by assumption
  have HX:=ah (show(sa.toList == sb.toList)=decide (a=b) by
   rw[eN,eN,he.o,hf.o]
   cases a; cases b
   rw[HN.o]at y1 y5;simp only at y1 y2 y3 y4 y5;subst y1 y2 y3 y4 y5;rw[dq]
   simp)
  go_ret;exact⟨bX HX.o,(eW).alloc (by simp) _⟩
 all_goals (
  go_ret;refine⟨bX ?_,(eW).alloc (by simp) _⟩
  symm
  rw[eo];rintro rfl;exact absurd rfl (by assumption))
theorem vq (S T:Nat->Prop) (a b:dd) (va vb:Value) (r:Bool) (w:World) (ha:el S w va a.data) (hb:el T w vb b.data) (hr:decide (a=b)=r):Calls Tryz.prog 81 #[wU va a,wU vb b] w fun e w'=>e= .returned (.bool r)/\Below w.heap.size w w':=by rw[<-hr]; exact BO S T a b va vb w ha hb
theorem yS (S T:Nat->Prop) (L M:List dd) (v u:Value) (w:World) (hv:dY S w v L) (hu:dY T w u M):
  Calls Tryz.prog 27 #[v,u] w fun e w'=>e= .returned (.bool (decide (L=M)))/\Below w.heap.size w w':=by
 have HV:=ah hv;have HU:=ah hu;obtain⟨a,cap,rfl,hc,hm,-⟩:=cN.shape hv mj.len;obtain⟨a2,cap2,rfl,hz,hF,-⟩:=cN.shape hu mj.len;unfold maxLen at hm hF;clear hv hu
 by_cases hg:L.length=M.length
 ·have e1:((L.length:Int) != (M.length:Int))=false:=by simp[hg]
  obtain⟨n,hn⟩:=bI L.length;have hC:n=M.length:=by omega
  have HN:=ah hn;have hy:=ah hC;rw[<-hg]at HU hz e1 ⊢;rw[<-hn]at HV HU hc hz e1 ⊢;clear hn hC hg
  go_enter Tryz.func27,Tryz.ntmps27
  go_wp2_with fail
  go_loopw [5,13] (fun _ i wr=> ∃k:Nat,k<=n/\i= .int .i64 k/\L.take k=M.take k/\Below w.heap.size w wr) (fun _ i _=>n-(intOf i).toNat)
  ·exact⟨0,aU _,rfl,by simp,ak _ _⟩
  ·obtain⟨k,hk,rfl,hw,ho⟩:=hrel;have hx:=ah hw;have hs:=ah ho
   by_cases hB:k<n
   ·obtain⟨e,he⟩: ∃e,L[k]? =some e:=⟨L[k]'(by rw[<-HN.o]; exact hB),by simp⟩;obtain⟨f,hf⟩: ∃f,M[k]? =some f:=⟨M[k]'(by rw[<-hy.o]; exact hB),by simp⟩;obtain⟨b,o,dv,rfl,-,hb,hd,-,-,q0,q1,q2,q3,q4,q5⟩:=jN (HV.o.below ho) he;obtain⟨b2,o2,dv2,rfl,-,hH,hA,-,-,p0,p1,p2,p3,p4,p5⟩:=jN (HU.o.below ho) hf;have HD:=ah hd;have HE:=ah hA
    obtain⟨_,ad,cd,rfl,hI,hJ,-⟩:=hd;obtain⟨_,ad2,cd2,rfl,hD,hG,-⟩:=hA;have hq:=ah (aA he hf);clear he hf hw ho
    cases hp:decide (e=f)
    ·have hj:=ah hp;clear hp
     go_upto_region 6 with(fail)
     refine bL [some 8,none,some 1] (by kernel_rfl) (by kernel_rfl) (by kernel_rfl) ?_;simp only[ed,aR,aZ,bA,bR];obtain⟨W,hW⟩:=bI wr.drew;rw[<-hW];have ha:Below wr.heap.size wr W:=by rw[hW]; exact(ak _ _).drew
     have hh:=ah ha;have z0:=(ha.cell (bP q0)).trans q0;have z1:=(ha.cell (bP q1)).trans q1;have z2:=(ha.cell (bP q2)).trans q2;have z3:=(ha.cell (bP q3)).trans q3;have z4:=(ha.cell (bP q4)).trans q4;have z5:=(ha.cell (bP q5)).trans q5;have x0:=(ha.cell (bP p0)).trans p0;have x1:=(ha.cell (bP p1)).trans p1;have x2:=(ha.cell (bP p2)).trans p2
     have x3:=(ha.cell (bP p3)).trans p3;have x4:=(ha.cell (bP p4)).trans p4;have x5:=(ha.cell (bP p5)).trans p5;clear hW ha q0 q1 q2 q3 q4 q5 p0 p1 p2 p3 p4 p5
     repeat (first | (refine cy rfl ?_; simp only[bN]) | (refine cU rfl (fun K hK=> ?_); go_simp; refine hK _ ?_; clear hK K))
     refine cT ?_;refine eu rfl (fun K hK=> ?_);go_wp2_with (go_at_call 81; refine(vq S T e f _ _ false _ (by exact HD.o.below hh.o) (by exact HE.o.below hh.o) hj.o).mono ?_; rintro e1 w1 ⟨rfl,hl⟩; have hr:=ah (aj hs.o (aj hh.o hl)); clear hl);clear z0 z1 z2 z3 z4 z5 x0 x1 x2 x3 x4 x5
     repeat (first | (refine cy rfl ?_; simp only[bN]) | (refine cU rfl (fun K hK=> ?_); go_simp; refine hK _ ?_; clear hK K))
     refine cT ?_;go_wp2_with fail;go_ret;refine⟨bX ?_,hr.o⟩
     symm
     rw[eo];intro hc;obtain⟨h1,h2⟩:=hq.o;rw[hc,h2]at h1;exact(of_decide_eq_false hj.o) (bK h1).symm
    ·have hj:=ah hp;clear hp
     go_upto_region 6 with(fail)
     refine bL [some 8,none,some 1] (by kernel_rfl) (by kernel_rfl) (by kernel_rfl) ?_;simp only[ed,aR,aZ,bA,bR];obtain⟨W,hW⟩:=bI wr.drew;rw[<-hW];have ha:Below wr.heap.size wr W:=by rw[hW]; exact(ak _ _).drew
     have hh:=ah ha;have z0:=(ha.cell (bP q0)).trans q0;have z1:=(ha.cell (bP q1)).trans q1;have z2:=(ha.cell (bP q2)).trans q2;have z3:=(ha.cell (bP q3)).trans q3;have z4:=(ha.cell (bP q4)).trans q4;have z5:=(ha.cell (bP q5)).trans q5;have x0:=(ha.cell (bP p0)).trans p0;have x1:=(ha.cell (bP p1)).trans p1;have x2:=(ha.cell (bP p2)).trans p2
     have x3:=(ha.cell (bP p3)).trans p3;have x4:=(ha.cell (bP p4)).trans p4;have x5:=(ha.cell (bP p5)).trans p5;clear hW ha q0 q1 q2 q3 q4 q5 p0 p1 p2 p3 p4 p5
     repeat (first | (refine cy rfl ?_; simp only[bN]) | (refine cU rfl (fun K hK=> ?_); go_simp; refine hK _ ?_; clear hK K))
     refine cT ?_;refine eu rfl (fun K hK=> ?_);go_wp2_with (go_at_call 81; refine(vq S T e f _ _ true _ (by exact HD.o.below hh.o) (by exact HE.o.below hh.o) hj.o).mono ?_; rintro e1 w1 ⟨rfl,hl⟩; have hr:=ah (aj hs.o (aj hh.o hl)); clear hl);clear z0 z1 z2 z3 z4 z5 x0 x1 x2 x3 x4 x5
     repeat (first | (refine cy rfl ?_; simp only[bN]) | (refine cU rfl (fun K hK=> ?_); go_simp; refine hK _ ?_; clear hK K))
     refine cT ?_;go_wp2_with fail
     go_roundw
     ·refine⟨k+1,by omega,by go_num, ?_,hr.o⟩;rw[bY,bY,hx.o,hq.o.1,hq.o.2,fq hj.o]
     simp[intOf]; omega
   ·clear hw ho;have hE:k=n:=by omega
    have HR:=ah (show L=M by have h1:=hx.o;rw[bw (by rw[<-HN.o]; omega),bw (by rw[<-hy.o]; omega)]at h1;exact h1)
    clear hE;go_wp2_with fail;go_ret;exact⟨bX (cR HR.o).symm,hs.o⟩
 ·have HF:=ah (show decide (L=M)=false from cB (fun e=>hg (by rw[e])));have e1:((L.length:Int) != (M.length:Int))=true:=by simp; omega
  clear hg
  go_enter Tryz.func27,Tryz.ntmps27
  go_wp2_with fail;go_ret;exact⟨bX HF.o.symm,ak _ _⟩
theorem Gw {S:Nat->Prop} {w:World} {a:Option Addr} {n c:Nat} {xs:List ByteArray} (h:lP S w (.slice a n c) xs):lP S w (.slice a (n-1) c) xs.dropLast:=by
 obtain⟨hl,a',cap,he,hn,hm,h0⟩:=h;simp only[cY]at he;obtain⟨rfl,rfl,rfl⟩:=he;refine⟨by simp,a,c,by rw[fS],by rw[fS]; omega,hm, ?_⟩
 rcases h0 with h0 | ⟨b,o,ha,hb,hc⟩
 ·left; rw[fS]; omega
 ·right
  refine⟨b,o,ha,hb,fun j u hj=>hc j u ?_⟩;rw[bh,List.getElem?_dropLast]at hj;rw[bh]
  split at hj
  ·exact hj
  ·simp at hj
theorem xN (s:ByteArray) (w:World) (hs:s.size<=65000):
  Calls Tryz.prog 92 #[.string s] w fun e w'=>e= .returned (.string ⟨(cr (bl s)).toArray⟩)/\Below w.heap.size w w':=by
 go_enter Tryz.func92,Tryz.ntmps92
 go_wp2_with (go_at_call 87; refine(nD s _ (by omega)).mono ?_; rintro e w1 ⟨v,xs,rfl,hx,hv,hb⟩; have HX:=ah hx; have HB:=ah hb; obtain⟨a,c,rfl,hc,hm,-⟩:=hv.shape; have HV:=ah hv; have ha:1<=xs.length:=(by rw[<-aw (f:=bl),hx]; exact sT 47 _); have hd:xs.length<=65001:=(by rw[<-aw (f:=bl),hx]; have:=pd 47 (bl s); rw[<-bi]at this; omega); clear hx hv hb; unfold maxLen at hm)
 refine(Ee xs.dropLast _ _ w1 (Gw HV.o) (by rw[fS]; omega) (fun x hx=> ?_)).mono ?_
 ·have h1:bl x∈dg 47 (bl s):=by rw[<-HX.o]; exact aP.2 ⟨x,List.dropLast_subset _ hx,rfl⟩
  have h2:=tC 47 (bl s) _ h1;rw[<-bi,<-bi]at h2;omega
 ·rintro e w2 ⟨rfl,rfl⟩;go_wp2_with fail;go_ret;refine⟨?_,HB.o⟩;unfold cr;rw[<-HX.o,<-List.map_dropLast]
  rfl
theorem uy (S:Nat->Prop) (L:List dd) (v:Value) (p:ByteArray) (x:Int) (w:World) (hv:dY S w v L) (hx:kE L p 0=x):
  Calls Tryz.prog 131 #[v, .string p] w fun e w'=>e= .returned (.int .i64 x)/\Below w.heap.size w w':=by
 rw[<-hx]; exact Gb S L v p w hv
theorem vR (L:List dd) (p:ByteArray):ny L (bl p)=if bl p=[]then 0 else match kV L p with
 | none=>4
 | some e=>if e.kind=2 then 0 else 13:=by
 unfold ny;rw[tF]
 cases kV L p<;> rfl
theorem KH (S:Nat->Prop) (L:List dd) (v:Value) (p:ByteArray) (w:World) (hv:dY S w v L):
  Calls Tryz.prog 91 #[v, .string p] w fun e w'=>e= .returned (.int .i64 (ny L (bl p)))/\Below w.heap.size w w':=by
 have HV:=ah hv
 by_cases h0:bl p=[]
 ·have e1:p.toList.isEmpty=true:=by rw[oG,cR h0]
  have HR:=ah (show ny L (bl p)=0 by rw[vR,if_pos h0]);clear h0 hv
  go_enter Tryz.func91,Tryz.ntmps91
  go_wp2_with fail;go_ret;exact⟨dP HR.o.symm,ak _ _⟩
 ·have e1:p.toList.isEmpty=false:=by rw[oG,cB h0]
  rcases uY (p:=p) L 0 with⟨h1,h2⟩ | ⟨j,f,h1,h2,h3⟩
  ·have HR:=ah (show ny L (bl p)=4 by rw[vR,if_neg h0,h1]);have HI:=ah h2;clear h0 h1 h2 hv
   go_enter Tryz.func91,Tryz.ntmps91
   go_wp2_with (go_at_call 131; refine(uy S L v p (-1) _ HV.o HI.o).mono ?_; rintro e w1 ⟨rfl,ha⟩; have hd:=ah ha; clear ha);go_ret;exact⟨dP HR.o.symm,hd.o⟩
  ·have HI:=ah (show kE L p 0=(j:Int) by rw[h3]; simp);obtain⟨a,cap,rfl,hc,hm,-⟩:=cN.shape hv mj.len;have he:j<L.length:=(aD.1 h2).1;obtain⟨n,hn⟩:=bI L.length;rw[<-hn]at HV hc he ⊢;obtain⟨b,o,dv,rfl,-,hb,-,-,-,q0,q1,q2,q3,q4,q5⟩:=jN HV.o h2;unfold maxLen at hm
   by_cases hk:f.kind=2
   ·have HR:=ah (show ny L (bl p)=0 by rw[vR,if_neg h0,h1]; simp only[if_pos hk]);have e2:(f.kind != 2)=false:=by simp[hk]
    clear h0 h1 h2 h3 hv hk hn q0 q2 q3 q4 q5
    go_enter Tryz.func91,Tryz.ntmps91
    go_wp2_with (go_at_call 131; refine(uy S L _ p j _ HV.o HI.o).mono ?_; rintro e w1 ⟨rfl,ha⟩; have q9:=(ha.cell (bP q1)).trans q1; have hd:=ah ha; clear ha);go_ret;exact⟨dP HR.o.symm,hd.o⟩
   ·have HR:=ah (show ny L (bl p)=13 by rw[vR,if_neg h0,h1]; simp only[if_neg hk]);have e2:(f.kind != 2)=true:=by simp[hk]
    clear h0 h1 h2 h3 hv hk hn q0 q2 q3 q4 q5
    go_enter Tryz.func91,Tryz.ntmps91
    go_wp2_with (go_at_call 131; refine(uy S L _ p j _ HV.o HI.o).mono ?_; rintro e w1 ⟨rfl,ha⟩; have q9:=(ha.cell (bP q1)).trans q1; have hd:=ah ha; clear ha);go_ret;exact⟨dP HR.o.symm,hd.o⟩
theorem ir (s:ByteArray) (b:Bool) (w:World) (hs:s.size<=16777216) (h:dH (bl s)=b):Calls Tryz.prog 86 #[.string s] w fun e w'=>e= .returned (.bool b)/\Below w.heap.size w w':=by rw[<-h]; exact Ef s w hs
theorem xC {l:List UInt8} :l.contains 0=false<-> ∀k:Nat,∀b,l[k]? =some b->b≠0:=by
 rw[fo,ne_eq,List.contains_iff_mem,List.mem_iff_getElem?]
 constructor
 ·intro h k b hb e; subst e; exact h ⟨k,hb⟩
 ·rintro h ⟨k,hk⟩; exact h k 0 hk rfl
theorem EI {en:dd} (h:(en.kind=1\/en.kind=2\/en.kind=3)/\en.data.length<=1048576/\(en.kind=1\/en.data.length=0)) (hz:(bl en.link).contains 0=false):lr en=((decide (en.kind=3) == decide (en.link.size≠0)) && decide (en.link.size<=512)):=by
 obtain⟨h1,h2,h3⟩:=h;unfold lr pg;rw[hz,<-bi]
 rcases h1 with h1 | h1 | h1
 ·rw[if_pos h1,cR h2,h1]
  by_cases hs:en.link.size=0
  ·simp[hs]
  ·simp[hs]
 ·have h4:en.data.length=0:=h3.resolve_left (by omega);rw[if_neg (by omega),if_pos h1,cR h4,h1]
  by_cases hs:en.link.size=0
  ·simp[hs]
  ·simp[hs]
 ·have h4:en.data.length=0:=h3.resolve_left (by omega);rw[if_neg (by omega),if_neg (by omega),if_pos h1,cR h4,h1]
  by_cases hs:en.link.size=0
  ·simp[hs]
  ·rw[cR (by omega:1<=en.link.size)];simp[hs]
theorem BP (S:Nat->Prop) (en:dd) (v:Value) (w:World) (hd:el S w v en.data) (hok:jP en) (hps:en.path.size<=16777216):Calls Tryz.prog 89 #[wU v en] w fun e w'=>e= .returned (.bool (ig en))/\Below w.heap.size w w':=by
 obtain⟨a,cap,rfl,hc,hm⟩:=hd.slice;unfold maxLen at hm;have hl:=ah hps;have hL:=hok.lnk;unfold maxLen at hL;clear hok;unfold wU
 cases hv:dH (bl en.path)
 ·have HV:=ah hv;have HF:=ah (show ig en=false by unfold ig; rw[hv]; rfl);clear hv
  go_enter gG,gu
  go_wp2_with fail;obtain⟨W,hW⟩:=bI (w.alloc (.cells #[.string en.path, .int .i64 en.kind, .int .i64 en.mode, .int .i64 en.time, .slice a en.data.length cap, .string en.link] 79));rw[<-hW];have hh:=ah (show Below w.heap.size w W by rw[hW]; exact eW);have he:=ah (show W.heap[w.heap.size]? =some (.cells #[.string en.path, .int .i64 en.kind, .int .i64 en.mode, .int .i64 en.time, .slice a en.data.length cap, .string en.link] 79 (0,0)) by rw[hW]; exact ep w _)
  clear hW;refine(ir en.path false _ hl.o HV.o).mono ?_;rintro e w1 ⟨rfl,ha⟩;have hf:=ah (aj hh.o ha);clear ha;go_wp2_with fail;go_ret;exact⟨bX (by rw[HF.o]),hf.o⟩
 have HV:=ah hv
 by_cases h1:en.mode<0
 ·have e1:decide (en.mode<0)=true:=by simp[h1]
  have HF:=ah (show ig en=false by unfold ig pf; rw[cB (by omega: ¬0<=en.mode)]; simp);clear hv
  go_enter gG,gu
  go_wp2_with fail;obtain⟨W,hW⟩:=bI (w.alloc (.cells #[.string en.path, .int .i64 en.kind, .int .i64 en.mode, .int .i64 en.time, .slice a en.data.length cap, .string en.link] 79));rw[<-hW];have hh:=ah (show Below w.heap.size w W by rw[hW]; exact eW);have he:=ah (show W.heap[w.heap.size]? =some (.cells #[.string en.path, .int .i64 en.kind, .int .i64 en.mode, .int .i64 en.time, .slice a en.data.length cap, .string en.link] 79 (0,0)) by rw[hW]; exact ep w _)
  clear hW;refine(ir en.path true _ hl.o HV.o).mono ?_;rintro e w1 ⟨rfl,ha⟩;have hf:=ah (aj hh.o ha);have hg:=ah ((ha.block w.heap.size (mf he.o)).trans he.o);clear ha;obtain⟨c0,c1,c2,c3,c4,c5,_⟩:=aS hg.o;go_wp2_with fail;go_ret;exact⟨bX (by rw[HF.o]),hf.o⟩
 have e1:decide (en.mode<0)=false:=by simp[h1]
 by_cases h2:511<en.mode
 ·have e2:decide (511<en.mode)=true:=by simp[h2]
  have HF:=ah (show ig en=false by unfold ig pf; rw[cB (by omega: ¬en.mode<=511)]; simp);clear hv
  go_enter gG,gu
  go_wp2_with fail;obtain⟨W,hW⟩:=bI (w.alloc (.cells #[.string en.path, .int .i64 en.kind, .int .i64 en.mode, .int .i64 en.time, .slice a en.data.length cap, .string en.link] 79));rw[<-hW];have hh:=ah (show Below w.heap.size w W by rw[hW]; exact eW);have he:=ah (show W.heap[w.heap.size]? =some (.cells #[.string en.path, .int .i64 en.kind, .int .i64 en.mode, .int .i64 en.time, .slice a en.data.length cap, .string en.link] 79 (0,0)) by rw[hW]; exact ep w _)
  clear hW;refine(ir en.path true _ hl.o HV.o).mono ?_;rintro e w1 ⟨rfl,ha⟩;have hf:=ah (aj hh.o ha);have hg:=ah ((ha.block w.heap.size (mf he.o)).trans he.o);clear ha;obtain⟨c0,c1,c2,c3,c4,c5,_⟩:=aS hg.o;go_wp2_with fail;go_ret;exact⟨bX (by rw[HF.o]),hf.o⟩
 have e2:decide (511<en.mode)=false:=by simp[h2]
 by_cases h3:en.time<0
 ·have e3:decide (en.time<0)=true:=by simp[h3]
  have HF:=ah (show ig en=false by unfold ig pf; rw[cB (by omega: ¬0<=en.time)]; simp);clear hv
  go_enter gG,gu
  go_wp2_with fail;obtain⟨W,hW⟩:=bI (w.alloc (.cells #[.string en.path, .int .i64 en.kind, .int .i64 en.mode, .int .i64 en.time, .slice a en.data.length cap, .string en.link] 79));rw[<-hW];have hh:=ah (show Below w.heap.size w W by rw[hW]; exact eW);have he:=ah (show W.heap[w.heap.size]? =some (.cells #[.string en.path, .int .i64 en.kind, .int .i64 en.mode, .int .i64 en.time, .slice a en.data.length cap, .string en.link] 79 (0,0)) by rw[hW]; exact ep w _)
  clear hW;refine(ir en.path true _ hl.o HV.o).mono ?_;rintro e w1 ⟨rfl,ha⟩;have hf:=ah (aj hh.o ha);have hg:=ah ((ha.block w.heap.size (mf he.o)).trans he.o);clear ha;obtain⟨c0,c1,c2,c3,c4,c5,_⟩:=aS hg.o;go_wp2_with fail;go_ret;exact⟨bX (by rw[HF.o]),hf.o⟩
 have e3:decide (en.time<0)=false:=by simp[h3]
 by_cases h4:en.kind<1
 ·have e4:decide (en.kind<1)=true:=by simp[h4]
  have HF:=ah (show ig en=false by unfold ig lr; rw[if_neg (by omega),if_neg (by omega),if_neg (by omega)]; simp);clear hv
  go_enter gG,gu
  go_wp2_with fail;obtain⟨W,hW⟩:=bI (w.alloc (.cells #[.string en.path, .int .i64 en.kind, .int .i64 en.mode, .int .i64 en.time, .slice a en.data.length cap, .string en.link] 79));rw[<-hW];have hh:=ah (show Below w.heap.size w W by rw[hW]; exact eW);have he:=ah (show W.heap[w.heap.size]? =some (.cells #[.string en.path, .int .i64 en.kind, .int .i64 en.mode, .int .i64 en.time, .slice a en.data.length cap, .string en.link] 79 (0,0)) by rw[hW]; exact ep w _)
  clear hW;refine(ir en.path true _ hl.o HV.o).mono ?_;rintro e w1 ⟨rfl,ha⟩;have hf:=ah (aj hh.o ha);have hg:=ah ((ha.block w.heap.size (mf he.o)).trans he.o);clear ha;obtain⟨c0,c1,c2,c3,c4,c5,_⟩:=aS hg.o;go_wp2_with fail;go_ret;exact⟨bX (by rw[HF.o]),hf.o⟩
 have e4:decide (en.kind<1)=false:=by simp[h4]
 by_cases h5:3<en.kind
 ·have e5:decide (3<en.kind)=true:=by simp[h5]
  have HF:=ah (show ig en=false by unfold ig lr; rw[if_neg (by omega),if_neg (by omega),if_neg (by omega)]; simp);clear hv
  go_enter gG,gu
  go_wp2_with fail;obtain⟨W,hW⟩:=bI (w.alloc (.cells #[.string en.path, .int .i64 en.kind, .int .i64 en.mode, .int .i64 en.time, .slice a en.data.length cap, .string en.link] 79));rw[<-hW];have hh:=ah (show Below w.heap.size w W by rw[hW]; exact eW);have he:=ah (show W.heap[w.heap.size]? =some (.cells #[.string en.path, .int .i64 en.kind, .int .i64 en.mode, .int .i64 en.time, .slice a en.data.length cap, .string en.link] 79 (0,0)) by rw[hW]; exact ep w _)
  clear hW;refine(ir en.path true _ hl.o HV.o).mono ?_;rintro e w1 ⟨rfl,ha⟩;have hf:=ah (aj hh.o ha);have hg:=ah ((ha.block w.heap.size (mf he.o)).trans he.o);clear ha;obtain⟨c0,c1,c2,c3,c4,c5,_⟩:=aS hg.o;go_wp2_with fail;go_ret;exact⟨bX (by rw[HF.o]),hf.o⟩
 have e5:decide (3<en.kind)=false:=by simp[h5]
 have hu:=ah (show ig en=lr en by unfold ig pf;rw[hv,cR (by omega:0<=en.mode),cR (by omega:en.mode<=511),cR (by omega:0<=en.time)]; simp)
 by_cases h6:en.kind≠1/\0<en.data.length
 ·have e6:(en.kind != 1)=true:=by simp[h6.1]
  have e7:decide (0<en.data.length)=true:=by simp[h6.2]
  have e8:0<en.data.length:=h6.2;have HF:=ah (show ig en=false by rw[hu.o]; unfold lr; rw[if_neg h6.1,cB (by omega: ¬en.data.length=0)]; simp)
  clear hv h6
  go_enter gG,gu
  go_wp2_with fail;obtain⟨W,hW⟩:=bI (w.alloc (.cells #[.string en.path, .int .i64 en.kind, .int .i64 en.mode, .int .i64 en.time, .slice a en.data.length cap, .string en.link] 79));rw[<-hW];have hh:=ah (show Below w.heap.size w W by rw[hW]; exact eW);have he:=ah (show W.heap[w.heap.size]? =some (.cells #[.string en.path, .int .i64 en.kind, .int .i64 en.mode, .int .i64 en.time, .slice a en.data.length cap, .string en.link] 79 (0,0)) by rw[hW]; exact ep w _)
  clear hW;refine(ir en.path true _ hl.o HV.o).mono ?_;rintro e w1 ⟨rfl,ha⟩;have hf:=ah (aj hh.o ha);have hg:=ah ((ha.block w.heap.size (mf he.o)).trans he.o);clear ha;obtain⟨c0,c1,c2,c3,c4,c5,_⟩:=aS hg.o;go_wp2_with fail;go_ret;exact⟨bX (by rw[HF.o]),hf.o⟩
 by_cases h7:1048576<en.data.length
 ·have hn:en.kind=1:=by
   by_cases hk:en.kind=1
   ·exact hk
   ·exact absurd ⟨hk,by omega⟩ h6
  have e6:(en.kind != 1)=false:=by simp[hn]
  have e7:decide (1048576<en.data.length)=true:=by simp[h7]
  have HF:=ah (show ig en=false by rw[hu.o]; unfold lr; rw[if_pos hn,cB (by omega: ¬en.data.length<=1048576)]; simp)
  clear hv h6 hn
  go_enter gG,gu
  go_wp2_with fail;obtain⟨W,hW⟩:=bI (w.alloc (.cells #[.string en.path, .int .i64 en.kind, .int .i64 en.mode, .int .i64 en.time, .slice a en.data.length cap, .string en.link] 79));rw[<-hW];have hh:=ah (show Below w.heap.size w W by rw[hW]; exact eW);have he:=ah (show W.heap[w.heap.size]? =some (.cells #[.string en.path, .int .i64 en.kind, .int .i64 en.mode, .int .i64 en.time, .slice a en.data.length cap, .string en.link] 79 (0,0)) by rw[hW]; exact ep w _)
  clear hW;refine(ir en.path true _ hl.o HV.o).mono ?_;rintro e w1 ⟨rfl,ha⟩;have hf:=ah (aj hh.o ha);have hg:=ah ((ha.block w.heap.size (mf he.o)).trans he.o);clear ha;obtain⟨c0,c1,c2,c3,c4,c5,_⟩:=aS hg.o;go_wp2_with fail;go_ret;exact⟨bX (by rw[HF.o]),hf.o⟩
 have e7:decide (1048576<en.data.length)=false:=by simp; omega
 have hJ:=ah (show(en.kind=1\/en.kind=2\/en.kind=3)/\en.data.length<=1048576/\(en.kind=1\/en.data.length=0)from⟨by omega,by omega,by
  by_cases hk:en.kind=1
  ·exact .inl hk
  ·exact .inr (by rcases eC en.data.length with h | h; exact h; exact absurd ⟨hk,h⟩ h6)⟩)
 clear hv
 by_cases hn:en.kind=1
 ·have e6:(en.kind != 1)=false:=by simp[hn]
  clear h6 hn
  go_enter gG,gu
  go_wp2_with fail;obtain⟨W,hW⟩:=bI (w.alloc (.cells #[.string en.path, .int .i64 en.kind, .int .i64 en.mode, .int .i64 en.time, .slice a en.data.length cap, .string en.link] 79));rw[<-hW];have hh:=ah (show Below w.heap.size w W by rw[hW]; exact eW);have he:=ah (show W.heap[w.heap.size]? =some (.cells #[.string en.path, .int .i64 en.kind, .int .i64 en.mode, .int .i64 en.time, .slice a en.data.length cap, .string en.link] 79 (0,0)) by rw[hW]; exact ep w _)
  clear hW;refine(ir en.path true _ hl.o HV.o).mono ?_;rintro e w1 ⟨rfl,ha⟩;have hf:=ah (aj hh.o ha);have hg:=ah ((ha.block w.heap.size (mf he.o)).trans he.o);clear ha;obtain⟨c0,c1,c2,c3,c4,c5,_⟩:=aS hg.o;go_wp2_with fail
  go_loopw [3] (fun i wr=> ∃k:Nat,k<=en.link.size/\i= .int .i64 k/\(∀j b,j<k->(bl en.link)[j]? =some b->b≠0)/\Below w1.heap.size w1 wr) (fun i _=>en.link.size-(intOf i).toNat)
  ·exact⟨0,aU _,rfl,fun _ _ h=>absurd h (Nat.not_lt_zero _),ak _ _⟩
  ·obtain⟨k,hk,rfl,hz,hs⟩:=hrel;have HZ:=ah hz;have ho:=ah hs;have hE:=ah ((hs.block w.heap.size (mf hg.o)).trans hg.o);clear hz hs c0 c1 c2 c3 c4 c5;obtain⟨c0,c1,c2,c3,c4,c5,_⟩:=aS hE.o
   by_cases hlt:k<en.link.size
   ·have hw:=ah (show(bl en.link)[k]? =some en.link[k] by rw[bG (by rw[<-bi]; exact hlt)]; rfl)
    by_cases h0:(en.link[k]'hlt).toNat=0
    ·have HF:=ah (show ig en=false by
      rw[hu.o];unfold lr;have hI: ¬en.link.size=0:=by omega
      have hF:(bl en.link).contains 0=true:=by have h9:en.link[k]'hlt=0:=gN.1 h0;have:=hw.o;rw[h9]at this;exact List.contains_iff_mem.2 (aQ this)
      rw[cB hI];unfold pg;rw[hF]
      simp)
     go_wp2_with fail;go_ret;exact⟨bX (by rw[HF.o]),aj hf.o ho.o⟩
    ·have hB:=ah h0;go_wp2_with fail
     go_roundw
     ·refine⟨k+1,by omega,by go_num,fun j b hj hb e=> ?_,ho.o⟩
      by_cases hG:j=k
      ·subst hG;rw[hw.o]at hb;have:=bK hb;subst this;exact hB.o (by rw[e]; rfl)
      ·exact HZ.o j b (by omega) hb e
     simp[intOf]; omega
   ·have hH:k=en.link.size:=by omega
    have hA:=ah (show(bl en.link).contains 0=false from xC.2 (fun j b hj e=>by have h1:=(aD.1 hj).1;exact HZ.o j b (by rw[hH,bi]; exact h1) hj e))
    have hD:=ah (EI hJ.o hA.o);have hy:=ah (show en.link.toList.isEmpty= !decide (en.link.size≠0) by rw[oG]; by_cases h:en.link.size=0<;> simp[h,nM.1,<-nM]);obtain⟨b3,hp⟩: ∃b,decide (en.kind=3)=b:=⟨_,rfl⟩;obtain⟨be,hr⟩: ∃b,decide (en.link.size≠0)=b:=⟨_,rfl⟩;obtain⟨b5,hq⟩: ∃b,decide (en.link.size<=512)=b:=⟨_,rfl⟩;have f3:(en.kind == 3)=b3:=by rw[<-hp]; rfl
    have fe:=hy.o;rw[hr]at fe;have hC:=ah (show ig en=((b3 == be) && b5) by rw[hu.o,hD.o,hp,hr,hq]);have hx:=ah hq;clear hr hlt hk hp hq
    cases b3<;> cases be<;> simp only[Bool.not_true,Bool.not_false]at fe<;> (go_wp2_with fail)<;> (go_ret)<;> exact⟨bX (by rw[hC.o,<-hx.o]; simp[show(((en.link.size:Nat):Int)<=512<->en.link.size<=512)from by omega]),aj hf.o ho.o⟩
 ·have e6:(en.kind != 1)=true:=by simp[hn]
  have e8:decide (0<en.data.length)=false:=by rw[eo]; exact fun h=>h6 ⟨hn,h⟩
  clear h6 hn
  go_enter gG,gu
  go_wp2_with fail;obtain⟨W,hW⟩:=bI (w.alloc (.cells #[.string en.path, .int .i64 en.kind, .int .i64 en.mode, .int .i64 en.time, .slice a en.data.length cap, .string en.link] 79));rw[<-hW];have hh:=ah (show Below w.heap.size w W by rw[hW]; exact eW);have he:=ah (show W.heap[w.heap.size]? =some (.cells #[.string en.path, .int .i64 en.kind, .int .i64 en.mode, .int .i64 en.time, .slice a en.data.length cap, .string en.link] 79 (0,0)) by rw[hW]; exact ep w _)
  clear hW;refine(ir en.path true _ hl.o HV.o).mono ?_;rintro e w1 ⟨rfl,ha⟩;have hf:=ah (aj hh.o ha);have hg:=ah ((ha.block w.heap.size (mf he.o)).trans he.o);clear ha;obtain⟨c0,c1,c2,c3,c4,c5,_⟩:=aS hg.o;go_wp2_with fail
  go_loopw [3] (fun i wr=> ∃k:Nat,k<=en.link.size/\i= .int .i64 k/\(∀j b,j<k->(bl en.link)[j]? =some b->b≠0)/\Below w1.heap.size w1 wr) (fun i _=>en.link.size-(intOf i).toNat)
  ·exact⟨0,aU _,rfl,fun _ _ h=>absurd h (Nat.not_lt_zero _),ak _ _⟩
  ·obtain⟨k,hk,rfl,hz,hs⟩:=hrel;have HZ:=ah hz;have ho:=ah hs;have hE:=ah ((hs.block w.heap.size (mf hg.o)).trans hg.o);clear hz hs c0 c1 c2 c3 c4 c5;obtain⟨c0,c1,c2,c3,c4,c5,_⟩:=aS hE.o
   by_cases hlt:k<en.link.size
   ·have hw:=ah (show(bl en.link)[k]? =some en.link[k] by rw[bG (by rw[<-bi]; exact hlt)]; rfl)
    by_cases h0:(en.link[k]'hlt).toNat=0
    ·have HF:=ah (show ig en=false by
      rw[hu.o];unfold lr;have hI: ¬en.link.size=0:=by omega
      have hF:(bl en.link).contains 0=true:=by have h9:en.link[k]'hlt=0:=gN.1 h0;have:=hw.o;rw[h9]at this;exact List.contains_iff_mem.2 (aQ this)
      rw[cB hI];unfold pg;rw[hF]
      simp)
     go_wp2_with fail;go_ret;exact⟨bX (by rw[HF.o]),aj hf.o ho.o⟩
    ·have hB:=ah h0;go_wp2_with fail
     go_roundw
     ·refine⟨k+1,by omega,by go_num,fun j b hj hb e=> ?_,ho.o⟩
      by_cases hG:j=k
      ·subst hG;rw[hw.o]at hb;have:=bK hb;subst this;exact hB.o (by rw[e]; rfl)
      ·exact HZ.o j b (by omega) hb e
     simp[intOf]; omega
   ·have hH:k=en.link.size:=by omega
    have hA:=ah (show(bl en.link).contains 0=false from xC.2 (fun j b hj e=>by have h1:=(aD.1 hj).1;exact HZ.o j b (by rw[hH,bi]; exact h1) hj e))
    have hD:=ah (EI hJ.o hA.o);have hy:=ah (show en.link.toList.isEmpty= !decide (en.link.size≠0) by rw[oG]; by_cases h:en.link.size=0<;> simp[h,nM.1,<-nM]);obtain⟨b3,hp⟩: ∃b,decide (en.kind=3)=b:=⟨_,rfl⟩;obtain⟨be,hr⟩: ∃b,decide (en.link.size≠0)=b:=⟨_,rfl⟩;obtain⟨b5,hq⟩: ∃b,decide (en.link.size<=512)=b:=⟨_,rfl⟩;have f3:(en.kind == 3)=b3:=by rw[<-hp]; rfl
    have fe:=hy.o;rw[hr]at fe;have hC:=ah (show ig en=((b3 == be) && b5) by rw[hu.o,hD.o,hp,hr,hq]);have hx:=ah hq;clear hr hlt hk hp hq
    cases b3<;> cases be<;> simp only[Bool.not_true,Bool.not_false]at fe<;> (go_wp2_with fail)<;> (go_ret)<;> exact⟨bX (by rw[hC.o,<-hx.o]; simp[show(((en.link.size:Nat):Int)<=512<->en.link.size<=512)from by omega]),aj hf.o ho.o⟩
end
section
open Go.RowKit
theorem om (c:Int) (w:World) (h0:0<=c) (h1:c<=255):Calls Tryz.prog 130 #[.int .u8 c] w fun e w'=>e= .returned (.int .i64 (ns c))/\w=w':=by
 by_cases h:c=47
 ·subst h
  go_enter Tryz.func130,Tryz.ntmps130
  go_wp2
  go_ret;exact⟨rfl,rfl⟩
 ·have hr:ns c=c:=if_neg h;have HR:=ah hr;clear hr;have h2:(c == 47)=false:=by simpa using h
  go_enter Tryz.func130,Tryz.ntmps130
  go_wp2
  go_ret;exact⟨dP HR.o.symm,rfl⟩
theorem yR (a b:ByteArray) (w:World) (ha:a.size<=65536):
  Calls Tryz.prog 90 #[.string a, .string b] w fun e w'=>e= .returned (.int .i64 (ft (bl a) (bl b)))/\Below w.heap.size w w':=by
 go_enter Tryz.func90,Tryz.ntmps90
 go_wp2_with fail
 go_loopw [5] (fun i wr=> ∃k:Nat,k<=a.size/\k<=b.size/\i= .int .i64 k/\Below w.heap.size w wr/\ft (bl a) (bl b)=ft ((bl a).drop k) ((bl b).drop k)) (fun i _=>a.size-(intOf i).toNat)
 ·exact⟨0,aU _,aU _,rfl,ak _ _,rfl⟩
 ·obtain⟨k,hu,hv,rfl,ho,hc⟩:=hrel;have HC:=ah hc;have HB:=ah ho;clear hc ho
  by_cases hp:k<a.size
  ·by_cases hl:k<b.size
   ·have i1:(k:Int)<(a.size:Int):=by omega
    have i2:(k:Int)<(b.size:Int):=by omega
    have hd:k<(bl a).length:=by rw[<-bi]; exact hp
    have he:k<(bl b).length:=by rw[<-bi]; exact hl
    have hw:=(a[k]).toNat_lt;have hx:=(b[k]).toNat_lt;have hq:iA (bl a)[k]=ns (a[k].toNat:Int):=by rw[tK]; exact congrArg iA (kO a k hp).symm
    have hr:iA (bl b)[k]=ns (b[k].toNat:Int):=by rw[tK]; exact congrArg iA (kO b k hl).symm
    have hg:=ah hq;have hh:=ah hr;clear hq hr
    rcases Int.lt_trichotomy (ns (a[k].toNat:Int)) (ns (b[k].toNat:Int))with hf | hf | hf
    ·have hb:=ah hf;go_wp2_with fail
     go_quiet ((go_at_call 130; refine lf (om _ _ (by omega) (by omega))))
     go_wp2_with fail;go_ret;refine⟨dP ?_,fW HB.o _⟩;have hn:(bl a)[k]≠(bl b)[k]:=by intro e; have:=hb.o; rw[<-hg.o,<-hh.o,e]at this; omega
     rw[HC.o,wH hd he hn,hg.o,hh.o,Lib.compareInt,if_pos hb.o]
    ·have e1: ¬ns (a[k].toNat:Int)<ns (b[k].toNat:Int):=by omega
     have e2: ¬ns (b[k].toNat:Int)<ns (a[k].toNat:Int):=by omega
     have hb:=ah hf;clear hf;go_wp2_with fail
     go_quiet ((go_at_call 130; refine lf (om _ _ (by omega) (by omega))))
     go_wp2_with fail;have hW: ∃W,W=wr.drewN nq/\Below w.heap.size w W:=⟨_,rfl,fW HB.o nq⟩;obtain⟨W,hk,hj⟩:=hW;rw[<-hk];have hm:=ah hj;clear hk hj HB
     go_quiet ((go_at_call 130; refine lf (om _ _ (by omega) (by omega))))
     go_wp2_with fail
     go_roundw
     ·refine⟨k+1,by omega,by omega,by go_num,fW hm.o _, ?_⟩;rw[HC.o];exact CE hd he (mD (hg.o.trans (hb.o.trans hh.o.symm)))
     simp[intOf]; omega
    ·have e1: ¬ns (a[k].toNat:Int)<ns (b[k].toNat:Int):=by omega
     have hb:=ah hf;go_wp2_with fail
     go_quiet ((go_at_call 130; refine lf (om _ _ (by omega) (by omega))))
     go_wp2_with fail;have hW: ∃W,W=wr.drewN nq/\Below w.heap.size w W:=⟨_,rfl,fW HB.o nq⟩;obtain⟨W,hk,hj⟩:=hW;rw[<-hk];have hm:=ah hj;clear hk hj HB
     go_quiet ((go_at_call 130; refine lf (om _ _ (by omega) (by omega))))
     go_wp2_with fail;go_ret;refine⟨dP ?_,fW hm.o _⟩;have hn:(bl a)[k]≠(bl b)[k]:=by intro e; have:=hb.o; rw[<-hg.o,<-hh.o,e]at this; omega
     rw[HC.o,wH hd he hn,hg.o,hh.o,Lib.compareInt,if_neg (by have:=hb.o; omega),if_pos hb.o]
   ·obtain rfl:k=b.size:=by omega
    have i2:decide ((b.size:Int)<(b.size:Int))=false:=by simp
    have i3:(b.size:Int)<(a.size:Int):=by omega
    go_wp2_with fail;go_ret;refine⟨dP ?_,HB.o⟩;rw[HC.o,vP (by rw[<-bi]; omega) (by rw[<-bi]; exact ai _) (.inr (by rw[<-bi])),<-bi,<-bi,Lib.compareInt,if_neg (by omega),if_pos (by omega)]
  ·obtain rfl:k=a.size:=by omega
   rcases dK a.size b.size with hl | hl
   ·have i3:(a.size:Int)<(b.size:Int):=by omega
    go_wp2_with fail;go_ret;refine⟨dP ?_,HB.o⟩;rw[HC.o,vP (by rw[<-bi]; exact ai _) (by rw[<-bi]; omega) (.inl (by rw[<-bi])),<-bi,<-bi,Lib.compareInt,if_pos (by omega)]
   ·obtain heq:a.size=b.size:=by omega
    have hs:=ah heq;have i3: ¬(a.size:Int)<(b.size:Int):=by omega
    have i4: ¬(b.size:Int)<(a.size:Int):=by omega
    clear heq;go_wp2_with fail;go_ret;refine⟨dP ?_,HB.o⟩;rw[HC.o,vP (by rw[<-bi]; exact ai _) (by rw[<-bi]; omega) (.inl (by rw[<-bi])),<-bi,<-bi,Lib.compareInt,if_neg (by omega),if_neg (by omega)]
open Go.RowKit Go.Maps
theorem eO.take {α:Type} {R:List Value->α->Prop} {sz:Nat} (hs: ∀c x,R c x->c.length=sz): ∀ {xs:List α} {cells:List Value} (k:Nat),eO R cells xs->k<=xs.length->eO R (cells.take (k*sz)) (xs.take k)
 | _,_,0,_,_=>by simp[eO]
 | [],_,k+1,_,h=>by simp at h
 | x::xs,cells,k+1,⟨c,rest,hc,hx,hr⟩,h=>by
  subst hc;have hl:=hs c x hx;refine⟨c,rest.take (k*sz), ?_,hx,eO.take hs k hr (by simpa using h)⟩;rw[List.take_append,hl,bw (by rw[hl,Nat.succ_mul]; omega),Nat.succ_mul]
  congr 2; omega
theorem cN.takeN {α:Type} {S:Nat->Prop} {w:World} {sz:Nat} {R:List Value->α->Prop} {a:Option Addr} {n cap:Nat} {xs:List α} (hs: ∀c x,R c x->c.length=sz) (h:cN S w sz R (.slice a n cap) xs) {k:Nat} (hk:k<=xs.length):cN S w sz R (.slice a k cap) (xs.take k):=by
 obtain⟨cells,⟨hl,a',cap',hv,hn,hm,h0⟩,hr⟩:=h
 cases hv
 have hd:(xs.take k).length=k:=by rw[bn]; omega
 refine⟨cells.take (k*sz),⟨?_,a,cap,by rw[hd],by omega,hm, ?_⟩,eO.take hs k hr hk⟩
 ·rw[bn,hl,hd];exact fx (dh _ hk)
 ·rcases h0 with h0 | ⟨b,o,ha,hb,hc⟩
  ·exact .inl (by omega)
  ·refine .inr ⟨b,o,ha,hb,fun j u hj=>hc j u ?_⟩;rw[eA]at hj
   split at hj
   ·exact hj
   ·cases hj
theorem oN (S:Nat->Prop) (en:dd) (v:Value) (b:Bool) (w:World) (hd:el S w v en.data) (hok:jP en) (hps:en.path.size<=16777216) (h:ig en=b):Calls Tryz.prog 89 #[wU v en] w fun e w'=>e= .returned (.bool b)/\Below w.heap.size w w':=by rw[<-h]; exact BP S en v w hd hok hps
theorem vp (a b:ByteArray) (o:Int) (w:World) (ha:a.size<=65536) (h:ft (bl a) (bl b)=o):Calls Tryz.prog 90 #[.string a, .string b] w fun e w'=>e= .returned (.int .i64 o)/\Below w.heap.size w w':=by rw[<-h]; exact yR a b w ha
theorem oM (s q:ByteArray) (w:World) (hs:s.size<=65000) (hq:q=⟨(cr (bl s)).toArray⟩):Calls Tryz.prog 92 #[.string s] w fun e w'=>e= .returned (.string q)/\Below w.heap.size w w':=by rw[hq]; exact xN s w hs
theorem Ec (S:Nat->Prop) (L:List dd) (v:Value) (p:ByteArray) (x:Int) (w:World) (hv:dY S w v L) (hx:ny L (bl p)=x):Calls Tryz.prog 91 #[v, .string p] w fun e w'=>e= .returned (.int .i64 x)/\Below w.heap.size w w':=by rw[<-hx]; exact KH S L v p w hv
theorem AO {e:dd} (h:ig e=true):e.path.size<=65000:=by have:=mH (dj h);rw[bi]; omega
theorem Eb (S:Nat->Prop) (L:List dd) (v:Value) (w:World) (hv:dY S w v L) (hps: ∀e∈L,e.path.size<=16777216):Calls Tryz.prog 31 #[v] w fun e w'=>e= .returned (.int .i64 (iD L))/\Below w.heap.size w w':=by
 have HV:=ah hv;obtain⟨a,cap,rfl,hc,hm,-⟩:=cN.shape hv mj.len;unfold maxLen at hm;obtain⟨n,hn⟩:=bI L.length;have HN:=ah hn;rw[<-hn]at hc HV ⊢;clear hv
 by_cases hA:4096<n
 ·have Hf:(4096:Int)<(n:Int):=by omega
  have HC:=ah (zo (by rw[<-hn]; exact hA));clear hA hn
  go_enter Tryz.func31,Tryz.ntmps31
  go_wp2_with fail;go_ret;exact⟨dP (by rw[HC.o]),ak _ _⟩
 ·have Hf:(n:Int)<=(4096:Int):=by omega
  have hF:=ah (show L.length<=4096 by omega);have Hd:=ah hps;clear hA hn hps
  go_enter Tryz.func31,Tryz.ntmps31
  go_wp2_with fail
  go_loopw [11] (fun i wr=> ∃k:Nat,k<=n/\i= .int .i64 k/\Tr (L.take k)/\Below w.heap.size w wr) (fun i _=>n-(intOf i).toNat)
  ·exact⟨0,aU _,rfl,⟨fp,by simp,by simp⟩,ak _ _⟩
  ·obtain⟨k,hk,rfl,Hc,h9⟩:=hrel;have hr:=ah Hc;have hj:=ah h9;clear Hc h9
   by_cases Hk:k<n
   ·obtain⟨e,he⟩: ∃e,L[k]? =some e:=⟨L[k]'(by rw[<-HN.o]; exact Hk),by simp⟩;obtain⟨b,o,dv,rfl,-,hb,hd,Hb,-,q0,q1,q2,q3,q4,q5⟩:=jN (HV.o.below hj.o) he;have hB:=ah he;have HD:=ah hd;have hJ:=ah Hb;have hL:=ah (Hd.o e (aQ he));obtain⟨a1,cap1,rfl,Hl,Hg⟩:=hd.slice;unfold maxLen at Hg;have Ho:k<=cap:=by omega
    have h4:=ah (show k<=L.length by rw[<-HN.o]; omega);clear he hd Hb
    cases hD:ig e
    ·have hw:=ah hD;have ho:=ah (show fX (L.take k) e=1 by unfold fX; rw[hD]; rfl);clear hD;go_wp2_with fail;refine bL [some 1,none,some 13,none,some 3] (by kernel_rfl) (by kernel_rfl) (by kernel_rfl) ?_;simp only[ed,aR,aZ,bA,bR];obtain⟨W,hW⟩:=bI ((wr.alloc (.cells #[.string e.path, .int .i64 e.kind, .int .i64 e.mode, .int .i64 e.time, .slice a1 e.data.length cap1, .string e.link] 79)).drew)
     rw[<-hW];have ha:=ah (show Below wr.heap.size wr W by rw[hW]; exact(eW).drew);have HX:=ah (show W.heap[wr.heap.size]? =some (.cells #[.string e.path, .int .i64 e.kind, .int .i64 e.mode, .int .i64 e.time, .slice a1 e.data.length cap1, .string e.link] 79 (0,0)) by rw[hW]; exact ep wr _);have hO:=ah (aj hj.o ha.o);clear hW;obtain⟨c0,c1,c2,c3,c4,c5,_⟩:=aS HX.o
     repeat (first | (refine cy rfl ?_; simp only[bN]) | (refine cU rfl (fun K hK=> ?_); go_simp; refine hK _ ?_; clear hK K))
     refine cT ?_;refine eu rfl (fun K hK=> ?_);go_wp2_with (go_at_call 89; refine(oN S e (.slice a1 e.data.length cap1) false _ (HD.o.below ha.o) hJ.o hL.o hw.o).mono ?_; rintro e7 w7 ⟨rfl,hh⟩; have hl:=ah (ha.o.trans (hh.mono ha.o.size)); have hs:=ah ((hh.block wr.heap.size (mf HX.o)).trans HX.o); clear hh c0 c1 c2 c3 c4 c5)
     repeat (first | (refine cy rfl ?_; simp only[bN]) | (refine cU rfl (fun K hK=> ?_); go_simp; refine hK _ ?_; clear hK K))
     refine cT ?_;refine ws rfl ?_;simp only[bN]
     repeat (first | (refine cy rfl ?_; simp only[bN]) | (refine cU rfl (fun K hK=> ?_); go_simp; refine hK _ ?_; clear hK K))
     refine cT ?_;have hN:=ah (aj hj.o hl.o);go_wp2_with fail;go_ret;exact⟨dP (by rw[jF hF.o hr.o hB.o (x:=1) ho.o (by decide)]),hN.o⟩
    ·have hw:=ah hD;have h8:=ah (show e.path.size<=65000 from AO hD);obtain⟨q,hq⟩: ∃q:ByteArray,q=⟨(cr (bl e.path)).toArray⟩:=⟨_,rfl⟩;have h3:=ah (show bl q=cr (bl e.path) by rw[hq]; exact iX _);have HQ:=ah hq;clear hD hq
     rcases eC k with hM | hM
     ·have e9:decide (0<k)=false:=by simp; omega
      have e8:(k:Int)<=0:=by omega
      have hP:=ah (show(ig e && nP (L.take k) e)=true by rw[hM,hw.o]; rfl);clear hM;obtain⟨x,hx⟩: ∃x,ny (L.take k) (bl q)=x:=⟨_,rfl⟩;have hR:=ah hx;have ho:=ah (show fX (L.take k) e=x by unfold fX; rw[if_pos hP.o,<-h3.o,hx]);clear hx;go_wp2_with fail;refine bL [some 1,none,some 13,none,some 3] (by kernel_rfl) (by kernel_rfl) (by kernel_rfl) ?_
      simp only[ed,aR,aZ,bA,bR];obtain⟨W,hW⟩:=bI ((wr.alloc (.cells #[.string e.path, .int .i64 e.kind, .int .i64 e.mode, .int .i64 e.time, .slice a1 e.data.length cap1, .string e.link] 79)).drew);rw[<-hW];have ha:=ah (show Below wr.heap.size wr W by rw[hW]; exact(eW).drew);have HX:=ah (show W.heap[wr.heap.size]? =some (.cells #[.string e.path, .int .i64 e.kind, .int .i64 e.mode, .int .i64 e.time, .slice a1 e.data.length cap1, .string e.link] 79 (0,0)) by rw[hW]; exact ep wr _)
      have hO:=ah (aj hj.o ha.o);clear hW;obtain⟨c0,c1,c2,c3,c4,c5,_⟩:=aS HX.o
      repeat (first | (refine cy rfl ?_; simp only[bN]) | (refine cU rfl (fun K hK=> ?_); go_simp; refine hK _ ?_; clear hK K))
      refine cT ?_;refine eu rfl (fun K hK=> ?_);go_wp2_with (go_at_call 89; refine(oN S e (.slice a1 e.data.length cap1) true _ (HD.o.below ha.o) hJ.o hL.o hw.o).mono ?_; rintro e7 w7 ⟨rfl,hh⟩; have hl:=ah (ha.o.trans (hh.mono ha.o.size)); have hs:=ah ((hh.block wr.heap.size (mf HX.o)).trans HX.o); clear hh c0 c1 c2 c3 c4 c5)
      repeat (first | (refine cy rfl ?_; simp only[bN]) | (refine cU rfl (fun K hK=> ?_); go_simp; refine hK _ ?_; clear hK K))
      refine cT ?_;refine ws rfl ?_;simp only[bN]
      repeat (first | (refine cy rfl ?_; simp only[bN]) | (refine cU rfl (fun K hK=> ?_); go_simp; refine hK _ ?_; clear hK K))
      refine cT ?_;go_wp2_with fail;refine fd (fun w'=>w'.cell? ⟨wr.heap.size,0,none⟩=some (.string e.path)) (by kernel_rfl) ?_;obtain⟨V,hV⟩:=bI ((w7).drew);rw[<-hV];have hG:=ah (show Below wr.heap.size wr V by rw[hV]; exact hl.o.trans ((ak (w7).heap.size (w7)).drew.mono hl.o.size));have hY:=ah (show V.heap[wr.heap.size]? =some (.cells #[.string e.path, .int .i64 e.kind, .int .i64 e.mode, .int .i64 e.time, .slice a1 e.data.length cap1, .string e.link] 79 (0,0)) by rw[hV]; exact hs.o)
      clear hV;have hg:=ar (k:=0) hY.o;simp only[aC,aB]at hg
      iterate 5 (refine cI rfl hg (by intro w' h1; go_simp; rfl) ?_; simp only[bN])
      refine cC 5 rfl (fun K hK=> ?_);go_wp2_with (go_at_call 92; refine(oM e.path q _ h8.o HQ.o).mono ?_; rintro e9 w9 ⟨rfl,hy⟩);have hu:=ah (hG.o.trans (hy.mono hG.o.size));have hp:=(hy.cell (bP hg)).trans hg;clear hy;refine⟨hp, ?_⟩;refine cC 6 rfl (fun K hK=> ?_);have hT:=ah (show dY S w9 (.slice (some ⟨b,o,none⟩) (k) cap) (L.take (k))from cN.takeN mj.len (HV.o.below (aj hj.o hu.o)) h4.o)
      go_wp2_with (go_at_call 91; refine(Ec S (L.take (k)) (.slice (some ⟨b,o,none⟩) (k) cap) q x _ hT.o hR.o).mono ?_; rintro ea wa ⟨rfl,hz⟩);have hS:=ah (hu.o.trans (hz.mono hu.o.size));have hg:=(hz.cell (bP hp)).trans hp;clear hz;refine⟨hg, ?_⟩;refine cI rfl hg (by intro w' h1; go_simp; rfl) ?_;simp only[bN];refine cL (by kernel_rfl) ?_;have hE:=ah (aj hj.o hS.o)
      clear hg hp
      by_cases h0:x=0
      ·subst h0;have hU:=ah (mw hr.o hB.o ho.o);go_wp2_with fail
       go_roundw
       ·exact⟨k+1,by omega,by go_num,hU.o,hE.o⟩
       simp[intOf]; omega
      ·have e1:(x != 0)=true:=by simp[h0]
       have hX:=ah h0;clear h0;go_wp2_with fail;go_ret;exact⟨dP (by rw[jF hF.o hr.o hB.o (x:=x) ho.o hX.o]),hE.o⟩
     ·obtain⟨j,rfl⟩: ∃j,k=j+1:=⟨k-1,by omega⟩;obtain⟨f,hf⟩: ∃f,L[j]? =some f:=⟨L[j]'(by rw[<-HN.o]; omega),by simp⟩;obtain⟨b',o',dv',Ha,-,-,-,hZ,-,p0,-⟩:=jN (HV.o.below hj.o) hf;simp only[aX,jq,and_true]at Ha;obtain⟨rfl,rfl⟩:=Ha;have h7:=ah (show f.path.size<=65536 from an (AO (hr.o.val f (aQ (i:=j) (by rw[eA,if_pos (Nat.lt_succ_self j)]; exact hf)))) (by omega))
      obtain⟨c,hc⟩: ∃c,ft (bl f.path) (bl e.path)=c:=⟨_,rfl⟩;have HC:=ah hc;have e9:decide (0<j+1)=true:=by simp
      have Hn:j<n:=by omega
      have Hh:(j:Int)<(n:Int):=by omega
      have Hi:decide (j<n)=true:=by simp; omega
      have Hm:0<=(j:Int)+1/\(j:Int)+1<=(cap:Int):=by omega
      have Hp:IntKind.i64.wrap (j:Int)=j:=by rw[bF]; omega
      have h2:=ah (show nP (L.take (j+1)) e=decide (c<0) by rw[Cl hf,hc]);clear hf hZ hc hM
      by_cases hH:c<0
      ·have hP:=ah (show(ig e && nP (L.take (j+1)) e)=true by rw[hw.o,h2.o,cR hH]; rfl);have e8:decide (0<=c)=false:=by simp; omega
       obtain⟨x,hx⟩: ∃x,ny (L.take (j+1)) (bl q)=x:=⟨_,rfl⟩;have hR:=ah hx;have ho:=ah (show fX (L.take (j+1)) e=x by unfold fX; rw[if_pos hP.o,<-h3.o,hx]);clear hx;go_wp2_with fail;refine bL [some 1,none,some 13,none,some 3] (by kernel_rfl) (by kernel_rfl) (by kernel_rfl) ?_;simp only[ed,aR,aZ,bA,bR]
       obtain⟨W,hW⟩:=bI ((wr.alloc (.cells #[.string e.path, .int .i64 e.kind, .int .i64 e.mode, .int .i64 e.time, .slice a1 e.data.length cap1, .string e.link] 79)).drew);rw[<-hW];have ha:=ah (show Below wr.heap.size wr W by rw[hW]; exact(eW).drew);have HX:=ah (show W.heap[wr.heap.size]? =some (.cells #[.string e.path, .int .i64 e.kind, .int .i64 e.mode, .int .i64 e.time, .slice a1 e.data.length cap1, .string e.link] 79 (0,0)) by rw[hW]; exact ep wr _)
       have hO:=ah (aj hj.o ha.o);clear hW;obtain⟨c0,c1,c2,c3,c4,c5,_⟩:=aS HX.o
       repeat (first | (refine cy rfl ?_; simp only[bN]) | (refine cU rfl (fun K hK=> ?_); go_simp; refine hK _ ?_; clear hK K))
       refine cT ?_;refine eu rfl (fun K hK=> ?_);go_wp2_with (go_at_call 89; refine(oN S e (.slice a1 e.data.length cap1) true _ (HD.o.below ha.o) hJ.o hL.o hw.o).mono ?_; rintro e7 w7 ⟨rfl,hh⟩; have hl:=ah (ha.o.trans (hh.mono ha.o.size)); have hs:=ah ((hh.block wr.heap.size (mf HX.o)).trans HX.o); clear hh c0 c1 c2 c3 c4 c5);obtain⟨c0,c1,c2,c3,c4,c5,_⟩:=aS hs.o
       have y0:=(hl.o.cell (bP p0)).trans p0
       repeat (first | (refine cy rfl ?_; simp only[bN]) | (refine cU rfl (fun K hK=> ?_); go_simp; refine hK _ ?_; clear hK K))
       refine cT ?_;refine eu rfl (fun K hK=> ?_);go_wp2_with (go_at_call 90; refine(vp f.path e.path c _ h7.o HC.o).mono ?_; rintro e8' w8 ⟨rfl,hC⟩; have hI:=ah (hl.o.trans (hC.mono hl.o.size)); have He:=ah ((hC.block wr.heap.size (mf hs.o)).trans hs.o); clear hC c0 c1 c2 c3 c4 c5 y0)
       repeat (first | (refine cy rfl ?_; simp only[bN]) | (refine cU rfl (fun K hK=> ?_); go_simp; refine hK _ ?_; clear hK K))
       refine cT ?_;go_wp2_with fail;refine fd (fun w'=>w'.cell? ⟨wr.heap.size,0,none⟩=some (.string e.path)) (by kernel_rfl) ?_;obtain⟨V,hV⟩:=bI ((w8).drew);rw[<-hV];have hG:=ah (show Below wr.heap.size wr V by rw[hV]; exact hI.o.trans ((ak (w8).heap.size (w8)).drew.mono hI.o.size));have hY:=ah (show V.heap[wr.heap.size]? =some (.cells #[.string e.path, .int .i64 e.kind, .int .i64 e.mode, .int .i64 e.time, .slice a1 e.data.length cap1, .string e.link] 79 (0,0)) by rw[hV]; exact He.o)
       clear hV;have hg:=ar (k:=0) hY.o;simp only[aC,aB]at hg
       iterate 5 (refine cI rfl hg (by intro w' h1; go_simp; rfl) ?_; simp only[bN])
       refine cC 5 rfl (fun K hK=> ?_);go_wp2_with (go_at_call 92; refine(oM e.path q _ h8.o HQ.o).mono ?_; rintro e9 w9 ⟨rfl,hy⟩);have hu:=ah (hG.o.trans (hy.mono hG.o.size));have hp:=(hy.cell (bP hg)).trans hg;clear hy;refine⟨hp, ?_⟩;refine cC 6 rfl (fun K hK=> ?_);have hT:=ah (show dY S w9 (.slice (some ⟨b,o,none⟩) (j+1) cap) (L.take (j+1))from cN.takeN mj.len (HV.o.below (aj hj.o hu.o)) h4.o)
       go_wp2_with (go_at_call 91; refine(Ec S (L.take (j+1)) (.slice (some ⟨b,o,none⟩) (j+1) cap) q x _ hT.o hR.o).mono ?_; rintro ea wa ⟨rfl,hz⟩);have hS:=ah (hu.o.trans (hz.mono hu.o.size));have hg:=(hz.cell (bP hp)).trans hp;clear hz;refine⟨hg, ?_⟩;refine cI rfl hg (by intro w' h1; go_simp; rfl) ?_;simp only[bN];refine cL (by kernel_rfl) ?_
       have hE:=ah (aj hj.o hS.o);clear hg hp
       by_cases h0:x=0
       ·subst h0;have hU:=ah (mw hr.o hB.o ho.o);go_wp2_with fail
        go_roundw
        ·exact⟨j+1+1,by omega,by go_num,hU.o,hE.o⟩
        simp[intOf]; omega
       ·have e1:(x != 0)=true:=by simp[h0]
        have hX:=ah h0;clear h0;go_wp2_with fail;go_ret;exact⟨dP (by rw[jF hF.o hr.o hB.o (x:=x) ho.o hX.o]),hE.o⟩
      ·have ho:=ah (show fX (L.take (j+1)) e=1 by unfold fX; rw[h2.o,cB hH]; simp);have e8:decide (0<=c)=true:=by simp; omega
       have e7:0<=c:=by omega
       go_wp2_with fail;refine bL [some 1,none,some 13,none,some 3] (by kernel_rfl) (by kernel_rfl) (by kernel_rfl) ?_;simp only[ed,aR,aZ,bA,bR];obtain⟨W,hW⟩:=bI ((wr.alloc (.cells #[.string e.path, .int .i64 e.kind, .int .i64 e.mode, .int .i64 e.time, .slice a1 e.data.length cap1, .string e.link] 79)).drew)
       rw[<-hW];have ha:=ah (show Below wr.heap.size wr W by rw[hW]; exact(eW).drew);have HX:=ah (show W.heap[wr.heap.size]? =some (.cells #[.string e.path, .int .i64 e.kind, .int .i64 e.mode, .int .i64 e.time, .slice a1 e.data.length cap1, .string e.link] 79 (0,0)) by rw[hW]; exact ep wr _);have hO:=ah (aj hj.o ha.o);clear hW;obtain⟨c0,c1,c2,c3,c4,c5,_⟩:=aS HX.o
       repeat (first | (refine cy rfl ?_; simp only[bN]) | (refine cU rfl (fun K hK=> ?_); go_simp; refine hK _ ?_; clear hK K))
       refine cT ?_;refine eu rfl (fun K hK=> ?_);go_wp2_with (go_at_call 89; refine(oN S e (.slice a1 e.data.length cap1) true _ (HD.o.below ha.o) hJ.o hL.o hw.o).mono ?_; rintro e7 w7 ⟨rfl,hh⟩; have hl:=ah (ha.o.trans (hh.mono ha.o.size)); have hs:=ah ((hh.block wr.heap.size (mf HX.o)).trans HX.o); clear hh c0 c1 c2 c3 c4 c5);obtain⟨c0,c1,c2,c3,c4,c5,_⟩:=aS hs.o
       have y0:=(hl.o.cell (bP p0)).trans p0
       repeat (first | (refine cy rfl ?_; simp only[bN]) | (refine cU rfl (fun K hK=> ?_); go_simp; refine hK _ ?_; clear hK K))
       refine cT ?_;refine eu rfl (fun K hK=> ?_);go_wp2_with (go_at_call 90; refine(vp f.path e.path c _ h7.o HC.o).mono ?_; rintro e8' w8 ⟨rfl,hC⟩; have hI:=ah (hl.o.trans (hC.mono hl.o.size)); clear hC c0 c1 c2 c3 c4 c5 y0)
       repeat (first | (refine cy rfl ?_; simp only[bN]) | (refine cU rfl (fun K hK=> ?_); go_simp; refine hK _ ?_; clear hK K))
       refine cT ?_;have hN:=ah (aj hj.o hI.o);go_wp2_with fail;go_ret;exact⟨dP (by rw[jF hF.o hr.o hB.o (x:=1) ho.o (by decide)]),hN.o⟩
   ·have Hj:k=n:=by omega
    subst Hj;go_wp2_with fail;go_ret;exact⟨dP (by rw[wA hF.o (by rw[<-HN.o]; exact hr.o)]),hj.o⟩
end
section
open Go Go.RowKit
theorem BI (seed k:Nat) (w:World) (_hs:seed<18446744073709551616) (hk:k<256):Calls Tryz.prog 214 #[.int .u64 (seed:Int), .int .i64 (k:Int)] w fun e w'=>e= .returned (.int .u64 ((ut seed k:Nat):Int))/\w=w':=by
 have h0:IntKind.u64.wrap ((seed:Int)+IntKind.u64.wrap (((k:Int)+1)*11400714819323198485))=((tQ seed k:Nat):Int):=AE seed k;have h1:=Ag (tQ seed k) (Ep seed k);have h2:=Ah (FL (tQ seed k)) (IB _);have h3:=Ai (Kk (FL (tQ seed k))) (IC _);have hw:IntKind.u64.wrap ((k:Int)+1)=(k:Int)+1:=by rw[cV]; omega
 go_enter Tryz.func214,Tryz.ntmps214
 go_wp2_with fail;go_ret;exact⟨rfl,rfl⟩
theorem BS (x n:Nat) (w:World) (hx:x<18446744073709551616) (hn:n<64):Calls Tryz.prog 213 #[.int .u64 (x:Int), .int .i64 (n:Int)] w fun e w'=>e= .returned (.int .u64 ((pH n x:Nat):Int))/\w=w':=by
 go_enter Tryz.func213,Tryz.ntmps213
 go_wp2_with fail
 go_loopw [0,5] (fun y i wr=> ∃k:Nat,k<=n/\i= .int .i64 (k:Int)/\y= .int .u64 ((pH k x:Nat):Int)/\w=wr) (fun _ i _=>n-(intOf i).toNat)
 ·exact⟨0,by omega,rfl,rfl,rfl⟩
 ·obtain⟨k,hk,rfl,rfl,rfl⟩:=hrel;obtain⟨z,hz⟩:=bI (pH k x);rw[<-hz];have HZ:=ah hz;have hb:z<18446744073709551616:=by rw[hz]; exact vW k hx
  have HR:=ah (show bits BinOp.or IntKind.u64 (IntKind.u64.wrap ((z:Int)*2)) ((z:Int)/9223372036854775808)=((pH (k+1) x:Nat):Int) by have h1:=AB (s:=1) hb;rw[cV,pH,<-hz];exact h1)
  clear hz
  by_cases hc:k<n
  ·go_wp2_with fail
   go_roundw
   ·exact⟨k+1,by omega,by go_num,by rw[HR.o],trivial⟩
   simp[intOf]; omega
  ·have ha:k=n:=by omega
   subst ha;go_wp2_with fail;go_ret;exact⟨by rw[HZ.o]; rfl,rfl⟩
theorem Db {T:Nat->Nat} {l:List UInt8} {k:Nat} {b:UInt8} (h:l[k]? =some b):sI T (l.drop k)=pH (l.length-1-k) (T b.toNat)^^^sI T (l.drop (k+1)):=by obtain⟨hk,rfl⟩:=aD.1 h;rw[cA hk,sI,bz,show l.length-(k+1)=l.length-1-k by omega]
theorem Fr (S:Nat->Prop) (seed:Nat) (data:List UInt8) (v:Value) (w:World) (hs:seed<18446744073709551616) (hv:bD S w v data) (hl:data.length<=64):Calls Tryz.prog 205 #[.int .u64 (seed:Int),v] w fun e w'=>e= .returned (.int .u64 ((qr seed data:Nat):Int))/\w=w':=by
 obtain⟨hp,a,cap,rfl,hn,hm,-⟩:=id hv;unfold maxLen at hm;have HV:=ah hv;obtain⟨n,hd⟩:=bI data.length;rw[<-hd]at HV hl hn ⊢;have HN:=ah hd;clear hv hp hd
 go_enter Tryz.func205,Tryz.ntmps205
 go_wp2_with fail
 go_loopw [5,6] (fun y i wr=> ∃k s:Nat,k<=n/\i= .int .i64 (k:Int)/\y= .int .u64 (s:Int)/\s<18446744073709551616/\s^^^sI (ut seed) (data.drop k)=qr seed data/\w=wr) (fun _ i _=>n-(intOf i).toNat)
 ·exact⟨0,0,by omega,rfl,rfl,by omega,by rw[bR,Nat.zero_xor,zM (rG seed)]; rfl,rfl⟩
 ·obtain⟨k,s,hk,rfl,rfl,hg,hb,rfl⟩:=hrel;have HS:=ah hb;clear hb
  by_cases hq:k<n
  ·obtain⟨b,hc⟩: ∃b,data[k]? =some b:=⟨data[k]'(by have:=HN.o; omega),bG (by have:=HN.o; omega)⟩;obtain⟨bb,oo,rfl,q0⟩:=Mf HV.o (ak _ _) hc;have HD:=ah (Db (T:=ut seed) hc);rw[<-HN.o]at HD;have ha:=b.toNat_lt;have hx:IntKind.i64.wrap (b.toNat:Int)=(b.toNat:Int):=by rw[bF]; omega
   clear hc;go_wp2_with fail;refine(BI seed b.toNat _ hs ha).mono ?_;rintro e w1 ⟨rfl,rfl⟩;obtain⟨r,hr⟩:=bI (n-1-k:Nat);have hu:IntKind.i64.wrap (IntKind.i64.wrap ((n:Int)-1)-(k:Int))=(r:Int):=by rw[bF,bF]; omega
   have hw:(n:Int)-1-(k:Int)=(r:Int):=by omega
   rw[<-hr]at HD;have he:r<64:=by omega
   obtain⟨tv,hf⟩:=bI (ut seed b.toNat);have hh:tv<18446744073709551616:=by rw[hf]; exact rG _ _
   rw[<-hf]at HD ⊢;clear hf hr;go_wp2_with fail;refine(BS tv r _ hh he).mono ?_;rintro e w2 ⟨rfl,rfl⟩;obtain⟨z,hz⟩:=bI (pH r tv);have hj:z<18446744073709551616:=by rw[hz]; exact vW _ hh
   rw[<-hz]at HD ⊢;have HX:=ah (u64_xor_nat s z hg hj);clear hz;go_wp2_with fail
   go_roundw
   ·refine⟨k+1,s^^^z,by omega,by go_num,by rw[HX.o],rr hg hj, ?_,trivial⟩;rw[Nat.xor_assoc,<-HD.o];exact HS.o
   simp[intOf]; omega
  ·have ho:k=n:=by omega
   subst ho;have HF:=ah (show s=qr seed data by
    have h1:=HS.o;rw[HN.o,jd]at h1;rw[<-h1]
    show s=s^^^0
    rw[Nat.xor_zero])
   go_wp2_with fail;go_ret;exact⟨by rw[<-HF.o]; rfl,rfl⟩
theorem tq : ∀f,Lib.ctzFrom f 0=f
 | 0=>rfl
 | f+1=>by rw[Lib.ctzFrom,if_neg (by decide),Nat.zero_div,tq f]; omega
theorem Mn (x:Nat):Lib.ctz 64 x=Lib.ctzFrom 64 x:=by
 unfold Lib.ctz
 split
 ·rename_i h; rw[h,tq]
 ·rfl
theorem EM (x:Nat) (w:World) (hx:x<18446744073709551616):Calls Tryz.prog 204 #[.int .u64 (x:Int)] w fun e w'=>e= .returned (.int .i64 ((Lib.ctz 64 x:Nat):Int))/\w=w':=by
 have HC:=ah (Mn x)
 go_enter Tryz.func204,Tryz.ntmps204
 go_wp2_with fail
 go_loopw [3] (fun i wr=> ∃k:Nat,k<=64/\i= .int .i64 (k:Int)/\Lib.ctzFrom 64 x=k+Lib.ctzFrom (64-k) (x/2^k)/\w=wr) (fun i _=>64-(intOf i).toNat)
 ·exact⟨0,by omega,rfl,by simp,rfl⟩
 ·obtain⟨k,hk,rfl,hg,rfl⟩:=hrel;have HT:=ah hg;clear hg
  by_cases hl:k<64
  ·obtain⟨y,hy⟩:=bI (x/2^k);have hj:y<18446744073709551616:=by rw[hy]; exact dJ (eX _ _) hx
   have ha:Lib.ctzFrom (64-k) y=if y%2=1 then 0 else 1+Lib.ctzFrom (64-(k+1)) (y/2):=by rw[show 64-k=(64-(k+1))+1 by omega,Lib.ctzFrom]
   have hc:bits BinOp.and IntKind.u64 ((x:Int)/2^k) 1=((y%2:Nat):Int):=by rw[show((x:Int)/2^k)=((y:Nat):Int) by rw[hy]; simp,show(1:Int)=((1:Nat):Int)from rfl,u64_and_nat _ _ hj (by decide),Nat.and_one_is_mod]
   have hf:=ah (show Lib.ctzFrom 64 x=k+Lib.ctzFrom (64-k) y by rw[hy]; exact HT.o);have HY:=ah (show y/2=x/2^(k+1) by rw[hy,Nat.div_div_eq_div_mul,Nat.pow_succ]);clear hy
   by_cases hb:y%2=1
   ·have hh:(bits BinOp.and IntKind.u64 ((x:Int)/2^k) 1 == 0)=false:=by rw[hc,hb]; rfl
    rw[if_pos hb]at ha;have HR:=ah (show Lib.ctz 64 x=k by rw[HC.o,hf.o,ha]; omega);clear hc ha hb;go_wp2_with fail;go_ret;exact⟨by rw[HR.o]; rfl,rfl⟩
   ·have hd:y%2=0:=by omega
    have hh:(bits BinOp.and IntKind.u64 ((x:Int)/2^k) 1 == 0)=true:=by rw[hc,hd]; rfl
    rw[if_neg hb]at ha;have HR:=ah (show Lib.ctzFrom 64 x=(k+1)+Lib.ctzFrom (64-(k+1)) (x/2^(k+1)) by rw[hf.o,ha,HY.o]; omega);clear hc ha hb hd;go_wp2_with fail
    go_roundw
    ·exact⟨k+1,by omega,by go_num,HR.o,trivial⟩
    simp[intOf]; omega
  ·have he:k=64:=by omega
   subst he;have HR:=ah (show Lib.ctz 64 x=64 by have h1:=HT.o;rw[HC.o,h1]; rfl)
   go_wp2_with fail;go_ret;exact⟨by rw[HR.o]; rfl,rfl⟩
def rR (c:fC) (data:List UInt8) (n k:Nat):List Value:=(List.range (n+1)).map fun p=> .bool (decide (p<k) && qu c data p)
theorem tG (c:fC) (data:List UInt8) (n k:Nat):(rR c data n k).length=n+1:=by simp[rR]
theorem pD (c:fC) (data:List UInt8) {n k p:Nat} (h:p<=n):(rR c data n k)[p]? =some (.bool (decide (p<k) && qu c data p)):=by
 unfold rR;rw[bh,List.getElem?_range (by omega)]
 rfl
theorem MW (c:fC) (data:List UInt8) {n k:Nat} (h:k<=n):(rR c data n k).set k (.bool (qu c data k))=rR c data n (k+1):=by
 apply List.ext_getElem?
 intro p;rw[List.getElem?_set]
 by_cases hp:k=p
 ·subst hp;rw[if_pos rfl,if_pos (by rw[tG]; omega),pD c data h];simp
 ·rw[if_neg hp]
  by_cases hn:p<=n
  ·rw[pD c data hn,pD c data hn,show decide (p<k)=decide (p<k+1) by rw[ji]; omega]
  ·rw[dL (by rw[tG]; omega),dL (by rw[tG]; omega)]
theorem Kn (c:fC) (data:List UInt8) (n:Nat):rR c data n 0=List.replicate (n+1) (.bool false):=by
 apply List.ext_getElem?
 intro p
 by_cases hn:p<=n
 ·rw[pD c data hn,List.getElem?_replicate,if_pos (by omega)];simp
 ·rw[dL (by rw[tG]; omega),dL (by simp; omega)]
theorem Qk {c:fC} {data:List UInt8} {p:Nat} (h:p<c.win.toNat):qu c data p=false:=by unfold qu IA;rw[bn];simp;intro h2;omega
theorem xA {c:fC} {data:List UInt8} {n k:Nat} (h:k<=c.win.toNat):rR c data n k=rR c data n 0:=by
 unfold rR;refine List.map_congr_left fun p _=> ?_
 by_cases hp:p<k
 ·rw[Qk (by omega)]; simp
 ·simp[hp]
def iW (c:fC) (b:Nat) (w:World):Prop:=w.heap[b]? =some (.cells #[.int .i64 c.mn, .int .i64 c.mx, .int .i64 c.win, .int .i64 c.bits, .int .u64 (c.seed:Int)] 45 (0,0))
theorem iW.below {c:fC} {b:Nat} {w w':World} (h:iW c b w) (hb:Below w.heap.size w w'):iW c b w':=er hb h
theorem FJ (w:World) (n:Nat) (hn:n<=16777216): ∃w',(Instr.makeSlice 242 (.int .i64 (n:Int)) (.int .i64 (n:Int))).run Tryz.prog w= .ok (.slice (some ⟨w.heap.size,0,none⟩) n n) w'/\
  w'.ownsRow w.heap.size 4 1 (.slice (some ⟨w.heap.size,0,none⟩) n n) n (List.replicate n (.bool false))/\w.grownBy w' none:=by
 have h1:(Tryz.prog.info? 4).map (fun i=>(i.bytes,i.size))=some (1,1):=by kernel_rfl
 have h2:(Tryz.prog.info? 4).bind (fun i=>i.zero)=some (.bool false):=by kernel_rfl
 cases hi:Tryz.prog.info? 4 with
 | none=>rw[hi]at h1; cases h1
 | some i=>
  rw[hi]at h1 h2;simp only[dW,aX,cF]at h1;obtain⟨w',k1,k2,k3⟩:=run_make_full (P:=Tryz.prog) w w.heap.size 242 4 i (.bool false) 1 Tryz.underlying242 hi h2 h1.2 .i64 .i64 n (by rw[h1.1]; omega) (by unfold maxLen; omega) (ai _);refine⟨w',k1, ?_,k3⟩;rw[jI]at k2;rw[show(Value.bool false).cells= #[.bool false]from rfl,toList_madeCells_one]at k2
  exact k2
theorem Lx {data:List UInt8} {p W:Nat} (hp:p<=data.length) (hW:W<=p):ja data (p-W) p=ox W (data.take p):=by unfold ja ox;rw[bn,fx hp,show p-(p-W)=W by omega,List.drop_take,show p-(p-W)=W by omega]
theorem BE (S:Nat->Prop) (c:fC) (data:List UInt8) (v:Value) (w:World) (hc:jU c=true) (hs:c.seed<18446744073709551616) (hv:bD S w v data) (hl:data.length<=1048576):
  Calls Tryz.prog 189 #[kB c,v] w fun e w'=> ∃g cap,e= .returned (.slice (some ⟨g,0,none⟩) (data.length+1) cap)/\w'.ownsRow w.heap.size 4 1 (.slice (some ⟨g,0,none⟩) (data.length+1) cap) (data.length+1) (rR c data data.length (data.length+1))/\Below w.heap.size w w':=by
 obtain⟨h0,a,cap,rfl,hn,hm,-⟩:=id hv;unfold maxLen at hm;obtain⟨n,hz⟩:=bI data.length;obtain⟨v1,v2,v3,v4,v5,v6,v7⟩:=lW.1 hc;obtain⟨wn,hD⟩:=bI (c.win.toNat:Nat);have hM:c.win=(wn:Int):=by omega
 obtain⟨W,hW⟩:=bI (w.alloc (.cells #[.int .i64 c.mn, .int .i64 c.mx, .int .i64 c.win, .int .i64 c.bits, .int .u64 (c.seed:Int)] 45));have HB:=ah (show Below w.heap.size w W by rw[hW]; exact eW);have HX:=ah (show iW c w.heap.size W by rw[hW]; exact aG w _);have HV:=ah (show bD S W (.slice a data.length cap) data by rw[hW]; exact cD.below hv (by omega) (eW))
 rw[<-hz]at hl hn HV ⊢;have HN:=ah hz;have hr:=ah hD;have Ha:W.heap.size=w.heap.size+1:=by rw[hW]; simp
 have HS:=ah hs;obtain⟨W1,hJ,hg,hw⟩:=FJ W (n+1) (by omega);have HO:=ah (show W1.ownsRow w.heap.size 4 1 (.slice (some ⟨W.heap.size,0,none⟩) (n+1) (n+1)) (n+1) (rR c data n wn) by rw[xA (by rw[hD]; exact ai _),Kn];exact jb hg (by omega))
 have h7:=ah (HB.o.trans ((jD hw).mono (by omega)));have hI:=ah (jD hw);have hf:(Instr.makeSlice 242 (.int .i64 ((n:Int)+1)) (.int .i64 ((n:Int)+1))).run Tryz.prog W= .ok (.slice (some ⟨W.heap.size,0,none⟩) (n+1) (n+1)) W1:=by rw[show((n:Int)+1)=((n+1:Nat):Int) by omega]; exact hJ
 obtain⟨gb,hu⟩:=bI W.heap.size;rw[<-hu]at HO hf;have hF:=ah hu;have hd:=ah hM;clear hJ hg hw hu hz hD hs h0 hv hM;unfold kB
 go_enter Tryz.func189,Tryz.ntmps189
 go_upto_region 1 with fail
 rw[<-hW];clear hW;have hH:=ah (HX.o.below hI.o)
 go_upto_region 2 with fail
 clear hf;have ha:=hH.o;unfold iW at ha;obtain⟨c0,c1,c2,c3,c4,_⟩:=aS ha;clear ha;go_wp2_with fail;clear c0 c1 c2 c3 c4
 go_loopw [6] (fun i wr=> ∃p:Nat,wn<=p/\p<=max wn (n+1)/\i= .int .i64 (p:Int)/\wr.ownsRow w.heap.size 4 1 (.slice (some ⟨gb,0,none⟩) (n+1) (n+1)) (n+1) (rR c data n p)/\iW c w.heap.size wr/\Below W.heap.size W wr) (fun i _=>n+1-(intOf i).toNat)
 ·exact⟨wn,ai _,by omega,by rw[hd.o],HO.o,hH.o,hI.o⟩
 ·obtain⟨p,h3,Hc,rfl,ho,hx,hb⟩:=hrel;have hG:=ah ho;have hX:=ah hx;have hk:=ah hb;clear ho hx hb HO
  by_cases hy:p<=n
  ·obtain⟨W2,hY⟩:=bI wr;subst hY;obtain⟨A,hA⟩:=bI (p-wn);have h8:(p:Int)-(wn:Int)=(A:Int):=by omega
   have h9:IntKind.i64.wrap (A:Int)=(A:Int):=by rw[bF]; omega
   have hU:=ah (show bD S W2 (.slice a n cap) data from cD.below HV.o (by omega) hk.o);have He:1<=wn:=by have:=hd.o; omega
   have hC:wn<=64:=by have:=hd.o; omega
   obtain⟨sa,sc,h4,hB⟩:=rJ hU.o (s:=A) (e:=p) (by omega) (by rw[<-HN.o]; exact hy);have hq:=ah (show ja data A p=ox wn (data.take p) by rw[hA]; exact Lx (by rw[<-HN.o]; exact hy) h3);have hL:(ja data A p).length=wn:=by rw[hq.o,oy,bn,<-HN.o]; omega
   rw[hL]at h4 hB;have hS:=ah hB;clear hB hL hA;have Hb:(p:Int)<=(n:Int):=by omega
   go_upto_region 5 with fail
   have Hd:(p:Int)<(n:Int)+1:=by omega
   refine fd (iW c w.heap.size) (by kernel_rfl) ?_;obtain⟨V,hV⟩:=bI W2.drew;rw[<-hV];have hb:Below W2.heap.size W2 V:=by rw[hV]; exact(ak _ _).drew
   have hO:=ah (aj hk.o hb);have SV:=ah (hX.o.below hb);have hp:=ah (cW hG.o hb);have hT:=ah (show bD S V (.slice sa wn sc) (ja data A p) by have h1:=hS.o; unfold bD at h1 ⊢; exact cD.below h1 (by omega) hb);clear hV hb
   iterate 11 (refine cI rfl SV.o (by rintro w' hx; have ha:=hx; unfold iW at ha; have c2:=bQ (k:=2) ha; have c3:=bQ (k:=3) ha; have c4:=bQ (k:=4) ha; simp only[gd]at c2 c3 c4; rw[hd.o]at c2; clear hx ha; go_simp; rfl) ?_; simp only[bN])
   refine dy 13 rfl SV.o (by rintro w' hx; have ha:=hx; unfold iW at ha; have c2:=bQ (k:=2) ha; have c3:=bQ (k:=3) ha; have c4:=bQ (k:=4) ha; simp only[gd]at c2 c3 c4; rw[hd.o]at c2; clear hx ha; go_simp; rfl) ?_;simp only[bN];refine dy 14 rfl SV.o (by rintro w' hx; have ha:=hx; unfold iW at ha; have c2:=bQ (k:=2) ha; have c3:=bQ (k:=3) ha; have c4:=bQ (k:=4) ha; simp only[gd]at c2 c3 c4; rw[hd.o]at c2; clear hx ha; go_simp; rfl) ?_
   simp only[bN];refine cC 11 rfl (fun K hK=> ?_);go_wp2_with fail;refine(Fr _ c.seed (ja data A p) _ _ HS.o hT.o (by rw[hq.o,oy]; exact an (Nat.min_le_left _ _) hC)).mono ?_;rintro e w3 ⟨rfl,rfl⟩;obtain⟨hh,hj⟩:=bI (qr c.seed (ja data A p));have hZ:hh<18446744073709551616:=by rw[hj]; exact xd _ _
   rw[<-hj];have HH:=ah hj;clear hj;go_wp2_with fail;refine⟨SV.o, ?_⟩;refine cC 12 rfl (fun K hK=> ?_);go_wp2_with fail;refine(EM hh _ hZ).mono ?_;rintro e w4 ⟨rfl,rfl⟩;obtain⟨zz,hE⟩:=bI (Lib.ctz 64 hh);rw[<-hE];have hP:=ah (show decide (c.bits<=(zz:Int))=qu c data p by
    unfold qu IA;rw[<-hr.o,<-hq.o,<-HH.o,<-hE,bn,<-HN.o,show decide (wn<=min p n)=true by rw[aJ]; omega,gU,ji]
    omega)
   clear hE;go_wp2_with fail;refine⟨SV.o, ?_⟩
   iterate 2 (refine cI rfl SV.o (by rintro w' hx; have ha:=hx; unfold iW at ha; have c2:=bQ (k:=2) ha; have c3:=bQ (k:=3) ha; have c4:=bQ (k:=4) ha; simp only[gd]at c2 c3 c4; rw[hd.o]at c2; clear hx ha; go_simp; rfl) ?_; simp only[bN])
   have q0:=hp.o.cellAt p (by omega);rw[pD c data (by omega)]at q0;have q1:=hp.o.frozenAt p;refine cC 17 rfl (fun K hK=> ?_);go_wp2_with fail;obtain⟨W5,he⟩:=bI (V.setCell ⟨gb,p,none⟩ (.bool (decide (c.bits<=(zz:Int)))));rw[<-he];have SC:=ah (show iW c w.heap.size W5 by rw[he];unfold iW;rw[ay _ _ _ _ (show w.heap.size≠gb by have:=hF.o; omega)];exact SV.o)
   have hR:=ah (show W5.ownsRow w.heap.size 4 1 (.slice (some ⟨gb,0,none⟩) (n+1) (n+1)) (n+1) (rR c data n (p+1)) by rw[he,hP.o,<-MW c data hy];exact(hp.o.stored p _).1)
   have hN:=ah (show Below W.heap.size W W5 by rw[he]; exact hO.o.setCell (by show W.heap.size<=gb; rw[hF.o]; exact ai _) _);clear he q0 q1;refine⟨SC.o, ?_⟩;refine cL (by kernel_rfl) ?_;go_wp2_with fail
   go_roundw
   ·exact⟨p+1,by omega,by omega,by go_num,hR.o,SC.o,hN.o⟩
   simp[intOf]; omega
  ·have h2: ¬(p:Int)<=(n:Int):=by omega
   have HF:=ah (show rR c data n p=rR c data n (n+1) by
    by_cases h1:wn<=n+1
    ·rw[show p=n+1 by omega]
    ·rw[xA (k:=p) (by rw[<-hr.o]; omega),xA (k:=n+1) (by rw[<-hr.o]; omega)])
   go_wp2_with fail;go_ret;exact⟨gb,n+1,rfl,by rw[<-HF.o]; exact hG.o,aj HB.o hk.o⟩
theorem Tryz.appIntsM :kw Tryz.prog 65 3 1 8:=kw.mk' (z:= .int .i64 0) Tryz.underlying65 (by kernel_rfl) rfl (by decide) (by decide)
def rS (n:Nat):Value:= .int .i64 (n:Int)
def ku (mk:Nat->Bool) (mn k:Nat):List Nat:=(List.range k).filter fun p=>kI mk mn p
theorem KG (mk:Nat->Bool) (mn k:Nat):ku mk mn (k+1)=if kI mk mn k=true then ku mk mn k++[k]else ku mk mn k:=by
 unfold ku;rw[lY,gE]
 by_cases h:kI mk mn k=true
 ·rw[if_pos h]; simp[h]
 ·rw[if_neg h]; simp[h]
theorem DX (mk:Nat->Bool) (mn k:Nat):(ku mk mn k).length<=k:=by have:=dM (fun p=>kI mk mn p) (List.range k);rw[List.length_range]at this;exact this
def qp (mk:Nat->Bool) (mn p q:Nat) (b:Bool):Prop:=b=true<->mk p=true/\ ∀r,1<=r->q<r->r<p->p<r+mn->mk r=false
theorem qp.start (mk:Nat->Bool) (mn p:Nat):qp mk mn p (p-1) (mk p):=⟨fun h=>⟨h,fun r h1 h2 h3 _=>by omega⟩,fun h=>h.1⟩
theorem qp.hit {mk:Nat->Bool} {mn p q:Nat} {b:Bool} (_h:qp mk mn p q b) (hq:1<=q) (hp:q<p) (hm:p<q+mn) (hk:mk q=true):qp mk mn p (q-1) false:=
 ⟨fun h=>(by cases h),fun h=>(by rw[h.2 q hq (by omega) hp hm]at hk; cases hk)⟩
theorem qp.miss {mk:Nat->Bool} {mn p q:Nat} {b:Bool} (h:qp mk mn p q b) (hk:mk q=false):qp mk mn p (q-1) b:=
 ⟨fun hb=>⟨(h.1 hb).1,fun r h1 h2 h3 h4=>by
  by_cases e:r=q
  ·rw[e]; exact hk
  ·exact(h.1 hb).2 r h1 (by omega) h3 h4⟩,fun hb=>h.2 ⟨hb.1,fun r h1 h2 h3 h4=>hb.2 r h1 (by omega) h3 h4⟩⟩
theorem qp.done {mk:Nat->Bool} {mn p q:Nat} {b:Bool} (h:qp mk mn p q b) (hp:1<=p) (hq:q=0\/q+mn<=p):b=kI mk mn p:=by
 rw[dq,KF]
 constructor
 ·intro hb;exact⟨hp,(h.1 hb).1,fun r h1 h2 h3=>(h.1 hb).2 r h1 (by omega) h2 h3⟩
 ·rintro⟨_,h1,h2⟩;exact h.2 ⟨h1,fun r k1 _ k3 k4=>h2 r k1 k3 k4⟩
theorem yQ (S:Nat->Prop) (c:fC) (data:List UInt8) (v:Value) (w:World) (hc:jU c=true) (hs:c.seed<18446744073709551616) (hv:bD S w v data) (hl:data.length<=1048576):
  Calls Tryz.prog 177 #[kB c,v] w fun e w'=> ∃a cap,e= .returned (.slice a (ku (qu c data) c.mn.toNat (data.length+1)).length cap)/\w'.ownsRow w.heap.size 3 1 (.slice a (ku (qu c data) c.mn.toNat (data.length+1)).length cap) (ku (qu c data) c.mn.toNat (data.length+1)).length ((ku (qu c data) c.mn.toNat (data.length+1)).map rS)/\Below w.heap.size w w':=by
 obtain⟨hX,a,cap,rfl,hn,hm,-⟩:=id hv;unfold maxLen at hm;obtain⟨n,hu⟩:=bI data.length;obtain⟨v1,v2,v3,v4,v5,v6,v7⟩:=lW.1 hc;obtain⟨mn,hO⟩:=bI (c.mn.toNat:Nat);have hT:=ah (show c.mn=(mn:Int) by omega);have h3:mn<=32768:=by omega
 obtain⟨mk,hE⟩:=bI (qu c data);obtain⟨W,hW⟩:=bI (w.alloc (.cells #[.int .i64 c.mn, .int .i64 c.mx, .int .i64 c.win, .int .i64 c.bits, .int .u64 (c.seed:Int)] 45));have HB:=ah (show Below w.heap.size w W by rw[hW]; exact eW);have HX:=ah (show iW c w.heap.size W by rw[hW]; exact aG w _);have HV:=ah (show bD S W (.slice a data.length cap) data by rw[hW]; exact cD.below hv (by omega) (eW))
 rw[<-hu]at hl hn HV;rw[<-hO,<-hE,<-hu];have HN:=ah hu;have hS:=ah hE;have HC:=ah hc;have HS:=ah hs;clear hv hX hu hO hE hc hs v1 v2 v4 v5 v6 v7;unfold kB
 go_enter Tryz.func177,Tryz.ntmps177
 go_upto_region 1 with fail
 rw[<-hW];clear hW;have hj:=HX.o;unfold iW at hj;obtain⟨c0,c1,c2,c3,c4,_⟩:=aS hj;clear hj;go_wp2_with fail;clear c0 c1 c2 c3 c4;refine(BE S c data _ _ HC.o HS.o HV.o (by rw[<-HN.o]; exact hl)).mono ?_;rw[<-HN.o];rintro e w1 ⟨g,gc,rfl,hw,hC⟩;have hH:=ah (show ∀q,q<=n->w1.cell? ⟨g,q,none⟩=some (.bool (mk q))from fun q hq=>by rw[hw.cellAt q (by omega),pD c data hq,hS.o,show decide (q<n+1)=true by rw[aJ]; omega,gU])
 have hF:=ah (aj HB.o hC);have hU:=ah (HX.o.below hC);have hN:g<w1.heap.size:=(hw.lt g rfl).2;have Ha:n+1<=gc:=by
  obtain⟨a0,c0,he,h1,h2⟩:=aH hw
  cases he
  exact h1
 have h9:=hF.o.size;clear hw hC;have hI:=ah (show(w1.alloc (.cells #[] 3)).ownsRow w1.heap.size 3 1 (.slice (some ⟨w1.heap.size,0,none⟩) 0 0) 0 ((ku mk mn 1).map rS)from dp (e:=3) (size:=1) (base:=w1.heap.size) w1 #[] 0 (ai _) (aU _) (by simp));have hG:=ah ((ak w1.heap.size w1).alloc (ai _) (.cells #[] 3));go_wp2_with fail
 go_loopw [6,7] (fun o i wr=> ∃(p l:Nat) (ao:Option Addr) (co:Nat),1<=p/\p<=n+1/\i= .int .i64 (p:Int)/\o= .slice ao l co/\l=(ku mk mn p).length/\wr.ownsRow w1.heap.size 3 1 (.slice ao l co) l ((ku mk mn p).map rS)/\Below w1.heap.size w1 wr) (fun _ i _=>n+1-(intOf i).toNat)
 ·exact⟨1,0,_,_,ai _,by omega,rfl,rfl,rfl,hI.o,hG.o⟩
 ·obtain⟨p,l,ao,co,h4,Hd,rfl,rfl,hD,ho,hb⟩:=hrel;have hk:=ah hD;have HO:=ah ho;have hh:=ah hb;have hY:=DX mk mn p;rw[<-hD]at hY;clear ho hb hD hI hG
  by_cases hZ:p<=n
  ·obtain⟨W2,hV⟩:=bI wr;subst hV;have Hc:(p:Int)<=(n:Int):=by omega
   have Hb:p<gc:=by omega
   have q0:=(hh.o.cell (p:=⟨g,p,none⟩) hN).trans (hH.o p hZ);go_wp2_with fail;clear q0
   go_loopw [8,9] (fun y j wq=> ∃(q:Nat) (b:Bool),q+1<=p/\j= .int .i64 (q:Int)/\y= .bool b/\qp mk mn p q b/\W2=wq) (fun _ j _=>(intOf j).toNat)
   ·exact⟨p-1,mk p,by omega,by rw[show((p-1:Nat):Int)=(p:Int)-1 by omega],rfl,qp.start _ _ _,rfl⟩
   ·obtain⟨q,b,Hg,rfl,rfl,hM,rfl⟩:=hrel;have hz:=ah hM;have hj:=hU.o.below hh.o;unfold iW at hj;have c0:=bQ (k:=0) hj;simp only[aC,aB]at c0;rw[hT.o]at c0;clear hM hj
    by_cases hp:1<=q/\p<q+mn
    ·have hP:1<=(q:Int):=by omega
     have hR:(p:Int)-(mn:Int)<(q:Int):=by omega
     have He:q<gc:=by omega
     have Hf:q<n+1:=by omega
     have h8:(q:Int)<(n:Int)+1:=by omega
     have q0:=(hh.o.cell (p:=⟨g,q,none⟩) hN).trans (hH.o q (by omega))
     cases hg:mk q with
     | true=>
      rw[hg]at q0;have hA:=ah (hz.o.hit hp.1 (by omega) hp.2 hg);clear hg;go_wp2_with fail
      go_roundw
      ·exact⟨q-1,false,by omega,by rw[show((q-1:Nat):Int)=(q:Int)-1 by omega],rfl,hA.o,trivial⟩
      simp[intOf]; omega
     | false=>
      rw[hg]at q0;have hA:=ah (hz.o.miss hg);clear hg;go_wp2_with fail
      go_roundw
      ·exact⟨q-1,b,by omega,by rw[show((q-1:Nat):Int)=(q:Int)-1 by omega],rfl,hA.o,trivial⟩
      simp[intOf]; omega
    ·have hJ:=ah (hz.o.done h4 (by omega));have hL:=ah (KG mk mn p);have hr:l<1099511627775:=by omega
     have hx:=hh.o.size;have HZ:=ah (show ∀u∈[Value.int .i64 (p:Int)],u.oneCell'=true by simp[Value.oneCell'])
     cases b with
     | true=>
      have hf:=ah (show ku mk mn (p+1)=ku mk mn p++[p] by rw[hL.o,if_pos hJ.o.symm])
      by_cases hP:(1:Int)<=(q:Int)
      ·have hR: ¬(p:Int)-(mn:Int)<(q:Int):=by omega
       clear hp;go_wp2_with (at_builtin; go_loud (refine bO Tryz.appIntsM rfl _ _ rfl w1.heap.size (.slice ao l co) l ((ku mk mn p).map rS) rfl W2 [Value.int .i64 (p:Int)] _ rfl rfl HZ.o HO.o hr hx ?_); intro v' wc hd ha _ _; obtain⟨ae,ce,rfl,-,-⟩:=aH hd; have hB:=ah (show wc.ownsRow w1.heap.size 3 1 (.slice ae (l+1) ce) (l+1) ((ku mk mn (p+1)).map rS) by rw[hf.o,aL]; exact hd); have hy:=ah (bZ hh.o HO.o ha (ai _) hx); clear hd ha)
       exact⟨⟨p+1,l+1,ae,ce,by omega,by omega,by go_num,rfl,by rw[hf.o,ag,<-hk.o]; rfl,hB.o,hy.o⟩,by simp[intOf]; omega⟩
      ·clear hp;go_wp2_with (at_builtin; go_loud (refine bO Tryz.appIntsM rfl _ _ rfl w1.heap.size (.slice ao l co) l ((ku mk mn p).map rS) rfl W2 [Value.int .i64 (p:Int)] _ rfl rfl HZ.o HO.o hr hx ?_); intro v' wc hd ha _ _; obtain⟨ae,ce,rfl,-,-⟩:=aH hd; have hB:=ah (show wc.ownsRow w1.heap.size 3 1 (.slice ae (l+1) ce) (l+1) ((ku mk mn (p+1)).map rS) by rw[hf.o,aL]; exact hd); have hy:=ah (bZ hh.o HO.o ha (ai _) hx); clear hd ha)
       exact⟨⟨p+1,l+1,ae,ce,by omega,by omega,by go_num,rfl,by rw[hf.o,ag,<-hk.o]; rfl,hB.o,hy.o⟩,by simp[intOf]; omega⟩
     | false=>
      have hf:=ah (show ku mk mn (p+1)=ku mk mn p by rw[hL.o,if_neg (by rw[<-hJ.o]; decide)])
      by_cases hP:(1:Int)<=(q:Int)
      ·have hR: ¬(p:Int)-(mn:Int)<(q:Int):=by omega
       clear hp;go_wp2_with fail;exact⟨⟨p+1,l,ao,co,by omega,by omega,by go_num,rfl,by rw[hf.o,<-hk.o],by rw[hf.o]; exact HO.o,hh.o⟩,by simp[intOf]; omega⟩
      ·clear hp;go_wp2_with fail;exact⟨⟨p+1,l,ao,co,by omega,by omega,by go_num,rfl,by rw[hf.o,<-hk.o],by rw[hf.o]; exact HO.o,hh.o⟩,by simp[intOf]; omega⟩
  ·have h7:p=n+1:=by omega
   subst h7;have h0: ¬((n:Int)+1<=(n:Int)):=by omega
   go_wp2_with fail;go_ret;exact⟨ao,co,by rw[<-hk.o]; rfl,by rw[<-hk.o]; exact jb HO.o h9,aj hF.o hh.o⟩
end
end Go.Proofs.YtpffpjbkbaleiaaGreatDoor
