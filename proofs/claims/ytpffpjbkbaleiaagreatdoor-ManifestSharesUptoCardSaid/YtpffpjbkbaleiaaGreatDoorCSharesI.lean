/- Texts of this proof, one after the other: R16C, R16D, RbE, RgA, Small, RgC, BuiltA, NedQ, LawA, ShsM, CMap, LawShr, Frame, Few, OpM, FrameU, OpV. -/
import Derived.Test.YtpffpjbkbaleiaaGreatDoorCSharesH
set_option maxRecDepth 100000
set_option maxHeartbeats 8000000
namespace Go.Proofs.YtpffpjbkbaleiaaGreatDoor
section
open Go Go.RowKit
theorem uD {f:Nat->Bool} : ∀ {m k e:Nat},((List.range m).filter f)[k]? =some e->e<m/\f e=true/\((List.range m).filter f).take k=(List.range e).filter f
 | 0,k,e,h=>by simp at h
 | m+1,k,e,h=>by
  rw[mh,fM]at h ⊢
  by_cases hk:k<((List.range m).filter f).length
  ·rw[bJ hk]at h;obtain⟨h1,h2,h3⟩:=uD h;exact⟨by omega,h2,by rw[fH (by omega)]; exact h3⟩
  ·rw[bE (by omega)]at h
   by_cases hm:f m=true
   ·have h4:[m].filter f=[m]:=by simp[hm]
    rw[h4]at h ⊢;have ha:k-((List.range m).filter f).length=0:=by have:=(aA.1 h).1;simp at this;omega
    rw[ha]at h;simp only[aD,aV]at h;subst h;exact⟨by omega,hm,by rw[List.take_left' (by omega)]⟩
   ·have h4:[m].filter f=[]:=by simp[hm]
    rw[h4]at h;simp at h
def oC (mk:Nat->Bool) (mn n:Nat):List Nat:=kw mk mn (n+1)++[n]
def pL (E:List Nat) (k:Nat):Nat:=if k=0 then 0 else E.getD (k-1) 0
structure QT (mk : Nat → Bool) (mn n s e : Nat) : Prop where
 le:s<=e
 top:e<=n
 stop:kM mk mn e=true\/e=n
 none: ∀r,s<r->r<e->kM mk mn r=false
theorem Qx {mk:Nat->Bool} {mn n k e:Nat} (h:(oC mk mn n)[k]? =some e):QT mk mn n (pL (oC mk mn n) k) e:=by
 have ha: ∀j x,(kw mk mn (n+1))[j]? =some x->pL (oC mk mn n) (j+1)=x:=fun j x hx=>by
  unfold pL oC;rw[if_neg (by omega),jC,cL,bJ (aA.1 hx).1,hx]
  rfl
 have hg: ∀k,k<=(kw mk mn (n+1)).length->(∀r∈(kw mk mn (n+1)).take k,r<=pL (oC mk mn n) k)/\pL (oC mk mn n) k<=n/\(k=0\/pL (oC mk mn n) k∈(kw mk mn (n+1)).take k):=by
  intro k hk
  cases k with
  | zero=>exact⟨fun r hr=>by simp at hr,by show 0<=n; omega, .inl rfl⟩
  | succ j=>
   obtain⟨x,hx⟩: ∃x,(kw mk mn (n+1))[j]? =some x:=⟨_,bn (by omega)⟩;rw[ha j x hx];obtain⟨h1,h2,h3⟩:=uD hx;have h4:(kw mk mn (n+1)).take (j+1)=(List.range x).filter (fun p=>kM mk mn p)++[x]:=by rw[cw,hx];unfold kw;rw[h3]; rfl
   rw[h4];refine⟨fun r hr=> ?_,by omega, .inr (by simp)⟩
   rcases aP.1 hr with hr | hr
   ·have:=eh.1 (dQ.1 hr).1;omega
   ·rw[aL.1 hr]; exact ah _
 have hf:k<=(kw mk mn (n+1)).length:=by have:=(aA.1 h).1;unfold oC at this;simp at this;omega
 obtain⟨a1,a2,a3⟩:=hg k hf
 by_cases hk:k<(kw mk mn (n+1)).length
 ·have hx:(kw mk mn (n+1))[k]? =some e:=by unfold oC at h;rw[bJ hk]at h;exact h
  obtain⟨h1,h2,h3⟩:=uD hx;have hb:(kw mk mn (n+1)).take k=(List.range e).filter (fun p=>kM mk mn p):=h3;refine⟨?_,by omega, .inl h2,fun r hh hc=> ?_⟩
  ·rcases a3 with a3 | a3
   ·rw[a3]; show 0<=e; omega
   ·rw[hb]at a3;have:=eh.1 (dQ.1 a3).1;omega
  ·cases hp:kM mk mn r with
   | false=>rfl
   | true=>
    have:=a1 r (by rw[hb]; exact dQ.2 ⟨eh.2 hc,hp⟩);omega
 ·have hd:k=(kw mk mn (n+1)).length:=by omega
  have he:e=n:=by unfold oC at h;rw[bE (by omega),hd,fa]at h;simp only[aD,aV]at h;exact h.symm
  refine⟨by rw[he]; exact a2,by omega, .inr he,fun r hh hc=> ?_⟩
  cases hp:kM mk mn r with
  | false=>rfl
  | true=>
   have:=a1 r (by rw[bo (by omega)];unfold kw;exact dQ.2 ⟨eh.2 (by omega),hp⟩)
   omega
theorem Dd (mk:Nat->Bool) (mn n:Nat):(oC mk mn n).length=(kw mk mn (n+1)).length+1:=by unfold oC; simp
theorem JV (mk:Nat->Bool) (mn n:Nat):pL (oC mk mn n) (oC mk mn n).length=n:=by
 unfold pL;rw[Dd,if_neg (by omega),jC,cL];unfold oC;rw[bE (by omega),fa]
 rfl
theorem At {E:List Nat} {k e:Nat} (h:E[k]? =some e):pL E (k+1)=e:=by unfold pL;rw[if_neg (by omega),jC,cL,h]; rfl
theorem AO {mk:Nat->Bool} {mn mx n s:Nat} {L:List Nat} (h:yQ mk mn mx n L s):L.length<=s:=by
 induction h with
 | nil=>simp
 | snoc _ h2 ih=>rw[ai,bT]; have:=h2.1; omega
structure Bt (base g0 : Nat) (w3 wr : World) (o : Value) (L : List Nat) : Prop where
 own:wr.ownsRow base 3 1 o L.length (L.map sr)
 place: ∀k,o.ownBlock=some k->k=g0\/w3.heap.size<=k
 keep: ∀k,k<w3.heap.size->k≠g0->wr.heap[k]? =w3.heap[k]?
 below:Below base w3 wr
theorem Bt.drew {base g0:Nat} {w3 wr:World} {o:Value} {L:List Nat} {nq:Nat} (h:Bt base g0 w3 wr o L):Bt base g0 w3 (wr.drewN nq) o L:=
 ⟨h.own,h.place,h.keep,h.below.trans ⟨rfl,rfl,rfl,ah _,fun _ _=>rfl⟩⟩
theorem Bt.push {base g0:Nat} {w3 wr wc:World} {o o':Value} {L:List Nat} {x l:Nat} (h:Bt base g0 w3 wr o L) (hl:l=L.length) (hb:base<=w3.heap.size) (h1:wc.ownsRow base 3 1 o' (l+1) (L.map sr++[sr x])) (h2:wr.grownBy wc o.ownBlock) (h3: ∀k,o'.ownBlock=some k->o.ownBlock=some k\/wr.heap.size<=k):Bt base g0 w3 wc o' (L++[x]):=by
 subst hl;have hs:=h.below.size;refine⟨by rw[ai,aI]; exact h1,fun k hk=> ?_,fun k hk ha=> ?_,bZ h.below h.own h2 (ah _) (an hb hs)⟩
 ·rcases h3 k hk with h4 | h4
  ·exact h.place k h4
  ·exact .inr (by omega)
 ·refine(h2.block k (by omega) (fun e=> ?_)).trans (h.keep k hk ha)
  rcases h.place k e.symm with h5 | h5
  ·exact ha h5
  ·omega
theorem Fm (S:Nat->Prop) (c:fQ) (data:List UInt8) (v:Value) (w:World) (hc:jT c=true) (hs:c.seed<18446744073709551616) (hv:bB S w v data) (hl:data.length<=1048576):
  Calls Tryz.prog 157 #[kB c,v] w fun e w'=> ∃a cap,e= .returned (.slice a (qT (qG c data) c.mn.toNat c.mx.toNat data.length).length cap)/\w'.ownsRow w.heap.size 3 1 (.slice a (qT (qG c data) c.mn.toNat c.mx.toNat data.length).length cap) (qT (qG c data) c.mn.toNat c.mx.toNat data.length).length ((qT (qG c data) c.mn.toNat c.mx.toNat data.length).map sr)/\Below w.heap.size w w':=by
 obtain⟨HD,a,cap,rfl,hn,hm,-⟩:=id hv;unfold maxLen at hm;obtain⟨n,hA⟩:=bH data.length;obtain⟨v1,v2,v3,v4,v5,v6,v7⟩:=mf.1 hc;obtain⟨mn,hP⟩:=bH (c.mn.toNat:Nat);obtain⟨mx,Hg⟩:=bH (c.mx.toNat:Nat);have Ht:=ag (show c.mx=(mx:Int) by omega);have hR:1<=mx/\mx<=32768:=by omega
 obtain⟨mk,hO⟩:=bH (qG c data);obtain⟨W,hW⟩:=bH (w.alloc (.cells #[.int .i64 c.mn, .int .i64 c.mx, .int .i64 c.win, .int .i64 c.bits, .int .u64 (c.seed:Int)] 45));have HB:=ag (show Below w.heap.size w W by rw[hW]; exact eT);have HX:=ag (show jc c w.heap.size W by rw[hW]; exact aC w _);have HV:=ag (show bB S W (.slice a data.length cap) data by rw[hW]; exact bX.below hv (by omega) (eT))
 rw[<-hA]at hl hn HV;rw[<-hP,<-Hg,<-hO,<-hA];have HN:=ag hA;have Hr:=ag hO;have Hs:=ag hP;have HC:=ag hc;have HS:=ag hs;obtain⟨W1,hg⟩:=bH (W.alloc (.cells #[] 3));obtain⟨g0,hx⟩:=bH W.heap.size;have Hu:=ag (show W1.ownsRow W.heap.size 3 1 (.slice (some ⟨g0,0,none⟩) 0 0) 0 (([]:List Nat).map sr) by rw[hg,hx]; exact cW (e:=3) (size:=1) (base:=W.heap.size) W #[] 0 (ah _) (aR _) (by simp))
 have hB:=ag (show Below W.heap.size W W1 by rw[hg]; exact eT);have HO:W1.heap.size=W.heap.size+1:=by rw[hg]; simp
 clear hv HD hA hP hO hc hs v1 v2 v3 v4 v5 v6 v7 Hg;unfold kB
 go_enter Tryz.func157,Tryz.ntmps157
 go_upto_region 1 with fail
 rw[<-hW];clear hW
 go_upto_region 2 with fail
 rw[<-hg,<-hx];clear hg;have h0:=ag hx;have h8:=ag (HX.o.below hB.o);have Hx:=ag (show bB S W1 (.slice a n cap) data from bX.below HV.o (by omega) hB.o);have hU:=h8.o;unfold jc at hU;obtain⟨c0,c1,c2,c3,c4,_⟩:=aT hU;clear hU;go_wp2_with fail;clear c0 c1 c2 c3 c4;refine(zj S c data _ _ HC.o HS.o Hx.o (by rw[<-HN.o]; exact hl)).mono ?_;rw[<-HN.o,<-Hr.o,<-Hs.o]
 rintro e w2 ⟨a2,c2,rfl,hS,hG⟩;obtain⟨l2,hy⟩:=bH ((kw mk mn (n+1)).length);rw[<-hy]at hS ⊢;have Hp:=ag hy;have hI:=Eg mk mn (n+1);rw[<-hy]at hI;have h4:=ag hS;have Hk:=ag hG;have Hj:=hG.size;have hJ:l2<1099511627775:=by omega
 have HZ:=ag (show ∀u∈[Value.int .i64 (n:Int)],u.oneCell'=true by simp[Value.oneCell']);clear hS hG hy hx;go_wp2_with (at_builtin; go_loud (refine bP Tryz.appIntsM rfl _ _ rfl W1.heap.size (.slice a2 l2 c2) l2 ((kw mk mn (n+1)).map sr) rfl w2 [Value.int .i64 (n:Int)] _ rfl rfl HZ.o h4.o hJ Hj ?_); intro v3 w3 ha Hd _ _; obtain⟨ge,c3,rfl⟩:=Joins.ownsRow_form ha (by omega); have hw:=ag (show w3.ownsRow W1.heap.size 3 1 (.slice (some ⟨ge,0,none⟩) (l2+1) c3) (l2+1) ((oC mk mn n).map sr) by unfold oC; rw[aI]; exact ha); have hp:=ag (bZ Hk.o h4.o Hd (ah _) Hj); clear ha Hd)
 obtain⟨N,hN⟩:=bH ((oC mk mn n).length);have Ha:N=l2+1:=by rw[hN,Dd,Hp.o]
 have h3:=ag hN;rw[<-Ha]at hw ⊢;have HA:W1.heap.size<=ge/\ge<w3.heap.size:=hw.o.lt ge rfl;have HJ:N<=c3:=by
  obtain⟨a0,c0,he,h1,h2⟩:=aH hw.o
  cases he
  exact h1
 have hY:=ag (show Bt W.heap.size g0 w3 w3 (.slice (some ⟨g0,0,none⟩) 0 0) []from
  ⟨cY Hu.o hp.o,fun k hk=> .inl (by simp[Value.ownBlock]at hk; exact hk.symm),fun k _ _=>rfl,ak _ _⟩)
 have Ho:=ag (show ∀(i e:Nat),(oC mk mn n)[i]? =some e->w3.cell? ⟨ge,i,none⟩=some (.int .i64 (e:Int))from fun i e h=>by have hi:=(aA.1 h).1;rw[hw.o.cellAt i (by omega),bm,h]; rfl)
 have h9:=ag (h8.o.below hp.o);have hH:ge≠g0:=by have:=h0.o; omega
 have hX:w.heap.size≠g0:=by have:=h0.o; have:=am (show W.heap[w.heap.size]? =_ from HX.o); omega
 have Hc:W.heap.size<=w3.heap.size:=by have:=hp.o.size; omega
 have HI:N<=1048578:=by omega
 have Hl:=ag (show Below w.heap.size w w3 from aj HB.o (hB.o.trans (hp.o.mono (by omega))));clear hN Ha
 go_loopw [5,6,8] (fun o f i wr=> ∃(k s l:Nat) (L:List Nat) (ao:Option Addr) (co:Nat),k<=N/\i= .int .i64 (k:Int)/\f= .int .i64 (s:Int)/\o= .slice ao l co/\l=L.length/\s=pL (oC mk mn n) k/\yQ mk mn mx n L s/\Bt W.heap.size g0 w3 wr (.slice ao l co) L) (fun _ _ i _=>N-(intOf i).toNat)
 ·exact⟨0,0,0,[],_,_,aR _,rfl,rfl,rfl,rfl,rfl, .nil,hY.o⟩
 ·obtain⟨k,s,l,L,ao,co,hk,rfl,rfl,rfl,hj,Hi,hd,hh⟩:=hrel;have hD:=ag hj;have hF:=ag Hi;have h7:=ag hd;have hC:=ag hh;clear hj Hi hd hh hY
  by_cases HF:k<N
  ·obtain⟨e,he⟩: ∃e,(oC mk mn n)[k]? =some e:=⟨_,bn (show k<(oC mk mn n).length by rw[<-h3.o]; exact HF)⟩;have hu:=ag (Qx he);have Hq:=ag (At he);have Hn:=ag (Ho.o k e he);have HG:s<=e:=by rw[hF.o]; exact hu.o.le
   have Hz:e<=n:=hu.o.top;clear he;go_wp2_with fail
   go_loopw [5,6] (fun o f wq=> ∃(s' l':Nat) (L':List Nat) (ao':Option Addr) (co':Nat),s<=s'/\s'<=e/\f= .int .i64 (s':Int)/\o= .slice ao' l' co'/\l'=L'.length/\yQ mk mn mx n L' s'/\Bt W.heap.size g0 w3 wq (.slice ao' l' co') L') (fun _ f _=>e-(intOf f).toNat)
   ·exact⟨s,l,L,ao,co,ah _,HG,rfl,rfl,hD.o,h7.o,hC.o⟩
   ·obtain⟨s',l',L',ao',co',HL,HM,rfl,rfl,hj,hd,hh⟩:=hrel;have hf:=ag hj;have hE:=ag hd;have hr:=ag hh;have q0:wr.cell? ⟨ge,k,none⟩=some (.int .i64 (e:Int)):=by rw[<-Hn.o];unfold World.cell?;rw[hr.o.keep ge HA.2 hH]
    have HK:k<c3:=by omega
    have Hf:(k:Int)<(N:Int):=by omega
    clear hj hd hh
    by_cases hL:s'<e
    ·have hM:(s':Int)<(e:Int):=by omega
     have hV:jc c w.heap.size wr:=by unfold jc;rw[hr.o.keep w.heap.size (am h9.o) hX];exact h9.o
     unfold jc at hV;have c1:=bD (k:=1) hV;simp only[fV]at c1;rw[Ht.o]at c1;clear hV;go_wp2_with fail
     go_quiet (fail)
     obtain⟨z,hz⟩:=bH (min (s'+mx) e);have Hh:min ((s':Int)+(mx:Int)) (e:Int)=(z:Int):=by omega
     rw[Hh];have Hw:=ag (show BA mk mn mx n s' z by rw[hz];exact Oe hR.1 hL Hz hu.o.stop (fun r h1 h2=>hu.o.none r (by rw[<-hF.o]; omega) h2))
     have HP:s'<z/\z<=e:=by omega
     have hq:=ag (hr.o.drew (nq:=nq));obtain⟨W5,Hb⟩:=bH (wr.drewN nq);rw[<-Hb]at hq ⊢;have Hv:=ag (show W5.ownsRow W.heap.size 3 1 (.slice ao' l' co') l' (L'.map sr) by rw[hf.o]; have h1:=hq.o.own; rw[<-hf.o]at h1 ⊢; exact h1);have HH:W.heap.size<=W5.heap.size:=an Hc hq.o.below.size;have HE:l'<1099511627775:=by have h1:=AO hE.o;have h2:=hf.o;omega
     have Hy:=ag (show ∀u∈[Value.int .i64 (z:Int)],u.oneCell'=true by simp[Value.oneCell']);clear Hb q0 c1 hz Hh;go_wp2_with (at_builtin; go_loud (refine bP Tryz.appIntsM rfl _ _ rfl W.heap.size (.slice ao' l' co') l' (L'.map sr) rfl W5 [Value.int .i64 (z:Int)] _ rfl rfl Hy.o Hv.o HE HH ?_); intro v6 w6 hb He _ ho; obtain⟨a6,c6,rfl,-,-⟩:=aH hb; have Hm:=ag (hq.o.push hf.o Hc hb He ho); clear hb He ho)
     go_roundw
     ·exact⟨z,l'+1,L'++[z],a6,c6,by omega,by omega,rfl,rfl,by rw[ai,<-hf.o]; rfl,hE.o.snoc Hw.o,Hm.o⟩
     simp[intOf]; omega
    ·have hT:s'=e:=by omega
     subst hT;have hM: ¬(s':Int)<(s':Int):=by omega
     go_wp2_with fail;exact⟨⟨k+1,s',l',L',ao',co',by omega,by go_num,rfl,rfl,hf.o,by rw[Hq.o],hE.o,hr.o⟩,by simp[intOf]; omega⟩
  ·have Hf:k=N:=by omega
   subst Hf;have hZ:=ag (show L=qT mk mn mx n by
    have h1:s=n:=by rw[hF.o,h3.o,JV]
    have h2:=h7.o;rw[h1]at h2;exact h2.det pH)
   go_wp2_with fail;go_ret;exact⟨ao,co,by rw[<-hZ.o,<-hD.o]; rfl,by rw[<-hZ.o]; have h1:=hC.o.own; rw[<-hD.o]at h1 ⊢; exact jf h1 HB.o.size,Hl.o.trans (hC.o.below.mono HB.o.size)⟩
theorem DM {E:List Nat} {x k:Nat} (h:k<=E.length):pL (E++[x]) k=pL E k:=by
 unfold pL
 split
 ·rfl
 ·rw[cL,cL,bJ (by omega)]
theorem As (E:List Nat):pL E E.length=E.getLast?.getD 0:=by
 unfold pL
 cases E with
 | nil=>rfl
 | cons x E=>rw[if_neg (by simp),cL,List.getLast?_eq_getElem?]
theorem Kr {E:List Nat} {k:Nat} (h:k<=E.length):(E.take k).getLast?.getD 0=pL E k:=by
 have h1:=As (E.take k);rw[aW,fC h]at h1;rw[<-h1];unfold pL
 split
 ·rfl
 ·rw[cL,cL,eF,if_pos (by omega)]
theorem NC {mk:Nat->Bool} {mn mx n s:Nat} {E:List Nat} (h:yQ mk mn mx n E s): ∀(i e:Nat),E[i]? =some e->pL E i<e/\e<=n:=by
 induction h with
 | nil=>intro i e h; simp at h
 | snoc h1 h2 ih=>
  rename_i l s q;intro i e h
  by_cases hi:i<l.length
  ·rw[bJ hi]at h;rw[DM (by omega)];exact ih i e h
  ·have hb:=(aA.1 h).1;rw[ai,bT]at hb;have ha:i=l.length:=by omega
   subst ha;rw[bE (ah _),fa]at h;simp only[aD,aV]at h;subst h;rw[DM (ah _),As];have h3:=h1.last;unfold mr at h3;rw[h3];exact⟨h2.1,h2.2.1⟩
structure LX (base g0 : Nat) (w2 wr : World) (o : Value) (ys : List (Value × List UInt8)) : Prop where
 own:wr.ownsRow base 29 1 o ys.length (ys.map Prod.fst)
 dat: ∀y∈ys,wr.ownsRow base 5 1 y.1 y.2.length (y.2.map aZ)
 place: ∀k,o.ownBlock=some k->k=g0\/w2.heap.size<=k
 keep: ∀k,k<w2.heap.size->k≠g0->wr.heap[k]? =w2.heap[k]?
 below:Below base w2 wr
theorem LX.push {base g0:Nat} {w2 wr wb wd:World} {o o' pv:Value} {ys:List (Value×List UInt8)} {x:List UInt8} {l:Nat} (h:LX base g0 w2 wr o ys) (hl:l=ys.length) (hb:base<=w2.heap.size) (hwb:Below wr.heap.size wr wb) (hp:wb.ownsRow wr.heap.size 5 1 pv x.length (x.map aZ))
  (h1:wd.ownsRow base 29 1 o' (l+1) (ys.map Prod.fst++[pv])) (h2:wb.grownBy wd o.ownBlock) (h3: ∀k,o'.ownBlock=some k->o.ownBlock=some k\/wb.heap.size<=k):LX base g0 w2 wd o' (ys++[(pv,x)]):=by
 subst hl;have hs:=h.below.size;have hd:=hwb.size;have ha:wb.ownsRow base 29 1 o ys.length (ys.map Prod.fst):=cY h.own hwb;refine⟨by rw[ai,aI]; exact h1,fun y hy=> ?_,fun k hk=> ?_,fun k hk hc=> ?_, ?_⟩
 ·rcases aP.1 hy with hy | hy
  ·exact gX (cY (h.dat y hy) hwb) ha h2 (by decide)
  ·rw[aL]at hy;subst hy;exact gX (jf hp (by omega)) ha h2 (by decide)
 ·rcases h3 k hk with h4 | h4
  ·exact h.place k h4
  ·exact .inr (by omega)
 ·refine((h2.block k (by omega) (fun e=> ?_)).trans (hwb.block k (by omega))).trans (h.keep k hk hc)
  rcases h.place k e.symm with h5 | h5
  ·exact hc h5
  ·omega
 ·exact bZ (h.below.trans (hwb.mono (by omega))) ha h2 (ah _) (by omega)
theorem EE (S:Nat->Prop) (c:fQ) (data:List UInt8) (v:Value) (w:World) (hc:jT c=true) (hs:c.seed<18446744073709551616) (hv:bB S w v data) (hl:data.length<=1048576):
  Calls Tryz.prog 125 #[kB c,v] w fun e w'=> ∃(a:Option Addr) (cap:Nat) (ys:List (Value×List UInt8)),e= .returned (.slice a ys.length cap)/\ys.map Prod.snd=gK c data/\w'.ownsRow w.heap.size 29 1 (.slice a ys.length cap) ys.length (ys.map Prod.fst)/\(∀y∈ys,w'.ownsRow w.heap.size 5 1 y.1 y.2.length (y.2.map aZ))/\Below w.heap.size w w':=by
 obtain⟨HD,a,cap,rfl,hn,hm,-⟩:=id hv;unfold maxLen at hm;obtain⟨n,hA⟩:=bH data.length;obtain⟨E,hE⟩:=bH (qT (qG c data) c.mn.toNat c.mx.toNat data.length);have Hd:=ag (show gK c data=jO data 0 E by rw[hE]; rfl);have hT:=ag (show yQ (qG c data) c.mn.toNat c.mx.toNat data.length E data.length by rw[hE]; exact pH);obtain⟨W,hW⟩:=bH (w.alloc (.cells #[.int .i64 c.mn, .int .i64 c.mx, .int .i64 c.win, .int .i64 c.bits, .int .u64 (c.seed:Int)] 45))
 have HB:=ag (show Below w.heap.size w W by rw[hW]; exact eT);have HX:=ag (show jc c w.heap.size W by rw[hW]; exact aC w _);have hD:=ag (show bB S w (.slice a data.length cap) data from hv);rw[<-hA]at hl hn hD;rw[<-hA];have HN:=ag hA;have Hh:=ag hE;have HC:=ag hc;have HS:=ag hs;obtain⟨W1,ho⟩:=bH (W.alloc (.cells #[] 29));obtain⟨g0,hw⟩:=bH W.heap.size
 have Hn:=ag (show W1.ownsRow w.heap.size 29 1 (.slice (some ⟨g0,0,none⟩) 0 0) 0 (([]:List (Value×List UInt8)).map Prod.fst) by rw[ho,hw]; exact jf (cW (e:=29) (size:=1) (base:=W.heap.size) W #[] 0 (ah _) (aR _) (by simp)) HB.o.size);have hM:=ag (show Below W.heap.size W W1 by rw[ho]; exact eT);have HL:W1.heap.size=W.heap.size+1:=by rw[ho]; simp
 clear hv HD hA hE hc hs;unfold kB
 go_enter Tryz.func125,Tryz.ntmps125
 go_upto_region 1 with fail
 rw[<-hW];clear hW
 go_upto_region 2 with fail
 rw[<-ho,<-hw];clear ho;have Hj:=ag hw;have Hw:=ag (HX.o.below hM.o);have hh:=ag (aj HB.o hM.o);have Hv:=ag (show bB S W1 (.slice a n cap) data from bX.below hD.o (by omega) hh.o);have hL:=Hw.o;unfold jc at hL;obtain⟨c0,c1,c2,c3,c4,_⟩:=aT hL;clear hL;go_wp2_with fail;clear c0 c1 c2 c3 c4;refine(Fm S c data _ _ HC.o HS.o Hv.o (by rw[<-HN.o]; exact hl)).mono ?_
 rw[<-Hh.o];rintro e w2 ⟨a2,c2,rfl,hg,hF⟩;obtain⟨N,hN⟩:=bH E.length;rw[<-hN]at hg ⊢;have hC:=ag hN;have HH:N<=n:=by rw[hN,HN.o]; exact AO hT.o
 have HI:N<=c2:=by
  obtain⟨a0,c0,he,h1,h2⟩:=aH hg
  cases he
  exact h1
 have Hg:=ag (show ∀(i e:Nat),E[i]? =some e-> ∃g,a2=some ⟨g,0,none⟩/\g<w2.heap.size/\g≠g0/\w2.cell? ⟨g,i,none⟩=some (.int .i64 (e:Int))from fun i e h=>by
  have hi:=(aA.1 h).1;obtain⟨g,c',he⟩:=Joins.ownsRow_form hg (by omega)
  cases he
  have h1:=hg.lt g rfl;refine⟨g,rfl,h1.2,by have:=Hj.o; omega, ?_⟩;rw[hg.cellAt i (by omega),bm,h]; rfl)
 have hP:=ag (show LX w.heap.size g0 w2 w2 (.slice (some ⟨g0,0,none⟩) 0 0) []from
  ⟨cY Hn.o hF,(fun y hy=>by cases hy),fun k hk=> .inl (by simp[Value.ownBlock]at hk; exact hk.symm),fun k _ _=>rfl,ak _ _⟩)
 have hB:=ag (show Below w.heap.size w w2 from aj hh.o hF);have hX:w.heap.size<=w2.heap.size:=hB.o.size;clear hg hF hN hw;go_wp2_with fail
 go_loopw [5,6,8] (fun o f i wr=> ∃(k s l:Nat) (ys:List (Value×List UInt8)) (ao:Option Addr) (co:Nat),k<=N/\i= .int .i64 (k:Int)/\f= .int .i64 (s:Int)/\o= .slice ao l co/\l=ys.length/\l=k/\s=pL E k/\ys.map Prod.snd=jO data 0 (E.take k)/\LX w.heap.size g0 w2 wr (.slice ao l co) ys) (fun _ _ i _=>N-(intOf i).toNat)
 ·exact⟨0,0,0,[],_,_,aR _,rfl,rfl,rfl,rfl,rfl,rfl,rfl,hP.o⟩
 ·obtain⟨k,s,l,ys,ao,co,hk,rfl,rfl,rfl,h8,h7,Ha,Hb,hY⟩:=hrel;have hj:=ag h8;have Hk:=ag h7;have hG:l<1099511627775:=by omega
  have hU:=ag Ha;have hV:=ag Hb;have hf:=ag hY;clear h8 h7 Ha Hb hY hP
  by_cases HE:k<N
  ·obtain⟨e,he⟩: ∃e,E[k]? =some e:=⟨_,bn (show k<E.length by rw[<-hC.o]; exact HE)⟩;obtain⟨g,rfl,h3,hp,hb⟩:=Hg.o k e he;obtain⟨h9,Hz⟩:=NC hT.o k e he;rw[<-hU.o]at h9;have Hl:=ag (At he);have Hu:=ag (show E.take (k+1)=E.take k++[e]from dC he);have HA:k<=E.length:=by have:=hC.o; omega
   have Hm:=ag (Kr HA);have q0:wr.cell? ⟨g,k,none⟩=some (.int .i64 (e:Int)):=by rw[<-hb];unfold World.cell?;rw[hf.o.keep g h3 hp]
   have He:=ag (show bB S wr (.slice a n cap) data from bX.below hD.o (by omega) (hB.o.trans hf.o.below));obtain⟨sa,sc,hJ,hI⟩:=rV He.o h9 Hz;obtain⟨x,hx⟩:=bH (je data s e);obtain⟨m,hz⟩:=bH x.length;rw[<-hx,<-hz]at hJ hI;have Hx:=ag hx;have hR:=ag hz;have HK:m<=n:=by rw[hz,hx]; unfold je; rw[aW,bz,<-HN.o]; omega
   have Ht:=ag hI;have Hf:=ag hb;clear he hb hx hz hI;have HJ:k<c2:=by omega
   have h4:(k:Int)<(N:Int):=by omega
   have hr:=ag (show Below wr.heap.size wr (wr.alloc (.cells #[] 5))from eT);have hS:=ag (show(wr.alloc (.cells #[] 5)).ownsRow wr.heap.size 5 1 (.slice (some ⟨wr.heap.size,0,none⟩) 0 0) 0 []from cW (e:=5) (size:=1) (base:=wr.heap.size) wr #[] 0 (ah _) (aR _) (by simp));have Hq:=ag (show bX S (wr.alloc (.cells #[] 5)) 1 (.slice sa m sc) m (x.map aZ) by have h1:=Ht.o; unfold bB at h1; rw[<-hR.o]at h1; exact bX.below h1 (by omega) hr.o)
   have Hc:wr.heap.size<=(wr.alloc (.cells #[] 5)).heap.size:=hr.o.size;have hH:0+m<1099511627775:=by omega
   have q4:(wr.alloc (.cells #[] 5)).cell? ⟨g,k,none⟩=some (.int .i64 (e:Int)):=(hr.o.cell (p:=⟨g,k,none⟩) (cR q0)).trans q0;have Hp:=ag (show wr.ownsRow w.heap.size 29 1 (.slice ao l co) l (ys.map Prod.fst) by have h1:=hf.o.own; rw[<-hj.o]at h1; exact h1);have HG:w.heap.size<=wr.heap.size:=an hX hf.o.below.size;go_wp2_with (at_builtin; first
    | (refine dV Tryz.appBytes rfl _ _ rfl wr.heap.size (.slice (some ⟨wr.heap.size,0,none⟩) 0 0) 0 [] rfl hS.o (.slice sa m sc) m (x.map aZ) rfl Hq.o (fE x) hH Hc ?_; intro v5 w5 ha hZ; rw[bO,aJ]at ha; obtain⟨a5,c5,rfl,-,-⟩:=aH ha; have Hr:=ag ha; have hu:=ag (bZ hr.o hS.o hZ (ah _) Hc); have Ho:=ag (cY Hp.o hu.o); have HF:w.heap.size<=w5.heap.size:=an HG hu.o.size; have q5:w5.cell? ⟨g,k,none⟩=some (.int .i64 (e:Int)):=(hu.o.cell (p:=⟨g,k,none⟩) (cR q0)).trans q0; have Hy:=ag (show ∀u∈[Value.slice a5 m c5],u.oneCell'=true by simp[Value.oneCell']); clear ha hZ)
    | (go_loud (refine bP Tryz.appChunks rfl _ _ rfl w.heap.size (.slice ao l co) l (ys.map Prod.fst) rfl w5 [Value.slice a5 m c5] _ rfl rfl Hy.o Ho.o hG HF ?_); intro v6 w6 hd h0 _ hq; obtain⟨a6,c6,rfl,-,-⟩:=aH hd; have hO:=ag (hf.o.push (pv:= .slice a5 m c5) (x:=x) hj.o hX hu.o (by rw[<-hR.o]; exact Hr.o) hd h0 hq); have q6:w6.cell? ⟨g,k,none⟩=some (.int .i64 (e:Int)):=(by rw[<-Hf.o]; unfold World.cell?; rw[hO.o.keep g h3 hp]); clear hd h0 hq))
   have Hs:=ag (show(ys++[((Value.slice a5 m c5:Value),x)]).map Prod.snd=jO data 0 (E.take (k+1)) by rw[Hu.o,lX,Hm.o,<-hU.o,<-Hx.o,<-hV.o,aI]; rfl)
   exact⟨⟨k+1,e,l+1,ys++[(.slice a5 m c5,x)],a6,c6,by omega,by go_num,rfl,rfl,by rw[ai,<-hj.o]; rfl,by rw[Hk.o],by rw[Hl.o],Hs.o,hO.o⟩,by simp[intOf]; omega⟩
  ·have h4:k=N:=by omega
   subst h4;have Hi:=ag (show ys.map Prod.snd=gK c data by rw[hV.o,hC.o,dw,Hd.o]);go_wp2_with fail;go_ret;exact⟨ao,co,ys,by rw[<-hj.o]; rfl,Hi.o,(by have h1:=hf.o.own; rw[hj.o]at h1; exact h1),hf.o.dat,hB.o.trans hf.o.below⟩
open Go Go.RowKit Go.Maps
theorem Mx {G:Prop} (T:Prop) (rest:HdS T->G) (tl:T):G:=rest (ag tl)
theorem eR.keep {S:Nat->Prop} {w w':World} {v:Value} {l:List dk} (h:eR S w v l) (hs: ∀i,S i->w'.heap[i]? =w.heap[i]?):eR S w' v l:=
 cU.same h hs (fun _ _ _ ⟨v,h1,h2,h3⟩=>⟨v,h1,bX.same h2 hs,h3⟩)
structure RdX (base bb : Nat) (k : dq) (c : fQ) (gs : List (ByteArray × Int)) (tree : List dk) : Prop where
 keys:jK k=true
 cut:jT c=true
 seed:c.seed<18446744073709551616
 gens:kC gs
 bbb:base<=bb
 tok:un tree
 small:kE tree
def Qf (base bb:Nat) (k:dq) (c:fQ) (tv gv v:Value) (gs:List (ByteArray×Int)) (lg:Bool) (p:List UInt8×List (List UInt8)) (s:List cQ×Bool) (w:World) (e:Ending) (w':World):Prop:=
 e= .returned (eC (bF k gs p.1))/\ ∃v',kg w' base bb k c tv gv v' lg (io k gs p.2 s)/\jM base bb v v' w w'
def RdC (base bb:Nat) (k:dq) (c:fQ) (gs:List (ByteArray×Int)) (tree:List dk) (tv gv:Value) (lg:Bool) (f:Nat):Prop:= ∀(d:ByteArray) (v:Value) (s:List cQ×Bool) (w:World),
 (bl d).length<=512->512<f+(bl d).length->kg w base bb k c tv gv v lg s->ld (· <base) w gv gs->eR (· <base) w tv tree->s.1.length+(dS k gs c tree f d).2.length<=1000000->
 Calls Tryz.prog 76 #[.pointer (some ⟨bb,0,none⟩), .string d] w (Qf base bb k c tv gv v gs lg (dS k gs c tree f d) s w)
def qK (w:World) (base:Nat) (pv:Value) (ys:List (Value×List UInt8)):Prop:=w.ownsRow base 29 1 pv ys.length (ys.map Prod.fst)/\ ∀y∈ys,w.ownsRow base 5 1 y.1 y.2.length (y.2.map aZ)
section
variable {w w' wc : World} {base bb M n sz xb q : Nat} {pv rv u v v' tv gv : Value} {ys : List (Value × List UInt8)} {k : dq} {c : fQ} {lg : Bool} {s : List cQ × Bool} {xs : List Value} {cs : Array Value}
theorem qK.below (h:qK w base pv ys) (hb:Below w.heap.size w w'):qK w' base pv ys:=⟨cY h.1 hb,fun y hy=>cY (h.2 y hy) hb⟩
theorem qK.kp (h:qK w base pv ys) (hr:kg w base bb k c tv gv v lg s) (hk:jM base bb v v' w w'):qK w' base pv ys:=⟨jM.row hr hk h.1 (by decide) (by decide),fun y hy=>jM.row hr hk (h.2 y hy) (by decide) (by decide)⟩
theorem qK.push (h:qK w base pv ys) (hrow:w.ownsRow M 26 sz rv n xs) (hg:w.grownBy wc rv.ownBlock) (hx:wc.heap[xb]? =some (.cells cs 28 (0,0))):qK (wc.setCell ⟨xb,q,none⟩ u) base pv ys:=by
 have key: ∀ {t:TypeId} {n' z:Nat} {v':Value} {xs':List Value},w.ownsRow base t z v' n' xs'->t≠26->t≠28->(wc.setCell ⟨xb,q,none⟩ u).ownsRow base t z v' n' xs':=fun hr h1 h2=>by have h3:=gX hr hrow hg h1;refine fj h3 (fun i hi hu=>az _ _ _ _ (fun e=> ?_));obtain⟨cs2,ha⟩:=bK h3 hu;exact h2 (bU (e▸ha) hx)
 exact⟨key h.1 (by decide) (by decide),fun y hy=>key (h.2 y hy) (by decide) (by decide)⟩
theorem qK.grown (h:qK w base pv ys) (hrow:w.ownsRow M 26 sz rv n xs) (hg:w.grownBy wc rv.ownBlock):qK wc base pv ys:=
 ⟨gX h.1 hrow hg (by decide),fun y hy=>gX (h.2 y hy) hrow hg (by decide)⟩
theorem qK.at' {b o n cap m:Nat} {y:Value×List UInt8} (h:qK w base (.slice (some ⟨b,o,none⟩) n cap) ys) (hy:ys[m]? =some y):w.cell? ⟨b,o+m,none⟩=some y.1:=by
 obtain⟨_,a,cap,e,_,_,h0⟩:=cK h.1;have ha:=(aA.1 hy).1
 rcases h0 with h0 | ⟨b',o',rfl,_,hc⟩
 ·omega
 ·cases e
  exact hc m y.1 (by rw[bm,hy]; rfl)
theorem zy.grown {it:ci} {v3 iv:Value} {rs:List bY} {its:List ci} (h:zy w base bb k c tv gv v lg M xb w' v3 iv s its rv it rs) (hg:w'.grownBy wc rv.ownBlock):wc.heap[xb]? =some (.cells (fu rv it).toArray 28 (0,0)):=
 (hg.block xb (am h.box) (fun e=>by obtain⟨cs2,hc2⟩:=bK h.row e.symm;exact absurd (bU h.box hc2) (by decide))).trans h.box
theorem qK.cell (h:qK w base pv ys) {m:Nat} {y:Value×List UInt8} (hy:ys[m]? =some y): ∃b o cap,pv= .slice (some ⟨b,o,none⟩) ys.length cap/\w.cell? ⟨b,o+m,none⟩=some y.1:=by
 obtain⟨_,a,cap,e,_,_,h0⟩:=cK h.1;have ha:=(aA.1 hy).1
 rcases h0 with h0 | ⟨b,o,rfl,_,hc⟩
 ·omega
 ·exact⟨b,o,cap,e,hc m y.1 (by rw[bm,hy]; rfl)⟩
end
theorem KQ {base bb:Nat} {k:dq} {c:fQ} {gs:List (ByteArray×Int)} {tree:List dk} {tv gv:Value} {lg:Bool} (f:Nat) (hX:RdX base bb k c gs tree) (IH:RdC base bb k c gs tree tv gv lg f):RdC base bb k c gs tree tv gv lg (f+1):=by
 intro d v s w hd hf h hg ht Ha;have Zw:=am h.box;have hD:base<=w.heap.size:=by have:=hX.bbb; omega
 obtain⟨ta,tc,rfl,Zq,Zr,-⟩:=cU.shape ht mu.len;unfold maxLen at Zr;obtain⟨n,hn⟩:=bH tree.length;rw[<-hn]at ht Zq h IH ⊢;have HN:=ag hn;have Zo:n<=12:=by rw[hn]; exact hX.small.len
 have HX:=ag hX;have z7:=ag IH;have HG:=ag hg;have HT:=ag ht;have YQ:=ag Ha;have HD:=ag hd;have HF:=ag hf;obtain⟨W0,HC⟩:=bH ((w.alloc (.cells #[.string ⟨#[]⟩, .int .i64 0, .int .i64 0] 26)).alloc (.cells #[] 28));have Yt:Below w.heap.size w W0:=by rw[HC]; exact(eT).alloc (by simp) _
 have YD:(w.alloc (.cells #[.string ⟨#[]⟩, .int .i64 0, .int .i64 0] 26)).heap.size=w.heap.size+1:=by simp
 have Hr:=ag (show LV w base bb k c (.slice ta n tc) gv v lg W0 v (.slice (some ⟨w.heap.size+1,0,none⟩) 0 0) s []from⟨h.below Yt,jM.ofBelow Yt hD,⟨[],rfl,by have h1:=cW (e:=28) (size:=10) (base:=w.heap.size) (w.alloc (.cells #[.string ⟨#[]⟩, .int .i64 0, .int .i64 0] 26)) #[] 0 (by rw[YD]; omega) (aR _) (by simp);rw[YD,<-HC]at h1;exact h1,by simp⟩,by rw[HC]; exact mz (ez w _) _⟩)
 clear hX IH hg ht Ha hd hf h Yt YD hn
 go_enter Tryz.func76,Tryz.ntmps76
 go_upto_region 2 with(fail)
 rw[<-HC];clear HC;go_wp2_with fail
 go_loopw [5,6] (fun iv i wr=> ∃(j:Nat) (v2:Value),j<=n/\i= .int .i64 (j:Int)/\LV w base bb k c (.slice ta n tc) gv v lg wr v2 iv (io k gs ((dB (tree.take j) d).flatMap (iG k gs c tree f)) s) ((dB (tree.take j) d).map fun e=>dg k gs c d e (bF k gs (dS k gs c tree f e.path).1))) (fun _ i _=>n-(intOf i).toNat)
 ·exact⟨0,v,aR _,rfl,Hr.o⟩
 ·obtain⟨j,v2,hj,rfl,hR⟩:=hrel;obtain⟨s2,YC⟩:=bH (io k gs ((dB (tree.take j) d).flatMap (iG k gs c tree f)) s);obtain⟨its,hw⟩:=bH ((dB (tree.take j) d).map fun e=>dg k gs c d e (bF k gs (dS k gs c tree f e.path).1));rw[<-YC,<-hw]at hR;have H6:=ag YC;have Yh:=ag hw;have hU:=ag hR;have Hk:its.length<=12:=by rw[hw,aw]; exact an (dI _ _) (by rw[aW,<-HN.o]; omega)
  clear hR Hr YC hw;have hh:=hU.o.bd.box;have k5:=ar (k:=5) hh;have k6:=ar (k:=6) hh;have k7:=ar (k:=7) hh;have k8:=ar (k:=8) hh;have k9:=ar (k:=9) hh;have k10:=ar (k:=10) hh;simp only[tZ,eW,gx,aK,aJ,fV]at k5 k6 k7 k8 k9 k10;clear hh
  by_cases Zm:j<n
  ·obtain⟨e,he⟩: ∃e,tree[j]? =some e:=⟨tree[j]'(by rw[<-HN.o]; exact Zm),by simp⟩;have HE:=ag he;have Zf:=ag (HT.o.keep (w':=wr) (fun i hi=>hU.o.kp.below.block i hi));obtain⟨tb,ot,dv,rfl,-,-,Hi,yp,-,p0,p1,p2,p3,p4,p5⟩:=jN Zf.o he;obtain⟨da,dc,Zi,Zh,Zg⟩:=eD.slice Hi
   subst Zi;have YA:e∈tree:=aM he;have z6:=ag YA;have H7:=ag (HX.o.tok.val e YA);have Zu:=ag yp;have z5:=ag Hi
   have YN:=ag (xF (d:=d) he);have Zp:e.path.size<=512:=(mE H7.o).1;have H1:=ag (an hD hU.o.kp.below.size);obtain⟨dn,Hj⟩:=bH e.data.length;rw[<-Hj]at p4 Zh;unfold maxLen at Zg;have YI:=ag Hj;clear Hi yp he YA Hj
   go_upto_region 6 with(fail)
   obtain⟨W1,H8⟩:=bH (wr.alloc (.cells #[.string e.path, .int .i64 e.kind, .int .i64 e.mode, .int .i64 e.time, .slice da dn dc, .string e.link] 79));rw[<-H8];have Y0:Below wr.heap.size wr W1:=by rw[H8]; exact eT
   have Yo:=ag (show W1.heap[wr.heap.size]? =some (.cells #[.string e.path, .int .i64 e.kind, .int .i64 e.mode, .int .i64 e.time, .slice da dn dc, .string e.link] 79 (0,0)) by rw[H8]; exact ez wr _);have y7:=ag Y0;clear H8 Y0 p0 p1 p2 p3 p4 p5 k5 k6 k7 k8 k9 k10;obtain⟨d0,d1,d2,d3,d4,d5,_⟩:=aT Yo.o
   by_cases hR:cu (bl e.path)=bl d
   ·have H3:=ag hR;have HQ:=ag (show d=⟨(cu (bl e.path)).toArray⟩from Ja hR.symm);clear hR;go_wp2_with (go_at_call 92; refine(oX e.path d _ (by omega) HQ.o).mono ?_; rintro e7 w7 ⟨rfl,hP⟩; have H0:=ag (aj y7.o hP); have YU:=ag (eA hP Yo.o); clear hP);clear d0 d1 d2 d3 d4 d5;obtain⟨W2,Yq⟩:=bH w7.drew;have Yu:Below w7.heap.size w7 W2:=by rw[Yq]; exact(ak _ _).drew
    have y8:=ag (aj H0.o Yu);have hv:=ag (eA Yu YU.o);obtain⟨nm,YB⟩: ∃nm:ByteArray,nm=⟨(mV (bl d) (bl e.path)).toArray⟩:=⟨_,rfl⟩;have YO:=ag (show xK (bl e.path)=nm by rw[YB]; exact MZ H7.o H3.o);have H2:=ag YB;refine eP (fun w'=>w'.heap[wr.heap.size]? =some (.cells #[.string e.path, .int .i64 e.kind, .int .i64 e.mode, .int .i64 e.time, .slice da dn dc, .string e.link] 79 (0,0))) (by kernel_rfl) (by kernel_rfl) ?_
    simp only[bu,bw,ay,bp,Nat.reduceAdd,Nat.reduceSub];rw[<-Yq];clear Yq Yu YU H0 Yo y7 YB
    iterate 2 (refine cF rfl hv.o (by rintro w' hx; have d0:=bD (k:=0) hx; have d1:=bD (k:=1) hx; have d2:=bD (k:=2) hx; have d3:=bD (k:=3) hx; have d4:=bD (k:=4) hx; have d5:=bD (k:=5) hx; simp only[fV]at d0 d1 d2 d3 d4 d5; clear hx; go_simp; rfl) ?_; simp only[bM])
    refine dx 3 rfl hv.o (by rintro w' hx; have d0:=bD (k:=0) hx; have d1:=bD (k:=1) hx; have d2:=bD (k:=2) hx; have d3:=bD (k:=3) hx; have d4:=bD (k:=4) hx; have d5:=bD (k:=5) hx; simp only[fV]at d0 d1 d2 d3 d4 d5; clear hx; go_simp; rfl) ?_;simp only[bM];refine dx 4 rfl hv.o (by rintro w' hx; have d0:=bD (k:=0) hx; have d1:=bD (k:=1) hx; have d2:=bD (k:=2) hx; have d3:=bD (k:=3) hx; have d4:=bD (k:=4) hx; have d5:=bD (k:=5) hx; simp only[fV]at d0 d1 d2 d3 d4 d5; clear hx; go_simp; rfl) ?_
    simp only[bM];refine dx 5 rfl hv.o (by rintro w' hx; have d0:=bD (k:=0) hx; have d1:=bD (k:=1) hx; have d2:=bD (k:=2) hx; have d3:=bD (k:=3) hx; have d4:=bD (k:=4) hx; have d5:=bD (k:=5) hx; simp only[fV]at d0 d1 d2 d3 d4 d5; clear hx; go_simp; rfl) ?_;simp only[bM];refine dx 6 rfl hv.o (by rintro w' hx; have d0:=bD (k:=0) hx; have d1:=bD (k:=1) hx; have d2:=bD (k:=2) hx; have d3:=bD (k:=3) hx; have d4:=bD (k:=4) hx; have d5:=bD (k:=5) hx; simp only[fV]at d0 d1 d2 d3 d4 d5; clear hx; go_simp; rfl) ?_
    simp only[bM];refine dx 7 rfl hv.o (by rintro w' hx; have d0:=bD (k:=0) hx; have d1:=bD (k:=1) hx; have d2:=bD (k:=2) hx; have d3:=bD (k:=3) hx; have d4:=bD (k:=4) hx; have d5:=bD (k:=5) hx; simp only[fV]at d0 d1 d2 d3 d4 d5; clear hx; go_simp; rfl) ?_;simp only[bM];refine dx 8 rfl hv.o (by rintro w' hx; have d0:=bD (k:=0) hx; have d1:=bD (k:=1) hx; have d2:=bD (k:=2) hx; have d3:=bD (k:=3) hx; have d4:=bD (k:=4) hx; have d5:=bD (k:=5) hx; simp only[fV]at d0 d1 d2 d3 d4 d5; clear hx; go_simp; rfl) ?_
    simp only[bM];refine dx 9 rfl hv.o (by rintro w' hx; have d0:=bD (k:=0) hx; have d1:=bD (k:=1) hx; have d2:=bD (k:=2) hx; have d3:=bD (k:=3) hx; have d4:=bD (k:=4) hx; have d5:=bD (k:=5) hx; simp only[fV]at d0 d1 d2 d3 d4 d5; clear hx; go_simp; rfl) ?_;simp only[bM];refine dx 10 rfl hv.o (by rintro w' hx; have d0:=bD (k:=0) hx; have d1:=bD (k:=1) hx; have d2:=bD (k:=2) hx; have d3:=bD (k:=3) hx; have d4:=bD (k:=4) hx; have d5:=bD (k:=5) hx; simp only[fV]at d0 d1 d2 d3 d4 d5; clear hx; go_simp; rfl) ?_
    simp only[bM];refine dx 11 rfl hv.o (by rintro w' hx; have d0:=bD (k:=0) hx; have d1:=bD (k:=1) hx; have d2:=bD (k:=2) hx; have d3:=bD (k:=3) hx; have d4:=bD (k:=4) hx; have d5:=bD (k:=5) hx; simp only[fV]at d0 d1 d2 d3 d4 d5; clear hx; go_simp; rfl) ?_;simp only[bM];refine dx 12 rfl hv.o (by rintro w' hx; have d0:=bD (k:=0) hx; have d1:=bD (k:=1) hx; have d2:=bD (k:=2) hx; have d3:=bD (k:=3) hx; have d4:=bD (k:=4) hx; have d5:=bD (k:=5) hx; simp only[fV]at d0 d1 d2 d3 d4 d5; clear hx; go_simp; rfl) ?_
    simp only[bM];refine dx 13 rfl hv.o (by rintro w' hx; have d0:=bD (k:=0) hx; have d1:=bD (k:=1) hx; have d2:=bD (k:=2) hx; have d3:=bD (k:=3) hx; have d4:=bD (k:=4) hx; have d5:=bD (k:=5) hx; simp only[fV]at d0 d1 d2 d3 d4 d5; clear hx; go_simp; rfl) ?_;simp only[bM]
    apply Mx
    ·intro tail;refine xx 2 15 rfl rfl (by kernel_rfl) rfl rfl (fun K hK=> ?ca) (fun K hK=> ?al)
     case ca=>
      go_wp2_with fail;refine(xJ e.path _ (by omega)).mono ?_;rintro e' w3 ⟨rfl,Hg⟩;rw[YO.o];have h7:=ag (aj y8.o Hg);have hZ:=ag (eA Hg hv.o);clear Hg;go_wp2_with fail;refine⟨hZ.o, ?_⟩;refine dx 14 rfl hZ.o (by rintro w' hx; have d0:=bD (k:=0) hx; have d1:=bD (k:=1) hx; have d2:=bD (k:=2) hx; have d3:=bD (k:=3) hx; have d4:=bD (k:=4) hx; have d5:=bD (k:=5) hx; simp only[fV]at d0 d1 d2 d3 d4 d5; clear hx; go_simp; rfl) ?_
      simp only[bM];refine cA 15 rfl (fun K hK=> ?_);go_wp2_with fail;obtain⟨W,hW⟩:=bH (w3.alloc (.cells #[.string ⟨#[]⟩, .int .i64 0, .int .i64 0, .int .i64 0, .int .i64 0, .string ⟨#[]⟩, .slice none 0 0, .string ⟨#[]⟩, .int .i64 0, .int .i64 0] 28));obtain⟨xb,hS⟩:=bH w3.heap.size;have hY:W.heap[xb]? =some (.cells #[.string ⟨#[]⟩, .int .i64 0, .int .i64 0, .int .i64 0, .int .i64 0, .string ⟨#[]⟩, .slice none 0 0, .string ⟨#[]⟩, .int .i64 0, .int .i64 0] 28 (0,0)):=by rw[hW,hS]; exact aC w3 _
      have hG:Below w3.heap.size w3 W:=by rw[hW]; exact eT
      have hB:Below wr.heap.size wr W:=aj h7.o hG;have hE:W.heap[wr.heap.size]? =some (.cells #[.string e.path, .int .i64 e.kind, .int .i64 e.mode, .int .i64 e.time, .slice da dn dc, .string e.link] 79 (0,0)):=eA hG hZ.o;have hM:wr.heap.size<xb:=by rw[hS]; exact am hZ.o
      rw[<-hW,<-hS];refine⟨hE, ?_⟩;refine cH (by kernel_rfl) ?_;clear hW hS hG h7 hZ;have hF:=aB hB (aB hE (aB hY hM));clear hB hE hY hM
      revert hF
      revert xb
      revert W
      exact tail.o
     case al=>
      go_wp2_with fail;obtain⟨W3,H9⟩:=bH (W2.alloc (.cells #[.string ⟨#[]⟩, .int .i64 0, .int .i64 0, .int .i64 0, .int .i64 0, .string ⟨#[]⟩, .slice none 0 0, .string ⟨#[]⟩, .int .i64 0, .int .i64 0] 28));obtain⟨xb,hS⟩:=bH W2.heap.size;have zl:W3.heap[xb]? =some (.cells #[.string ⟨#[]⟩, .int .i64 0, .int .i64 0, .int .i64 0, .int .i64 0, .string ⟨#[]⟩, .slice none 0 0, .string ⟨#[]⟩, .int .i64 0, .int .i64 0] 28 (0,0)):=by rw[H9,hS]; exact aC W2 _
      have He:=ag zl;have Hg:Below W2.heap.size W2 W3:=by rw[H9]; exact eT
      have h7:=ag (aj y8.o Hg);have hZ:=ag (eA Hg hv.o);have hM:wr.heap.size<xb:=by rw[hS]; exact am hv.o
      rw[<-H9,<-hS];clear H9 hS zl Hg;refine⟨hZ.o, ?_⟩;refine cA 2 rfl (fun K hK=> ?_);go_wp2_with fail;refine(xJ e.path _ (by omega)).mono ?_;rintro e' W ⟨rfl,hG⟩;rw[YO.o];have hB:Below wr.heap.size wr W:=aj h7.o hG;have hE:W.heap[wr.heap.size]? =some (.cells #[.string e.path, .int .i64 e.kind, .int .i64 e.mode, .int .i64 e.time, .slice da dn dc, .string e.link] 79 (0,0)):=eA hG hZ.o
      have hY:=eA hG He.o;have HE:=ag hE;clear hG h7 hZ He;go_wp2_with fail;refine⟨HE.o, ?_⟩;refine dx 14 rfl HE.o (by rintro w' hx; have d0:=bD (k:=0) hx; have d1:=bD (k:=1) hx; have d2:=bD (k:=2) hx; have d3:=bD (k:=3) hx; have d4:=bD (k:=4) hx; have d5:=bD (k:=5) hx; simp only[fV]at d0 d1 d2 d3 d4 d5; clear hx; go_simp; rfl) ?_;simp only[bM]
      refine cH (by kernel_rfl) ?_;clear HE;have hF:=aB hB (aB hE (aB hY hM));clear hB hE hY hM
      revert hF
      revert xb
      revert W
      exact tail.o
    ·rintro W3 xb ⟨hB,hE,hY,hS⟩;have h7:=ag hB;have YJ:=ag hE;have He:=ag hY;clear hB hE hY hv y8;refine eX rfl rfl (fun K hK=> ?_);obtain⟨i0,i1,i2,i3,i4,i5,i6,i7,i8,i9,_⟩:=aT He.o;obtain⟨g0,g1,g2,g3,g4,g5,g6,g7,g8,g9,_⟩:=gT He.o
     go_upto_region 8 with(fail)
     obtain⟨W4,HH⟩:=bH (((((((((((W3.setCell ⟨xb,0,none⟩ (.string nm)).setCell ⟨xb,1,none⟩ (.int .i64 e.kind)).setCell ⟨xb,2,none⟩ (.int .i64 e.mode)).setCell ⟨xb,3,none⟩ (.int .i64 e.time)).setCell ⟨xb,4,none⟩ (.int .i64 (dn:Int))).setCell ⟨xb,5,none⟩ (.string e.link)).setCell ⟨xb,6,none⟩ (.slice none 0 0)).setCell ⟨xb,7,none⟩ (.string ⟨#[]⟩)).setCell ⟨xb,8,none⟩ (.int .i64 0)).setCell ⟨xb,9,none⟩ (.int .i64 0)))
     rw[<-HH];have hJ:(fu (.slice none 0 0) (dg k gs c d e eL)).toArray= #[.string nm, .int .i64 e.kind, .int .i64 e.mode, .int .i64 e.time, .int .i64 (dn:Int), .string e.link, .slice none 0 0, .string ⟨#[]⟩, .int .i64 0, .int .i64 0]:=by unfold fu;rw[Kg H7.o,<-YI.o,H2.o];unfold dg;simp[eL]
     have hG:Below wr.heap.size wr W4:=by rw[HH]; exact jv h7.o (by omega)
     have hT:=ag (hU.o.item (xb:=xb) (it:=dg k gs c d e eL) hG (by rw[hJ,HH]; exact Jm He.o) (by omega) H1.o);have Yb:=ag (show W4.heap[wr.heap.size]? =some (.cells #[.string e.path, .int .i64 e.kind, .int .i64 e.mode, .int .i64 e.time, .slice da dn dc, .string e.link] 79 (0,0)) by rw[HH]; exact(qg (show wr.heap.size≠xb by omega)).trans YJ.o);have y9:=ag hG
     clear HH hJ hG He h7 YJ i0 i1 i2 i3 i4 i5 i6 i7 i8 i9 g0 g1 g2 g3 g4 g5 g6 g7 g8 g9;obtain⟨d0,d1,d2,d3,d4,d5,_⟩:=aT Yb.o;have YM:=ag (show dB (tree.take (j+1)) d=dB (tree.take j) d++[e] by rw[YN.o,if_pos H3.o]);have Ym:=ag (show io k gs ((dB (tree.take (j+1)) d).flatMap (iG k gs c tree f)) s=io k gs (iG k gs c tree f e) s2 by rw[YM.o,bV,qs,<-H6.o]; simp)
     have Yg:=ag (show((dB (tree.take (j+1)) d).map fun e=>dg k gs c d e (bF k gs (dS k gs c tree f e.path).1))=its++[dg k gs c d e (bF k gs (dS k gs c tree f e.path).1)] by rw[YM.o,aI,<-Yh.o]; rfl);have YP:=ag (show s2.1.length+(iG k gs c tree f e).length<=1000000 by
      have h1:=rS (k:=k) (gs:=gs) ((dB (tree.take j) d).flatMap (iG k gs c tree f)) s;rw[<-H6.o]at h1;have h2:=Kl (g:=iG k gs c tree f) HE.o H3.o;have h3:=YQ.o;rw[fi,ai]at h3
      omega)
     have Yj:=ag (fun nd (hn:dZ nd)=>(show iI (dg k gs c d e nd)from by
      have h1:=DG (bl d) (bl e.path);rw[<-bi e.path]at h1;have h2:=(mE H7.o).2.1;refine⟨?_, ?_, ?_⟩
      ·show ByteArray.size ⟨_⟩<=_
       simp only[ByteArray.size,bR];unfold maxLen; omega
      ·show e.link.size<=_
       unfold maxLen; omega
      ·show dZ (if e.kind=2 then nd else eL)
       split
       ·exact hn
       ·exact oe))
     by_cases h9:e.kind=1
     ·have e1:(e.kind == 1)=true:=by simp[h9]
      have h8:=ag h9;clear h9
      go_upto_region 10 with(fail)
      clear d0 d1 d2 d3 d4 d5;have Zx:e.data.length<=60:=HX.o.small.data e z6.o;have Yx:=an H1.o y9.o.size;refine eV (fun w'=>gz bb k c (.slice (some ⟨tb,ot,none⟩) n tc) gv v2 lg s2.2 w'/\w'.heap[wr.heap.size]? =some (.cells #[.string e.path, .int .i64 e.kind, .int .i64 e.mode, .int .i64 e.time, .slice da dn dc, .string e.link] 79 (0,0))) (by kernel_rfl) ?_
      obtain⟨V,hV⟩:=bH W4.drew;rw[<-hV];have Hh:Below W4.heap.size W4 V:=by rw[hV]; exact(ak _ _).drew
      have hO:=ag (hT.o.below Hh Yx);have Yc:=ag (eA Hh Yb.o);have Ya:=ag (aj y9.o Hh);have SV:=ag (show gz bb k c (.slice (some ⟨tb,ot,none⟩) n tc) gv v2 lg s2.2 V/\V.heap[wr.heap.size]? =some (.cells #[.string e.path, .int .i64 e.kind, .int .i64 e.mode, .int .i64 e.time, .slice da dn dc, .string e.link] 79 (0,0))from aB hO.o.bd.box Yc.o);clear hV Hh hT Yb y9
      iterate 6 (refine cF rfl SV.o (by rintro w' ⟨hA,hx⟩; unfold gz at hA; have k5:=ar (k:=5) hA; have k6:=ar (k:=6) hA; have k7:=ar (k:=7) hA; have k8:=ar (k:=8) hA; have k9:=ar (k:=9) hA; have d4:=bD (k:=4) hx; simp only[tZ,eW,gx,aK,aJ,fV]at k5 k6 k7 k8 k9 d4; clear hx hA; go_simp; rfl) ?_; simp only[bM])
      refine cA 6 rfl (fun K hK=> ?_);go_wp2_with fail;refine(EE (fun _=>True) c e.data (.slice da dn dc) V HX.o.cut HX.o.seed (by show bX _ V 1 (.slice da dn dc) e.data.length (e.data.map aZ); have h1:=(eD.below z5.o Ya.o).weak (T:=fun _=>True) fun _ _=>trivial; rw[YI.o]; exact h1) (by omega)).mono ?_;rintro e' w5 ⟨pa,pcap,ys,rfl,YH,Y6,Y5,Yv⟩;have h0:=an H1.o Ya.o.size
      have Hc:=ag (hO.o.below Yv h0);have S5:=ag (show gz bb k c (.slice (some ⟨tb,ot,none⟩) n tc) gv v2 lg s2.2 w5/\w5.heap[wr.heap.size]? =some (.cells #[.string e.path, .int .i64 e.kind, .int .i64 e.mode, .int .i64 e.time, .slice da dn dc, .string e.link] 79 (0,0))from aB Hc.o.bd.box (eA Yv Yc.o));have Yk:=ag (show qK w5 base (.slice pa ys.length pcap) ys from⟨gP Y6 h0,fun y hy=>gP (Y5 y hy) h0⟩)
      have YY:=ag YH;obtain⟨yn,YG⟩:=bH ys.length;have YX:=ag YG;have y5:yn<=60:=by have h1:=wl HX.o.cut e.data;rw[<-YH,aw]at h1;omega
      rw[<-YG]at Yk ⊢;clear YH Y6 Y5 Yv YG hO Yc Ya SV h0;go_wp2_with fail;refine⟨S5.o, ?_⟩;refine cF rfl S5.o (by rintro w' ⟨hA,hx⟩; unfold gz at hA; have k5:=ar (k:=5) hA; have k6:=ar (k:=6) hA; have k7:=ar (k:=7) hA; have k8:=ar (k:=8) hA; have k9:=ar (k:=9) hA; have d4:=bD (k:=4) hx; simp only[tZ,eW,gx,aK,aJ,fV]at k5 k6 k7 k8 k9 d4; clear hx hA; go_simp; rfl) ?_
      simp only[bM];refine cH (by kernel_rfl) ?_;clear S5;obtain⟨itf,Hl⟩:=bH (dg k gs c d e eL);have Yf:=ag Hl;have Hp:=Hc.o;rw[<-Hl]at Hp;have YK:=ag Hp;clear Hl Hp Hc;obtain⟨wo,Zs⟩:=bH wr;subst Zs;go_wp2_with fail
      go_loopw [10] (fun i wq=> ∃(m:Nat) (v3 u6:Value),m<=yn/\i= .int .i64 (m:Int)/\zy w base bb k c (.slice (some ⟨tb,ot,none⟩) n tc) gv v lg wo.heap.size xb wq v3 u5 (io k gs ((gK c e.data).take m) s2) its u6 itf (((gK c e.data).take m).map (bF k gs))/\qK wq base (.slice pa yn pcap) ys) (fun i _=>yn-(intOf i).toNat)
      ·exact⟨0,v2, .slice none 0 0,aR _,rfl,YK.o,Yk.o⟩
      ·obtain⟨m,v3,u6,hm,rfl,h4,Y7⟩:=hrel;obtain⟨rs,y4⟩:=bH (((gK c e.data).take m).map (bF k gs));obtain⟨sm,Hb⟩:=bH (io k gs ((gK c e.data).take m) s2);rw[<-y4,<-Hb]at h4;obtain⟨ra,rc,rfl,-,-⟩:=aH h4.row;have Y2:yn=(gK c e.data).length:=by rw[YX.o,<-YY.o,aw]
       obtain⟨rn,y3⟩:=bH rs.length;have zc:rn=m:=by rw[y3,y4,aw,aW]; omega
       rw[<-y3]at h4;have Hs:=ag h4;have Hx:=ag Y7;have YS:=ag y4;have Yn:=ag Hb;have YR:=ag y3;have Yl:=ag zc;have z3:=ag Y2;have Y1:base<=wr.heap.size:=an hD Hs.o.kp.below.size;clear h4 Y7 YK Yk y4 Hb y3 zc Y2
       by_cases Zn:m<yn
       ·obtain⟨y,hy⟩: ∃y,ys[m]? =some y:=⟨ys[m]'(by rw[<-YX.o]; exact Zn),by simp⟩;have HY:=ag hy;obtain⟨pb,po,pc,Y9,HR⟩:=Hx.o.cell hy;simp only[df]at Y9;obtain⟨rfl,-,-⟩:=Y9;have zz:=Hx.o.2 y (aM hy);obtain⟨ya,yc,y6,-,-⟩:=aH zz;obtain⟨yl,y5⟩:=bH y.2.length;rw[<-y5]at y6;rw[y6]at HR;have HB:=ag y6
        have Zv:=ag y5;have Yp:=ag (show(gK c e.data)[m]? =some y.2 by rw[<-YY.o,bm,hy]; rfl);clear hy zz y6 y5 HR
        go_upto_region 14 with(fail)
        refine eP (fun w'=>w'.heap[xb]? =some (.cells (fu (.slice ra rn rc) itf).toArray 28 (0,0))/\w'.cell? ⟨pb,po+m,none⟩=some (.slice ya yl yc)) (by kernel_rfl) (by kernel_rfl) ?_;simp only[bu,bw,ay,bp,Nat.reduceAdd,Nat.reduceSub];obtain⟨V,hV⟩:=bH wr.drew;rw[<-hV];have hP:Below wr.heap.size wr V:=by rw[hV]; exact(ak _ _).drew
        have hO:=ag (Hs.o.below hP Y1);have H4:=ag (Hx.o.below hP);have SV:=ag (show V.heap[xb]? =some (.cells (fu (.slice ra rn rc) itf).toArray 28 (0,0))/\V.cell? ⟨pb,po+m,none⟩=some (.slice ya yl yc)from aB hO.o.box (by rw[<-HB.o]; exact H4.o.at' HY.o));clear hV hP Hs Hx Y1
        iterate 7 (refine cF rfl SV.o (by rintro w' ⟨hx,hp⟩; unfold fu at hx; have i6:=ar (k:=6) hx; simp only[fV]at i6; clear hx; go_simp; rfl) ?_; simp only[bM])
        have za:sm.1.length<=1000000:=by
         have h1:=rS (k:=k) (gs:=gs) ((gK c e.data).take m) s2;rw[<-Yn.o]at h1;have h2:(((gK c e.data).take m)).length<=(gK c e.data).length:=by rw[aW]; omega
         have h3:=YP.o;unfold iG at h3;rw[if_pos h8.o]at h3;omega
        have HV:y.2.length<=32768:=(pG HX.o.cut e.data y.2 (aM Yp.o)).2;have hp:=AP base bb k c (.slice (some ⟨tb,ot,none⟩) n tc) gv v3 (.slice ya yl yc) gs lg sm.2 sm.1 y.2 V hO.o.bd HX.o.keys (HG.o.keep (fun i hi _=>hO.o.kp.below.block i hi)) HX.o.gens (by have h1:=H4.o.2 y (aM HY.o); rw[HB.o]at h1; exact h1) HV za HX.o.bbb
        obtain⟨r,hr⟩:=bH (bF k gs y.2);rw[<-hr]at hp;unfold eC at hp;have HP:=ag hp;have Hy:=ag hr;clear hp hr za HV;refine cA 7 rfl (fun K hK=> ?_);go_wp2_with fail;refine HP.o.mono ?_;rintro e7 w7 ⟨rfl,v7,HK,Hn⟩;have hN:=ag (hO.o.step HK Hn);have Hw:=ag (H4.o.kp hO.o.bd Hn);have S7:=ag (show w7.heap[xb]? =some (.cells (fu (.slice ra rn rc) itf).toArray 28 (0,0))/\w7.cell? ⟨pb,po+m,none⟩=some (.slice ya yl yc)from aB hN.o.box (by rw[<-HB.o]; exact Hw.o.at' HY.o))
        clear HK Hn hO H4 SV HP;go_wp2_with fail;refine⟨S7.o, ?_⟩;refine cA 8 rfl (fun K hK=> ?_);go_wp2_with fail;have Ys:=(ak w7.heap.size w7).alloc (ah _) (.cells #[.string r.name, .int .i64 r.gen, .int .i64 r.size] 26);have S8:=ag (show(w7.alloc (.cells #[.string r.name, .int .i64 r.gen, .int .i64 r.size] 26)).heap[xb]? =some (.cells (fu (.slice ra rn rc) itf).toArray 28 (0,0))/\(w7.alloc (.cells #[.string r.name, .int .i64 r.gen, .int .i64 r.size] 26)).cell? ⟨pb,po+m,none⟩=some (.slice ya yl yc)from aB (eA Ys hN.o.box) (by rw[<-HB.o]; exact(Hw.o.below Ys).at' HY.o))
        clear Ys S7;refine⟨S8.o, ?_⟩;refine cA 9 rfl (fun K hK=> ?_);have HS:rn<1099511627775:=by have:=Yl.o; omega
        have YZ:wo.heap.size<=w7.heap.size:=by have:=hN.o.mark; have:=am hN.o.box; omega
        go_wp2_with (at_builtin; go_must (refine bP Tryz.appRefs rfl _ _ rfl wo.heap.size (.slice ra rn rc) rn (rs.flatMap jt) rfl w7 [.string r.name, .int .i64 r.gen, .int .i64 r.size] _ rfl rfl (rm (r:=r)) (by have h1:=hN.o.row; rw[<-YR.o]at h1; exact h1) HS YZ ?_); intro v' wc hb ha _ yv; obtain⟨ae,ce,rfl,-,-⟩:=aH hb);have Y8:=hN.o.push (r:=r) (by rw[<-YR.o]; exact hb) ha hD
        have YF:=hN.o.grown ha;have HR:=Hw.o.grown hN.o.row ha;have z9:=ag (Hw.o.push (xb:=xb) (q:=6) (u:= .slice ae (rn+1) ce) hN.o.row ha YF);have S9:=ag (show wc.heap[xb]? =some (.cells (fu (.slice ra rn rc) itf).toArray 28 (0,0))/\wc.cell? ⟨pb,po+m,none⟩=some (.slice ya yl yc)from aB YF (by rw[<-HB.o]; exact HR.at' HY.o));have Hd:=ag Y8
        clear hb ha yv Y8 YF HR S8 hN Hw YZ;refine⟨S9.o, ?_⟩;refine cF rfl S9.o (by rintro w' ⟨hx,hp⟩; unfold fu at hx; have i6:=ar (k:=6) hx; simp only[fV]at i6; clear hx; go_simp; rfl) ?_;simp only[bM];refine cH (by kernel_rfl) ?_;refine eX rfl rfl (fun K hK=> ?_);have hx:=S9.o.1;unfold fu at hx;have i6:=ar (k:=6) hx;have g6:=dD (k:=6) hx
        simp only[fV]at i6;have Zd:=ag (show io k gs ((gK c e.data).take (m+1)) s2=qr k gs sm y.2 by rw[Gg Yp.o,<-Yn.o]);have Ze:=ag (show((gK c e.data).take (m+1)).map (bF k gs)=rs++[r] by rw[dC Yp.o,aI,<-YS.o,Hy.o]; rfl);clear hx S9;go_wp2_with fail
        go_roundw
        ·exact⟨m+1,v7, .slice ae (rn+1) ce,by omega,by go_num,by rw[Zd.o,Ze.o]; exact Hd.o,z9.o⟩
        simp[intOf]; omega
       ·obtain rfl:m=yn:=by omega
        go_upto_region 17 with(fail)
        have Hf:(gK c e.data).take m=gK c e.data:=bo (by rw[<-z3.o]; exact ah _);have hL:itf.chunks=(gK c e.data).map (bF k gs):=by
         rw[Yf.o]
         show(if e.kind=1 then _ else [])=_
         rw[if_pos h8.o]
        have h4:=Hs.o;rw[show rs=itf.chunks by rw[YS.o,Hf,hL]]at h4;have hC:=ag h4;have Hv:=ag (show iI itf by rw[Yf.o]; exact Yj.o eL oe);have Hz:=ag (show ∀r∈itf.chunks,dZ r by rw[hL];intro r hr;obtain⟨z,hz,rfl⟩:=aQ.1 hr;exact iC HX.o.gens (by have:=(pG HX.o.cut e.data z hz).2; omega))
        have Ht:=ag (show dg k gs c d e (bF k gs (dS k gs c tree f e.path).1)=itf by rw[Yf.o]; exact oa (by have:=h8.o; omega) _ _);have HA:=ag (show io k gs (iG k gs c tree f e) s2=sm by rw[Yn.o,Hf]; unfold iG; rw[if_pos h8.o]);obtain⟨it,hl⟩:=bH itf;subst hl;clear Hf hL h4 Hs Hx;obtain⟨zs4,hk,hu,-,hs⟩:=hC.o.its.row;have HZ:zs4.length<=12:=by rw[<-aw (f:=Prod.snd),hk]; exact Hk
        have hI:=ag hk;have ho:=ag hu;have hH:=ag (fun z hz=>(hs z hz).1);have HW:w.heap.size<=(wr).heap.size:=hC.o.kp.below.size;clear hk hu hs;have hh:=hC.o.box;unfold fu at hh;obtain⟨i0,i1,i2,i3,i4,i5,i6,i7,i8,i9,_⟩:=aT hh;clear hh;go_wp2_with (at_builtin; go_must (refine bP Tryz.appItems rfl _ _ rfl w.heap.size u5 zs4.length (qi zs4) rfl (wr) [.string it.name, .int .i64 it.kind, .int .i64 it.mode, .int .i64 it.time, .int .i64 it.size, .string it.link, .slice ra rn rc, .string it.node.name, .int .i64 it.node.gen, .int .i64 it.node.size] _ rfl rfl (kS (it:=it)) ho.o (by omega) HW ?_); intro v' wc hb ha _ _; have Hd:=ag (hC.o.done hI.o ho.o hH.o hb ha Hv.o Hz.o hD); clear hb ha)
        clear i0 i1 i2 i3 i4 i5 i6 i7 i8 i9
        go_roundw
        ·exact⟨j+1,v3,by omega,by go_num,by rw[Ym.o,Yg.o,Ht.o,HA.o]; exact Hd.o⟩
        simp[intOf]; omega
     ·have e1:(e.kind == 1)=false:=by simp[h9]
      have h8:=ag h9
      by_cases Hm:e.kind=2
      ·have e2:(e.kind == 2)=true:=by simp[Hm]
       have Hu:=ag Hm;have Yy:iG k gs c tree f e=(dS k gs c tree f e.path).2:=by unfold iG; rw[if_neg h9,if_pos Hm]
       have yv:=qq (l:=bl e.path) (lT HX.o.tok (aM HE.o));rw[H3.o]at yv;have Zj:=HF.o;have HL:=z7.o e.path v2 s2 W4 (by rw[<-bi]; exact Zp) (by omega) hT.o.bd (HG.o.keep (fun i hi _=>hT.o.kp.below.block i hi)) (HT.o.keep (fun i hi=>hT.o.kp.below.block i hi)) (by rw[<-Yy]; exact YP.o);unfold Qf at HL;obtain⟨r,hr⟩:=bH (bF k gs (dS k gs c tree f e.path).1)
       rw[<-Yy,<-hr]at HL;have Hy:=ag hr;have Zc:=ag (show dZ r by rw[hr]; exact iC HX.o.gens (by have:=mW (k:=k) HX.o.gens HX.o.cut HX.o.tok HX.o.small f e.path; omega));unfold eC at HL;have Zb:=ag HL;clear Hm h9 Yy yv Zj HL hr;go_wp2_with fail;refine Zb.o.mono ?_;rintro e' w5 ⟨rfl,v5,HI,HM⟩;have Hc:=ag (hT.o.step HI HM);have hh:=Hc.o.box
       unfold fu at hh;have i7:=ar (k:=7) hh;have i8:=ar (k:=8) hh;have i9:=ar (k:=9) hh;have g7:=dD (k:=7) hh;have g8:=dD (k:=8) hh;have g9:=dD (k:=9) hh;simp only[fV]at i7 i8 i9;clear hh HI HM d0 d1 d2 d3 d4 d5
       go_upto_region 17 with(fail)
       obtain⟨W6,Yr⟩:=bH (((w5.setCell ⟨xb,7,none⟩ (.string r.name)).setCell ⟨xb,8,none⟩ (.int .i64 r.gen)).setCell ⟨xb,9,none⟩ (.int .i64 r.size));obtain⟨it,hl⟩:=bH (dg k gs c d e r);have hL:it.chunks=[]:=by rw[hl]; unfold dg; simp only[if_neg h8.o]
       have Hq:zy w base bb k c (.slice (some ⟨tb,ot,none⟩) n tc) gv v lg wr.heap.size xb W6 v5 u5 (io k gs (iG k gs c tree f e) s2) its (.slice none 0 0) it it.chunks:=by
        rw[hL,Yr];have Hp:=Hc.o;have Y3:it= {dg k gs c d e eL with node:=r} :=by rw[hl]; unfold dg; simp only[if_pos Hu.o]
        have Ho:(dg k gs c d e eL).node=eL:=by unfold dg; simp only[if_pos Hu.o]
        obtain⟨it0,Zk⟩:=bH (dg k gs c d e eL);rw[<-Zk]at Hp Y3 Ho;have a1:=Hp.set (q:=7) (u:= .string r.name) (it':= {it0 with node:=⟨r.name,0,0⟩}) (by simp[fu,Ho,eL]) hD;have a2:=a1.set (q:=8) (u:= .int .i64 r.gen) (it':= {it0 with node:=⟨r.name,r.gen,0⟩}) (by simp[fu]) hD;have a3:=a2.set (q:=9) (u:= .int .i64 r.size) (it':=it) (by rw[Y3]; simp[fu]) hD
        exact a3
       have hC:=ag Hq;have Hv:=ag (show iI it by rw[hl]; exact Yj.o r Zc.o);have Hz:=ag (show ∀r∈it.chunks,dZ r by rw[hL]; simp);have Ht:=ag (show dg k gs c d e (bF k gs (dS k gs c tree f e.path).1)=it by rw[hl,Hy.o]);have HA:=ag (show io k gs (iG k gs c tree f e) s2=io k gs (iG k gs c tree f e) s2 from rfl);rw[<-Yr];clear hl hL Hq Yr hT Hc i7 i8 i9 g7 g8 g9
       obtain⟨zs4,hk,hu,-,hs⟩:=hC.o.its.row;have HZ:zs4.length<=12:=by rw[<-aw (f:=Prod.snd),hk]; exact Hk
       have hI:=ag hk;have ho:=ag hu;have hH:=ag (fun z hz=>(hs z hz).1);have HW:w.heap.size<=(W6).heap.size:=hC.o.kp.below.size;clear hk hu hs;have hh:=hC.o.box;unfold fu at hh;obtain⟨i0,i1,i2,i3,i4,i5,i6,i7,i8,i9,_⟩:=aT hh;clear hh;go_wp2_with (at_builtin; go_must (refine bP Tryz.appItems rfl _ _ rfl w.heap.size u5 zs4.length (qi zs4) rfl (W6) [.string it.name, .int .i64 it.kind, .int .i64 it.mode, .int .i64 it.time, .int .i64 it.size, .string it.link, .slice none 0 0, .string it.node.name, .int .i64 it.node.gen, .int .i64 it.node.size] _ rfl rfl (kS (it:=it)) ho.o (by omega) HW ?_); intro v' wc hb ha _ _; have Hd:=ag (hC.o.done hI.o ho.o hH.o hb ha Hv.o Hz.o hD); clear hb ha)
       clear i0 i1 i2 i3 i4 i5 i6 i7 i8 i9
       go_roundw
       ·exact⟨j+1,v5,by omega,by go_num,by rw[Ym.o,Yg.o,Ht.o,HA.o]; exact Hd.o⟩
       simp[intOf]; omega
      ·have e2:(e.kind == 2)=false:=by simp[Hm]
       have Hu:=ag Hm;clear Hm h9
       go_upto_region 17 with(fail)
       obtain⟨it,hl⟩:=bH (dg k gs c d e eL);have hL:it.chunks=[]:=by rw[hl]; unfold dg; simp only[if_neg h8.o]
       have Hq:=hT.o;rw[<-hl]at Hq;have hC:=ag (show zy w base bb k c (.slice (some ⟨tb,ot,none⟩) n tc) gv v lg wr.heap.size xb W4 v2 u5 s2 its (.slice none 0 0) it it.chunks by rw[hL]; exact Hq);have Hv:=ag (show iI it by rw[hl]; exact Yj.o eL oe);have Hz:=ag (show ∀r∈it.chunks,dZ r by rw[hL]; simp);have Ht:=ag (show dg k gs c d e (bF k gs (dS k gs c tree f e.path).1)=it by rw[hl]; exact oa Hu.o _ _)
       have HA:=ag (show io k gs (iG k gs c tree f e) s2=s2 by unfold iG; rw[if_neg h8.o,if_neg Hu.o]; rfl);clear hl hL Hq hT d0 d1 d2 d3 d4 d5;obtain⟨zs4,hk,hu,-,hs⟩:=hC.o.its.row;have HZ:zs4.length<=12:=by rw[<-aw (f:=Prod.snd),hk]; exact Hk
       have hI:=ag hk;have ho:=ag hu;have hH:=ag (fun z hz=>(hs z hz).1);have HW:w.heap.size<=(W4).heap.size:=hC.o.kp.below.size;clear hk hu hs;have hh:=hC.o.box;unfold fu at hh;obtain⟨i0,i1,i2,i3,i4,i5,i6,i7,i8,i9,_⟩:=aT hh;clear hh;go_wp2_with (at_builtin; go_must (refine bP Tryz.appItems rfl _ _ rfl w.heap.size u5 zs4.length (qi zs4) rfl (W4) [.string it.name, .int .i64 it.kind, .int .i64 it.mode, .int .i64 it.time, .int .i64 it.size, .string it.link, .slice none 0 0, .string it.node.name, .int .i64 it.node.gen, .int .i64 it.node.size] _ rfl rfl (kS (it:=it)) ho.o (by omega) HW ?_); intro v' wc hb ha _ _; have Hd:=ag (hC.o.done hI.o ho.o hH.o hb ha Hv.o Hz.o hD); clear hb ha)
       clear i0 i1 i2 i3 i4 i5 i6 i7 i8 i9
       go_roundw
       ·exact⟨j+1,v2,by omega,by go_num,by rw[Ym.o,Yg.o,Ht.o,HA.o]; exact Hd.o⟩
       simp[intOf]; omega
   ·obtain⟨q,hq⟩: ∃q:ByteArray,q=⟨(cu (bl e.path)).toArray⟩:=⟨_,rfl⟩;have HQ:=ag hq;have z8:=ag (show dB (tree.take (j+1)) d=dB (tree.take j) d by rw[YN.o,if_neg hR,cg]);have e1:(q.toList == d.toList)=false:=by
     rw[fw];intro hc;have h1:bl q=bl d:=by rw[<-fF,<-fF]; simpa using hc
     exact hR (((congrArg bl hq).trans (jQ _)).symm.trans h1)
    clear hR hq;go_wp2_with (go_at_call 92; refine(oX e.path q _ (by omega) HQ.o).mono ?_; rintro e7 w7 ⟨rfl,hP⟩; have H0:=ag (aj y7.o hP); clear hP)
    go_roundw
    ·exact⟨j+1,v2,by omega,by go_num,by rw[z8.o,<-H6.o,<-Yh.o]; exact hU.o.below H0.o H1.o⟩
    simp[intOf]; omega
  ·have Zl:j=n:=by omega
   subst Zl;have hw:its=nj k gs c tree f d:=by rw[Yh.o,HN.o,dw]; rfl
   have YL:=ag (show lN wr w.heap.size u5 (nj k gs c tree f d) by rw[<-hw]; exact hU.o.its);have Hb:=FK (k:=k) (gs:=gs) HX.o.cut HX.o.small f d;have YE:=Kh (k:=k) HX.o.gens HX.o.cut HX.o.tok HX.o.small f d;have yb:=mW (k:=k) HX.o.gens HX.o.cut HX.o.tok HX.o.small (f+1) d;have Y4:tV (nj k gs c tree f d)=(dS k gs c tree (f+1) d).1:=by
    rw[fi];refine Nl YE (fun it hl=> ?_) (by rw[fi]at yb; simp only at yb; omega);unfold nj at hl;obtain⟨e,he,rfl⟩:=aQ.1 hl;obtain⟨i,hi⟩:=List.mem_iff_getElem?.1 (dY.1 he).1;obtain⟨_,_,_,_,_,_,_,yp,_⟩:=jN HT.o hi;have:=yp.tim;simp[Lit.wf,IntKind.min,IntKind.max,IntKind.signed,IntKind.bits]at this
    show e.time<_
    omega
   have Ho:=FX (fun _=>True) u5 (nj k gs c tree f d) wr YL.o.at (fun it hl=>FI ((pS YE).2 it hl)) (by have:=DY Hb.1 Hb.2; omega) (by have:=Hb.1; omega);unfold GZ at Ho;rw[Y4]at Ho;have Yi:=ag Ho;have H2:=ag yb;have YT:=ag (show s2=io k gs ((dB tree d).flatMap (iG k gs c tree f)) s by rw[H6.o,HN.o,dw])
   obtain⟨X,hX⟩:=bH ((dS k gs c tree (f+1) d).1);rw[<-hX]at Yi H2;have YW:=ag hX;have Za:=ag (show io k gs (dS k gs c tree (f+1) d).2 s=qr k gs s2 X by rw[fi,qs,<-YT.o,hX,fi]; rfl);clear hw Hb YE yb Y4 Ho hX;go_wp2_with fail;refine Yi.o.mono ?_;rintro e' w5 ⟨cv,rfl,Yz,Hh⟩;have Yw:=an hD hU.o.kp.below.size;have z4:=ag (gP Yz Yw)
   obtain⟨ca,cc,rfl,-,-⟩:=aH Yz;have Yd:=ag (hU.o.below Hh Yw);obtain⟨xl,HU⟩:=bH X.length;have Zy:1<=xl:=by
    rw[HU,YW.o,fi]
    show 1<=(gC _).length
    unfold gC;rw[ai];have:=sO (nj k gs c tree f d).length;omega
   have Zt:xl<=32768:=by rw[HU]; exact H2.o
   have YV:=ag HU;rw[<-HU];clear Yz Hh Yw HU hU Yi YL k5 k6 k7 k8 k9 k10;have hp:=AP base bb k c (.slice ta j tc) gv v2 (.slice ca xl cc) gs lg s2.2 s2.1 X w5 Yd.o.bd HX.o.keys (HG.o.keep (fun i hi _=>Yd.o.kp.below.block i hi)) HX.o.gens (by have h1:=z4.o; rw[<-YV.o]at h1 ⊢; exact h1) (by rw[<-YV.o]; exact Zt) (by
    have h1:=rS (k:=k) (gs:=gs) ((dB tree d).flatMap (iG k gs c tree f)) s;rw[<-YT.o]at h1;have h3:=YQ.o;rw[fi,ai]at h3
    omega) HX.o.bbb
   have HP:=ag hp;clear hp;unfold eC at HP;have e1:((xl:Int) == 0)=false:=by simp; omega
   go_upto_region 22 with(fail)
   obtain⟨r,hr⟩:=bH (bF k gs X);rw[<-hr]at HP;have Hy:=ag hr;clear hr e1;go_wp2_with fail;refine HP.o.mono ?_;rintro e6 w6 ⟨rfl,v6,HJ,HO⟩;have Ye:=ag (Yd.o.step HJ HO);clear HJ HO;have H5:=ag Ye.o.res;obtain⟨z0,z1,z2,_⟩:=aT H5.o;obtain⟨y0,y1,y2,_⟩:=gT H5.o;go_wp2_with fail;refine NM H5.o rfl rfl ?_;refine⟨by rw[<-YW.o,<-Hy.o]; rfl,v6, ?_, ?_⟩
   ·rw[Za.o];exact Ye.o.bd.other H5.o (by decide) (by decide) (by decide) (fun i hi _=>eB hi)
   ·exact((Ye.o.kp.setNew (ah _) hD).setNew (ah _) hD).setNew (ah _) hD
theorem PK (S:Nat->Prop) (L:List dk) (v:Value) (x:Int) (w:World) (hv:eR S w v L) (hps: ∀e∈L,e.path.size<=16777216) (hx:iJ L=x):Calls Tryz.prog 31 #[v] w fun e w'=>e= .returned (.int .i64 x)/\Below w.heap.size w w':=by rw[<-hx]; exact Ek S L v w hv hps
theorem Er {base bb:Nat} {k:dq} {c:fQ} {gs:List (ByteArray×Int)} {tree:List dk} {tv gv:Value} {lg:Bool} (hX:RdX base bb k c gs tree): ∀f,RdC base bb k c gs tree tv gv lg f
 | 0=>fun d v s w h1 h2=>by omega
 | f+1=>KQ f hX (Er hX f)
def th (l:List dk):Bool:=l.all (fun e=>decide (e.data.length<=60)) && decide (l.length<=12)
theorem eR.lts {S:Nat->Prop} {w:World} {v:Value} {l:List dk} (h:eR S w v l):eR (· <w.heap.size) w v l:=
 cU.mono h (by omega) (fun _ hk _=>hk) (fun _ _ _ ⟨v,h1,h2,h3⟩=>⟨v,h1,bX.mono h2 (fun _ hk _=>hk) (by omega),h3⟩)
theorem ld.lts {S:Nat->Prop} {w:World} {v:Value} {l:List (ByteArray×Int)} (h:ld S w v l):ld (· <w.heap.size) w v l:=by
 rcases h with h | ⟨b,h1,_,h2⟩
 ·exact .inl h
 ·exact .inr ⟨b,h1,h2.lt,h2⟩
theorem EC (S:Nat->Prop) (l:List dk) (v:Value) (w:World) (hv:eR S w v l):Calls Tryz.prog 21 #[v] w fun e w'=>e= .returned (.bool (th l))/\Below w.heap.size w w':=by
 obtain⟨a,c,rfl,hc,hm,-⟩:=cU.shape hv mu.len;unfold maxLen at hm;obtain⟨n,hn⟩:=bH l.length;rw[<-hn]at hv hc ⊢;have HV:=ag hv;have HN:=ag hn;clear hv hn
 go_enter Tryz.func21,Tryz.ntmps21
 go_wp2_with fail
 go_loopw [3] (fun i wr=> ∃j:Nat,j<=n/\i= .int .i64 (j:Int)/\(∀e∈l.take j,e.data.length<=60)/\wr=w) (fun i _=>n-(intOf i).toNat)
 ·exact⟨0,aR _,rfl,by simp,rfl⟩
 ·obtain⟨j,hj,rfl,hb,rfl⟩:=hrel;have ha:=ag hb;clear hb
  by_cases hp:j<n
  ·obtain⟨e,he⟩: ∃e,l[j]? =some e:=⟨l[j]'(by rw[<-HN.o]; exact hp),by simp⟩;obtain⟨b,o,dv,rfl,-,-,hf,-,-,p0,p1,p2,p3,p4,p5⟩:=jN HV.o he;obtain⟨da,dc,ho,-,-⟩:=eD.slice hf
   subst ho;have HE:=ag he;obtain⟨dn,hg⟩:=bH e.data.length;rw[<-hg]at p4;have hh:=ag hg;clear he hf p0 p1 p2 p3 p5 hg
   by_cases hd:dn<=60
   ·have hl: ¬60<(dn:Int):=by omega
    have hk:=ag (show ∀e∈l.take (j+1),e.data.length<=60 from by
     rw[dC HE.o];intro x hx
     rcases aP.1 hx with hx | hx
     ·exact ha.o x hx
     ·rw[aL]at hx;subst hx;rw[<-hh.o]; exact hd)
    go_wp2_with fail
    go_roundw
    ·exact⟨j+1,by omega,by go_num,hk.o,trivial⟩
    simp[intOf]; omega
   ·have hl:60<(dn:Int):=by omega
    have HF:=ag (show th l=false by
     unfold th;rw[Bool.and_eq_false_iff]
     left
     rw[fw];intro h;have:=cB.1 h e (aM HE.o);rw[aG,<-hh.o]at this;exact hd this)
    go_wp2_with fail;go_ret;exact⟨cj HF.o.symm,ak _ _⟩
  ·obtain rfl:j=n:=by omega
   have HB:=ag (show th l=decide ((j:Int)<=12) by
    unfold th;have h1:l.all (fun e=>decide (e.data.length<=60))=true:=by rw[cB];intro x hx;rw[aG];exact ha.o x (by rw[bo (by rw[<-HN.o]; exact ah _)]; exact hx)
    rw[h1,ie,<-HN.o]
    congr 1
    simp only[eq_iff_iff]
    omega)
   go_wp2_with fail;go_ret;exact⟨cj HB.o.symm,ak _ _⟩
def Ri (r:Except Int (bY×List cQ)):bY×List cQ×Int:=match r with
 | .error x=>(⟨⟨#[]⟩,0,0⟩,[],x)
 | .ok p=>(p.1,p.2,0)
theorem tq.flat {res:Except Int (bY×List cQ)} {r:bY} {bs:List cQ} {x:Int} {w w':World} {e:Ending} (h:tq res w e w') (he:Ri res=(r,bs,x)):
  Below w.heap.size w w'/\ ∃a cap zs,e= .returned (.tuple #[eC r, .slice a bs.length cap, .int .i64 x])/\zs.map Prod.snd=bs/\iz w' w.heap.size (.slice a bs.length cap) zs/\bs.length<=cap/\cap<=maxLen:=by
 obtain⟨hb,h⟩:=h;refine⟨hb, ?_⟩
 cases res with
 | error y=>
  obtain⟨rfl,-⟩:=h
  cases he
  exact⟨none,0,[],rfl,rfl,⟨bN _ _ _ _,by simp⟩,ah _,aR _⟩
 | ok p=>
  obtain⟨v,zs,rfl,hz,ho⟩:=h
  cases he
  obtain⟨a,cap,rfl,h1,h2⟩:=aH ho.row;have hl:p.2.length=zs.length:=by rw[<-hz,aw]
  rw[<-hl]at h1 ho;exact⟨a,cap,zs,by rw[hl],hz,ho,h1,h2⟩
theorem AJ {w w':World} {base n cap:Nat} {a:Option Addr} {zs:List mp} {bs:List cQ} (hz:zs.map Prod.snd=bs) (h:iz w base (.slice a n cap) zs) (hb:Below w.heap.size w w') {k:Nat} {b:cQ} (hk:bs[k]? =some b):
  ∃bk o za zc,a=some ⟨bk,o,none⟩/\w'.cell? ⟨bk,o+k*4,none⟩=some (.string b.ref.name)/\w'.cell? ⟨bk,o+k*4+1,none⟩=some (.int .i64 b.ref.gen)/\w'.cell? ⟨bk,o+k*4+2,none⟩=some (.int .i64 b.ref.size)/\w'.cell? ⟨bk,o+k*4+3,none⟩=some (.slice za b.con.length zc)/\bB (fun _=>True) w' (.slice za b.con.length zc) b.con:=by
 rw[<-hz,bm,ft]at hk;obtain⟨z,ha,rfl⟩:=hk;have h':=h.below hb;obtain⟨bk,o,rfl,-,hf,hc⟩:=tE (cK h'.row) ha;have hd:=cK (h'.dat z (aM ha));obtain⟨_,za,zc,he,-,-,-⟩:=id hd;have q0:=hc 0 (by omega);have q1:=hc 1 (by omega);have q2:=hc 2 (by omega);have q3:=hc 3 (by omega);simp only[nT,aD,cI,dh]at q0 q1 q2 q3
 rw[he]at q3;exact⟨bk,o,za,zc,rfl,q0,q1,q2,q3,by rw[<-he]; exact hd.weak fun _ _=>trivial⟩
def nV (k:dq) (c:fQ) (ts:List (List dk)):List cQ×Bool:=ts.foldl (fun s t=>io k [] (dS k [] c t 514 ⟨#[]⟩).2 s) ([],false)
def uv (k:dq) (c:fQ) (ts:List (List dk)):Bool:=(nV k c ts).2 || Jn (nV k c ts).1
theorem CM {k:dq} {c:fQ} {ts:List (List dk)} {j:Nat} {t:List dk} (h:ts[j]? =some t):nV k c (ts.take (j+1))=io k [] (dS k [] c t 514 ⟨#[]⟩).2 (nV k c (ts.take j)):=by rw[dC h];unfold nV;rw[dW]; rfl
def Ib (w:World) (sv:Value) (zs:List (Value×List dk)):Prop:=bX (· <w.heap.size) w 1 sv zs.length (zs.map Prod.fst)/\ ∀z∈zs,eR (· <w.heap.size) w z.1 z.2
theorem kg.tree {w:World} {base bb:Nat} {k:dq} {c:fQ} {tv gv v:Value} {lg:Bool} {s:List cQ×Bool} (h:kg w base bb k c tv gv v lg s) (tv':Value) (hb:base<=bb):kg (w.setCell ⟨bb,10,none⟩ tv') base bb k c tv' gv v lg s/\Below base w (w.setCell ⟨bb,10,none⟩ tv'):=by
 obtain⟨zs,h1,h2⟩:=h.own;have hs: ∀j,j≠bb->(w.setCell ⟨bb,10,none⟩ tv').heap[j]? =w.heap[j]? :=fun j hj=>az _ _ _ _ hj
 have ha: ∀ {t:TypeId} {n sz:Nat} {u:Value} {xs:List Value},w.ownsRow base t sz u n xs->t≠130->(w.setCell ⟨bb,10,none⟩ tv').ownsRow base t sz u n xs:=fun hr ht=>fj hr (fun i hi hu=>hs i (fun e=>by obtain⟨cs,hc⟩:=bK hr hu;subst e;exact ht (bU hc h.box)))
 refine⟨⟨?_,zs,h1,ha h2.row (by decide),fun z hz=>ha (h2.dat z hz) (by decide)⟩,(ak _ _).grown (cJ w bb 10 _) ?_ (fun i hi=>by cases hi; exact hb)⟩
 ·have:=jb (k:=10) h.box tv'
  simpa [tZ,eW,gx]using this
 ·have:=am h.box; omega
theorem FY {N:List ByteArray} {m:Nat} {x:ByteArray} (h:N[m]? =some x):decide ((N.take (m+1)).Nodup)=(decide ((N.take m).Nodup) && !(N.take m).any (fun y=>decide (y=x))):=by
 rw[dC h,dy,aG,aE,aG,gh,List.any_eq_false];rw[dX]
 constructor
 ·rintro⟨h1,_,h3⟩;exact⟨h1,fun y hy e=>h3 y hy x (by simp) (by simpa using e)⟩
 ·rintro⟨h1,h3⟩;refine⟨h1,by simp,fun a ha b hb e=> ?_⟩;rw[aL]at hb;subst hb;exact h3 a ha (by simpa using e)
theorem CA {N:List ByteArray} {m:Nat} {x y:ByteArray} (h:N[m]? =some y):(N.take (m+1)).any (fun z=>decide (z=x))=((N.take m).any (fun z=>decide (z=x)) || decide (y=x)):=by rw[dC h,List.any_append];simp
theorem Qj (a b:ByteArray):(a.toList == b.toList)=decide (b=a):=by
 rw[dy,kf,aG]
 constructor
 ·intro h;exact(kF (by rw[<-fF,<-fF]; exact h)).symm
 ·rintro rfl; rfl
theorem Gk (k:dq) (c:fQ) (zs:List (Value×List dk)) (sv:Value) (w:World) (hk:jK k=true) (hc:jT c=true) (hsd:c.seed<18446744073709551616) (hz:Ib w sv zs) (hn:zs.length<=10) (ht: ∀z∈zs,un z.2/\kE z.2):
  Calls Tryz.prog 32 #[kJ k,kB c,sv] w fun e w'=>e= .returned (.bool (uv k c (zs.map Prod.snd)))/\Below w.heap.size w w':=by
 obtain⟨_,sa,sc,rfl,HU,HV,-⟩:=id hz.1;unfold maxLen at HV;obtain⟨n,Hc⟩:=bH zs.length;have HN:=ag Hc;rw[<-Hc]at hz hn HU ⊢;have HZ:=ag hz;have HK:=ag hk;have HC:=ag hc;have HO:=ag hsd;have HT:=ag ht;obtain⟨W0,hp⟩:=bH (((w.alloc (.cells #[.string k.nm, .string k.st, .string k.ck, .string k.ix, .string k.tk] 42)).alloc (.cells #[.int .i64 c.mn, .int .i64 c.mx, .int .i64 c.win, .int .i64 c.bits, .int .u64 (c.seed:Int)] 45)))
 have HX:W0.heap.size=w.heap.size+2:=by rw[hp]; simp
 have Hq:Below w.heap.size w W0:=by rw[hp]; exact(eT).alloc (by simp) _
 have HH:=ag (show W0.heap[w.heap.size]? =some (.cells #[.string k.nm, .string k.st, .string k.ck, .string k.ix, .string k.tk] 42 (0,0)) by rw[hp]; exact mz (ez w _) _);have HG:=ag (show W0.heap[w.heap.size+1]? =some (.cells #[.int .i64 c.mn, .int .i64 c.mx, .int .i64 c.win, .int .i64 c.bits, .int .u64 (c.seed:Int)] 45 (0,0)) by rw[hp]; exact ql w _ _);obtain⟨bb,Hr⟩:=bH W0.heap.size
 have hd:w.heap.size<=bb:=by omega
 have hA:bb=w.heap.size+2:=by omega
 clear hk hc hsd ht Hc hz;unfold kJ kB
 go_enter Tryz.func32,Tryz.ntmps32
 go_upto_region 1 with(fail)
 rw[<-hp];clear hp;obtain⟨a0,a1,a2,a3,a4,_⟩:=aT HH.o;obtain⟨b0,b1,b2,b3,b4,_⟩:=aT HG.o
 go_upto_region 2 with(fail)
 obtain⟨W1,hy⟩:=bH (W0.alloc (.cells (tZ k c (.slice none 0 0) (.map none) (.slice none 0 0) false false).toArray 130));have Hp:=ag (show kg W1 w.heap.size bb k c (.slice none 0 0) (.map none) (.slice none 0 0) false (nV k c ((zs.map Prod.snd).take 0))from⟨by rw[hy,Hr]; exact ez W0 _,[],rfl,bN _ _ _ _,by simp⟩);have Hh:=ag (show Below w.heap.size w W1 from aj Hq (by rw[hy]; exact eT))
 simp only[tZ,eW,gx,aK,aJ]at hy;rw[<-hy,<-hA];clear hy Hq Hr hA HX a0 a1 a2 a3 a4 b0 b1 b2 b3 b4;go_wp2_with fail
 go_loopw [8] (fun i wr=> ∃(j:Nat) (tv v:Value),j<=n/\i= .int .i64 (j:Int)/\kg wr w.heap.size bb k c tv (.map none) v false (nV k c ((zs.map Prod.snd).take j))/\Below w.heap.size w wr/\(nV k c ((zs.map Prod.snd).take j)).1.length<=j*733) (fun i _=>n-(intOf i).toNat)
 ·exact⟨0,_,_,aR _,rfl,Hp.o,Hh.o,ah _⟩
 ·obtain⟨j,tv,v,hj,rfl,hh,h4,Hx⟩:=hrel;have hx:=ag hh;have Hk:=ag h4;have Hn:=ag Hx;have hF:=bX.same HZ.o.1 (fun i hi=>h4.block i hi);clear hh h4 Hx Hp Hh
  by_cases HP:j<n
  ·obtain⟨z,hz⟩: ∃z,zs[j]? =some z:=⟨zs[j]'(by rw[<-HN.o]; exact HP),by simp⟩;obtain⟨_,sa',sc',he,_,_,h0⟩:=hF
   rcases h0 with h0 | ⟨pb,po,HS,_,hf⟩
   ·have:=HN.o; omega
   ·cases he
    subst HS;have p0:=hf j z.1 (by rw[bm,hz]; rfl);have Hg:=aM hz;obtain⟨He,hl⟩:=HT.o z Hg;have h7:=HZ.o.2 z Hg;obtain⟨ta,tc,hL,_,_,_⟩:=cU.shape h7 mu.len;rw[hL]at p0;obtain⟨tl,HB⟩:=bH z.2.length;rw[<-HB]at p0 hL;have k10:=ar (k:=10) hx.o.box;have g10:=dD (k:=10) hx.o.box;simp only[tZ,eW,gx,aK,aJ,fV]at k10
    have hG:=hx.o.tree (.slice ta tl tc) hd;have hS:=ag (CM (k:=k) (c:=c) (j:=j) (t:=z.2) (show(zs.map Prod.snd)[j]? =some z.2 by rw[bm,hz]; rfl));have Hd:=tU (k:=k) (gs:=[]) (c:=c) HC.o hl He;have Hw:=Hn.o;obtain⟨s2,HR⟩:=bH (nV k c ((zs.map Prod.snd).take j));rw[<-HR]at hG Hw hS;obtain⟨W3,h2⟩:=bH (wr.setCell ⟨bb,10,none⟩ (.slice ta tl tc))
    rw[<-h2]at hG;have hr:Below w.heap.size w W3:=Hk.o.trans hG.2;have hD:=Er (base:=w.heap.size) (bb:=bb) (lg:=false) (tv:= .slice ta tl tc) (gv:= .map none) ⟨HK.o,HC.o,HO.o,kI,hd,He,hl⟩ 514 ⟨#[]⟩ v s2 W3 (by decide) (by decide) hG.1 (.inl ⟨rfl,rfl⟩) (by rw[<-hL]; exact h7.keep (fun i hi=>hr.block i hi)) (by
     have:j*733<=10*733:=dl _ (by omega)
     omega)
    have HD:=ag hD;have hu:=ag hr;have HI:=ag (show(io k [] (dS k [] c z.2 514 ⟨#[]⟩).2 s2).1.length<=(j+1)*733 by
     have:=rS (k:=k) (gs:=[]) (dS k [] c z.2 514 ⟨#[]⟩).2 s2
     omega)
    clear hf Hg He hl h7 hL HB hG Hd Hw hr hD hz
    go_upto_region 6 with(fail)
    rw[<-h2];clear h2 k10 g10 p0;go_wp2_with fail;refine HD.o.mono ?_;rintro e w5 ⟨rfl,v5,hB,hE⟩;have hP:=ag hB;have HE:=ag (hu.o.trans hE.below);clear hB hE;go_wp2_with fail
    go_roundw
    ·exact⟨j+1, .slice ta tl tc,v5,by omega,by go_num,by rw[hS.o]; exact hP.o,HE.o,by rw[hS.o]; exact HI.o⟩
    simp[intOf]; omega
  ·obtain rfl:j=n:=by omega
   clear hF;obtain⟨bs,cl,h3⟩: ∃bs cl,nV k c (zs.map Prod.snd)=(bs,cl):=⟨_,_,rfl⟩;have HA:(zs.map Prod.snd).take j=zs.map Prod.snd:=bo (by rw[aw,<-HN.o]; exact ah _);have Hl:=ag (show uv k c (zs.map Prod.snd)=(cl || !decide ((bs.map fun b=>b.ref.name).Nodup)) by unfold uv Jn; rw[h3]);have hh:=hx.o;rw[HA,h3]at hh
   obtain⟨N,hN⟩:=bH (bs.map fun b=>b.ref.name);rw[<-hN]at Hl;have hY:=ag hN;obtain⟨ys,hI,ho⟩:=hh.own;have hs:ys.map Prod.snd=bs:=hI;obtain⟨av,cvv,hv,hH,hM⟩:=aH ho.row;have Hs:ys.length=bs.length:=by rw[<-hs,aw]
   rw[Hs]at hv hH;obtain⟨bl,hg⟩:=bH bs.length;rw[<-hg]at hv hH;subst hv;unfold maxLen at hM;have hR:=ag hg;have HM:=ag hh;clear h3 HA hh hN hI hs ho Hs hg hx Hn;obtain⟨wo,HW⟩:=bH wr;subst HW;go_wp2_with fail
   go_loopw [9,10] (fun i kk wq=> ∃(m:Nat) (fl:Bool),m<=bl/\i= .int .i64 (m:Int)/\kg wq w.heap.size bb k c tv (.map none) (.slice av bl cvv) false (bs,fl)/\Below w.heap.size w wq/\fl=(cl || !decide ((N.take m).Nodup))) (fun i _ _=>bl-(intOf i).toNat)
   ·exact⟨0,cl,aR _,rfl,HM.o,Hk.o,by simp⟩
   ·obtain⟨m,fl,hm,rfl,Hy,hq,Hu⟩:=hrel;have hZ:=ag Hy;have Hi:=ag hq;have Hm:=ag Hu;clear Hy hq Hu;have k12:=ar (k:=12) hZ.o.box;have k14:=ar (k:=14) hZ.o.box;simp only[tZ,eW,gx,aK,aJ,fV]at k12 k14
    by_cases h8:m<bl
    ·obtain⟨b,hb⟩: ∃b,bs[m]? =some b:=⟨bs[m]'(by rw[<-hR.o]; exact h8),by simp⟩;have HF:=ag hb;have Ho:=ag (show N[m]? =some b.ref.name by rw[hY.o,bm,hb]; rfl);obtain⟨nm,Hb⟩:=bH b.ref.name;rw[<-Hb]at Ho;have HJ:=ag Hb;clear hb Hb;obtain⟨wo2,Hf⟩:=bH wr;subst Hf;go_wp2_with fail;clear k12 k14
     go_loopw [10] (fun kk wq=> ∃(m2:Nat) (f2:Bool),m2<=m/\kk= .int .i64 (m2:Int)/\kg wq w.heap.size bb k c tv (.map none) (.slice av bl cvv) false (bs,f2)/\Below w.heap.size w wq/\f2=(fl || (N.take m2).any (fun y=>decide (y=nm)))) (fun kk _=>m-(intOf kk).toNat)
     ·exact⟨0,fl,aR _,rfl,hZ.o,Hi.o,by simp⟩
     ·obtain⟨m2,f2,HY,rfl,Hz,hr,Ht⟩:=hrel;have hJ:=ag Hz;have hu:=ag hr;have hT:=ag Ht;clear Hz hr Ht
      by_cases HQ:m2<m
      ·have h9:m2<bl:=by omega
       obtain⟨b2,hq⟩: ∃b,bs[m2]? =some b:=⟨bs[m2]'(by rw[<-hR.o]; exact h9),by simp⟩;have hX:=ag (show N[m2]? =some b2.ref.name by rw[hY.o,bm,hq]; rfl);have hO:=ag hq;obtain⟨nk,Ha⟩:=bH b2.ref.name;rw[<-Ha]at hX;have HL:=ag Ha;clear hq Ha;go_wp2_with fail;obtain⟨ys,hs,ho⟩:=hJ.o.own;obtain⟨gb,go,_,_,rfl,p0,-,-,-,-⟩:=AJ hs ho (ak _ _) HF.o
       obtain⟨gb',go',_,_,Hv,q0,-,-,-,-⟩:=AJ hs ho (ak _ _) hO.o;simp only[aV,iK,and_true]at Hv;obtain⟨rfl,rfl⟩:=Hv;rw[<-HJ.o]at p0;rw[<-HL.o]at q0;refine eP (fun w'=>gz bb k c tv (.map none) (.slice (some ⟨gb,go,none⟩) bl cvv) false f2 w'/\w'.cell? ⟨gb,go+m*4,none⟩=some (.string nm)/\w'.cell? ⟨gb,go+m2*4,none⟩=some (.string nk)) (by kernel_rfl) (by kernel_rfl) ?_
       simp only[bu,bw,ay,bp,Nat.reduceAdd,Nat.reduceSub];obtain⟨V,hV⟩:=bH wr.drew;rw[<-hV];have hC:Below wr.heap.size wr V:=by rw[hV]; exact(ak _ _).drew
       have h1:=ag (hJ.o.below hC);have Hj:=ag (hu.o.trans (hC.mono hu.o.size));have SM:=ag (show gz bb k c tv (.map none) (.slice (some ⟨gb,go,none⟩) bl cvv) false f2 V/\V.cell? ⟨gb,go+m*4,none⟩=some (.string nm)/\V.cell? ⟨gb,go+m2*4,none⟩=some (.string nk)from⟨h1.o.box,(hC.cell (p:=⟨gb,go+m*4,none⟩) (cR p0)).trans p0,(hC.cell (p:=⟨gb,go+m2*4,none⟩) (cR q0)).trans q0⟩)
       clear hC hs ho p0 q0 hV hJ
       cases f2 with
       | true=>
        iterate 6 (refine cF rfl SM.o (by rintro w' ⟨ha,hH,hM⟩; unfold gz at ha; have k12:=ar (k:=12) ha; have k14:=ar (k:=14) ha; simp only[tZ,eW,gx,aK,aJ,fV]at k12 k14; clear ha; go_simp; rfl) ?_; simp only[bM])
        iterate 19 (refine MO rfl SM.o ?_; simp only[bM])
        iterate 3 (refine cF rfl SM.o (by rintro w' ⟨ha,hH,hM⟩; unfold gz at ha; have k12:=ar (k:=12) ha; have k14:=ar (k:=14) ha; simp only[tZ,eW,gx,aK,aJ,fV]at k12 k14; clear ha; go_simp; rfl) ?_; simp only[bM])
        refine cH (by kernel_rfl) ?_;refine eX rfl rfl (fun K hK=> ?_);have ha:=SM.o.1;unfold gz at ha;have k14:=ar (k:=14) ha;have kz14:=dD (k:=14) ha;simp only[tZ,eW,gx,aK,aJ,fV]at k14;clear ha;have hf:=kg.clash h1.o (true) hd;have hw:=ag hf;have hU:=ag (show(true)=(fl || (N.take (m2+1)).any (fun y=>decide (y=nm))) by rw[CA hX.o,<-Bool.or_assoc,<-hT.o]; first | rfl | rw[Qj]; rfl)
        clear hf;go_wp2_with fail
        go_roundw
        ·exact⟨m2+1,true,by omega,by go_num,hw.o.1,Hj.o.trans hw.o.2.below,hU.o⟩
        simp[intOf]; omega
       | false=>
        iterate 28 (refine cF rfl SM.o (by rintro w' ⟨ha,hH,hM⟩; unfold gz at ha; have k12:=ar (k:=12) ha; have k14:=ar (k:=14) ha; simp only[tZ,eW,gx,aK,aJ,fV]at k12 k14; clear ha; go_simp; rfl) ?_; simp only[bM])
        refine cH (by kernel_rfl) ?_;refine eX rfl rfl (fun K hK=> ?_);have ha:=SM.o.1;unfold gz at ha;have k14:=ar (k:=14) ha;have kz14:=dD (k:=14) ha;simp only[tZ,eW,gx,aK,aJ,fV]at k14;clear ha;have hf:=kg.clash h1.o ((nm.toList == nk.toList)) hd;have hw:=ag hf;have hU:=ag (show((nm.toList == nk.toList))=(fl || (N.take (m2+1)).any (fun y=>decide (y=nm))) by rw[CA hX.o,<-Bool.or_assoc,<-hT.o]; first | rfl | rw[Qj]; rfl)
        clear hf;go_wp2_with fail
        go_roundw
        ·exact⟨m2+1,(nm.toList == nk.toList),by omega,by go_num,hw.o.1,Hj.o.trans hw.o.2.below,hU.o⟩
        simp[intOf]; omega
      ·obtain rfl:m2=m:=by omega
       have hW:=ag (show f2=(cl || !decide ((N.take (m2+1)).Nodup)) by
        rw[hT.o,Hm.o,FY Ho.o]
        generalize decide ((N.take m2).Nodup)=D
        generalize (N.take m2).any (fun y=>decide (y=nm))=A
        cases cl<;> cases D<;> cases A<;> rfl)
       go_wp2_with fail
       go_roundw
       ·exact⟨m2+1,f2,by omega,by go_num,hJ.o,hu.o,hW.o⟩
       simp[intOf]; omega
    ·obtain rfl:m=bl:=by omega
     have hW:=ag (show fl=uv k c (zs.map Prod.snd) by rw[Hl.o,Hm.o,bo (by rw[hY.o,aw,<-hR.o]; exact ah _)])
     go_wp2_with fail;go_ret;exact⟨cj hW.o,Hi.o⟩
theorem JI {a:Act} {w:World} {b:Nat} {x0 x1 x2 e9 e10:Value} (h:w.heap[b]? =some (.cells #[x0,x1,x2] 26 (0,0)))
  (h8:a.tmps[2]? =some (.pointer (some ⟨b,0,none⟩))) (h9:a.tmps[3]? =some e9) (h10:a.tmps[4]? =some e10):(results Tryz.f35 a.tmps).run Tryz.prog w= .ok (.tuple #[.agg #[x0,x1,x2],e9,e10]) w:=by
 obtain⟨m0,m1,m2,_⟩:=aT h;simp[results,Tryz.results35,go_sem,h8,h9,h10,m0,m1,m2]
theorem JH {a:Act} {w:World} {b:Nat} {a0 a1 a2 x0 x1 x2 e9 e10:Value} {Q:Ending->World->Prop} (h:w.heap[b]? =some (.cells #[a0,a1,a2] 26 (0,0)))
  (h8:a.tmps[2]? =some (.pointer (some ⟨b,0,none⟩))) (h9:a.tmps[3]? =some e9) (h10:a.tmps[4]? =some e10) (hd:a.defers=[])
  (hQ:Q (.returned (.tuple #[.agg #[x0,x1,x2],e9,e10])) (((w.setCell ⟨b,0,none⟩ x0).setCell ⟨b,1,none⟩ x1).setCell ⟨b,2,none⟩ x2)):
  bodyPost Tryz.prog Tryz.f35 Q Exit.ret a (((w.setCell ⟨b,0,none⟩ x0).setCell ⟨b,1,none⟩ x1).setCell ⟨b,2,none⟩ x2):=cS (JI (vK h) h8 h9 h10) hd hQ
def LK (r:bY) (bs:List cQ) (w:World) (e:Ending) (w':World):Prop:=Below w.heap.size w w'/\ ∃a cap zs,e= .returned (.tuple #[eC r, .slice a bs.length cap, .bool true])/\zs.map Prod.snd=bs/\iz w' w.heap.size (.slice a bs.length cap) zs/\bs.length<=cap/\cap<=maxLen
theorem zF (S:Nat->Prop) (tree:List dk) (tv:Value) (w:World) (he:rZ w) (ht:eR S w tv tree) {r:bY} {bs:List cQ} (hb:iA ew ka tree []= .ok (r,bs)):Calls Tryz.prog 35 #[tv] w (LK r bs w):=by
 have HE:=ag he;have HT:=ag ht;have HB:=ag hb;obtain⟨W0,hd⟩:=bH (w.alloc (.cells #[.string ⟨#[]⟩, .int .i64 0, .int .i64 0] 26));have hy:=ag (show Below w.heap.size w W0 by rw[hd]; exact eT);have hD:=ag (show W0.heap[w.heap.size]? =some (.cells #[.string ⟨#[]⟩, .int .i64 0, .int .i64 0] 26 (0,0)) by rw[hd]; exact ez w _);clear he ht hb
 go_enter Tryz.func35,Tryz.ntmps35
 go_wp2_with fail;rw[<-hd];clear hd;refine(tN _).mono ?_;rintro e w1 ⟨rfl,hm⟩;have hz:=ag (aj hy.o hm);have hE:=ag (eA hm hD.o);clear hm;go_wp2_with fail;refine(oI _).mono ?_;rintro e w2 ⟨rfl,hn⟩;have ha:=ag (aj hz.o hn);have hF:=ag (eA hn hE.o);have hw:=ut _ (fun _=>True) ew ka tree [] tv (.map none) w2 (by decide) (HT.o.below ha.o) (.inl ⟨rfl,rfl⟩) (HE.o.below ha.o)
 have hq:=ag hw;clear hn hw;go_wp2_with fail;refine hq.o.mono ?_;rintro e w3 hr;obtain⟨ho,ba,bc,zs,rfl,hx,hv,hs,hu⟩:=hr.flat (show Ri (iA ew ka tree [])=(r,bs,0) by rw[HB.o]; rfl);have hA:=ag (aj ha.o ho);have hG:=ag (eA ho hF.o);have hH:=ag hx;have hk:=ag hv;have hh:=ag (aB hs hu);have hI:w.heap.size<=w2.heap.size:=ha.o.size
 obtain⟨bl,hp⟩:=bH bs.length;have hj:=ag hp;rw[<-hp]at hk hh ⊢;unfold eC;clear hr ho hx hv hs hu hq hp
 go_upto_region 2 with(fail)
 obtain⟨W3,hf⟩:=bH (w3.alloc (.cells #[.string r.name, .int .i64 r.gen, .int .i64 r.size] 26));have hg:=show Below w3.heap.size w3 W3 by rw[hf]; exact eT
 have hC:=ag (show W3.heap[w3.heap.size]? =some (.cells #[.string r.name, .int .i64 r.gen, .int .i64 r.size] 26 (0,0)) by rw[hf]; exact ez w3 _);have hB:=ag (aj hA.o hg);have hc:=ag (eA hg hG.o);have hl:=ag (hk.o.below hg);rw[<-hf];clear hf hg hk;obtain⟨p0,p1,p2,_⟩:=aT hC.o;obtain⟨z0,z1,z2,_⟩:=aT hc.o;obtain⟨y0,y1,y2,_⟩:=gT hc.o
 go_wp2_with fail;refine JH hc.o rfl rfl rfl rfl ?_;refine⟨iu hB.o (ah _),ba,bc,zs,by rw[<-hj.o]; rfl,hH.o, ?_,by rw[<-hj.o]; exact hh.o.1,hh.o.2⟩;rw[<-hj.o];exact hl.o.other hc.o (by decide) (by decide) hI (fun i hi=>eB hi)
end
section
open Go.RowKit
theorem Ei : ∀(cs:List (ByteArray×List UInt8)) (n:ByteArray) (x:List UInt8),(pq cs n x).length<=cs.length+1
 | [],_,_=>by simp[pq]
 | (m,y)::cs,n,x=>by
  unfold pq
  split
  ·simp
  ·have:=Ei cs n x;simp only[ay]; omega
theorem JQ (bs:List cQ):(iH bs).length<=bs.length:=by
 have: ∀(bs:List cQ) (cs:List (ByteArray×List UInt8)),(bs.foldl (fun cs b=>pq cs b.ref.name b.con) cs).length<=cs.length+bs.length:=by
  intro bs
  induction bs with
  | nil=>intro cs; simp
  | cons b bs ih=>
   intro cs;rw[ei,ay];have h1:=ih (pq cs b.ref.name b.con);have h2:=Ei cs b.ref.name b.con;omega
 have h:=this bs [];simp only[bp,bO]at h;exact h
theorem KA {cs:List (ByteArray×List UInt8)} (h:cs.length<=100000) (r:bY):kK (gq cs) (mT cs) r=some (oV cs r)/\ ∀p,fB (gq cs) (mT cs) r ([],[])=some p->p.2.2.length<1099511627775:=by
 obtain⟨x,st',h1,h2⟩:=uZ cs r;refine⟨?_,fun p hp=> ?_⟩
 ·unfold oV;have: ∃y,kK (gq cs) (mT cs) r=some y:=by
   unfold kK
   split
   ·rw[h1]; exact⟨_,rfl⟩
   ·exact⟨_,rfl⟩
  obtain⟨y,hy⟩:=this;rw[hy]; rfl
 ·rw[h1]at hp;simp only[aV]at hp;subst hp;have h3:=mX h2.l1 h2.l2;have h4:=zQ (cs:=cs);have h5:cs.length*3948544<=100000*3948544:=dl _ h;simp only[ay]at h3;simp only;omega
open Go Go.RowKit Go.Maps
theorem zZ {S:Nat->Prop} {w:World} {v:Value} {l:List dk} (h:eR S w v l): ∀e∈l,e.time<9223372036854775808:=by intro e he;obtain⟨a,c,rfl,_⟩:=cU.shape h mu.len;obtain⟨i,hi⟩:=List.mem_iff_getElem?.1 he;obtain⟨_,_,_,_,_,_,_,ha,_⟩:=jN h hi;have:=ha.tim;simp[Lit.wf,IntKind.min,IntKind.max,IntKind.signed,IntKind.bits]at this;omega
theorem ux {k:dq} {gs:List (ByteArray×Int)} {c:fQ} {tree:List dk} (h:sj k gs c tree) (hs:kE tree) {M:List (ByteArray×List UInt8)} (hM:qC k gs M (dS k gs c tree 514 ⟨#[]⟩).2): ∀x∈(dS k gs c tree 514 ⟨#[]⟩).2,x.length<=1048576:=by
 intro x hx;have hz:(bl ⟨#[]⟩).length=0:=rfl
 rcases xz h 514 ⟨#[]⟩ (by omega) (by omega) (nO h.gens h.cut h.ok hs _ _) hM (ah _) x hx with⟨e,he,_,h6⟩ | ⟨f',d',a1,a2,a3,a4,a5,a6,a7⟩
 ·have:=(pG h.cut _ _ h6).2;omega
 ·rw[a6];have:=mW (k:=k) h.gens h.cut h.ok hs f' d';omega
theorem NS {R R':List Value->dk->Prop} {dv tv:Value} {e e':dk} (hs: ∀c x,R c x->c.length=6) (h1: ∀c,R c e->R' ((c.set 4 dv).set 3 tv) e') (h2: ∀c x,R c x->R' c x): ∀(m:Nat) (cells:List Value) (l:List dk),em R cells l->l[m]? =some e->em R' ((cells.set (m*6+4) dv).set (m*6+3) tv) (l.set m e'):=by
 have all: ∀(l:List dk) (cells:List Value),em R cells l->em R' cells l:=by
  intro l
  induction l with
  | nil=>intro cells h; exact h
  | cons x l ih=>
   rintro cells ⟨c,rest,rfl,hc,hr⟩;exact⟨c,rest,rfl,h2 c x hc,ih rest hr⟩
 intro m
 induction m with
 | zero=>
  intro cells l h hm
  cases l with
  | nil=>simp at hm
  | cons x l=>
   obtain⟨c,rest,rfl,hc,hr⟩:=h;have hx:x=e:=by simpa using hm
   subst hx;have hl:=hs c x hc;refine⟨(c.set 4 dv).set 3 tv,rest, ?_,h1 c hc,all l rest hr⟩;rw[List.set_append_left _ _ (by omega),List.set_append_left _ _ (by rw[List.length_set]; omega)]
 | succ m ih=>
  intro cells l h hm
  cases l with
  | nil=>simp at hm
  | cons x l=>
   obtain⟨c,rest,rfl,hc,hr⟩:=h;have hl:=hs c x hc;refine⟨c,(rest.set (m*6+4) dv).set (m*6+3) tv, ?_,h2 c x hc,ih rest l hr (by simpa using hm)⟩;rw[et _ _ (by omega),et _ _ (by omega)]
   congr 3
   ·congr 1; omega
   ·omega
theorem Pj {S:Nat->Prop} {w wc W:World} {n cap nb m:Nat} {cells:List Value} {tree:List dk} {e:dk} {data:List UInt8} {dv:Value} {tm:Int} {cur:Array Value}
  (hr:em (mu S w) cells tree) (hc:cells.length=n*6) (hn:n=tree.length) (hcap:n<=cap/\cap<=maxLen) (hb:wc.heap[nb]? =some (.cells cur 79 (0,0))) (htk:cur.toList.take (n*6)=cells)
  (he:tree[m]? =some e) (hW:W=(wc.setCell ⟨nb,m*6+4,none⟩ dv).setCell ⟨nb,m*6+3,none⟩ (.int .i64 tm))
  (hS: ∀i,S i->W.heap[i]? =w.heap[i]?) (hd:eD S w dv data) (_hdl:data.length<=60) (htw:(Lit.int .i64 tm).wf=true):eR (fun i=>S i\/i=nb) W (.slice (some ⟨nb,0,none⟩) n cap) (tree.set m (uM e data tm)):=by
 have hm:=(aA.1 he).1;have ha:((cells.set (m*6+4) dv).set (m*6+3) (.int .i64 tm)).length=n*6:=by rw[List.length_set,List.length_set,hc]
 have hp:cur.size>=n*6:=by have:=congrArg List.length htk;rw[aW,hc,Array.length_toList]at this;omega
 have hq:eD (fun i=>S i\/i=nb) W dv data:=bX.weak (bX.same hd hS) fun _ h=> .inl h
 have hk:W.heap[nb]? =some (.cells ((cur.setIfInBounds (m*6+4) dv).setIfInBounds (m*6+3) (.int .i64 tm)) 79 (0,0)):=by rw[hW];exact jb (jb hb dv) _
 have hl:(tree.set m (uM e data tm)).length=n:=by rw[List.length_set,hn]
 refine⟨(cells.set (m*6+4) dv).set (m*6+3) (.int .i64 tm),⟨by rw[hl]; exact ha,_,cap,by rw[hl],by rw[hl]; exact hcap.1,hcap.2, .inr ⟨nb,0,rfl, .inr rfl,fun j u hj=> ?_⟩⟩, ?_⟩
 ·have hh:=(aA.1 hj).1;rw[ha]at hh;have ho:cells[j]? =cur[j]? :=by rw[<-htk,List.getElem?_take_of_lt hh,Array.getElem?_toList]
  rw[bO,ar hk,<-hj];rw[List.getElem?_set,List.getElem?_set,Array.getElem?_setIfInBounds,Array.getElem?_setIfInBounds,ho];simp only[List.length_set,hc,Array.size_setIfInBounds];have k1:m*6+3<n*6:=by omega
  have k2:m*6+4<n*6:=by omega
  have k3:m*6+3<cur.size:=by omega
  have k4:m*6+4<cur.size:=by omega
  simp only[k1,k2,k3,k4,if_true]
 ·refine NS (R:=mu S w) (mu.len) (fun c hg=> ?_) (fun c x hg=> ?_) m cells tree hr he
  ·obtain⟨v,rfl,_,hf⟩:=hg;exact⟨dv,rfl,hq,⟨hf.pth,hf.lnk,hf.knd,hf.mde,htw⟩⟩
  ·obtain⟨v,h1,h2,h3⟩:=hg;exact⟨v,h1,bX.weak (bX.same h2 hS) fun _ h=> .inl h,h3⟩
theorem uC {S:Nat->Prop} {w:World} {n:ByteArray} : ∀ {m:List (Value×Value)} {M:List (ByteArray×List UInt8)},dO S w m M->dU M n=none-> ∀p∈m,p.1≠Value.string n
 | [],_,_,_=>by simp
 | _::_,[],h,_=>False.elim h
 | (k,u)::m,(n',b')::M,h,hf=>by
  unfold dU at hf
  by_cases e:n'=n
  ·rw[if_pos e]at hf; cases hf
  ·rw[if_neg e]at hf;intro p hp
   rcases aU.1 hp with rfl | hp
   ·show k≠_
    rw[h.1];exact fun he=>e (by simpa using he)
   ·exact uC h.2.2 hf p hp
theorem dO.to {S T:Nat->Prop} {w w':World} : ∀ {m:List (Value×Value)} {cs:List (ByteArray×List UInt8)},dO S w m cs->(∀v bs,bB S w v bs->bB T w' v bs)->dO T w' m cs
 | [],[],_,_=>trivial
 | [],_::_,h,_=>h
 | _::_,[],h,_=>h
 | (_,_)::_,(_,_)::_,h,hm=>⟨h.1,hm _ _ h.2.1,dO.to h.2.2 hm⟩
def oB (B:Nat) (w:World) (mb:Nat) (M:List (ByteArray×List UInt8)):Prop:=B<=mb/\ ∃m,iQ Tryz.prog 9 w mb m/\dO (· <B) w m M
theorem oB.at {B:Nat} {w:World} {mb:Nat} {M:List (ByteArray×List UInt8)} (h:oB B w mb M):fI (fun _=>True) w (.map (some mb)) M:=by obtain⟨_,m,h1,h2⟩:=h;exact .inr ⟨mb,m,rfl,trivial,h1.is,dO.to h2 (fun v bs hv=>bX.weak hv fun _ _=>trivial)⟩
theorem oB.lt {B:Nat} {w:World} {mb:Nat} {M:List (ByteArray×List UInt8)} (h:oB B w mb M):mb<w.heap.size:=by obtain⟨_,m,h1,_⟩:=h;exact h1.lt
theorem oB.below {B:Nat} {w w':World} {mb:Nat} {M:List (ByteArray×List UInt8)} (h:oB B w mb M) (hb:Below w.heap.size w w'):oB B w' mb M:=by have hl:=h.lt;obtain⟨h0,m,h1,h2⟩:=h;exact⟨h0,m,h1.same (hb.block mb hl),dO.to h2 (fun v bs hv=>bX.same hv (fun i hi=>hb.block i (by omega)))⟩
theorem oB.other {B:Nat} {w w':World} {mb mc:Nat} {M:List (ByteArray×List UInt8)} (h:oB B w mb M) (hg:w.grownBy w' (some mc)) (hne:mb≠mc) (hB:B<=mc):oB B w' mb M:=by have hl:=h.lt;obtain⟨h0,m,h1,h2⟩:=h;exact⟨h0,m,h1.same (hg.block mb hl (by simpa using hne)),dO.to h2 (fun v bs hv=>bX.same hv (fun i hi=>hg.block i (by omega) (by simp; omega)))⟩
theorem oB.grown {B:Nat} {w w':World} {mb:Nat} {m:List (Value×Value)} {M:List (ByteArray×List UInt8)} (h0:B<=mb) (hl:mb<w.heap.size) (h2:dO (· <B) w m M) (hg:w.grownBy w' (some mb)):dO (· <B) w' m M:=
 dO.to h2 (fun v bs hv=>bX.same hv (fun i hi=>hg.block i (by omega) (by simp; omega)))
theorem oB.hit {B:Nat} {w:World} {mb:Nat} {M:List (ByteArray×List UInt8)} (h:oB B w mb M) {n:ByteArray} {x:List UInt8} (hn:n.size<=maxLen) (hf:dU M n=some x):
  ∃v,(Instr.lookup 55 (.map (some mb)) (.string n) true).run Tryz.prog w= .ok (.tuple #[v, .bool true]) w/\bB (· <B) w v x:=by
 obtain⟨_,m,h1,h2⟩:=h;obtain⟨v,hv,hb⟩:=h2.hit hf;exact⟨v,h1.is.hit re (t:=55) (e:=29) ll (qZ hn) hv true,hb⟩
theorem oB.miss {B:Nat} {w:World} {mb:Nat} {M:List (ByteArray×List UInt8)} (h:oB B w mb M) {n:ByteArray} (hn:n.size<=maxLen) (hf:dU M n=none):
  (Instr.lookup 55 (.map (some mb)) (.string n) true).run Tryz.prog w= .ok (.tuple #[.slice none 0 0, .bool false]) w:=by
 obtain⟨_,m,h1,h2⟩:=h;exact h1.is.miss re (t:=55) (e:=29) ll (by kernel_rfl) (qZ hn) (uC h2 hf) true
theorem oB.put {B:Nat} {w:World} {mb:Nat} {M:List (ByteArray×List UInt8)} (h:oB B w mb M) {n:ByteArray} (hf:dU M n=none):
  ∃m,iQ Tryz.prog 9 w mb m/\(∀p∈m,p.1≠Value.string n)/\ ∀(v:Value) (x:List UInt8) (w':World),bB (· <B) w v x->iQ Tryz.prog 9 w' mb (m++[(.string n,v)])->w.grownBy w' (some mb)->oB B w' mb (pq M n x):=by
 have hl:=h.lt;obtain⟨h0,m,h1,h2⟩:=h;have ha:=uC h2 hf;refine⟨m,h1,ha,fun v x w' hv hm hg=>⟨h0,_,hm,dO.miss' (bX.same hv (fun i hi=>hg.block i (by have:i<B:=hi; omega) (by have:i<B:=hi; simp; omega))) (oB.grown h0 hl h2 hg) ha⟩⟩
theorem zY {S:Nat->Prop} {w:World} : ∀ {m:List (Value×Value)} {M:List (ByteArray×List UInt8)},dO S w m M->m.map Prod.fst=M.map fun p=>Value.string p.1
 | [],[],_=>rfl
 | [],_::_,h=>False.elim h
 | _::_,[],h=>False.elim h
 | (_,_)::_,(_,_)::_,h=>by rw[bS,bS,zY h.2.2,h.1]
theorem xo : ∀ {M:List (ByteArray×List UInt8)} {n:ByteArray} {x:List UInt8},dU M n=some x->n∈M.map Prod.fst
 | (a,v)::M,n,x,h=>by
  by_cases e:a=n
  ·simp[e]
  ·rw[show dU ((a,v)::M) n=if a=n then some v else dU M n from rfl,if_neg e]at h;exact eG _ (xo h)
theorem Ab : ∀ {M:List (ByteArray×List UInt8)} {n:ByteArray},n∈M.map Prod.fst-> ∃x,dU M n=some x
 | (a,v)::M,n,h=>by
  rw[show dU ((a,v)::M) n=if a=n then some v else dU M n from rfl]
  by_cases e:a=n
  ·exact⟨v,if_pos e⟩
  ·rw[if_neg e]
   rcases aU.1 h with h | h
   ·exact absurd h.symm e
   ·exact Ab h
theorem DS : ∀ {l U:List ByteArray},l.Nodup->(∀x∈l,x∈U)->l.length<=U.length
 | [],_,_,_=>aR _
 | a::l,U,hn,hs=>by
  obtain⟨h1,h2⟩:=gu.1 hn;obtain⟨s,t,rfl⟩:=iE (hs a (by simp));have h3:=DS (l:=l) (U:=s++t) h2 (fun x hx=>by
   have h4:=hs x (by simp[hx]);simp only[aP,aU]at h4 ⊢
   rcases h4 with h4 | h4 | h4
   ·exact .inl h4
   ·exact absurd (h4▸hx) h1
   ·exact .inr h4)
  simp only[ai,ay]at h3 ⊢;omega
def OW (M A:List (ByteArray×List UInt8)):Prop:= ∀n x,dU M n=some x->dU A n=some x
theorem oB.len {B:Nat} {w:World} {mb:Nat} {M A:List (ByteArray×List UInt8)} (h:oB B w mb M) (hs:OW M A):M.length<=A.length:=by
 obtain⟨_,m,h1,h2⟩:=h;have h3:=h1.nodup;rw[zY h2]at h3;have h4:(M.map Prod.fst).Nodup:=by
  have:(M.map fun p=>Value.string p.1)=(M.map Prod.fst).map Value.string:=by rw[gV]; rfl
  rw[this]at h3;exact List.Pairwise.imp (fun {a b} hab e=>hab (by rw[e])) (fz.1 h3)
 have h5:=DS h4 (U:=A.map Prod.fst) (fun n hn=>by obtain⟨x,hx⟩:=Ab hn;exact xo (hs n x hx))
 rw[aw,aw]at h5;exact h5
theorem OW.put {M A:List (ByteArray×List UInt8)} (h:OW M A) {n:ByteArray} {x:List UInt8} (hx:dU A n=some x):OW (pq M n x) A:=fun a y hy=>by
 rw[rK]at hy
 split at hy
 ·rename_i e;rw[<-e,hx]; exact hy
 ·exact h a y hy
theorem Nx {w:World} {base n sz:Nat} {t:TypeId} {v:Value} {xs:List Value} (h:w.ownsRow base t sz v n xs) (hn:0<n): ∃g cap cur,v= .slice (some ⟨g,0,none⟩) n cap/\base<=g/\w.heap[g]? =some (.cells cur t (0,0))/\n<=cap/\cap<=maxLen/\cur.toList.take (n*sz)=xs/\n*sz<=cur.size:=by
 obtain⟨hl,h2⟩:=h
 rcases h2 with⟨_,h0⟩ | ⟨g,cap,cur,e,h1,h3,h4,h5,_,h6⟩
 ·omega
 ·have h7:=congrArg List.length h6;rw[aW,hl,Array.length_toList]at h7;exact⟨g,cap,cur,e,h1,h3,h4,h5,h6,by omega⟩
theorem zH {w:World} {b k:Nat} {cur:Array Value} {t:TypeId} {z:Nat×Nat} (h:w.heap[b]? =some (.cells cur t z)) (hk:k<cur.size): ∃v,w.cell? ⟨b,k,none⟩=some v:=⟨_,(ar h).trans (Array.getElem?_eq_getElem hk)⟩
theorem De {S:Nat->Prop} {w:World} : ∀ {l:List dk} {cells:List Value},em (mu S w) cells l-> ∀u∈cells,u.oneCell'=true
 | [],cells,h,u,hu=>by rw[show cells=[]from h]at hu; cases hu
 | x::l,cells,h,u,hu=>by
  obtain⟨c,rest,rfl,⟨v,hc,hd,_⟩,hr⟩:=h
  rcases aP.1 hu with hu | hu
  ·subst hc;obtain⟨a,cap,rfl,_⟩:=eD.slice hd;simp only[vR,aU,du,or_false]at hu
   rcases hu with rfl | rfl | rfl | rfl | rfl | rfl<;> rfl
  ·exact De hr u hu
theorem IY {w:World} {base:Nat} {v:Value} {zs:List mp} {bs:List cQ} (hz:zs.map Prod.snd=bs) (h:iz w base v zs) (hr: ∀b∈bs,dZ b.ref):mN (· <w.heap.size) w v bs:=
 ⟨zs,hz,bX.mono (cK h.row) (fun _ hk _=>hk) (by omega),fun z hzm=>⟨bX.mono (cK (h.dat z hzm)) (fun _ hk _=>hk) (by omega),hr _ (by rw[<-hz]; exact aQ.2 ⟨z,hzm,rfl⟩)⟩⟩
theorem zE {S:Nat->Prop} {w:World} {zs:List mp} (h: ∀z∈zs,bB S w z.1 z.2.con/\dZ z.2.ref): ∀u∈iw zs,u.oneCell'=true:=by intro u hu;unfold iw at hu;obtain⟨z,hz,hu⟩:=dt.1 hu;obtain⟨_,a,c,e,_⟩:=id (h z hz).1;rw[e]at hu;exact rI u hu
theorem IQ {cs:List (ByteArray×List UInt8)} {r:bY} {ra:List bY} (h:cs.length<=100000) (hn:oV cs r= .ok ra) (hl:ra.length<=1000):sH cs (oV cs) r:=by
 obtain⟨h1,_⟩:=KA h r;refine⟨mT cs,h1,fun p hp=> ?_⟩;rw[hn,kK]at h1
 split at h1
 ·rw[hp,dE,aV]at h1
  split at h1
  ·simp only[dj]at h1;rw[h1]; omega
  ·simp at h1
 ·simp at h1
theorem yy {x y:List cQ} {b:cQ} :ow x (y++[b])=ow x y+if(dU (iH x) b.ref.name).isSome then(b.con.length:Int)else 0:=by unfold ow;rw[aI,List.sum_append];simp
theorem vM {x y:List cQ} {b:cQ} :lH x (y++[b])=lH x y+if(dU (iH x) b.ref.name).isSome then 0 else(b.con.length:Int):=by unfold lH;rw[aI,List.sum_append];simp
theorem Ck {x:List cQ} : ∀ {y:List cQ},(∀b∈y,b.con.length<=1048576)->(0<=ow x y/\ow x y<=1048576*(y.length:Int))/\0<=lH x y/\lH x y<=1048576*(y.length:Int)
 | [],_=>by simp[ow,lH]
 | b::y,h=>by
  obtain⟨⟨h1,h2⟩,h3,h4⟩:=Ck (x:=x) (y:=y) fun b hb=>h b (by simp[hb])
  have h5:=h b (by simp);unfold ow at h1 h2 ⊢;unfold lH at h3 h4 ⊢;rw[bS,List.sum_cons,bS,List.sum_cons,ay]
  split<;> omega
theorem Qc {x y:List cQ} {b:cQ} {k:Nat} (hb:y[k]? =some b) (hs: ∀b∈y,b.con.length<=1048576) (hl:y.length<=733) (hf:(dU (iH x) b.ref.name).isSome=true):ow x (y.take (k+1))=wrap64 (ow x (y.take k)+(b.con.length:Int))/\lH x (y.take (k+1))=lH x (y.take k):=by
 obtain⟨⟨h1,h2⟩,-,-⟩:=Ck (x:=x) (y:=y.take k) fun b hb=>hs b (List.mem_of_mem_take hb)
 have h5:=hs b (aM hb);have h6:(y.take k).length<=733:=by rw[aW]; omega
 rw[dC hb,yy,vM,if_pos hf,if_pos hf];refine⟨?_,by omega⟩;unfold wrap64;omega
theorem Oi {x y:List cQ} {b:cQ} {k:Nat} (hb:y[k]? =some b) (hs: ∀b∈y,b.con.length<=1048576) (hl:y.length<=733) (hf:(dU (iH x) b.ref.name).isSome=false):ow x (y.take (k+1))=ow x (y.take k)/\lH x (y.take (k+1))=wrap64 (lH x (y.take k)+(b.con.length:Int)):=by
 obtain⟨-,h1,h2⟩:=Ck (x:=x) (y:=y.take k) fun b hb=>hs b (List.mem_of_mem_take hb)
 have h5:=hs b (aM hb);have h6:(y.take k).length<=733:=by rw[aW]; omega
 rw[dC hb,yy,vM,if_neg (by simp[hf]),if_neg (by simp[hf])];refine⟨by omega, ?_⟩;unfold wrap64;omega
theorem Fk {l:List UInt8} {j:Nat} {x:UInt8} (h:l[j]? =some x):(l.take (j+1)).count 47=(l.take j).count 47+if x=47 then 1 else 0:=by
 rw[dC h,List.count_append,List.count_singleton]
 by_cases hx:x=47<;> simp[hx]
theorem xr {x y:List cQ} {b:cQ} {k:Nat} (hb:y[k]? =some b):(lE x (y.take (k+1))).length=(lE x (y.take k)).length+if(dU (iH x) b.ref.name).isSome then 0 else 1:=by
 unfold lE;rw[dC hb,fM,ai,List.filter_cons,List.filter_nil]
 cases(dU (iH x) b.ref.name).isSome<;> rfl
theorem MK {x y:List cQ} :(lE x y).length<=y.length:=dI _ _
theorem Nw {w:World} {base n sz i:Nat} {t:TypeId} {v:Value} {xs:List Value} (h:w.ownsRow base t sz v n xs) (hi:v.ownBlock=some i):base<=i:=by
 rcases h.2 with⟨rfl,_⟩ | ⟨g,cap,cur,rfl,h1,_⟩
 ·cases hi
 ·cases hi; exact h1
theorem Ob (tree:List dk) (iv tm:Int) (data:List UInt8) (tv dv:Value) (w:World) (he:rZ w) (ht:eR (fun _=>True) w tv tree) (hps: ∀e∈tree,e.path.size<=16777216) (hdt:bB (fun _=>True) w dv data) (htw:(Lit.int .i64 tm).wf=true):
  Calls Tryz.prog 13 #[tv, .int .i64 iv,dv, .int .i64 tm] w fun e w'=>e= .returned (.bool true)/\Below w.heap.size w w':=by
 obtain⟨_,xa,xc,rfl,Z5,Z6,-⟩:=id hdt;unfold maxLen at Z6;obtain⟨xl,YU⟩:=bH data.length;rw[<-YU]at hdt Z5 ⊢;have Yb:=ag YU;have Y5:=ag (show bX (· <w.heap.size) w 1 (.slice xa xl xc) data.length (data.map aZ)from bX.mono (show bX (fun _=>True) w 1 (.slice xa xl xc) data.length (data.map aZ)from hdt) (fun _ hk _=>hk) (by omega));have Zb:=ag htw
 clear hdt YU htw;have HE:=ag he;have HT:=ag ht.lts;have ZN:=ag hps;obtain⟨ta,tc,ZI,Z2,Z1,-⟩:=cU.shape ht mu.len;unfold maxLen at Z1;have ZT:=ag (zZ ht);obtain⟨n,hn⟩:=bH tree.length;rw[<-hn]at ZI Z2;have HN:=ag hn;subst ZI;clear he hps ht hn
 go_enter Tryz.func13,Tryz.ntmps13
 go_wp2_with fail;refine(CB _ HE.o).mono ?_;rintro e w1 ⟨rfl,Zr⟩;have Yn:=ag Zr;clear Zr;go_wp2_with fail;obtain⟨sb,YN⟩:=bH (th tree);have YP:=EC _ tree (.slice ta n tc) w1 (HT.o.keep (fun i hi=>Yn.o.block i hi));rw[<-YN]at YP;have ZP:=ag YN;refine YP.mono ?_;rintro e w2 ⟨rfl,Zs⟩;have hS:=ag (aj Yn.o Zs);clear Zs YP YN
 cases sb
 ·go_wp2_with fail;go_ret;exact⟨rfl,hS.o⟩
 obtain⟨x,hx⟩:=bH (iJ tree);have Zx:=PK (· <w.heap.size) tree (.slice ta n tc) x w2 (HT.o.keep (fun i hi=>hS.o.block i hi)) ZN.o hx.symm;have ZJ:=ag hx.symm;have Y4:=ag Zx;clear hx Zx;go_wp2_with fail;refine Y4.o.mono ?_;rintro e w3 ⟨rfl,Zt⟩;have hr:=ag (aj hS.o Zt);clear Zt Y4
 by_cases yn:x=0
 rotate_left
 ·have e1:(x != 0)=true:=by simp[yn]
  go_wp2_with fail;go_ret;exact⟨rfl,hr.o⟩
 subst yn;have hR:=ag (qa.1 ZJ.o);have hP:=ag (show kE tree from by have h1:=ZP.o;unfold th at h1;rw[eq_comm,aE,aG,cB]at h1;exact⟨h1.2,fun e he=>by simpa using h1.1 e he⟩)
 by_cases ZU:iv<0
 ·go_wp2_with fail;go_ret;exact⟨rfl,hr.o⟩
 obtain⟨m,rfl⟩: ∃m:Nat,iv=(m:Int):=⟨iv.toNat,by omega⟩;clear ZU
 by_cases Z8:n<=m
 ·have H6:(m:Int)>=(n:Int):=by omega
  go_wp2_with fail;go_ret;exact⟨rfl,hr.o⟩
 have ZY:m<n:=by omega
 have H6: ¬(n:Int)<=(m:Int):=by omega
 obtain⟨e,he⟩: ∃e,tree[m]? =some e:=⟨tree[m]'(by rw[<-HN.o]; exact ZY),by simp⟩;have hW:=ag he;have ZG:=HT.o.keep (w':=w3) (fun i hi=>hr.o.block i hi);obtain⟨tb,ot,edv,rfl,-,-,-,-,-,d0,d1,d2,d3,d4,d5⟩:=jN ZG he;clear he d2 d3 d4 d5 ZG
 by_cases hk:e.kind=1
 rotate_left
 ·have e1:(e.kind != 1)=true:=by simp[hk]
  go_wp2_with fail;go_ret;exact⟨rfl,hr.o⟩
 rw[hk]at d1;have HK:=ag hk;clear hk
 by_cases YT:60<(xl:Int)
 ·go_wp2_with fail;go_ret;exact⟨rfl,hr.o⟩
 by_cases Z0:tm<0
 ·go_wp2_with fail;go_ret;exact⟨rfl,hr.o⟩
 have ZS:=ag (show 0<=tm by omega);have h7:=ag (show data.length<=60 by rw[<-Yb.o]; omega);obtain⟨cells,Ho,hE⟩:=HT.o;have z8:=ag hE;have hF:cells.length=n*6:=by rw[Ho.1,HN.o]
 have Hw:=ag hF;have YM:=bX.same Ho (fun i hi=>hr.o.block i hi);rw[<-HN.o]at YM;have Zp:=De hE;obtain⟨W3,Ha⟩:=bH (w3.alloc (.cells #[] 79));have Hb:Below w3.heap.size w3 W3:=by rw[Ha]; exact eT
 have hT:=ag (aj hr.o Hb);have z7:=ag (bX.same YM (fun i hi=>Hb.block i (aO hi hr.o.size)));have z3:=ag (show W3.ownsRow w3.heap.size 79 6 (.slice (some ⟨w3.heap.size,0,none⟩) 0 0) 0 [] by rw[Ha];exact cW (e:=79) (size:=6) (base:=w3.heap.size) w3 #[] 0 (ah _) (aR _) (by simp))
 have YX:=ag Zp;have yc:w3.heap.size<=W3.heap.size:=Hb.size;have Zk:=ag yc;have H9:0+n<1099511627775:=by have:=hP.o.len; rw[<-HN.o]at this; omega
 have HA:=ag H9
 go_upto_region 5 with(fail)
 clear Ho hE hF YM Zp Hb yc d0 d1 H6 YT Z0 H9;go_wp2_with (at_builtin; go_must (refine dV Tryz.appEnts rfl _ _ rfl w3.heap.size (.slice (some ⟨w3.heap.size,0,none⟩) 0 0) 0 [] rfl (by rw[<-Ha]; exact z3.o) _ n cells rfl (by rw[<-Ha]; exact z7.o) YX.o HA.o (by rw[<-Ha]; exact Zk.o) ?_); intro v' wc hg ha; obtain⟨nb,ce,cur,rfl,Hk,hh,ZC,Zy,Ht,Zz⟩:=Nx hg (by omega); rw[bO]at ZC Ht Zz ⊢; obtain⟨x3,c3⟩:=zH (k:=m*6+3) hh (by omega); obtain⟨x4,c4⟩:=zH (k:=m*6+4) hh (by omega); have g3:=dD (k:=m*6+3) hh; have g4:=dD (k:=m*6+4) hh; have Y8:=ag (show W3.grownBy wc (some w3.heap.size)from by have h1:=ha; rw[<-Ha]at h1; exact h1); have HH:=ag hh; have Za:=ag (show cur.toList.take (n*6)=cells from Ht); have z0:=ag Hk; have HD:=ag (aB ZC Zy); unfold maxLen at Zy; clear hg ha Ha hh Ht Zz Hk z3 z7)
 obtain⟨V,hV⟩:=bH ((wc.setCell ⟨nb,m*6+4,none⟩ (.slice xa xl xc)).setCell ⟨nb,m*6+3,none⟩ (.int .i64 tm));rw[<-hV];have H0:Below w.heap.size w V:=by have h1:=hr.o.size;have h2:=z0.o;have h3:Below w.heap.size w wc:=hT.o.grown Y8.o hT.o.size (fun i hi=>by cases hi; exact h1);rw[hV];exact vi (vi h3 (by omega)) (by omega)
 obtain⟨NX,h8⟩:=bH (tree.set m (uM e data tm));have YJ:eR (fun i=>i<w.heap.size\/i=nb) V (.slice (some ⟨nb,0,none⟩) n ce) NX:=by
  rw[h8];exact Pj z8.o Hw.o HN.o HD.o HH.o Za.o hW.o hV (fun i hi=>H0.block i hi) (show eD (· <w.heap.size) w (.slice xa xl xc) data from by have h1:=Y5.o;rw[Yb.o];rw[Yb.o]at h1;exact h1) h7.o Zb.o
 have zz:=ag YJ.lts;have Yr:=ag (HT.o.keep (fun i hi=>H0.block i hi)).lts;have hv:=ag (show un NX from by rw[h8]; exact Pz hR.o hW.o HK.o (by have:=h7.o; omega) ZS.o);have ho:=ag (show kE NX from by rw[h8]; exact FW hP.o hW.o h7.o);have ZM:=ag (show sI tree NX e.path from by rw[h8]; exact xV hW.o HK.o);have ZK:=ag (show data=[]-> ∀g∈NX,g.path=e.path->g.data=[]from fun hd=>by rw[h8]; exact Nj hR.o hW.o hd)
 have Ys:=ag (zZ YJ);have Z7:=ag (show n=NX.length from by rw[h8,List.length_set]; exact HN.o);have y2:=ag H0;have Y6:=ag (HE.o.below H0);clear hV H0 h8 YJ Y8 HH Za z0 HD z8 Hw YX Zk HA hT hr hS Yn Y5 Zb HT c3 c4 g3 g4;refine(tN _).mono ?_;rintro e4 w4 ⟨rfl,Hb⟩;have YY:=ag Hb;clear Hb;go_wp2_with fail;refine(oI _).mono ?_
 rintro e4 w5 ⟨rfl,Zu⟩;have YZ:=ag (aj YY.o Zu);clear Zu;obtain⟨W5,Ye⟩:=bH (w5.alloc (.cells #[.slice (some ⟨tb,ot,none⟩) n tc, .slice (some ⟨nb,0,none⟩) n ce] 46));have HY:Below w5.heap.size w5 W5:=by rw[Ye]; exact eT
 have y0:=ag (aj YZ.o HY);have ZH:Ib W5 (.slice (some ⟨w5.heap.size,0,none⟩) 2 2) [(.slice (some ⟨tb,ot,none⟩) n tc,tree),(.slice (some ⟨nb,0,none⟩) n ce,NX)]:=by
  have hx:W5.heap[w5.heap.size]? =some (.cells #[.slice (some ⟨tb,ot,none⟩) n tc, .slice (some ⟨nb,0,none⟩) n ce] 46 (0,0)):=by rw[Ye]; exact ez w5 _
  refine⟨⟨rfl,some ⟨w5.heap.size,0,none⟩,2,rfl,ah _,by unfold maxLen; omega, .inr ⟨w5.heap.size,0,rfl,am hx,fun j u hj=> ?_⟩⟩,fun z hz=> ?_⟩
  ·have h0:=ar (k:=0) hx;have h1:=ar (k:=1) hx
   match j,hj with
   | 0,hj=>exact h0.trans hj
   | 1,hj=>exact h1.trans hj
  ·rcases aU.1 hz with hz | hz
   ·subst hz;exact(Yr.o.keep (fun i hi=>y0.o.block i hi)).lts
   ·rw[aL]at hz;subst hz;exact(zz.o.keep (fun i hi=>y0.o.block i hi)).lts
 have hF:=Gk ew ka [(.slice (some ⟨tb,ot,none⟩) n tc,tree),(.slice (some ⟨nb,0,none⟩) n ce,NX)] (.slice (some ⟨w5.heap.size,0,none⟩) 2 2) W5 (by decide) (by decide) (by decide) ZH (show 2<=10 by omega) (fun z hz=>by
  rcases aU.1 hz with hz | hz
  ·subst hz; exact⟨hR.o,hP.o⟩
  ·rw[aL]at hz; subst hz; exact⟨hv.o,ho.o⟩)
 obtain⟨cb,YD⟩:=bH (uv ew ka [tree,NX]);have Y3:=ag YD;rw[show [((.slice (some ⟨tb,ot,none⟩) n tc:Value),tree),(.slice (some ⟨nb,0,none⟩) n ce,NX)].map Prod.snd=[tree,NX]from rfl,<-YD]at hF;have Hw:=ag hF;clear HY ZH hF YD;go_wp2_with fail;rw[<-Ye];clear Ye;refine Hw.o.mono ?_;rintro e6 w6 ⟨rfl,HY⟩;have hO:=ag (aj y0.o HY);clear HY Hw
 cases cb
 rotate_left
 ·go_wp2_with fail;go_ret;exact⟨rfl,y2.o.trans (hO.o.mono y2.o.size)⟩
 have HC:=ag (show LS ew [] ((dS ew [] ka tree 514 ⟨#[]⟩).2++(dS ew [] ka NX 514 ⟨#[]⟩).2)from by have h1:=Y3.o;unfold uv nV at h1;rw[eq_comm,fX]at h1;exact QK h1.1 h1.2)
 have Yq:=ag (show sj ew [] ka tree from⟨hR.o,by decide,kI,ZT.o⟩);have hJ:=ag (show sj ew [] ka NX from⟨hv.o,by decide,kI,Ys.o⟩);obtain⟨bs1,He⟩:=bH (dR ew [] (dS ew [] ka tree 514 ⟨#[]⟩).2 []);obtain⟨r1,YK⟩:=bH (bF ew [] (dS ew [] ka tree 514 ⟨#[]⟩).1);have hH:=ag He;have HI:=ag YK;have H3:=zF _ tree (.slice (some ⟨tb,ot,none⟩) n tc) w6 (Y6.o.below hO.o) (Yr.o.keep (fun i hi=>hO.o.block i hi)) (r:=r1) (bs:=bs1) (by rw[He,YK]; exact vl (by decide) (by decide) kI hR.o hP.o)
 have Hv:=ag H3;clear He YK H3 Y3;go_wp2_with fail;refine Hv.o.mono ?_;rintro e7 w7 ⟨HZ,ba1,bc1,zs1,rfl,yp,H1,Yx,Yz⟩;unfold maxLen at Yz;have Y0:=ag (aj hO.o HZ);have Hm: ∀b∈bs1,dZ b.ref:=fun b hb=>by obtain⟨x,hx,rfl⟩:=kG (k:=ew) (gs:=[]) (dS ew [] ka tree 514 ⟨#[]⟩).2 b (by rw[<-hH.o]; exact hb);exact iC kI (ux Yq.o hP.o (rL (HC.o.sub fun x hx=>by simp[hx])) x hx)
 have Hc:bs1.length<=733:=by have h1:=pB ew [] (dS ew [] ka tree 514 ⟨#[]⟩).2 [];have h2:=tU (k:=ew) (gs:=[]) (c:=ka) (by decide) hP.o hR.o;rw[<-hH.o]at h1;simp only[bp]at h1;omega
 have Yt:=ag (IY yp H1 Hm);obtain⟨l1,YE⟩:=bH bs1.length;have y3:=ag YE;rw[<-YE]at Yt Yx Hc ⊢;have hu:=ag Hc;have ZO:=ag Hm;unfold eC;clear HZ yp H1 Hm Hc YE Hv
 go_upto_region 10 with(fail)
 obtain⟨W7,Yf⟩:=bH (w7.alloc (.cells #[.string r1.name, .int .i64 r1.gen, .int .i64 r1.size] 26));have hM:=show Below w7.heap.size w7 W7 by rw[Yf]; exact eT
 have Y7:=ag (show W7.heap[w7.heap.size]? =some (.cells #[.string r1.name, .int .i64 r1.gen, .int .i64 r1.size] 26 (0,0)) by rw[Yf]; exact ez w7 _);have y1:=ag (aj Y0.o hM);have Zg:=ag hM;rw[<-Yf];obtain⟨bs2,Hf⟩:=bH (dR ew [] (dS ew [] ka NX 514 ⟨#[]⟩).2 []);obtain⟨r2,YL⟩:=bH (bF ew [] (dS ew [] ka NX 514 ⟨#[]⟩).1);have hs:=ag Hf
 have HJ:=ag YL;have H3:=zF _ NX (.slice (some ⟨nb,0,none⟩) n ce) W7 (Y6.o.below y1.o) (zz.o.keep (fun i hi=>y1.o.block i hi)) (r:=r2) (bs:=bs2) (by rw[Hf,YL]; exact vl (by decide) (by decide) kI hv.o ho.o);have Hv:=ag H3;clear Yf hM Hf YL H3;go_wp2_with fail;refine Hv.o.mono ?_;rintro e8 w8 ⟨Yh,ba2,bc2,zs2,rfl,yv,H2,Yy,YA⟩
 unfold maxLen at YA;have Hu:=ag (aj y1.o Yh);have Hz:=ag (eA Yh Y7.o);have HP:=ag (aj Zg.o Yh);have Hn: ∀b∈bs2,dZ b.ref:=fun b hb=>by obtain⟨x,hx,rfl⟩:=kG (k:=ew) (gs:=[]) (dS ew [] ka NX 514 ⟨#[]⟩).2 b (by rw[<-hs.o]; exact hb);exact iC kI (ux hJ.o ho.o (rL (HC.o.sub fun x hx=>by simp[hx])) x hx)
 have H4: ∀b∈bs2,b.con.length<=1048576:=fun b hb=>by obtain⟨x,hx,rfl⟩:=kG (k:=ew) (gs:=[]) (dS ew [] ka NX 514 ⟨#[]⟩).2 b (by rw[<-hs.o]; exact hb);exact ux hJ.o ho.o (rL (HC.o.sub fun x hx=>by simp[hx])) x hx
 have Hd:bs2.length<=733:=by have h1:=pB ew [] (dS ew [] ka NX 514 ⟨#[]⟩).2 [];have h2:=tU (k:=ew) (gs:=[]) (c:=ka) (by decide) ho.o hv.o;rw[<-hs.o]at h1;simp only[bp]at h1;omega
 have Yu:=ag (IY yv H2 Hn);obtain⟨l2,YF⟩:=bH bs2.length;have hI:=ag YF;rw[<-YF]at Yu Yy Hd ⊢;have hp:=ag Hd;have HG:=ag Hn;have Hx:=ag H4;unfold eC;clear Yh yv H2 Hn Hd YF Hv H4 Y7 Zg
 go_upto_region 11 with(fail)
 obtain⟨W8,Yg⟩:=bH (w8.alloc (.cells #[.string r2.name, .int .i64 r2.gen, .int .i64 r2.size] 26));have hM:=show Below w8.heap.size w8 W8 by rw[Yg]; exact eT
 have ZB:=show W8.heap[w8.heap.size]? =some (.cells #[.string r2.name, .int .i64 r2.gen, .int .i64 r2.size] 26 (0,0)) by rw[Yg]; exact ez w8 _
 have ZA:=eA hM Hz.o;rw[<-Yg];have hG:=ag (aj Hu.o hM);have hY:=ag (Yt.o.below (aj HP.o hM));have hZ:=ag (Yu.o.below hM);have Hr:=ag (show ∀U:World,Below W8.heap.size W8 U->U.heap[w7.heap.size]? =some (.cells #[.string r1.name, .int .i64 r1.gen, .int .i64 r1.size] 26 (0,0))/\U.heap[w8.heap.size]? =some (.cells #[.string r2.name, .int .i64 r2.gen, .int .i64 r2.size] 26 (0,0))from fun U hU=>⟨eA hU ZA,eA hU ZB⟩)
 have y4:=ag (show ∀U:World,Below W8.heap.size W8 U->Below w.heap.size w U from fun U hU=>y2.o.trans ((hG.o.trans (hU.mono hG.o.size)).mono y2.o.size));clear Yg hM ZA ZB Hz HP Yt Yu YY YZ y0 hO Y0 y1 Hu
 go_upto_region 13 with(fail)
 refine eV (fun w'=>w'.heap[w7.heap.size]? =some (.cells #[.string r1.name, .int .i64 r1.gen, .int .i64 r1.size] 26 (0,0))/\w'.heap[w8.heap.size]? =some (.cells #[.string r2.name, .int .i64 r2.gen, .int .i64 r2.size] 26 (0,0))) (by kernel_rfl) ?_;obtain⟨V0,Yw⟩:=bH W8.drew;rw[<-Yw];have YB:Below W8.heap.size W8 V0:=by rw[Yw]; exact(ak _ _).drew
 have Ya:=ag YB;have SV:=ag (Hr.o V0 YB);clear Yw YB
 iterate 2 (refine cF rfl SV.o (by rintro w' ⟨hx,hy⟩; have d0:=bD (k:=0) hx; have d1:=bD (k:=1) hx; have d2:=bD (k:=2) hx; have e0:=bD (k:=0) hy; have e1:=bD (k:=1) hy; have e2:=bD (k:=2) hy; simp only[fV]at d0 d1 d2 e0 e1 e2; clear hx hy; go_simp; rfl) ?_; simp only[bM])
 refine dx 3 rfl SV.o (by rintro w' ⟨hx,hy⟩; have d0:=bD (k:=0) hx; have d1:=bD (k:=1) hx; have d2:=bD (k:=2) hx; have e0:=bD (k:=0) hy; have e1:=bD (k:=1) hy; have e2:=bD (k:=2) hy; simp only[fV]at d0 d1 d2 e0 e1 e2; clear hx hy; go_simp; rfl) ?_;simp only[bM];refine dx 5 rfl SV.o (by rintro w' ⟨hx,hy⟩; have d0:=bD (k:=0) hx; have d1:=bD (k:=1) hx; have d2:=bD (k:=2) hx; have e0:=bD (k:=0) hy; have e1:=bD (k:=1) hy; have e2:=bD (k:=2) hy; simp only[fV]at d0 d1 d2 e0 e1 e2; clear hx hy; go_simp; rfl) ?_
 simp only[bM];obtain⟨zs1,YV,hC,hw⟩:=hY.o;obtain⟨zs2,YW,hD,hA⟩:=hZ.o;have Hp:zs1.length=l1:=by rw[y3.o,<-YV,aw]
 have Hq:zs2.length=l2:=by rw[hI.o,<-YW,aw]
 rw[Hp]at hC;rw[Hq]at hD;have Zi:=ag YV;have Zj:=ag YW;have z5:=ag hC;have z6:=ag hD;have Yo:=ag hw;have Yp:=ag hA;have HQ:=ag Hp;have HR:=ag Hq;have z1:=ag (zE hw);have z2:=ag (zE hA);clear YV YW hC hD hw hA Hp Hq;obtain⟨U1,Yd⟩:=bH (V0.alloc (.cells #[] 53));have Hg:Below V0.heap.size V0 U1:=by rw[Yd]; exact eT
 have HM:=ag (aj Ya.o Hg);have HF:=ag (show U1.ownsRow V0.heap.size 53 4 (.slice (some ⟨V0.heap.size,0,none⟩) 0 0) 0 [] by rw[Yd];exact cW (e:=53) (size:=4) (base:=V0.heap.size) V0 #[] 0 (ah _) (aR _) (by simp))
 have Yv:=ag Hg.size;have Zl:=ag (Hr.o U1 HM.o);have HO:=ag Yd;clear Yd Hg;refine cA 2 rfl (fun K hK=> ?_);go_wp2_with fail;rw[<-HO.o];refine⟨Zl.o, ?_⟩;refine cA 4 rfl (fun K hK=> ?_);have h4:0+l1<1099511627775:=by have:=hu.o; omega
 go_wp2_with (at_builtin; go_must (refine dV Tryz.appBlobs rfl _ _ rfl V0.heap.size (.slice (some ⟨V0.heap.size,0,none⟩) 0 0) 0 [] rfl HF.o _ l1 (iw zs1) rfl (bX.below z5.o (by omega) HM.o) z1.o h4 Yv.o ?_); intro v' U2 hg ha; rw[bO,aJ]at hg; obtain⟨aa,ac,rfl,-,-⟩:=aH hg);have YR:Below W8.heap.size W8 U2:=HM.o.grown ha HM.o.size (fun i hi=>by cases hi; exact Ya.o.size)
 have y7:=ag YR;have Zm:=ag (Hr.o U2 YR);have hX:=ag hg;have HU:=ag (an Yv.o ha.size);clear hg ha YR h4 HF Yv HO Zl SV;refine⟨Zm.o, ?_⟩;refine cA 6 rfl (fun K hK=> ?_);have h6:l1+l2<1099511627775:=by have:=hu.o; have:=hp.o; omega
 go_wp2_with (at_builtin; go_must (refine dV Tryz.appBlobs rfl _ _ rfl V0.heap.size (.slice aa l1 ac) l1 (iw zs1) rfl hX.o _ l2 (iw zs2) rfl (bX.below z6.o (by omega) y7.o) z2.o h6 HU.o ?_); intro v' U3 hg ha; obtain⟨ab,ac2,rfl,-,-⟩:=aH hg);have yl:Below W8.heap.size W8 U3:=y7.o.grown ha y7.o.size (fun i hi=>an Ya.o.size (Nw hX.o hi))
 have Zc:=ag yl;have Zn:=ag (Hr.o U3 yl);have Zw:mN (fun _=>True) U3 (.slice ab (l1+l2) ac2) (bs1++bs2):=⟨zs1++zs2,by rw[aI,Zi.o,Zj.o],by
   rw[ai,HQ.o,HR.o,show iw (zs1++zs2)=iw zs1++iw zs2 from by simp[iw]];exact bX.weak (cK hg) (fun _ _=>trivial),fun z hz=>by
   rcases aP.1 hz with hz | hz
   ·exact⟨bX.weak (bX.below (Yo.o z hz).1 (by omega) yl) (fun _ _=>trivial),(Yo.o z hz).2⟩
   ·exact⟨bX.weak (bX.below (Yp.o z hz).1 (by omega) yl) (fun _ _=>trivial),(Yp.o z hz).2⟩⟩
 have Hh:=qb (fun _=>True) (bs1++bs2) (.slice ab (l1+l2) ac2) U3 Zw (by rw[ai,<-y3.o,<-hI.o]; have:=hu.o; have:=hp.o; omega);unfold Bs at Hh;have Hy:=ag Hh;clear hg ha yl h6 Zw Hh hX HU Zm z5 z6 Yo Yp z1 z2 Zi Zj HQ HR;refine⟨Zn.o, ?_⟩;refine cA 7 rfl (fun K hK=> ?_);go_wp2_with fail;refine Hy.o.mono ?_
 rintro e9 U4 ⟨mb,mm,rfl,Yk,H8,H7,Zv⟩;have y8:=ag (aj Zc.o Zv);have zl:=ag (show fI (fun _=>True) U4 (.map (some mb)) (iH (bs1++bs2))from .inr ⟨mb,mm,rfl,trivial,H8.is,H7⟩);have Zo:=ag (Hr.o U4 y8.o);clear Yk H8 H7 Zv Hy Zn;go_wp2_with fail;refine⟨Zo.o, ?_⟩;obtain⟨ra,rb,Yl,Hk,YH,YI,ZV,ZW,ZF⟩:=Ln Yq.o hJ.o hP.o ho.o HC.o hH.o hs.o
 rw[<-HI.o]at Yl;rw[<-HJ.o]at Hk;have hF:(iH (bs1++bs2)).length<=100000:=by have h1:=JQ (bs1++bs2);rw[ai,<-y3.o,<-hI.o]at h1;have:=hu.o;have:=hp.o;omega
 have ya:dZ r1:=by rw[HI.o]; exact iC kI (by have:=mW (k:=ew) kI (c:=ka) (by decide) hR.o hP.o 514 ⟨#[]⟩; omega)
 have yb:dZ r2:=by rw[HJ.o]; exact iC kI (by have:=mW (k:=ew) kI (c:=ka) (by decide) hv.o ho.o 514 ⟨#[]⟩; omega)
 have Ym:=GA (fun _=>True) (.map (some mb)) (iH (bs1++bs2)) (oV (iH (bs1++bs2))) r1 r2 U4 zl.o (HE.o.below (y4.o U4 y8.o)).env ya yb (IQ hF Yl (by omega)) (IQ hF Hk (by omega)) (fun l h=>Nh h);obtain⟨si,YO⟩:=bH (ow bs1 bs2);obtain⟨so,YQ⟩:=bH (lH bs1 bs2);rw[Yl,Hk,show NZ (.ok ra) (.ok rb)= .ok (su ra rb)from rfl,ZF,<-YO,<-YQ]at Ym
 unfold eC LW at Ym;have z9:=ag Ym;have ZQ:=ag YO;have ZR:=ag YQ;clear Yl Hk YH YI ZV ZW ZF hF ya yb Ym YO YQ ra rb;refine cA 8 rfl (fun K hK=> ?_);go_wp2_with fail;refine z9.o.mono ?_;rintro e10 U5 ⟨HV,rfl⟩;have y9:=ag (aj y8.o HV);have Yc:=ag (Hr.o U5 y9.o);clear HV z9 Zo zl;go_wp2_with fail;refine⟨Yc.o, ?_⟩
 iterate 7 (refine cF rfl Yc.o (by rintro w' ⟨hx,hy⟩; have d0:=bD (k:=0) hx; have d1:=bD (k:=1) hx; have d2:=bD (k:=2) hx; have e0:=bD (k:=0) hy; have e1:=bD (k:=1) hy; have e2:=bD (k:=2) hy; simp only[fV]at d0 d1 d2 e0 e1 e2; clear hx hy; go_simp; rfl) ?_; simp only[bM])
 refine cH (by kernel_rfl) ?_;have Hh:=qb (· <w7.heap.size) bs1 (.slice ba1 l1 bc1) U5 (hY.o.below y9.o) (by have:=hu.o; rw[y3.o]at this; omega);unfold Bs at Hh;have Hy:=ag Hh;clear Hh;go_wp2_with fail;refine Hy.o.mono ?_;rintro e11 U6 ⟨mb2,mm2,rfl,Yk,H8,H7,HX⟩;have Zd:=ag (aj y9.o HX);have Y2:=ag (show oB w7.heap.size U6 mb2 (iH bs1)from⟨an (eZ (am Yc.o.1)) Yk,mm2,H8,H7⟩)
 clear Yk H8 H7 HX Hy Yc y9 y8 Zc y7 HM Ya hY;go_wp2_with fail
 go_loopw [20,21,22,23,24] (fun p q kk _ _ wq=> ∃k:Nat,k<=l2/\kk= .int .i64 (k:Int)/\p= .int .i64 (ow bs1 (bs2.take k))/\q= .int .i64 (lH bs1 (bs2.take k))/\Below U6.heap.size U6 wq) (fun _ _ kk _ _ _=>l2-(intOf kk).toNat)
 ·exact⟨0,aR _,rfl,rfl,rfl,ak _ _⟩
 ·obtain⟨k,hk,rfl,rfl,rfl,hb⟩:=hrel;have HB:=ag hb;have HW:=ag (Zd.o.trans (hb.mono Zd.o.size));clear hb
  by_cases Hs:k<l2
  ·obtain⟨b,hq⟩: ∃b,bs2[k]? =some b:=⟨bs2[k]'(by rw[<-hI.o]; exact Hs),by simp⟩;obtain⟨bk,o,za,zc,rfl,-,-,p0,-,-,p3⟩:=nU hZ.o HW.o hq;have hN:=(HG.o b (aM hq)).nm;have hc:=Y2.o.below HB.o
   cases hf:dU (iH bs1) b.ref.name with
   | some x=>
    obtain⟨v,Hj,-⟩:=hc.hit hN hf;have HS:=ag (Qc hq Hx.o (by rw[<-hI.o]; exact hp.o) (x:=bs1) (by rw[hf]; rfl));obtain⟨nm,hl⟩:=bH b.ref.name;obtain⟨xl2,hm⟩:=bH b.con.length;rw[<-hl]at Hj p0;rw[<-hm]at p3 HS;clear hc hf hN hq hl hm;go_wp2_with fail
    go_roundw
    ·exact⟨k+1,by omega,by go_num,by rw[HS.o.1],by rw[HS.o.2],HB.o⟩
    simp[intOf]; omega
   | none=>
    have hB:=hc.miss hN hf;have HS:=ag (Oi hq Hx.o (by rw[<-hI.o]; exact hp.o) (x:=bs1) (by rw[hf]; rfl));obtain⟨nm,hl⟩:=bH b.ref.name;obtain⟨xl2,hm⟩:=bH b.con.length;rw[<-hl]at hB p0;rw[<-hm]at p3 HS;clear hc hf hN hq hl hm;go_wp2_with fail
    go_roundw
    ·exact⟨k+1,by omega,by go_num,by rw[HS.o.1],by rw[HS.o.2],HB.o⟩
    simp[intOf]; omega
  ·obtain rfl:l2=k:=by omega
   rw[bo (by rw[<-hI.o]; exact ah _),<-ZQ.o,<-ZR.o];obtain⟨wo,Z3⟩:=bH wr;subst Z3;have Y1:=ag HB.o;have Zh:=ag HW.o;have YS:=dm (hR.o.val e (aM hW.o));have Ze:=ag YS;have z4:=ag (show e.path.size<=512 from by rw[bi]; exact mL YS);obtain⟨pz,ZE⟩:=bH e.path.size;have y6:=ag ZE;clear YS ZE HB HW
   go_wp2_with fail
   go_loopw [25,26] (fun lv jj wq=> ∃j:Nat,j<=pz/\jj= .int .i64 (j:Int)/\lv= .int .i64 (((bl e.path).take j).count 47+1:Nat)/\Below wo.heap.size wo wq) (fun _ jj _=>pz-(intOf jj).toNat)
   ·exact⟨0,aR _,rfl,rfl,ak _ _⟩
   ·obtain⟨j,hj,rfl,rfl,hb⟩:=hrel;have HB:=ag hb;have HW:=ag (Zh.o.trans (hb.mono Zh.o.size));clear hb;obtain⟨tb2,ot2,dv2,Zq,-,-,-,-,-,d0,-,-,-,-,-⟩:=jN (Yr.o.keep (w':=wr) (fun i hi=>(hG.o.trans (HW.o.mono hG.o.size)).block i hi)) hW.o;simp only[aV,iK,and_true]at Zq;obtain⟨rfl,rfl⟩:=Zq;have ZZ:pz<=512:=by rw[y6.o]; exact z4.o
    have Yi:((bl e.path).take j).count 47<=512:=by have h1:=List.count_le_length (a:=(47:UInt8)) (l:=(bl e.path).take j);have h2:=z4.o;rw[bi]at h2;rw[aW]at h1;omega
    by_cases Hs:j<pz
    ·have hlt2:j<e.path.size:=by rw[<-y6.o]; exact Hs
     have hL:=ag (Fk (show(bl e.path)[j]? =some (e.path[j]'hlt2) by rw[bn (by rw[<-bi]; exact hlt2)]; rfl))
     by_cases h0:(e.path[j]'hlt2).toNat=47
     ·have h9:(e.path[j]'hlt2)=47:=gw.1 h0;have HL:=ag (show((bl e.path).take (j+1)).count 47=((bl e.path).take j).count 47+1 by rw[hL.o,if_pos h9]);obtain⟨cn,H5⟩:=bH (((bl e.path).take j).count 47);rw[<-H5]at HL Yi ⊢;clear hL H5;go_wp2_with fail
      go_roundw
      ·exact⟨j+1,by omega,by go_num,by rw[HL.o]; go_num,HB.o⟩
      simp[intOf]; omega
     ·have h9: ¬(e.path[j]'hlt2)=47:=fun e'=>h0 (by rw[e']; rfl)
      have HL:=ag (show((bl e.path).take (j+1)).count 47=((bl e.path).take j).count 47 by rw[hL.o,if_neg h9]; rfl);obtain⟨cn,H5⟩:=bH (((bl e.path).take j).count 47);rw[<-H5]at HL Yi ⊢;clear hL H5;go_wp2_with fail
      go_roundw
      ·exact⟨j+1,by omega,by go_num,by rw[HL.o],HB.o⟩
      simp[intOf]; omega
    ·obtain rfl:j=pz:=by omega
     have Ht:(bl e.path).take j=bl e.path:=bo (by rw[<-bi,<-y6.o]; exact ah _);rw[Ht]at Yi ⊢;obtain⟨lv,YG⟩:=bH ((bl e.path).count 47+1);have ZL:=ag YG;rw[<-YG];have ZX:lv<=513:=by omega
     obtain⟨wp,Z4⟩:=bH wr;subst Z4;have hS:=ag HB.o;have Zf:=ag HW.o;have hlt2: ¬j<e.path.size:=by rw[<-y6.o]; exact Hs
     clear YG Ht Yi HB HW;go_wp2_with fail
     go_loopw [27,28,29,30,31,32] (fun nn kk _ _ _ _ wq=> ∃k n:Nat,k<=l2/\kk= .int .i64 (k:Int)/\nn= .int .i64 (n:Int)/\n<=(lE bs1 (bs2.take k)).length/\Below wp.heap.size wp wq) (fun _ kk _ _ _ _ _=>l2-(intOf kk).toNat)
     ·exact⟨0,0,aR _,rfl,rfl,aR _,ak _ _⟩
     ·obtain⟨k,nn,hk,rfl,rfl,ZD,hb⟩:=hrel;have HB:=ag hb;have HW:=ag (Zf.o.trans (hb.mono Zf.o.size));have ga:nn<=733:=by have h1:=MK (x:=bs1) (y:=bs2.take k);rw[aW]at h1;have:=hp.o;omega
      have y5:=ag ZD;clear hb ZD
      by_cases Hs:k<l2
      ·obtain⟨b,hq⟩: ∃b,bs2[k]? =some b:=⟨bs2[k]'(by rw[<-hI.o]; exact Hs),by simp⟩;obtain⟨bk,o,za,zc,rfl,-,YC,p0,-,-,p3⟩:=nU hZ.o HW.o hq;have hN:=(HG.o b (aM hq)).nm;have hc:=Y2.o.below (Y1.o.trans ((hS.o.trans (HB.o.mono hS.o.size)).mono Y1.o.size))
       cases hf:dU (iH bs1) b.ref.name with
       | some x=>
        obtain⟨v,Hj,-⟩:=hc.hit hN hf;have HS:=ag (show(lE bs1 (bs2.take (k+1))).length=(lE bs1 (bs2.take k)).length by rw[xr hq,hf]; rfl);obtain⟨nm,hl⟩:=bH b.ref.name;rw[<-hl]at Hj p0;clear hc hf hN hq hl YC p3;go_wp2_with fail
        go_roundw
        ·exact⟨k+1,nn,by omega,by go_num,rfl,by rw[HS.o]; exact y5.o,HB.o⟩
        simp[intOf]; omega
       | none=>
        have hB:=hc.miss hN hf;have HS:=ag (show(lE bs1 (bs2.take (k+1))).length=(lE bs1 (bs2.take k)).length+1 by rw[xr hq,hf]; rfl);obtain⟨nm,hl⟩:=bH b.ref.name;obtain⟨xl2,hm⟩:=bH b.con.length;have Yj:=uG _ b.con (.slice za b.con.length zc) wr YC (HE.o.below (y4.o wr HW.o)).env;rw[<-hl]at hB p0;rw[<-hm]at p3 Yj;unfold wB at Yj
        have Y9:=ag Yj;clear hc hf hN hq hl hm YC Yj;go_wp2_with fail;refine Y9.o.mono ?_;rintro e12 U7 ⟨HZ,Hl⟩;have hO:=ag (HB.o.trans (HZ.mono HB.o.size));clear HZ Y9
        split at Hl
        ·subst Hl;go_wp2_with fail
         go_roundw
         ·exact⟨k+1,nn,by omega,by go_num,rfl,by rw[HS.o]; have:=y5.o; omega,hO.o⟩
         simp[intOf]; omega
        ·obtain⟨v,rfl,-⟩:=Hl;go_wp2_with fail
         go_roundw
         ·exact⟨k+1,nn+1,by omega,by go_num,by go_num,by rw[HS.o]; have:=y5.o; omega,hO.o⟩
         simp[intOf]; omega
      ·obtain rfl:k=l2:=by omega
       have Hi:xl=0->nn<=lv:=fun h=>by have h1:=JZ Yq.o hJ.o ZM.o Ze.o (ZK.o (List.length_eq_zero_iff.1 (by rw[<-Yb.o]; exact h))) HC.o hH.o hs.o;have h2:=y5.o;rw[bo (by rw[<-hI.o]; exact ah _)]at h2;rw[JP (pT Ze.o)]at h1;have h3:=ZL.o;omega
       by_cases yn:xl=0
       ·have Z9:=Hi yn;subst yn;clear Hi;go_wp2_with fail;go_ret;exact⟨rfl,y4.o wr HW.o⟩
       ·clear Hi;go_wp2_with fail;go_ret;exact⟨rfl,y4.o wr HW.o⟩
end
section
open Go.ChangeShapes Go.WideShapes Go.ChangeAt Go.RowKit Go.Lib Go.Shelf
open Go.ChangeMaps (open_string shut_string)
section
variable {H : Type} {enc : TypeId × Value → H}
end
def Qh :List (String×DataW Unit):=[("math/bits.deBruijn64tab",Rows.laid_math_bits_deBruijn64tab),("kinkeep/sha256.initial",Rows.laid_kinkeep_sha256_initial),("kinkeep/sha256.constants",Rows.laid_kinkeep_sha256_constants),("kinkeep/hmac.pads",Rows.laid_kinkeep_hmac_pads),("unicode/utf8.acceptRanges",Rows.laid_unicode_utf8_acceptRanges),("unicode/utf8.first",Rows.laid_unicode_utf8_first)]
theorem own :ownKnob Tryz.prog.godebug=none:=by kernel_rfl
theorem Jw :(Rows.laid_unicode_utf8_acceptRanges:DataW Unit)=acceptData:=by kernel_rfl
theorem JF :(Rows.laid_math_bits_deBruijn64tab:DataW Unit)=tabData .u8 (Lib.deBruijn64tab.map fun(n:Nat)=>(n:Int)):=by kernel_rfl
theorem FE :(Rows.laid_kinkeep_sha256_initial:DataW Unit)=tabData .u32 (qx.list.map fun(n:Nat)=>(n:Int)):=by kernel_rfl
theorem BJ :(Rows.laid_kinkeep_sha256_constants:DataW Unit)=tabData .u32 (kc.map fun(n:Nat)=>(n:Int)):=by kernel_rfl
theorem PF :(Rows.laid_kinkeep_hmac_pads:DataW Unit)=tabData .u8 [54,92]:=by kernel_rfl
theorem rW {P:Program} {w:World} {n:String} {k:IntKind} {zs:List Int} {g:Nat} {t e:TypeId} {N:Nat} (hg:P.globalNamed n=some g) (hty:(P.globals[g]?).map (·.type)=some t)
  (ht:P.underlying t=some (.array N e)) (he:P.underlying e=some (.int k)) (hce:P.cellsOf e=1) (hct:P.cellsOf t=N) (h:VarReads P w n (tabData k zs)) (j:Nat):w.cell? ⟨g,j,none⟩=(zs.map fun z=>Value.int k z)[j]? :=by
 obtain⟨g',t',cs,fuel,p,hc,ha,hb,hd⟩:=h;obtain rfl:=bt (hg.symm.trans hc);obtain rfl:=bt (hty.symm.trans ha);rw[World.var?_cell hg hb j,<-Array.getElem?_toList,cells_of_tab ht he hce hct hd]
theorem wh {w:World} {b k:Nat} {v:Value} (h:w.cell? ⟨b,k,none⟩=some v):b<w.heap.size:=by
 by_cases hb:b<w.heap.size
 ·exact hb
 ·exfalso
  have:w.heap[b]? =none:=Array.getElem?_eq_none (by omega);simp[World.cell?,this]at h
theorem Qy {W:World} (hL:laidMetH Tryz.prog Qh W) (hsh:W.ShapedOpen Tryz.prog):rZ W:=by
 rw[MakeChecks.laidMetH_plain _ _ _ (by kernel_rfl)]at hL;have h1:=gY hL (.head _);have h2:=gY hL (.tail _ (.head _));have h3:=gY hL (.tail _ (.tail _ (.head _)));have h4:=gY hL (.tail _ (.tail _ (.tail _ (.head _))));have h5:=gY hL (.tail _ (.tail _ (.tail _ (.tail _ (.head _)))));have h6:=gY hL (.tail _ (.tail _ (.tail _ (.tail _ (.tail _ (.head _))))))
 rw[JF]at h1;rw[FE]at h2;rw[BJ]at h3;rw[PF]at h4;rw[Jw]at h5;have c1:=rW (g:=6) (t:=213) (e:=5) (N:=64) (by kernel_rfl) (by kernel_rfl) (by kernel_rfl) (by kernel_rfl) (by kernel_rfl) (by kernel_rfl) h1;have c2:=rW (g:=2) (t:=216) (e:=215) (N:=8) (by kernel_rfl) (by kernel_rfl) (by kernel_rfl) (by kernel_rfl) (by kernel_rfl) (by kernel_rfl) h2
 have c3:=rW (g:=5) (t:=252) (e:=215) (N:=64) (by kernel_rfl) (by kernel_rfl) (by kernel_rfl) (by kernel_rfl) (by kernel_rfl) (by kernel_rfl) h3;have c4:=rW (g:=0) (t:=221) (e:=5) (N:=2) (by kernel_rfl) (by kernel_rfl) (by kernel_rfl) (by kernel_rfl) (by kernel_rfl) (by kernel_rfl) h4;have ha:W.cell? ⟨0,0,none⟩=some (.int .u8 54):=c4 0;have he:W.cell? ⟨0,1,none⟩=some (.int .u8 92):=c4 1
 have hI:ph W:=fun j x hj=>by rw[c2 j];simp[hj,fp]
 have hK:mw W:=fun j x hj=>by rw[c3 j];simp[hj,fp]
 have hD:TabAt 6 Lib.deBruijn64tab W:=fun j hj=>by rw[c1 j];simp[hj]
 have hc:=hI 0 0x6a09e667 rfl;have hd:=hK 0 0x428a2f98 rfl;have hb:=hD 0 (by decide);refine⟨⟨?_, ?_⟩,⟨hI,hK,⟨ha,he⟩,wh hc,wh hd,wh ha⟩,⟨hD,wh hb⟩⟩
 ·exact cell_of_shapedOpen_int (zero:= #[.int .i64 0]) (t:=3) hsh (eS (by kernel_rfl)) (by kernel_rfl) rfl (by kernel_rfl) (by kernel_rfl) gN
 ·exact utf8Tabs_of_readsT (U8Types.of196 Tryz.laysValid) ⟨by kernel_rfl,by kernel_rfl,by kernel_rfl,by kernel_rfl,by kernel_rfl,by kernel_rfl,by kernel_rfl⟩ (Pinned.utf8First_eq▸h6) h5
end
section
open Go Go.RowKit Go.Maps Go.MapKept
theorem dO.len {S:Nat->Prop} {w:World} : ∀ {m:List (Value×Value)} {cs:List (ByteArray×List UInt8)},dO S w m cs->m.length=cs.length
 | [],[],_=>rfl
 | [],_::_,h=>False.elim h
 | _::_,[],h=>False.elim h
 | (_,_)::_,(_,_)::_,h=>by simp[dO.len h.2.2]
theorem dO.vals {S:Nat->Prop} {w:World} : ∀ {m:List (Value×Value)} {cs:List (ByteArray×List UInt8)},dO S w m cs-> ∀p∈m,∃n bs,p.1= .string n/\bB S w p.2 bs
 | [],[],_,_,hp=>by simp at hp
 | [],_::_,h,_,_=>False.elim h
 | _::_,[],h,_,_=>False.elim h
 | (k,v)::m,(n,bs)::cs,h,p,hp=>by
  rcases aU.1 hp with rfl | hp
  ·exact⟨n,bs,h.1,h.2.1⟩
  ·exact dO.vals h.2.2 p hp
end
section
open Go.ChangeShapes Go.WideShapes Go.ChangeAt Go.RowKit Go.Lib Go.Shelf
section
variable {H : Type} {enc : TypeId × Value → H} {P : Program} {W : World} {base : Nat}
theorem Ic (a:Addr) (i j:Nat):(a.add i).add j=a.add (i+j):=by
 unfold Addr.add
 by_cases hi:i=0
 ·simp[hi]
 ·by_cases hj:j=0
  ·simp[hi,hj]
  ·simp[hi,hj]; omega
theorem NV {α:Type} {R:List Value->α->Prop} {t e:TypeId} {sz:Nat} {spare:Nat->Bool} {held:Bool} {fuel:Nat} {cs0:List Value} {y0:DataW H×List MemPlace} (ht:P.underlying t=some (.slice e)) (hc:P.cellsOf e=sz) (hpos:0<sz)
  (hR: ∀n cs y,DataW.trod enc P W base spare held n e cs=some y-> ∃x,R cs x) (hs: ∀c x,R c x->c.length=sz)
  (hf:DataW.trod enc P W base spare held fuel t cs0=some y0): ∃v,cs0=[v]/\ ∃xs:List α,cU (fun _=>True) W sz R v xs:=by
 rcases DataW.trod_slice ht hf with⟨ha,_⟩ | ⟨a,len0,cap0,elems,rest,n,_,ha,_,hb,hl,hm,ho,he,_,_⟩
 ·exact⟨_,ha,[],cU.nil⟩
 ·refine⟨_,ha, ?_⟩;rw[hc]at he;have each: ∀i,i<len0-> ∃cs x,R cs x/\cs.length=sz/\ ∀j,j<sz->W.cell? (a.add (i*sz+j))=cs[j]? :=by intro i hi;have h1:=he i hi;rw[bn (by omega),dz]at h1;obtain⟨cs,ha,hy⟩:=h1;obtain⟨x,hx⟩:=hR n cs _ hy;refine⟨cs,x,hx,hs cs x hx,fun j hj=> ?_⟩;have h3:=World.cells?_some ha;rw[<-Ic];exact h3.2.2 j hj
  have main: ∀m,m<=len0-> ∃(cells:List Value) (xs:List α),xs.length=m/\cells.length=m*sz/\em R cells xs/\ ∀(j:Nat) u,cells[j]? =some u->W.cell? (a.add j)=some u:=by
   intro m
   induction m with
   | zero=>intro _; exact⟨[],[],rfl,by simp,rfl,fun j u hj=>by simp at hj⟩
   | succ m ih=>
    intro hm;obtain⟨cells,xs,h1,h2,h3,h4⟩:=ih (by omega);obtain⟨cs,x,hx,hn,hk⟩:=each m (by omega);refine⟨cells++cs,xs++[x],by simp[h1],by rw[ai,h2,hn,iY]; omega,em.snoc h3 hx,fun j u hj=> ?_⟩
    rcases dN j cells.length with hd | hd
    ·rw[bJ hd]at hj; exact h4 j u hj
    ·rw[bE hd]at hj;have hq:=(aA.1 hj).1;have:=hk (j-cells.length) (by omega);rw[h2,show m*sz+(j-m*sz)=j by omega]at this;rw[this,<-h2]; exact hj
  obtain⟨cells,xs,h1,h2,h3,h4⟩:=main len0 (ah _);subst h1;refine⟨xs,cells,⟨h2,some a,cap0,rfl,hl,hm, ?_⟩,h3⟩
  rcases eI xs.length with h0 | h0
  ·exact .inl h0
  ·right
   have hp:0<cells.length:=by rw[h2]; exact Nat.mul_pos h0 hpos
   have hh:=h4 0 cells[0] (by simp[hp]);have hg:a.spot=none:=by simpa [Addr.add]using World.cell?_spot hh
   obtain⟨b,o,sp⟩:=a;simp only at hg;subst hg;refine⟨b,o,rfl,trivial,fun j u hj=> ?_⟩;have:=h4 j u hj;rw[tA]at this; exact this
end
section
variable {H : Type} {enc : TypeId × Value → H} {W : World} {base b0 : Nat} {spare : Nat → Bool} {held : Bool} {v : Value} {d : DataW H} {ps : List MemPlace}
theorem qd {P:Program} {t:TypeId} {fs:Array Field} {fuel:Nat} {cs:List Value} {x:DataW H×List MemPlace} (ht:P.underlying t=some (.struct fs)) (h:DataW.trod enc P W base spare held fuel t cs=some x) (i:Nat) {f:Field} (hf:fs[i]? =some f):
  ∃n y,DataW.trod enc P W base spare held n f.type ((cs.drop f.offset).take (P.cellsOf f.type))=some y:=by
 obtain⟨xs,n,_,_,_,ha,hF⟩:=DataW.trod_struct ht h;have hi:i<xs.length:=by rw[ha]; exact(aN.1 hf).1
 exact⟨n,xs[i],by rw[hF i f hf]; simp[hi]⟩
theorem GG {P:Program} {t:TypeId} {fs:Array Field} {fuel:Nat} {cs:List Value} {x:DataW H×List MemPlace} (ht:P.underlying t=some (.struct fs)) (h:DataW.trod enc P W base spare held fuel t cs=some x):cs.length=P.cellsOf t:=by obtain⟨xs,n,_,_,hl,_,_⟩:=DataW.trod_struct ht h;exact hl
theorem Mq :Tryz.prog.cellsOf 9=1:=by kernel_rfl
theorem Mp :Tryz.prog.cellsOf 3=1:=by kernel_rfl
theorem Ip :Tryz.prog.cellsOf 5=1:=by kernel_rfl
theorem JL :Tryz.prog.cellsOf 29=1:=by kernel_rfl
theorem CI :Tryz.prog.cellsOf 79=6:=by kernel_rfl
theorem Ra {α:Type} {cs:List α} (h:cs.length=6): ∃c0 c1 c2 c3 c4 c5,cs=[c0,c1,c2,c3,c4,c5]:=by
 match cs,h with
 | [c0,c1,c2,c3,c4,c5],_=>exact⟨c0,c1,c2,c3,c4,c5,rfl⟩
def zw (c:List Value) (b:UInt8):Prop:=c=[aZ b]
theorem AQ {n:Nat} {cs:List Value} {y:DataW H×List MemPlace} (h:DataW.trod enc Tryz.prog W base spare held n 5 cs=some y): ∃b,zw cs b:=by
 obtain⟨a,e,_,hw⟩:=DataW.trod_int Tryz.underlying5 h;have h1:0<=a/\a<=255:=by simp only[Lit.wf,aE,aG]at hw;exact⟨hw.1,hw.2⟩
 refine⟨UInt8.ofNat a.toNat, ?_⟩;unfold zw;rw[mB (by omega),e,Int.toNat_of_nonneg h1.1]
theorem tG {S:Nat->Prop} {w:World} {v:Value} {bs:List UInt8} (h:cU S w 1 zw v bs):bB S w v bs:=by
 obtain⟨cells,h1,h2⟩:=h;have: ∀(bs:List UInt8) (cells:List Value),em zw cells bs->cells=bs.map aZ:=by
  intro bs
  induction bs with
  | nil=>intro cells h; exact h
  | cons x bs ih=>
   rintro cells ⟨c,rest,rfl,hc,hr⟩;rw[ih rest hr,show c=[aZ x]from hc]; rfl
 rw[this bs cells h2]at h1;exact h1
theorem Gl {n:Nat} {cs:List Value} {y:DataW H×List MemPlace} (h:DataW.trod enc Tryz.prog W base spare held n 29 cs=some y): ∃v,cs=[v]/\ ∃bs,bB (fun _=>True) W v bs:=by obtain⟨v,h1,bs,h2⟩:=NV (R:=zw) cV Ip (by omega) (fun n cs y hy=>AQ hy) (fun c x hc=>by rw[show c=[aZ x]from hc]; rfl) h;exact⟨v,h1,bs,tG h2⟩
theorem Fo {S:Nat->Prop} {w:World} {v:Value} {bs:List UInt8} (h:bB S w v bs):eD S w v bs:=h
theorem FZ (hval:Value.okWide Tryz.prog W .any b0 29 v) (h:DataW.Trod enc Tryz.prog W base spare held 29 v d ps): ∃bs,bB (fun _=>True) W v bs:=by obtain⟨a0,len0,cap0,rfl⟩:=okWide_slice cV hval;obtain⟨fuel,hf⟩:=h;obtain⟨u,h1,h2⟩:=Gl hf;simp[Value.cells]at h1;subst h1;exact h2
end
section
variable {H : Type} {enc : TypeId × Value → H}
theorem Rv {C:Checked} {os:Os} {f:FuncId} {fn:Func} {s:OpenSpec} {conds:List PathCond} {apart:Bool} {laid:List (String×DataW Unit)} (modest:Bool) (w0:World) (args:Array Value) (fuel:Nat) (hos:w0.os=os)
  (hsh:(w0.forCall (fun _ _=>0) ⟨#[],args,[]⟩).Shaped C.prog)
  (hok:Input.okWideB C.prog (w0.forCall (fun _ _=>0) ⟨#[],args,[]⟩) f ⟨#[],args,[]⟩=true)
  (hs:(DataW.whole enc C.prog (w0.forCall (fun _ _=>0) ⟨#[],args,[]⟩).memory fn.params.toList s.vars apart args.toList fuel).isSome=true)
  (hconds:conds.all (PathCond.test C.prog ⟨fn.params.toList,(Option.get _ hs).1,s.bare.plain.varTypes C.prog,(Option.get _ hs).2.1⟩)=true) (hkk: ∀k,s.cond=some k->k H ((Option.get _ hs).1++(Option.get _ hs).2.1)=true)
  (hsz:s.bare.sizedB enc C.prog fn apart (w0.forCall (fun _ _=>0) ⟨#[],args,[]⟩).memory args fuel=true) (hl:laidMetH C.prog laid (w0.forCall (fun _ _=>0) ⟨#[],args,[]⟩).memory):
  ∃(w:World) (tape:Tape) (i:Input),w.os=os/\(w.forCall tape i).Shaped C.prog/\i.vars=[]/\Input.okWide C.prog (w.forCall tape i) .any w.heap.size f i/\
   s.preRow enc C.prog fn conds apart laid (w.forCall tape i).memory i.args/\({modest:=modest} :Assume).holds C.prog (lone (Frame.enter C.prog f i.args .normal) [] (w.forCall tape i)):=
 ⟨w0,fun _ _=>0,⟨#[],args,[]⟩,hos,hsh,(Input.okWide_of_okWideB (base:=0) hok).1,(Input.okWide_of_okWideB hok).2,OpenSpec.preRow_of_cond fuel (Option.some_get hs).symm hconds hkk hsz hl,by simp only[Assume.holds];exact⟨by simp,by simp,fun _=>Modest.zero,by simp,by simp⟩⟩
end
theorem uu {H:Type} {d:DataW H} {l:List (DataW H)} (h:d∈l):Rows.uptoBulk d<=Rows.uptoBulkAll l:=by
 induction l with
 | nil=>cases h
 | cons x r ih=>
  simp only[Rows.uptoBulkAll]
  cases aU.1 h with
  | inl e=>subst e; omega
  | inr e=>have:=ih e; omega
theorem Ff {H:Type} {l:List (DataW H)} (hk:Rows.uptoSmall H l=true):Rows.uptoBulkAll l<=1048576:=eS hk
section
variable {H : Type} {enc : TypeId × Value → H} {P : Program} {W : World} {base b0 : Nat} {spare : Nat → Bool} {held : Bool} {v : Value} {d : DataW H} {ps : List MemPlace}
def Cv (d:DataW H):Prop:=Rows.uptoBulk d<=1048576
theorem Mn (d:DataW H):1<=Rows.uptoBulk d:=by
 cases d
 case lit l=>cases l<;> simp[Rows.uptoBulk]
 all_goals simp[Rows.uptoBulk]
theorem CF : ∀(l:List (DataW H)),l.length<=Rows.uptoBulkAll l
 | []=>by simp[Rows.uptoBulkAll]
 | d::l=>by have h1:=CF l;have h2:=Mn d;simp only[Rows.uptoBulkAll,ay]; omega
theorem MJ {l:List (DataW H)} (h:Rows.uptoSmall H l=true) {d:DataW H} (hd:d∈l):Cv d:=an (uu hd) (Ff h)
theorem Lr {es rest:List (DataW H)} (h:Cv (.slice es rest)):es.length<=1048576/\ ∀d∈es,Cv d:=by unfold Cv at h;simp only[Rows.uptoBulk]at h;have h1:=CF es;refine⟨by omega,fun d hd=> ?_⟩;have:=uu hd;unfold Cv; omega
theorem OZ {ds:List (DataW H)} (h:Cv (.agg ds)): ∀d∈ds,Cv d:=fun d hd=>by unfold Cv at h;simp only[Rows.uptoBulk]at h;have:=uu hd;unfold Cv; omega
theorem Aa {P:Program} {t:TypeId} {fs:Array Field} {fuel:Nat} {cs:List Value} {x:DataW H×List MemPlace} (ht:P.underlying t=some (.struct fs)) (h:DataW.trod enc P W base spare held fuel t cs=some x) (hL:Cv x.1) (i:Nat) {f:Field} (hf:fs[i]? =some f):
  ∃n y,DataW.trod enc P W base spare held n f.type ((cs.drop f.offset).take (P.cellsOf f.type))=some y/\Cv y.1:=by
 obtain⟨xs,n,_,hx,_,ha,hF⟩:=DataW.trod_struct ht h;have hi:i<xs.length:=by rw[ha]; exact(aN.1 hf).1
 refine⟨n,xs[i],by rw[hF i f hf]; simp[hi], ?_⟩;rw[hx]at hL;exact OZ hL _ (aQ.2 ⟨_,List.getElem_mem hi,rfl⟩)
theorem Jl {α:Type} {P:Program} {R:List Value->α->Prop} {t e:TypeId} {sz:Nat} {fuel:Nat} {cs0:List Value} {y0:DataW H×List MemPlace} (ht:P.underlying t=some (.slice e)) (hc:P.cellsOf e=sz) (hpos:0<sz)
  (hR: ∀n cs y,DataW.trod enc P W base spare held n e cs=some y->Cv y.1-> ∃x,R cs x) (hs: ∀c x,R c x->c.length=sz)
  (hf:DataW.trod enc P W base spare held fuel t cs0=some y0) (hL:Cv y0.1): ∃v,cs0=[v]/\ ∃xs:List α,cU (fun _=>True) W sz R v xs/\xs.length<=1048576:=by
 rcases DataW.trod_slice ht hf with⟨ha,_⟩ | ⟨a,len0,cap0,elems,rest,n,_,ha,hu,hb,hl,hm,he,hh,_,_⟩
 ·exact⟨_,ha,[],cU.nil,by simp⟩
 ·refine⟨_,ha, ?_⟩;rw[hc]at hh;rw[hu]at hL;obtain⟨hg,hn⟩:=Lr hL;rw[aw,he]at hg;have each: ∀i,i<len0-> ∃cs x,R cs x/\cs.length=sz/\ ∀j,j<sz->W.cell? (a.add (i*sz+j))=cs[j]? :=by intro i hi;have h1:=hh i hi;rw[bn (by omega),dz]at h1;obtain⟨cs,ha,hy⟩:=h1;obtain⟨x,hx⟩:=hR n cs _ hy (hn _ (aQ.2 ⟨_,List.getElem_mem (by omega),rfl⟩));refine⟨cs,x,hx,hs cs x hx,fun j hj=> ?_⟩;have h3:=World.cells?_some ha;rw[<-Ic];exact h3.2.2 j hj
  have main: ∀m,m<=len0-> ∃(cells:List Value) (xs:List α),xs.length=m/\cells.length=m*sz/\em R cells xs/\ ∀(j:Nat) u,cells[j]? =some u->W.cell? (a.add j)=some u:=by
   intro m
   induction m with
   | zero=>intro _; exact⟨[],[],rfl,by simp,rfl,fun j u hj=>by simp at hj⟩
   | succ m ih=>
    intro hm;obtain⟨cells,xs,h1,h2,h3,h4⟩:=ih (by omega);obtain⟨cs,x,hx,hq,hp⟩:=each m (by omega);refine⟨cells++cs,xs++[x],by simp[h1],by rw[ai,h2,hq,iY]; omega,em.snoc h3 hx,fun j u hj=> ?_⟩
    rcases dN j cells.length with hd | hd
    ·rw[bJ hd]at hj; exact h4 j u hj
    ·rw[bE hd]at hj;have hv:=(aA.1 hj).1;have:=hp (j-cells.length) (by omega);rw[h2,show m*sz+(j-m*sz)=j by omega]at this;rw[this,<-h2]; exact hj
  obtain⟨cells,xs,h1,h2,h3,h4⟩:=main len0 (ah _);subst h1;refine⟨xs,⟨cells,⟨h2,some a,cap0,rfl,hl,hm, ?_⟩,h3⟩,hg⟩
  rcases eI xs.length with h0 | h0
  ·exact .inl h0
  ·right
   have hr:0<cells.length:=by rw[h2]; exact Nat.mul_pos h0 hpos
   have ho:=h4 0 cells[0] (by simp[hr]);have hk:a.spot=none:=by simpa [Addr.add]using World.cell?_spot ho
   obtain⟨b,o,sp⟩:=a;simp only at hk;subst hk;refine⟨b,o,rfl,trivial,fun j u hj=> ?_⟩;have:=h4 j u hj;rw[tA]at this; exact this
end
section
variable {H : Type} {enc : TypeId × Value → H} {W : World} {base b0 : Nat} {spare : Nat → Bool} {held : Bool} {v : Value} {d : DataW H} {ps : List MemPlace}
theorem GE {n:Nat} {t:TypeId} {cs:List Value} {x:DataW H×List MemPlace} {P:Program} (ht:P.underlying t=some .string) (h:DataW.trod enc P W base spare held n t cs=some x) (hL:Cv x.1): ∃s:ByteArray,cs=[.string s]/\s.size<=maxLen/\s.size<=1048576:=by obtain⟨s,e,hx,hw⟩:=DataW.trod_string ht h;refine⟨s,e,hw, ?_⟩;rw[hx]at hL;unfold Cv at hL;simp only[Rows.uptoBulk]at hL;have h4:s.data.toList.length=s.size:=rfl;omega
theorem Ew {α:Type} {R:List Value->α->Prop} {X:α->Prop} : ∀ {xs:List α} {cells:List Value},em (fun c x=>R c x/\X x) cells xs->em R cells xs/\ ∀x∈xs,X x
 | [],_,h=>⟨h,by simp⟩
 | x::xs,_,⟨c,rest,e,hx,hr⟩=>by
  obtain⟨h1,h2⟩:=Ew hr;refine⟨⟨c,rest,e,hx.1,h1⟩,fun y hy=> ?_⟩
  rcases aU.1 hy with rfl | hy
  ·exact hx.2
  ·exact h2 y hy
theorem KS {n:Nat} {cs:List Value} {y:DataW H×List MemPlace} (h:DataW.trod enc Tryz.prog W base spare held n 79 cs=some y) (hL:Cv y.1): ∃e,mu (fun _=>True) W cs e/\e.path.size<=1048576/\e.data.length<=1048576:=by
 have hl:=GG gj h;rw[CI]at hl;obtain⟨c0,c1,c2,c3,c4,c5,rfl⟩:=Ra hl;obtain⟨n0,y0,h0,ha⟩:=Aa gj h hL 0 rfl;obtain⟨n1,y1,h1⟩:=qd gj h 1 rfl;obtain⟨n2,y2,h2⟩:=qd gj h 2 rfl;obtain⟨n3,y3,h3⟩:=qd gj h 3 rfl;obtain⟨n4,y4,h4,hb⟩:=Aa gj h hL 4 rfl
 obtain⟨n5,y5,h5⟩:=qd gj h 5 rfl;simp only[List.getElem_toArray,List.getElem_cons_zero,List.getElem_cons_succ,Mq,Mp,JL]at h0 h1 h2 h3 h4 h5;obtain⟨a0,e0,g0,k0⟩:=GE eo h0 ha;obtain⟨a1,e1,_,g1⟩:=DataW.trod_int gN h1;obtain⟨a2,e2,_,g2⟩:=DataW.trod_int gN h2;obtain⟨a3,e3,_,g3⟩:=DataW.trod_int gN h3
 obtain⟨a4,e4,bs,g4,gb⟩:=Jl (R:=zw) cV Ip (by omega) (fun n cs y hy _=>AQ hy) (fun c x hc=>by rw[show c=[aZ x]from hc]; rfl) h4 hb;obtain⟨a5,e5,_,g5⟩:=DataW.trod_string eo h5;simp at e0 e1 e2 e3 e4 e5;subst e0 e1 e2 e3 e4 e5;exact⟨⟨a0,a1,a2,a3,bs,a5⟩,⟨_,rfl,Fo (tG g4),⟨g0,g5,g1,g2,g3⟩⟩,k0,gb⟩
theorem Ga (hval:Value.okWide Tryz.prog W .any b0 46 v) (h:DataW.Trod enc Tryz.prog W base spare held 46 v d ps) (hL:Cv d): ∃xs,eR (fun _=>True) W v xs/\ ∀e∈xs,e.path.size<=1048576/\e.data.length<=1048576:=by
 obtain⟨a0,len0,cap0,rfl⟩:=okWide_slice Tryz.underlying46 hval;obtain⟨fuel,hf⟩:=h;obtain⟨v,h1,xs,⟨cells,h2,h3⟩,_⟩:=Jl (R:=fun c e=>mu (fun _=>True) W c e/\e.path.size<=1048576/\e.data.length<=1048576) Tryz.underlying46 CI (by omega) (fun n cs y hy ha=>KS hy ha) (fun c x hx=>mu.len c x hx.1) hf hL;simp[Value.cells]at h1;subst h1;obtain⟨h4,h5⟩:=Ew h3
 exact⟨xs,⟨cells,h2,h4⟩,h5⟩
end
end
end Go.Proofs.YtpffpjbkbaleiaaGreatDoor
