/- Texts of this proof, one after the other: R16C, R16D, RbE, RgA, LdP, RfsP, NumP, Small, RgC, BuiltA, BlbP, NedQ, LawA, CmpP, CmpQ, CMap, CmpR, Few, Ld24C, LawLod, LawCmp, Frame. -/
import Derived.Test.YtpffpjbkbaleiaaGreatDoorCCompletesH
set_option maxRecDepth 100000
set_option maxHeartbeats 8000000
namespace Go.Proofs.YtpffpjbkbaleiaaGreatDoor
section
open Go Go.RowKit
theorem um {f:Nat->Bool} : ∀ {m k e:Nat},((List.range m).filter f)[k]? =some e->e<m/\f e=true/\((List.range m).filter f).take k=(List.range e).filter f
 | 0,k,e,h=>by simp at h
 | m+1,k,e,h=>by
  rw[lY,gE]at h ⊢
  by_cases hk:k<((List.range m).filter f).length
  ·rw[bH hk]at h;obtain⟨h1,h2,h3⟩:=um h;exact⟨by omega,h2,by rw[fB (by omega)]; exact h3⟩
  ·rw[bC (by omega)]at h
   by_cases hm:f m=true
   ·have h4:[m].filter f=[m]:=by simp[hm]
    rw[h4]at h ⊢;have ha:k-((List.range m).filter f).length=0:=by have:=(aD.1 h).1;simp at this;omega
    rw[ha]at h;simp only[aB,aX]at h;subst h;exact⟨by omega,hm,by rw[List.take_left' (by omega)]⟩
   ·have h4:[m].filter f=[]:=by simp[hm]
    rw[h4]at h;simp at h
def oA (mk:Nat->Bool) (mn n:Nat):List Nat:=ku mk mn (n+1)++[n]
def pC (E:List Nat) (k:Nat):Nat:=if k=0 then 0 else E.getD (k-1) 0
structure Qz (mk : Nat → Bool) (mn n s e : Nat) : Prop where
 le:s<=e
 top:e<=n
 stop:kI mk mn e=true\/e=n
 none: ∀r,s<r->r<e->kI mk mn r=false
theorem Qa {mk:Nat->Bool} {mn n k e:Nat} (h:(oA mk mn n)[k]? =some e):Qz mk mn n (pC (oA mk mn n) k) e:=by
 have ha: ∀j x,(ku mk mn (n+1))[j]? =some x->pC (oA mk mn n) (j+1)=x:=fun j x hx=>by
  unfold pC oA;rw[if_neg (by omega),jB,cM,bH (aD.1 hx).1,hx]
  rfl
 have hg: ∀k,k<=(ku mk mn (n+1)).length->(∀r∈(ku mk mn (n+1)).take k,r<=pC (oA mk mn n) k)/\pC (oA mk mn n) k<=n/\(k=0\/pC (oA mk mn n) k∈(ku mk mn (n+1)).take k):=by
  intro k hk
  cases k with
  | zero=>exact⟨fun r hr=>by simp at hr,by show 0<=n; omega, .inl rfl⟩
  | succ j=>
   obtain⟨x,hx⟩: ∃x,(ku mk mn (n+1))[j]? =some x:=⟨_,bG (by omega)⟩;rw[ha j x hx];obtain⟨h1,h2,h3⟩:=um hx;have h4:(ku mk mn (n+1)).take (j+1)=(List.range x).filter (fun p=>kI mk mn p)++[x]:=by rw[bY,hx];unfold ku;rw[h3]; rfl
   rw[h4];refine⟨fun r hr=> ?_,by omega, .inr (by simp)⟩
   rcases aN.1 hr with hr | hr
   ·have:=dU.1 (dV.1 hr).1;omega
   ·rw[aE.1 hr]; exact ai _
 have hf:k<=(ku mk mn (n+1)).length:=by have:=(aD.1 h).1;unfold oA at this;simp at this;omega
 obtain⟨a1,a2,a3⟩:=hg k hf
 by_cases hk:k<(ku mk mn (n+1)).length
 ·have hx:(ku mk mn (n+1))[k]? =some e:=by unfold oA at h;rw[bH hk]at h;exact h
  obtain⟨h1,h2,h3⟩:=um hx;have hb:(ku mk mn (n+1)).take k=(List.range e).filter (fun p=>kI mk mn p):=h3;refine⟨?_,by omega, .inl h2,fun r hh hc=> ?_⟩
  ·rcases a3 with a3 | a3
   ·rw[a3]; show 0<=e; omega
   ·rw[hb]at a3;have:=dU.1 (dV.1 a3).1;omega
  ·cases hp:kI mk mn r with
   | false=>rfl
   | true=>
    have:=a1 r (by rw[hb]; exact dV.2 ⟨dU.2 hc,hp⟩);omega
 ·have hd:k=(ku mk mn (n+1)).length:=by omega
  have he:e=n:=by unfold oA at h;rw[bC (by omega),hd,eV]at h;simp only[aB,aX]at h;exact h.symm
  refine⟨by rw[he]; exact a2,by omega, .inr he,fun r hh hc=> ?_⟩
  cases hp:kI mk mn r with
  | false=>rfl
  | true=>
   have:=a1 r (by rw[bw (by omega)];unfold ku;exact dV.2 ⟨dU.2 (by omega),hp⟩)
   omega
theorem CS (mk:Nat->Bool) (mn n:Nat):(oA mk mn n).length=(ku mk mn (n+1)).length+1:=by unfold oA; simp
theorem JK (mk:Nat->Bool) (mn n:Nat):pC (oA mk mn n) (oA mk mn n).length=n:=by
 unfold pC;rw[CS,if_neg (by omega),jB,cM];unfold oA;rw[bC (by omega),eV]
 rfl
theorem Ae {E:List Nat} {k e:Nat} (h:E[k]? =some e):pC E (k+1)=e:=by unfold pC;rw[if_neg (by omega),jB,cM,h]; rfl
theorem At {mk:Nat->Bool} {mn mx n s:Nat} {L:List Nat} (h:yy mk mn mx n L s):L.length<=s:=by
 induction h with
 | nil=>simp
 | snoc _ h2 ih=>rw[ag,bB]; have:=h2.1; omega
structure AZ (base g0 : Nat) (w3 wr : World) (o : Value) (L : List Nat) : Prop where
 own:wr.ownsRow base 3 1 o L.length (L.map rS)
 place: ∀k,o.ownBlock=some k->k=g0\/w3.heap.size<=k
 keep: ∀k,k<w3.heap.size->k≠g0->wr.heap[k]? =w3.heap[k]?
 below:Below base w3 wr
theorem AZ.drew {base g0:Nat} {w3 wr:World} {o:Value} {L:List Nat} {nq:Nat} (h:AZ base g0 w3 wr o L):AZ base g0 w3 (wr.drewN nq) o L:=
 ⟨h.own,h.place,h.keep,h.below.trans ⟨rfl,rfl,rfl,ai _,fun _ _=>rfl⟩⟩
theorem AZ.push {base g0:Nat} {w3 wr wc:World} {o o':Value} {L:List Nat} {x l:Nat} (h:AZ base g0 w3 wr o L) (hl:l=L.length) (hb:base<=w3.heap.size) (h1:wc.ownsRow base 3 1 o' (l+1) (L.map rS++[rS x])) (h2:wr.grownBy wc o.ownBlock) (h3: ∀k,o'.ownBlock=some k->o.ownBlock=some k\/wr.heap.size<=k):AZ base g0 w3 wc o' (L++[x]):=by
 subst hl;have hs:=h.below.size;refine⟨by rw[ag,aL]; exact h1,fun k hk=> ?_,fun k hk ha=> ?_,bZ h.below h.own h2 (ai _) (an hb hs)⟩
 ·rcases h3 k hk with h4 | h4
  ·exact h.place k h4
  ·exact .inr (by omega)
 ·refine(h2.block k (by omega) (fun e=> ?_)).trans (h.keep k hk ha)
  rcases h.place k e.symm with h5 | h5
  ·exact ha h5
  ·omega
theorem Ff (S:Nat->Prop) (c:fC) (data:List UInt8) (v:Value) (w:World) (hc:jU c=true) (hs:c.seed<18446744073709551616) (hv:bD S w v data) (hl:data.length<=1048576):
  Calls Tryz.prog 157 #[kB c,v] w fun e w'=> ∃a cap,e= .returned (.slice a (qI (qu c data) c.mn.toNat c.mx.toNat data.length).length cap)/\w'.ownsRow w.heap.size 3 1 (.slice a (qI (qu c data) c.mn.toNat c.mx.toNat data.length).length cap) (qI (qu c data) c.mn.toNat c.mx.toNat data.length).length ((qI (qu c data) c.mn.toNat c.mx.toNat data.length).map rS)/\Below w.heap.size w w':=by
 obtain⟨HD,a,cap,rfl,hn,hm,-⟩:=id hv;unfold maxLen at hm;obtain⟨n,hA⟩:=bI data.length;obtain⟨v1,v2,v3,v4,v5,v6,v7⟩:=lW.1 hc;obtain⟨mn,hP⟩:=bI (c.mn.toNat:Nat);obtain⟨mx,Hg⟩:=bI (c.mx.toNat:Nat);have Ht:=ah (show c.mx=(mx:Int) by omega);have hR:1<=mx/\mx<=32768:=by omega
 obtain⟨mk,hO⟩:=bI (qu c data);obtain⟨W,hW⟩:=bI (w.alloc (.cells #[.int .i64 c.mn, .int .i64 c.mx, .int .i64 c.win, .int .i64 c.bits, .int .u64 (c.seed:Int)] 45));have HB:=ah (show Below w.heap.size w W by rw[hW]; exact eW);have HX:=ah (show iW c w.heap.size W by rw[hW]; exact aG w _);have HV:=ah (show bD S W (.slice a data.length cap) data by rw[hW]; exact cD.below hv (by omega) (eW))
 rw[<-hA]at hl hn HV;rw[<-hP,<-Hg,<-hO,<-hA];have HN:=ah hA;have Hr:=ah hO;have Hs:=ah hP;have HC:=ah hc;have HS:=ah hs;obtain⟨W1,hg⟩:=bI (W.alloc (.cells #[] 3));obtain⟨g0,hx⟩:=bI W.heap.size;have Hu:=ah (show W1.ownsRow W.heap.size 3 1 (.slice (some ⟨g0,0,none⟩) 0 0) 0 (([]:List Nat).map rS) by rw[hg,hx]; exact dp (e:=3) (size:=1) (base:=W.heap.size) W #[] 0 (ai _) (aU _) (by simp))
 have hB:=ah (show Below W.heap.size W W1 by rw[hg]; exact eW);have HO:W1.heap.size=W.heap.size+1:=by rw[hg]; simp
 clear hv HD hA hP hO hc hs v1 v2 v3 v4 v5 v6 v7 Hg;unfold kB
 go_enter Tryz.func157,Tryz.ntmps157
 go_upto_region 1 with fail
 rw[<-hW];clear hW
 go_upto_region 2 with fail
 rw[<-hg,<-hx];clear hg;have h0:=ah hx;have h8:=ah (HX.o.below hB.o);have Hx:=ah (show bD S W1 (.slice a n cap) data from cD.below HV.o (by omega) hB.o);have hU:=h8.o;unfold iW at hU;obtain⟨c0,c1,c2,c3,c4,_⟩:=aS hU;clear hU;go_wp2_with fail;clear c0 c1 c2 c3 c4;refine(yQ S c data _ _ HC.o HS.o Hx.o (by rw[<-HN.o]; exact hl)).mono ?_;rw[<-HN.o,<-Hr.o,<-Hs.o]
 rintro e w2 ⟨a2,c2,rfl,hS,hG⟩;obtain⟨l2,hy⟩:=bI ((ku mk mn (n+1)).length);rw[<-hy]at hS ⊢;have Hp:=ah hy;have hI:=DX mk mn (n+1);rw[<-hy]at hI;have h4:=ah hS;have Hk:=ah hG;have Hj:=hG.size;have hJ:l2<1099511627775:=by omega
 have HZ:=ah (show ∀u∈[Value.int .i64 (n:Int)],u.oneCell'=true by simp[Value.oneCell']);clear hS hG hy hx;go_wp2_with (at_builtin; go_loud (refine bO Tryz.appIntsM rfl _ _ rfl W1.heap.size (.slice a2 l2 c2) l2 ((ku mk mn (n+1)).map rS) rfl w2 [Value.int .i64 (n:Int)] _ rfl rfl HZ.o h4.o hJ Hj ?_); intro v3 w3 ha Hd _ _; obtain⟨ge,c3,rfl⟩:=Joins.ownsRow_form ha (by omega); have hw:=ah (show w3.ownsRow W1.heap.size 3 1 (.slice (some ⟨ge,0,none⟩) (l2+1) c3) (l2+1) ((oA mk mn n).map rS) by unfold oA; rw[aL]; exact ha); have hp:=ah (bZ Hk.o h4.o Hd (ai _) Hj); clear ha Hd)
 obtain⟨N,hN⟩:=bI ((oA mk mn n).length);have Ha:N=l2+1:=by rw[hN,CS,Hp.o]
 have h3:=ah hN;rw[<-Ha]at hw ⊢;have HA:W1.heap.size<=ge/\ge<w3.heap.size:=hw.o.lt ge rfl;have HJ:N<=c3:=by
  obtain⟨a0,c0,he,h1,h2⟩:=aH hw.o
  cases he
  exact h1
 have hY:=ah (show AZ W.heap.size g0 w3 w3 (.slice (some ⟨g0,0,none⟩) 0 0) []from
  ⟨cW Hu.o hp.o,fun k hk=> .inl (by simp[Value.ownBlock]at hk; exact hk.symm),fun k _ _=>rfl,ak _ _⟩)
 have Ho:=ah (show ∀(i e:Nat),(oA mk mn n)[i]? =some e->w3.cell? ⟨ge,i,none⟩=some (.int .i64 (e:Int))from fun i e h=>by have hi:=(aD.1 h).1;rw[hw.o.cellAt i (by omega),bh,h]; rfl)
 have h9:=ah (h8.o.below hp.o);have hH:ge≠g0:=by have:=h0.o; omega
 have hX:w.heap.size≠g0:=by have:=h0.o; have:=am (show W.heap[w.heap.size]? =_ from HX.o); omega
 have Hc:W.heap.size<=w3.heap.size:=by have:=hp.o.size; omega
 have HI:N<=1048578:=by omega
 have Hl:=ah (show Below w.heap.size w w3 from aj HB.o (hB.o.trans (hp.o.mono (by omega))));clear hN Ha
 go_loopw [5,6,8] (fun o f i wr=> ∃(k s l:Nat) (L:List Nat) (ao:Option Addr) (co:Nat),k<=N/\i= .int .i64 (k:Int)/\f= .int .i64 (s:Int)/\o= .slice ao l co/\l=L.length/\s=pC (oA mk mn n) k/\yy mk mn mx n L s/\AZ W.heap.size g0 w3 wr (.slice ao l co) L) (fun _ _ i _=>N-(intOf i).toNat)
 ·exact⟨0,0,0,[],_,_,aU _,rfl,rfl,rfl,rfl,rfl, .nil,hY.o⟩
 ·obtain⟨k,s,l,L,ao,co,hk,rfl,rfl,rfl,hj,Hi,hd,hh⟩:=hrel;have hD:=ah hj;have hF:=ah Hi;have h7:=ah hd;have hC:=ah hh;clear hj Hi hd hh hY
  by_cases HF:k<N
  ·obtain⟨e,he⟩: ∃e,(oA mk mn n)[k]? =some e:=⟨_,bG (show k<(oA mk mn n).length by rw[<-h3.o]; exact HF)⟩;have hu:=ah (Qa he);have Hq:=ah (Ae he);have Hn:=ah (Ho.o k e he);have HG:s<=e:=by rw[hF.o]; exact hu.o.le
   have Hz:e<=n:=hu.o.top;clear he;go_wp2_with fail
   go_loopw [5,6] (fun o f wq=> ∃(s' l':Nat) (L':List Nat) (ao':Option Addr) (co':Nat),s<=s'/\s'<=e/\f= .int .i64 (s':Int)/\o= .slice ao' l' co'/\l'=L'.length/\yy mk mn mx n L' s'/\AZ W.heap.size g0 w3 wq (.slice ao' l' co') L') (fun _ f _=>e-(intOf f).toNat)
   ·exact⟨s,l,L,ao,co,ai _,HG,rfl,rfl,hD.o,h7.o,hC.o⟩
   ·obtain⟨s',l',L',ao',co',HL,HM,rfl,rfl,hj,hd,hh⟩:=hrel;have hf:=ah hj;have hE:=ah hd;have hr:=ah hh;have q0:wr.cell? ⟨ge,k,none⟩=some (.int .i64 (e:Int)):=by rw[<-Hn.o];unfold World.cell?;rw[hr.o.keep ge HA.2 hH]
    have HK:k<c3:=by omega
    have Hf:(k:Int)<(N:Int):=by omega
    clear hj hd hh
    by_cases hL:s'<e
    ·have hM:(s':Int)<(e:Int):=by omega
     have hV:iW c w.heap.size wr:=by unfold iW;rw[hr.o.keep w.heap.size (am h9.o) hX];exact h9.o
     unfold iW at hV;have c1:=bQ (k:=1) hV;simp only[gd]at c1;rw[Ht.o]at c1;clear hV;go_wp2_with fail
     go_quiet (fail)
     obtain⟨z,hz⟩:=bI (min (s'+mx) e);have Hh:min ((s':Int)+(mx:Int)) (e:Int)=(z:Int):=by omega
     rw[Hh];have Hw:=ah (show Bh mk mn mx n s' z by rw[hz];exact NN hR.1 hL Hz hu.o.stop (fun r h1 h2=>hu.o.none r (by rw[<-hF.o]; omega) h2))
     have HP:s'<z/\z<=e:=by omega
     have hq:=ah (hr.o.drew (nq:=nq));obtain⟨W5,Hb⟩:=bI (wr.drewN nq);rw[<-Hb]at hq ⊢;have Hv:=ah (show W5.ownsRow W.heap.size 3 1 (.slice ao' l' co') l' (L'.map rS) by rw[hf.o]; have h1:=hq.o.own; rw[<-hf.o]at h1 ⊢; exact h1);have HH:W.heap.size<=W5.heap.size:=an Hc hq.o.below.size;have HE:l'<1099511627775:=by have h1:=At hE.o;have h2:=hf.o;omega
     have Hy:=ah (show ∀u∈[Value.int .i64 (z:Int)],u.oneCell'=true by simp[Value.oneCell']);clear Hb q0 c1 hz Hh;go_wp2_with (at_builtin; go_loud (refine bO Tryz.appIntsM rfl _ _ rfl W.heap.size (.slice ao' l' co') l' (L'.map rS) rfl W5 [Value.int .i64 (z:Int)] _ rfl rfl Hy.o Hv.o HE HH ?_); intro v6 w6 hb He _ ho; obtain⟨a6,c6,rfl,-,-⟩:=aH hb; have Hm:=ah (hq.o.push hf.o Hc hb He ho); clear hb He ho)
     go_roundw
     ·exact⟨z,l'+1,L'++[z],a6,c6,by omega,by omega,rfl,rfl,by rw[ag,<-hf.o]; rfl,hE.o.snoc Hw.o,Hm.o⟩
     simp[intOf]; omega
    ·have hT:s'=e:=by omega
     subst hT;have hM: ¬(s':Int)<(s':Int):=by omega
     go_wp2_with fail;exact⟨⟨k+1,s',l',L',ao',co',by omega,by go_num,rfl,rfl,hf.o,by rw[Hq.o],hE.o,hr.o⟩,by simp[intOf]; omega⟩
  ·have Hf:k=N:=by omega
   subst Hf;have hZ:=ah (show L=qI mk mn mx n by
    have h1:s=n:=by rw[hF.o,h3.o,JK]
    have h2:=h7.o;rw[h1]at h2;exact h2.det pq)
   go_wp2_with fail;go_ret;exact⟨ao,co,by rw[<-hZ.o,<-hD.o]; rfl,by rw[<-hZ.o]; have h1:=hC.o.own; rw[<-hD.o]at h1 ⊢; exact jb h1 HB.o.size,Hl.o.trans (hC.o.below.mono HB.o.size)⟩
theorem DF {E:List Nat} {x k:Nat} (h:k<=E.length):pC (E++[x]) k=pC E k:=by
 unfold pC
 split
 ·rfl
 ·rw[cM,cM,bH (by omega)]
theorem Ad (E:List Nat):pC E E.length=E.getLast?.getD 0:=by
 unfold pC
 cases E with
 | nil=>rfl
 | cons x E=>rw[if_neg (by simp),cM,List.getLast?_eq_getElem?]
theorem Kf {E:List Nat} {k:Nat} (h:k<=E.length):(E.take k).getLast?.getD 0=pC E k:=by
 have h1:=Ad (E.take k);rw[bn,fx h]at h1;rw[<-h1];unfold pC
 split
 ·rfl
 ·rw[cM,cM,eA,if_pos (by omega)]
theorem Np {mk:Nat->Bool} {mn mx n s:Nat} {E:List Nat} (h:yy mk mn mx n E s): ∀(i e:Nat),E[i]? =some e->pC E i<e/\e<=n:=by
 induction h with
 | nil=>intro i e h; simp at h
 | snoc h1 h2 ih=>
  rename_i l s q;intro i e h
  by_cases hi:i<l.length
  ·rw[bH hi]at h;rw[DF (by omega)];exact ih i e h
  ·have hb:=(aD.1 h).1;rw[ag,bB]at hb;have ha:i=l.length:=by omega
   subst ha;rw[bC (ai _),eV]at h;simp only[aB,aX]at h;subst h;rw[DF (ai _),Ad];have h3:=h1.last;unfold mg at h3;rw[h3];exact⟨h2.1,h2.2.1⟩
structure LN (base g0 : Nat) (w2 wr : World) (o : Value) (ys : List (Value × List UInt8)) : Prop where
 own:wr.ownsRow base 29 1 o ys.length (ys.map Prod.fst)
 dat: ∀y∈ys,wr.ownsRow base 5 1 y.1 y.2.length (y.2.map aY)
 place: ∀k,o.ownBlock=some k->k=g0\/w2.heap.size<=k
 keep: ∀k,k<w2.heap.size->k≠g0->wr.heap[k]? =w2.heap[k]?
 below:Below base w2 wr
theorem LN.push {base g0:Nat} {w2 wr wb wd:World} {o o' pv:Value} {ys:List (Value×List UInt8)} {x:List UInt8} {l:Nat} (h:LN base g0 w2 wr o ys) (hl:l=ys.length) (hb:base<=w2.heap.size) (hwb:Below wr.heap.size wr wb) (hp:wb.ownsRow wr.heap.size 5 1 pv x.length (x.map aY))
  (h1:wd.ownsRow base 29 1 o' (l+1) (ys.map Prod.fst++[pv])) (h2:wb.grownBy wd o.ownBlock) (h3: ∀k,o'.ownBlock=some k->o.ownBlock=some k\/wb.heap.size<=k):LN base g0 w2 wd o' (ys++[(pv,x)]):=by
 subst hl;have hs:=h.below.size;have hd:=hwb.size;have ha:wb.ownsRow base 29 1 o ys.length (ys.map Prod.fst):=cW h.own hwb;refine⟨by rw[ag,aL]; exact h1,fun y hy=> ?_,fun k hk=> ?_,fun k hk hc=> ?_, ?_⟩
 ·rcases aN.1 hy with hy | hy
  ·exact gO (cW (h.dat y hy) hwb) ha h2 (by decide)
  ·rw[aE]at hy;subst hy;exact gO (jb hp (by omega)) ha h2 (by decide)
 ·rcases h3 k hk with h4 | h4
  ·exact h.place k h4
  ·exact .inr (by omega)
 ·refine((h2.block k (by omega) (fun e=> ?_)).trans (hwb.block k (by omega))).trans (h.keep k hk hc)
  rcases h.place k e.symm with h5 | h5
  ·exact hc h5
  ·omega
 ·exact bZ (h.below.trans (hwb.mono (by omega))) ha h2 (ai _) (by omega)
theorem Ev (S:Nat->Prop) (c:fC) (data:List UInt8) (v:Value) (w:World) (hc:jU c=true) (hs:c.seed<18446744073709551616) (hv:bD S w v data) (hl:data.length<=1048576):
  Calls Tryz.prog 125 #[kB c,v] w fun e w'=> ∃(a:Option Addr) (cap:Nat) (ys:List (Value×List UInt8)),e= .returned (.slice a ys.length cap)/\ys.map Prod.snd=fO c data/\w'.ownsRow w.heap.size 29 1 (.slice a ys.length cap) ys.length (ys.map Prod.fst)/\(∀y∈ys,w'.ownsRow w.heap.size 5 1 y.1 y.2.length (y.2.map aY))/\Below w.heap.size w w':=by
 obtain⟨HD,a,cap,rfl,hn,hm,-⟩:=id hv;unfold maxLen at hm;obtain⟨n,hA⟩:=bI data.length;obtain⟨E,hE⟩:=bI (qI (qu c data) c.mn.toNat c.mx.toNat data.length);have Hd:=ah (show fO c data=jO data 0 E by rw[hE]; rfl);have hT:=ah (show yy (qu c data) c.mn.toNat c.mx.toNat data.length E data.length by rw[hE]; exact pq);obtain⟨W,hW⟩:=bI (w.alloc (.cells #[.int .i64 c.mn, .int .i64 c.mx, .int .i64 c.win, .int .i64 c.bits, .int .u64 (c.seed:Int)] 45))
 have HB:=ah (show Below w.heap.size w W by rw[hW]; exact eW);have HX:=ah (show iW c w.heap.size W by rw[hW]; exact aG w _);have hD:=ah (show bD S w (.slice a data.length cap) data from hv);rw[<-hA]at hl hn hD;rw[<-hA];have HN:=ah hA;have Hh:=ah hE;have HC:=ah hc;have HS:=ah hs;obtain⟨W1,ho⟩:=bI (W.alloc (.cells #[] 29));obtain⟨g0,hw⟩:=bI W.heap.size
 have Hn:=ah (show W1.ownsRow w.heap.size 29 1 (.slice (some ⟨g0,0,none⟩) 0 0) 0 (([]:List (Value×List UInt8)).map Prod.fst) by rw[ho,hw]; exact jb (dp (e:=29) (size:=1) (base:=W.heap.size) W #[] 0 (ai _) (aU _) (by simp)) HB.o.size);have hM:=ah (show Below W.heap.size W W1 by rw[ho]; exact eW);have HL:W1.heap.size=W.heap.size+1:=by rw[ho]; simp
 clear hv HD hA hE hc hs;unfold kB
 go_enter Tryz.func125,Tryz.ntmps125
 go_upto_region 1 with fail
 rw[<-hW];clear hW
 go_upto_region 2 with fail
 rw[<-ho,<-hw];clear ho;have Hj:=ah hw;have Hw:=ah (HX.o.below hM.o);have hh:=ah (aj HB.o hM.o);have Hv:=ah (show bD S W1 (.slice a n cap) data from cD.below hD.o (by omega) hh.o);have hL:=Hw.o;unfold iW at hL;obtain⟨c0,c1,c2,c3,c4,_⟩:=aS hL;clear hL;go_wp2_with fail;clear c0 c1 c2 c3 c4;refine(Ff S c data _ _ HC.o HS.o Hv.o (by rw[<-HN.o]; exact hl)).mono ?_
 rw[<-Hh.o];rintro e w2 ⟨a2,c2,rfl,hg,hF⟩;obtain⟨N,hN⟩:=bI E.length;rw[<-hN]at hg ⊢;have hC:=ah hN;have HH:N<=n:=by rw[hN,HN.o]; exact At hT.o
 have HI:N<=c2:=by
  obtain⟨a0,c0,he,h1,h2⟩:=aH hg
  cases he
  exact h1
 have Hg:=ah (show ∀(i e:Nat),E[i]? =some e-> ∃g,a2=some ⟨g,0,none⟩/\g<w2.heap.size/\g≠g0/\w2.cell? ⟨g,i,none⟩=some (.int .i64 (e:Int))from fun i e h=>by
  have hi:=(aD.1 h).1;obtain⟨g,c',he⟩:=Joins.ownsRow_form hg (by omega)
  cases he
  have h1:=hg.lt g rfl;refine⟨g,rfl,h1.2,by have:=Hj.o; omega, ?_⟩;rw[hg.cellAt i (by omega),bh,h]; rfl)
 have hP:=ah (show LN w.heap.size g0 w2 w2 (.slice (some ⟨g0,0,none⟩) 0 0) []from
  ⟨cW Hn.o hF,(fun y hy=>by cases hy),fun k hk=> .inl (by simp[Value.ownBlock]at hk; exact hk.symm),fun k _ _=>rfl,ak _ _⟩)
 have hB:=ah (show Below w.heap.size w w2 from aj hh.o hF);have hX:w.heap.size<=w2.heap.size:=hB.o.size;clear hg hF hN hw;go_wp2_with fail
 go_loopw [5,6,8] (fun o f i wr=> ∃(k s l:Nat) (ys:List (Value×List UInt8)) (ao:Option Addr) (co:Nat),k<=N/\i= .int .i64 (k:Int)/\f= .int .i64 (s:Int)/\o= .slice ao l co/\l=ys.length/\l=k/\s=pC E k/\ys.map Prod.snd=jO data 0 (E.take k)/\LN w.heap.size g0 w2 wr (.slice ao l co) ys) (fun _ _ i _=>N-(intOf i).toNat)
 ·exact⟨0,0,0,[],_,_,aU _,rfl,rfl,rfl,rfl,rfl,rfl,rfl,hP.o⟩
 ·obtain⟨k,s,l,ys,ao,co,hk,rfl,rfl,rfl,h8,h7,Ha,Hb,hY⟩:=hrel;have hj:=ah h8;have Hk:=ah h7;have hG:l<1099511627775:=by omega
  have hU:=ah Ha;have hV:=ah Hb;have hf:=ah hY;clear h8 h7 Ha Hb hY hP
  by_cases HE:k<N
  ·obtain⟨e,he⟩: ∃e,E[k]? =some e:=⟨_,bG (show k<E.length by rw[<-hC.o]; exact HE)⟩;obtain⟨g,rfl,h3,hp,hb⟩:=Hg.o k e he;obtain⟨h9,Hz⟩:=Np hT.o k e he;rw[<-hU.o]at h9;have Hl:=ah (Ae he);have Hu:=ah (show E.take (k+1)=E.take k++[e]from dZ he);have HA:k<=E.length:=by have:=hC.o; omega
   have Hm:=ah (Kf HA);have q0:wr.cell? ⟨g,k,none⟩=some (.int .i64 (e:Int)):=by rw[<-hb];unfold World.cell?;rw[hf.o.keep g h3 hp]
   have He:=ah (show bD S wr (.slice a n cap) data from cD.below hD.o (by omega) (hB.o.trans hf.o.below));obtain⟨sa,sc,hJ,hI⟩:=rJ He.o h9 Hz;obtain⟨x,hx⟩:=bI (ja data s e);obtain⟨m,hz⟩:=bI x.length;rw[<-hx,<-hz]at hJ hI;have Hx:=ah hx;have hR:=ah hz;have HK:m<=n:=by rw[hz,hx]; unfold ja; rw[bn,bz,<-HN.o]; omega
   have Ht:=ah hI;have Hf:=ah hb;clear he hb hx hz hI;have HJ:k<c2:=by omega
   have h4:(k:Int)<(N:Int):=by omega
   have hr:=ah (show Below wr.heap.size wr (wr.alloc (.cells #[] 5))from eW);have hS:=ah (show(wr.alloc (.cells #[] 5)).ownsRow wr.heap.size 5 1 (.slice (some ⟨wr.heap.size,0,none⟩) 0 0) 0 []from dp (e:=5) (size:=1) (base:=wr.heap.size) wr #[] 0 (ai _) (aU _) (by simp));have Hq:=ah (show cD S (wr.alloc (.cells #[] 5)) 1 (.slice sa m sc) m (x.map aY) by have h1:=Ht.o; unfold bD at h1; rw[<-hR.o]at h1; exact cD.below h1 (by omega) hr.o)
   have Hc:wr.heap.size<=(wr.alloc (.cells #[] 5)).heap.size:=hr.o.size;have hH:0+m<1099511627775:=by omega
   have q4:(wr.alloc (.cells #[] 5)).cell? ⟨g,k,none⟩=some (.int .i64 (e:Int)):=(hr.o.cell (p:=⟨g,k,none⟩) (bP q0)).trans q0;have Hp:=ah (show wr.ownsRow w.heap.size 29 1 (.slice ao l co) l (ys.map Prod.fst) by have h1:=hf.o.own; rw[<-hj.o]at h1; exact h1);have HG:w.heap.size<=wr.heap.size:=an hX hf.o.below.size;go_wp2_with (at_builtin; first
    | (refine ew Tryz.appBytes rfl _ _ rfl wr.heap.size (.slice (some ⟨wr.heap.size,0,none⟩) 0 0) 0 [] rfl hS.o (.slice sa m sc) m (x.map aY) rfl Hq.o (fy x) hH Hc ?_; intro v5 w5 ha hZ; rw[bT,aI]at ha; obtain⟨a5,c5,rfl,-,-⟩:=aH ha; have Hr:=ah ha; have hu:=ah (bZ hr.o hS.o hZ (ai _) Hc); have Ho:=ah (cW Hp.o hu.o); have HF:w.heap.size<=w5.heap.size:=an HG hu.o.size; have q5:w5.cell? ⟨g,k,none⟩=some (.int .i64 (e:Int)):=(hu.o.cell (p:=⟨g,k,none⟩) (bP q0)).trans q0; have Hy:=ah (show ∀u∈[Value.slice a5 m c5],u.oneCell'=true by simp[Value.oneCell']); clear ha hZ)
    | (go_loud (refine bO Tryz.appChunks rfl _ _ rfl w.heap.size (.slice ao l co) l (ys.map Prod.fst) rfl w5 [Value.slice a5 m c5] _ rfl rfl Hy.o Ho.o hG HF ?_); intro v6 w6 hd h0 _ hq; obtain⟨a6,c6,rfl,-,-⟩:=aH hd; have hO:=ah (hf.o.push (pv:= .slice a5 m c5) (x:=x) hj.o hX hu.o (by rw[<-hR.o]; exact Hr.o) hd h0 hq); have q6:w6.cell? ⟨g,k,none⟩=some (.int .i64 (e:Int)):=(by rw[<-Hf.o]; unfold World.cell?; rw[hO.o.keep g h3 hp]); clear hd h0 hq))
   have Hs:=ah (show(ys++[((Value.slice a5 m c5:Value),x)]).map Prod.snd=jO data 0 (E.take (k+1)) by rw[Hu.o,lT,Hm.o,<-hU.o,<-Hx.o,<-hV.o,aL]; rfl)
   exact⟨⟨k+1,e,l+1,ys++[(.slice a5 m c5,x)],a6,c6,by omega,by go_num,rfl,rfl,by rw[ag,<-hj.o]; rfl,by rw[Hk.o],by rw[Hl.o],Hs.o,hO.o⟩,by simp[intOf]; omega⟩
  ·have h4:k=N:=by omega
   subst h4;have Hi:=ah (show ys.map Prod.snd=fO c data by rw[hV.o,hC.o,dw,Hd.o]);go_wp2_with fail;go_ret;exact⟨ao,co,ys,by rw[<-hj.o]; rfl,Hi.o,(by have h1:=hf.o.own; rw[hj.o]at h1; exact h1),hf.o.dat,hB.o.trans hf.o.below⟩
open Go Go.RowKit Go.Maps
theorem Mo {G:Prop} (T:Prop) (rest:HdS T->G) (tl:T):G:=rest (ah tl)
theorem dY.keep {S:Nat->Prop} {w w':World} {v:Value} {l:List dd} (h:dY S w v l) (hs: ∀i,S i->w'.heap[i]? =w.heap[i]?):dY S w' v l:=
 cN.same h hs (fun _ _ _ ⟨v,h1,h2,h3⟩=>⟨v,h1,cD.same h2 hs,h3⟩)
structure RdX (base bb : Nat) (k : dl) (c : fC) (gs : List (ByteArray × Int)) (tree : List dd) : Prop where
 keys:jK k=true
 cut:jU c=true
 seed:c.seed<18446744073709551616
 gens:kC gs
 bbb:base<=bb
 tok:Bi tree
 small:nO tree
def PG (base bb:Nat) (k:dl) (c:fC) (tv gv v:Value) (gs:List (ByteArray×Int)) (lg:Bool) (p:List UInt8×List (List UInt8)) (s:List dt×Bool) (w:World) (e:Ending) (w':World):Prop:=
 e= .returned (fi (aV k gs p.1))/\ ∃v',kg w' base bb k c tv gv v' lg (gJ k gs p.2 s)/\jM base bb v v' w w'
def RdC (base bb:Nat) (k:dl) (c:fC) (gs:List (ByteArray×Int)) (tree:List dd) (tv gv:Value) (lg:Bool) (f:Nat):Prop:= ∀(d:ByteArray) (v:Value) (s:List dt×Bool) (w:World),
 (bl d).length<=512->512<f+(bl d).length->kg w base bb k c tv gv v lg s->kZ (· <base) w gv gs->dY (· <base) w tv tree->s.1.length+(df k gs c tree f d).2.length<=1000000->
 Calls Tryz.prog 76 #[.pointer (some ⟨bb,0,none⟩), .string d] w (PG base bb k c tv gv v gs lg (df k gs c tree f d) s w)
def qy (w:World) (base:Nat) (pv:Value) (ys:List (Value×List UInt8)):Prop:=w.ownsRow base 29 1 pv ys.length (ys.map Prod.fst)/\ ∀y∈ys,w.ownsRow base 5 1 y.1 y.2.length (y.2.map aY)
section
variable {w w' wc : World} {base bb M n sz xb q : Nat} {pv rv u v v' tv gv : Value} {ys : List (Value × List UInt8)} {k : dl} {c : fC} {lg : Bool} {s : List dt × Bool} {xs : List Value} {cs : Array Value}
theorem qy.below (h:qy w base pv ys) (hb:Below w.heap.size w w'):qy w' base pv ys:=⟨cW h.1 hb,fun y hy=>cW (h.2 y hy) hb⟩
theorem qy.kp (h:qy w base pv ys) (hr:kg w base bb k c tv gv v lg s) (hk:jM base bb v v' w w'):qy w' base pv ys:=⟨jM.row hr hk h.1 (by decide) (by decide),fun y hy=>jM.row hr hk (h.2 y hy) (by decide) (by decide)⟩
theorem qy.push (h:qy w base pv ys) (hrow:w.ownsRow M 26 sz rv n xs) (hg:w.grownBy wc rv.ownBlock) (hx:wc.heap[xb]? =some (.cells cs 28 (0,0))):qy (wc.setCell ⟨xb,q,none⟩ u) base pv ys:=by
 have key: ∀ {t:TypeId} {n' z:Nat} {v':Value} {xs':List Value},w.ownsRow base t z v' n' xs'->t≠26->t≠28->(wc.setCell ⟨xb,q,none⟩ u).ownsRow base t z v' n' xs':=fun hr h1 h2=>by have h3:=gO hr hrow hg h1;refine ff h3 (fun i hi hu=>ay _ _ _ _ (fun e=> ?_));obtain⟨cs2,ha⟩:=bJ h3 hu;exact h2 (bU (e▸ha) hx)
 exact⟨key h.1 (by decide) (by decide),fun y hy=>key (h.2 y hy) (by decide) (by decide)⟩
theorem qy.grown (h:qy w base pv ys) (hrow:w.ownsRow M 26 sz rv n xs) (hg:w.grownBy wc rv.ownBlock):qy wc base pv ys:=
 ⟨gO h.1 hrow hg (by decide),fun y hy=>gO (h.2 y hy) hrow hg (by decide)⟩
theorem qy.at' {b o n cap m:Nat} {y:Value×List UInt8} (h:qy w base (.slice (some ⟨b,o,none⟩) n cap) ys) (hy:ys[m]? =some y):w.cell? ⟨b,o+m,none⟩=some y.1:=by
 obtain⟨_,a,cap,e,_,_,h0⟩:=cJ h.1;have ha:=(aD.1 hy).1
 rcases h0 with h0 | ⟨b',o',rfl,_,hc⟩
 ·omega
 ·cases e
  exact hc m y.1 (by rw[bh,hy]; rfl)
theorem zg.grown {it:cj} {v3 iv:Value} {rs:List cH} {its:List cj} (h:zg w base bb k c tv gv v lg M xb w' v3 iv s its rv it rs) (hg:w'.grownBy wc rv.ownBlock):wc.heap[xb]? =some (.cells (fu rv it).toArray 28 (0,0)):=
 (hg.block xb (am h.box) (fun e=>by obtain⟨cs2,hc2⟩:=bJ h.row e.symm;exact absurd (bU h.box hc2) (by decide))).trans h.box
theorem qy.cell (h:qy w base pv ys) {m:Nat} {y:Value×List UInt8} (hy:ys[m]? =some y): ∃b o cap,pv= .slice (some ⟨b,o,none⟩) ys.length cap/\w.cell? ⟨b,o+m,none⟩=some y.1:=by
 obtain⟨_,a,cap,e,_,_,h0⟩:=cJ h.1;have ha:=(aD.1 hy).1
 rcases h0 with h0 | ⟨b,o,rfl,_,hc⟩
 ·omega
 ·exact⟨b,o,cap,e,hc m y.1 (by rw[bh,hy]; rfl)⟩
end
theorem KI {base bb:Nat} {k:dl} {c:fC} {gs:List (ByteArray×Int)} {tree:List dd} {tv gv:Value} {lg:Bool} (f:Nat) (hX:RdX base bb k c gs tree) (IH:RdC base bb k c gs tree tv gv lg f):RdC base bb k c gs tree tv gv lg (f+1):=by
 intro d v s w hd hf h hg ht Ha;have Zw:=am h.box;have hD:base<=w.heap.size:=by have:=hX.bbb; omega
 obtain⟨ta,tc,rfl,Zq,Zr,-⟩:=cN.shape ht mj.len;unfold maxLen at Zr;obtain⟨n,hn⟩:=bI tree.length;rw[<-hn]at ht Zq h IH ⊢;have HN:=ah hn;have Zo:n<=12:=by rw[hn]; exact hX.small.len
 have HX:=ah hX;have z7:=ah IH;have HG:=ah hg;have HT:=ah ht;have YQ:=ah Ha;have HD:=ah hd;have HF:=ah hf;obtain⟨W0,HC⟩:=bI ((w.alloc (.cells #[.string ⟨#[]⟩, .int .i64 0, .int .i64 0] 26)).alloc (.cells #[] 28));have Yt:Below w.heap.size w W0:=by rw[HC]; exact(eW).alloc (by simp) _
 have YD:(w.alloc (.cells #[.string ⟨#[]⟩, .int .i64 0, .int .i64 0] 26)).heap.size=w.heap.size+1:=by simp
 have Hr:=ah (show LK w base bb k c (.slice ta n tc) gv v lg W0 v (.slice (some ⟨w.heap.size+1,0,none⟩) 0 0) s []from⟨h.below Yt,jM.ofBelow Yt hD,⟨[],rfl,by have h1:=dp (e:=28) (size:=10) (base:=w.heap.size) (w.alloc (.cells #[.string ⟨#[]⟩, .int .i64 0, .int .i64 0] 26)) #[] 0 (by rw[YD]; omega) (aU _) (by simp);rw[YD,<-HC]at h1;exact h1,by simp⟩,by rw[HC]; exact mY (ep w _) _⟩)
 clear hX IH hg ht Ha hd hf h Yt YD hn
 go_enter Tryz.func76,Tryz.ntmps76
 go_upto_region 2 with(fail)
 rw[<-HC];clear HC;go_wp2_with fail
 go_loopw [5,6] (fun iv i wr=> ∃(j:Nat) (v2:Value),j<=n/\i= .int .i64 (j:Int)/\LK w base bb k c (.slice ta n tc) gv v lg wr v2 iv (gJ k gs ((dB (tree.take j) d).flatMap (gH k gs c tree f)) s) ((dB (tree.take j) d).map fun e=>cE k gs c d e (aV k gs (df k gs c tree f e.path).1))) (fun _ i _=>n-(intOf i).toNat)
 ·exact⟨0,v,aU _,rfl,Hr.o⟩
 ·obtain⟨j,v2,hj,rfl,hR⟩:=hrel;obtain⟨s2,YC⟩:=bI (gJ k gs ((dB (tree.take j) d).flatMap (gH k gs c tree f)) s);obtain⟨its,hw⟩:=bI ((dB (tree.take j) d).map fun e=>cE k gs c d e (aV k gs (df k gs c tree f e.path).1));rw[<-YC,<-hw]at hR;have H6:=ah YC;have Yh:=ah hw;have hU:=ah hR;have Hk:its.length<=12:=by rw[hw,aw]; exact an (dM _ _) (by rw[bn,<-HN.o]; omega)
  clear hR Hr YC hw;have hh:=hU.o.bd.box;have k5:=ar (k:=5) hh;have k6:=ar (k:=6) hh;have k7:=ar (k:=7) hh;have k8:=ar (k:=8) hh;have k9:=ar (k:=9) hh;have k10:=ar (k:=10) hh;simp only[tL,eT,fZ,aK,aI,gd]at k5 k6 k7 k8 k9 k10;clear hh
  by_cases Zm:j<n
  ·obtain⟨e,he⟩: ∃e,tree[j]? =some e:=⟨tree[j]'(by rw[<-HN.o]; exact Zm),by simp⟩;have HE:=ah he;have Zf:=ah (HT.o.keep (w':=wr) (fun i hi=>hU.o.kp.below.block i hi));obtain⟨tb,ot,dv,rfl,-,-,Hi,yp,-,p0,p1,p2,p3,p4,p5⟩:=jN Zf.o he;obtain⟨da,dc,Zi,Zh,Zg⟩:=el.slice Hi
   subst Zi;have YA:e∈tree:=aQ he;have z6:=ah YA;have H7:=ah (HX.o.tok.val e YA);have Zu:=ah yp;have z5:=ah Hi
   have YN:=ah (xq (d:=d) he);have Zp:e.path.size<=512:=(my H7.o).1;have H1:=ah (an hD hU.o.kp.below.size);obtain⟨dn,Hj⟩:=bI e.data.length;rw[<-Hj]at p4 Zh;unfold maxLen at Zg;have YI:=ah Hj;clear Hi yp he YA Hj
   go_upto_region 6 with(fail)
   obtain⟨W1,H8⟩:=bI (wr.alloc (.cells #[.string e.path, .int .i64 e.kind, .int .i64 e.mode, .int .i64 e.time, .slice da dn dc, .string e.link] 79));rw[<-H8];have Y0:Below wr.heap.size wr W1:=by rw[H8]; exact eW
   have Yo:=ah (show W1.heap[wr.heap.size]? =some (.cells #[.string e.path, .int .i64 e.kind, .int .i64 e.mode, .int .i64 e.time, .slice da dn dc, .string e.link] 79 (0,0)) by rw[H8]; exact ep wr _);have y7:=ah Y0;clear H8 Y0 p0 p1 p2 p3 p4 p5 k5 k6 k7 k8 k9 k10;obtain⟨d0,d1,d2,d3,d4,d5,_⟩:=aS Yo.o
   by_cases hR:cr (bl e.path)=bl d
   ·have H3:=ah hR;have HQ:=ah (show d=⟨(cr (bl e.path)).toArray⟩from IL hR.symm);clear hR;go_wp2_with (go_at_call 92; refine(oM e.path d _ (by omega) HQ.o).mono ?_; rintro e7 w7 ⟨rfl,hP⟩; have H0:=ah (aj y7.o hP); have YU:=ah (er hP Yo.o); clear hP);clear d0 d1 d2 d3 d4 d5;obtain⟨W2,Yq⟩:=bI w7.drew;have Yu:Below w7.heap.size w7 W2:=by rw[Yq]; exact(ak _ _).drew
    have y8:=ah (aj H0.o Yu);have hv:=ah (er Yu YU.o);obtain⟨nm,YB⟩: ∃nm:ByteArray,nm=⟨(mh (bl d) (bl e.path)).toArray⟩:=⟨_,rfl⟩;have YO:=ah (show xx (bl e.path)=nm by rw[YB]; exact MO H7.o H3.o);have H2:=ah YB;refine eJ (fun w'=>w'.heap[wr.heap.size]? =some (.cells #[.string e.path, .int .i64 e.kind, .int .i64 e.mode, .int .i64 e.time, .slice da dn dc, .string e.link] 79 (0,0))) (by kernel_rfl) (by kernel_rfl) ?_
    simp only[bt,bu,az,bo,Nat.reduceAdd,Nat.reduceSub];rw[<-Yq];clear Yq Yu YU H0 Yo y7 YB
    iterate 2 (refine cI rfl hv.o (by rintro w' hx; have d0:=bQ (k:=0) hx; have d1:=bQ (k:=1) hx; have d2:=bQ (k:=2) hx; have d3:=bQ (k:=3) hx; have d4:=bQ (k:=4) hx; have d5:=bQ (k:=5) hx; simp only[gd]at d0 d1 d2 d3 d4 d5; clear hx; go_simp; rfl) ?_; simp only[bN])
    refine dy 3 rfl hv.o (by rintro w' hx; have d0:=bQ (k:=0) hx; have d1:=bQ (k:=1) hx; have d2:=bQ (k:=2) hx; have d3:=bQ (k:=3) hx; have d4:=bQ (k:=4) hx; have d5:=bQ (k:=5) hx; simp only[gd]at d0 d1 d2 d3 d4 d5; clear hx; go_simp; rfl) ?_;simp only[bN];refine dy 4 rfl hv.o (by rintro w' hx; have d0:=bQ (k:=0) hx; have d1:=bQ (k:=1) hx; have d2:=bQ (k:=2) hx; have d3:=bQ (k:=3) hx; have d4:=bQ (k:=4) hx; have d5:=bQ (k:=5) hx; simp only[gd]at d0 d1 d2 d3 d4 d5; clear hx; go_simp; rfl) ?_
    simp only[bN];refine dy 5 rfl hv.o (by rintro w' hx; have d0:=bQ (k:=0) hx; have d1:=bQ (k:=1) hx; have d2:=bQ (k:=2) hx; have d3:=bQ (k:=3) hx; have d4:=bQ (k:=4) hx; have d5:=bQ (k:=5) hx; simp only[gd]at d0 d1 d2 d3 d4 d5; clear hx; go_simp; rfl) ?_;simp only[bN];refine dy 6 rfl hv.o (by rintro w' hx; have d0:=bQ (k:=0) hx; have d1:=bQ (k:=1) hx; have d2:=bQ (k:=2) hx; have d3:=bQ (k:=3) hx; have d4:=bQ (k:=4) hx; have d5:=bQ (k:=5) hx; simp only[gd]at d0 d1 d2 d3 d4 d5; clear hx; go_simp; rfl) ?_
    simp only[bN];refine dy 7 rfl hv.o (by rintro w' hx; have d0:=bQ (k:=0) hx; have d1:=bQ (k:=1) hx; have d2:=bQ (k:=2) hx; have d3:=bQ (k:=3) hx; have d4:=bQ (k:=4) hx; have d5:=bQ (k:=5) hx; simp only[gd]at d0 d1 d2 d3 d4 d5; clear hx; go_simp; rfl) ?_;simp only[bN];refine dy 8 rfl hv.o (by rintro w' hx; have d0:=bQ (k:=0) hx; have d1:=bQ (k:=1) hx; have d2:=bQ (k:=2) hx; have d3:=bQ (k:=3) hx; have d4:=bQ (k:=4) hx; have d5:=bQ (k:=5) hx; simp only[gd]at d0 d1 d2 d3 d4 d5; clear hx; go_simp; rfl) ?_
    simp only[bN];refine dy 9 rfl hv.o (by rintro w' hx; have d0:=bQ (k:=0) hx; have d1:=bQ (k:=1) hx; have d2:=bQ (k:=2) hx; have d3:=bQ (k:=3) hx; have d4:=bQ (k:=4) hx; have d5:=bQ (k:=5) hx; simp only[gd]at d0 d1 d2 d3 d4 d5; clear hx; go_simp; rfl) ?_;simp only[bN];refine dy 10 rfl hv.o (by rintro w' hx; have d0:=bQ (k:=0) hx; have d1:=bQ (k:=1) hx; have d2:=bQ (k:=2) hx; have d3:=bQ (k:=3) hx; have d4:=bQ (k:=4) hx; have d5:=bQ (k:=5) hx; simp only[gd]at d0 d1 d2 d3 d4 d5; clear hx; go_simp; rfl) ?_
    simp only[bN];refine dy 11 rfl hv.o (by rintro w' hx; have d0:=bQ (k:=0) hx; have d1:=bQ (k:=1) hx; have d2:=bQ (k:=2) hx; have d3:=bQ (k:=3) hx; have d4:=bQ (k:=4) hx; have d5:=bQ (k:=5) hx; simp only[gd]at d0 d1 d2 d3 d4 d5; clear hx; go_simp; rfl) ?_;simp only[bN];refine dy 12 rfl hv.o (by rintro w' hx; have d0:=bQ (k:=0) hx; have d1:=bQ (k:=1) hx; have d2:=bQ (k:=2) hx; have d3:=bQ (k:=3) hx; have d4:=bQ (k:=4) hx; have d5:=bQ (k:=5) hx; simp only[gd]at d0 d1 d2 d3 d4 d5; clear hx; go_simp; rfl) ?_
    simp only[bN];refine dy 13 rfl hv.o (by rintro w' hx; have d0:=bQ (k:=0) hx; have d1:=bQ (k:=1) hx; have d2:=bQ (k:=2) hx; have d3:=bQ (k:=3) hx; have d4:=bQ (k:=4) hx; have d5:=bQ (k:=5) hx; simp only[gd]at d0 d1 d2 d3 d4 d5; clear hx; go_simp; rfl) ?_;simp only[bN]
    apply Mo
    ·intro tail;refine xf 2 15 rfl rfl (by kernel_rfl) rfl rfl (fun K hK=> ?ca) (fun K hK=> ?al)
     case ca=>
      go_wp2_with fail;refine(xw e.path _ (by omega)).mono ?_;rintro e' w3 ⟨rfl,Hg⟩;rw[YO.o];have h7:=ah (aj y8.o Hg);have hZ:=ah (er Hg hv.o);clear Hg;go_wp2_with fail;refine⟨hZ.o, ?_⟩;refine dy 14 rfl hZ.o (by rintro w' hx; have d0:=bQ (k:=0) hx; have d1:=bQ (k:=1) hx; have d2:=bQ (k:=2) hx; have d3:=bQ (k:=3) hx; have d4:=bQ (k:=4) hx; have d5:=bQ (k:=5) hx; simp only[gd]at d0 d1 d2 d3 d4 d5; clear hx; go_simp; rfl) ?_
      simp only[bN];refine cC 15 rfl (fun K hK=> ?_);go_wp2_with fail;obtain⟨W,hW⟩:=bI (w3.alloc (.cells #[.string ⟨#[]⟩, .int .i64 0, .int .i64 0, .int .i64 0, .int .i64 0, .string ⟨#[]⟩, .slice none 0 0, .string ⟨#[]⟩, .int .i64 0, .int .i64 0] 28));obtain⟨xb,hS⟩:=bI w3.heap.size;have hY:W.heap[xb]? =some (.cells #[.string ⟨#[]⟩, .int .i64 0, .int .i64 0, .int .i64 0, .int .i64 0, .string ⟨#[]⟩, .slice none 0 0, .string ⟨#[]⟩, .int .i64 0, .int .i64 0] 28 (0,0)):=by rw[hW,hS]; exact aG w3 _
      have hG:Below w3.heap.size w3 W:=by rw[hW]; exact eW
      have hB:Below wr.heap.size wr W:=aj h7.o hG;have hE:W.heap[wr.heap.size]? =some (.cells #[.string e.path, .int .i64 e.kind, .int .i64 e.mode, .int .i64 e.time, .slice da dn dc, .string e.link] 79 (0,0)):=er hG hZ.o;have hM:wr.heap.size<xb:=by rw[hS]; exact am hZ.o
      rw[<-hW,<-hS];refine⟨hE, ?_⟩;refine cL (by kernel_rfl) ?_;clear hW hS hG h7 hZ;have hF:=aA hB (aA hE (aA hY hM));clear hB hE hY hM
      revert hF
      revert xb
      revert W
      exact tail.o
     case al=>
      go_wp2_with fail;obtain⟨W3,H9⟩:=bI (W2.alloc (.cells #[.string ⟨#[]⟩, .int .i64 0, .int .i64 0, .int .i64 0, .int .i64 0, .string ⟨#[]⟩, .slice none 0 0, .string ⟨#[]⟩, .int .i64 0, .int .i64 0] 28));obtain⟨xb,hS⟩:=bI W2.heap.size;have zl:W3.heap[xb]? =some (.cells #[.string ⟨#[]⟩, .int .i64 0, .int .i64 0, .int .i64 0, .int .i64 0, .string ⟨#[]⟩, .slice none 0 0, .string ⟨#[]⟩, .int .i64 0, .int .i64 0] 28 (0,0)):=by rw[H9,hS]; exact aG W2 _
      have He:=ah zl;have Hg:Below W2.heap.size W2 W3:=by rw[H9]; exact eW
      have h7:=ah (aj y8.o Hg);have hZ:=ah (er Hg hv.o);have hM:wr.heap.size<xb:=by rw[hS]; exact am hv.o
      rw[<-H9,<-hS];clear H9 hS zl Hg;refine⟨hZ.o, ?_⟩;refine cC 2 rfl (fun K hK=> ?_);go_wp2_with fail;refine(xw e.path _ (by omega)).mono ?_;rintro e' W ⟨rfl,hG⟩;rw[YO.o];have hB:Below wr.heap.size wr W:=aj h7.o hG;have hE:W.heap[wr.heap.size]? =some (.cells #[.string e.path, .int .i64 e.kind, .int .i64 e.mode, .int .i64 e.time, .slice da dn dc, .string e.link] 79 (0,0)):=er hG hZ.o
      have hY:=er hG He.o;have HE:=ah hE;clear hG h7 hZ He;go_wp2_with fail;refine⟨HE.o, ?_⟩;refine dy 14 rfl HE.o (by rintro w' hx; have d0:=bQ (k:=0) hx; have d1:=bQ (k:=1) hx; have d2:=bQ (k:=2) hx; have d3:=bQ (k:=3) hx; have d4:=bQ (k:=4) hx; have d5:=bQ (k:=5) hx; simp only[gd]at d0 d1 d2 d3 d4 d5; clear hx; go_simp; rfl) ?_;simp only[bN]
      refine cL (by kernel_rfl) ?_;clear HE;have hF:=aA hB (aA hE (aA hY hM));clear hB hE hY hM
      revert hF
      revert xb
      revert W
      exact tail.o
    ·rintro W3 xb ⟨hB,hE,hY,hS⟩;have h7:=ah hB;have YJ:=ah hE;have He:=ah hY;clear hB hE hY hv y8;refine eU rfl rfl (fun K hK=> ?_);obtain⟨i0,i1,i2,i3,i4,i5,i6,i7,i8,i9,_⟩:=aS He.o;obtain⟨g0,g1,g2,g3,g4,g5,g6,g7,g8,g9,_⟩:=gI He.o
     go_upto_region 8 with(fail)
     obtain⟨W4,HH⟩:=bI (((((((((((W3.setCell ⟨xb,0,none⟩ (.string nm)).setCell ⟨xb,1,none⟩ (.int .i64 e.kind)).setCell ⟨xb,2,none⟩ (.int .i64 e.mode)).setCell ⟨xb,3,none⟩ (.int .i64 e.time)).setCell ⟨xb,4,none⟩ (.int .i64 (dn:Int))).setCell ⟨xb,5,none⟩ (.string e.link)).setCell ⟨xb,6,none⟩ (.slice none 0 0)).setCell ⟨xb,7,none⟩ (.string ⟨#[]⟩)).setCell ⟨xb,8,none⟩ (.int .i64 0)).setCell ⟨xb,9,none⟩ (.int .i64 0)))
     rw[<-HH];have hJ:(fu (.slice none 0 0) (cE k gs c d e eq)).toArray= #[.string nm, .int .i64 e.kind, .int .i64 e.mode, .int .i64 e.time, .int .i64 (dn:Int), .string e.link, .slice none 0 0, .string ⟨#[]⟩, .int .i64 0, .int .i64 0]:=by unfold fu;rw[JV H7.o,<-YI.o,H2.o];unfold cE;simp[eq]
     have hG:Below wr.heap.size wr W4:=by rw[HH]; exact js h7.o (by omega)
     have hT:=ah (hU.o.item (xb:=xb) (it:=cE k gs c d e eq) hG (by rw[hJ,HH]; exact Jb He.o) (by omega) H1.o);have Yb:=ah (show W4.heap[wr.heap.size]? =some (.cells #[.string e.path, .int .i64 e.kind, .int .i64 e.mode, .int .i64 e.time, .slice da dn dc, .string e.link] 79 (0,0)) by rw[HH]; exact(pU (show wr.heap.size≠xb by omega)).trans YJ.o);have y9:=ah hG
     clear HH hJ hG He h7 YJ i0 i1 i2 i3 i4 i5 i6 i7 i8 i9 g0 g1 g2 g3 g4 g5 g6 g7 g8 g9;obtain⟨d0,d1,d2,d3,d4,d5,_⟩:=aS Yb.o;have YM:=ah (show dB (tree.take (j+1)) d=dB (tree.take j) d++[e] by rw[YN.o,if_pos H3.o]);have Ym:=ah (show gJ k gs ((dB (tree.take (j+1)) d).flatMap (gH k gs c tree f)) s=gJ k gs (gH k gs c tree f e) s2 by rw[YM.o,bV,qg,<-H6.o]; simp)
     have Yg:=ah (show((dB (tree.take (j+1)) d).map fun e=>cE k gs c d e (aV k gs (df k gs c tree f e.path).1))=its++[cE k gs c d e (aV k gs (df k gs c tree f e.path).1)] by rw[YM.o,aL,<-Yh.o]; rfl);have YP:=ah (show s2.1.length+(gH k gs c tree f e).length<=1000000 by
      have h1:=rH (k:=k) (gs:=gs) ((dB (tree.take j) d).flatMap (gH k gs c tree f)) s;rw[<-H6.o]at h1;have h2:=Ka (g:=gH k gs c tree f) HE.o H3.o;have h3:=YQ.o;rw[eL,ag]at h3
      omega)
     have Yj:=ah (fun nd (hn:eF nd)=>(show iC (cE k gs c d e nd)from by
      have h1:=Dw (bl d) (bl e.path);rw[<-bi e.path]at h1;have h2:=(my H7.o).2.1;refine⟨?_, ?_, ?_⟩
      ·show ByteArray.size ⟨_⟩<=_
       simp only[ByteArray.size,bS];unfold maxLen; omega
      ·show e.link.size<=_
       unfold maxLen; omega
      ·show eF (if e.kind=2 then nd else eq)
       split
       ·exact hn
       ·exact od))
     by_cases h9:e.kind=1
     ·have e1:(e.kind == 1)=true:=by simp[h9]
      have h8:=ah h9;clear h9
      go_upto_region 10 with(fail)
      clear d0 d1 d2 d3 d4 d5;have Zx:e.data.length<=60:=HX.o.small.data e z6.o;have Yx:=an H1.o y9.o.size;refine fd (fun w'=>gg bb k c (.slice (some ⟨tb,ot,none⟩) n tc) gv v2 lg s2.2 w'/\w'.heap[wr.heap.size]? =some (.cells #[.string e.path, .int .i64 e.kind, .int .i64 e.mode, .int .i64 e.time, .slice da dn dc, .string e.link] 79 (0,0))) (by kernel_rfl) ?_
      obtain⟨V,hV⟩:=bI W4.drew;rw[<-hV];have Hh:Below W4.heap.size W4 V:=by rw[hV]; exact(ak _ _).drew
      have hO:=ah (hT.o.below Hh Yx);have Yc:=ah (er Hh Yb.o);have Ya:=ah (aj y9.o Hh);have SV:=ah (show gg bb k c (.slice (some ⟨tb,ot,none⟩) n tc) gv v2 lg s2.2 V/\V.heap[wr.heap.size]? =some (.cells #[.string e.path, .int .i64 e.kind, .int .i64 e.mode, .int .i64 e.time, .slice da dn dc, .string e.link] 79 (0,0))from aA hO.o.bd.box Yc.o);clear hV Hh hT Yb y9
      iterate 6 (refine cI rfl SV.o (by rintro w' ⟨hA,hx⟩; unfold gg at hA; have k5:=ar (k:=5) hA; have k6:=ar (k:=6) hA; have k7:=ar (k:=7) hA; have k8:=ar (k:=8) hA; have k9:=ar (k:=9) hA; have d4:=bQ (k:=4) hx; simp only[tL,eT,fZ,aK,aI,gd]at k5 k6 k7 k8 k9 d4; clear hx hA; go_simp; rfl) ?_; simp only[bN])
      refine cC 6 rfl (fun K hK=> ?_);go_wp2_with fail;refine(Ev (fun _=>True) c e.data (.slice da dn dc) V HX.o.cut HX.o.seed (by show cD _ V 1 (.slice da dn dc) e.data.length (e.data.map aY); have h1:=(el.below z5.o Ya.o).weak (T:=fun _=>True) fun _ _=>trivial; rw[YI.o]; exact h1) (by omega)).mono ?_;rintro e' w5 ⟨pa,pcap,ys,rfl,YH,Y6,Y5,Yv⟩;have h0:=an H1.o Ya.o.size
      have Hc:=ah (hO.o.below Yv h0);have S5:=ah (show gg bb k c (.slice (some ⟨tb,ot,none⟩) n tc) gv v2 lg s2.2 w5/\w5.heap[wr.heap.size]? =some (.cells #[.string e.path, .int .i64 e.kind, .int .i64 e.mode, .int .i64 e.time, .slice da dn dc, .string e.link] 79 (0,0))from aA Hc.o.bd.box (er Yv Yc.o));have Yk:=ah (show qy w5 base (.slice pa ys.length pcap) ys from⟨gB Y6 h0,fun y hy=>gB (Y5 y hy) h0⟩)
      have YY:=ah YH;obtain⟨yn,YG⟩:=bI ys.length;have YX:=ah YG;have y5:yn<=60:=by have h1:=vQ HX.o.cut e.data;rw[<-YH,aw]at h1;omega
      rw[<-YG]at Yk ⊢;clear YH Y6 Y5 Yv YG hO Yc Ya SV h0;go_wp2_with fail;refine⟨S5.o, ?_⟩;refine cI rfl S5.o (by rintro w' ⟨hA,hx⟩; unfold gg at hA; have k5:=ar (k:=5) hA; have k6:=ar (k:=6) hA; have k7:=ar (k:=7) hA; have k8:=ar (k:=8) hA; have k9:=ar (k:=9) hA; have d4:=bQ (k:=4) hx; simp only[tL,eT,fZ,aK,aI,gd]at k5 k6 k7 k8 k9 d4; clear hx hA; go_simp; rfl) ?_
      simp only[bN];refine cL (by kernel_rfl) ?_;clear S5;obtain⟨itf,Hl⟩:=bI (cE k gs c d e eq);have Yf:=ah Hl;have Hp:=Hc.o;rw[<-Hl]at Hp;have YK:=ah Hp;clear Hl Hp Hc;obtain⟨wo,Zs⟩:=bI wr;subst Zs;go_wp2_with fail
      go_loopw [10] (fun i wq=> ∃(m:Nat) (v3 u6:Value),m<=yn/\i= .int .i64 (m:Int)/\zg w base bb k c (.slice (some ⟨tb,ot,none⟩) n tc) gv v lg wo.heap.size xb wq v3 u5 (gJ k gs ((fO c e.data).take m) s2) its u6 itf (((fO c e.data).take m).map (aV k gs))/\qy wq base (.slice pa yn pcap) ys) (fun i _=>yn-(intOf i).toNat)
      ·exact⟨0,v2, .slice none 0 0,aU _,rfl,YK.o,Yk.o⟩
      ·obtain⟨m,v3,u6,hm,rfl,h4,Y7⟩:=hrel;obtain⟨rs,y4⟩:=bI (((fO c e.data).take m).map (aV k gs));obtain⟨sm,Hb⟩:=bI (gJ k gs ((fO c e.data).take m) s2);rw[<-y4,<-Hb]at h4;obtain⟨ra,rc,rfl,-,-⟩:=aH h4.row;have Y2:yn=(fO c e.data).length:=by rw[YX.o,<-YY.o,aw]
       obtain⟨rn,y3⟩:=bI rs.length;have zc:rn=m:=by rw[y3,y4,aw,bn]; omega
       rw[<-y3]at h4;have Hs:=ah h4;have Hx:=ah Y7;have YS:=ah y4;have Yn:=ah Hb;have YR:=ah y3;have Yl:=ah zc;have z3:=ah Y2;have Y1:base<=wr.heap.size:=an hD Hs.o.kp.below.size;clear h4 Y7 YK Yk y4 Hb y3 zc Y2
       by_cases Zn:m<yn
       ·obtain⟨y,hy⟩: ∃y,ys[m]? =some y:=⟨ys[m]'(by rw[<-YX.o]; exact Zn),by simp⟩;have HY:=ah hy;obtain⟨pb,po,pc,Y9,HR⟩:=Hx.o.cell hy;simp only[cY]at Y9;obtain⟨rfl,-,-⟩:=Y9;have zz:=Hx.o.2 y (aQ hy);obtain⟨ya,yc,y6,-,-⟩:=aH zz;obtain⟨yl,y5⟩:=bI y.2.length;rw[<-y5]at y6;rw[y6]at HR;have HB:=ah y6
        have Zv:=ah y5;have Yp:=ah (show(fO c e.data)[m]? =some y.2 by rw[<-YY.o,bh,hy]; rfl);clear hy zz y6 y5 HR
        go_upto_region 14 with(fail)
        refine eJ (fun w'=>w'.heap[xb]? =some (.cells (fu (.slice ra rn rc) itf).toArray 28 (0,0))/\w'.cell? ⟨pb,po+m,none⟩=some (.slice ya yl yc)) (by kernel_rfl) (by kernel_rfl) ?_;simp only[bt,bu,az,bo,Nat.reduceAdd,Nat.reduceSub];obtain⟨V,hV⟩:=bI wr.drew;rw[<-hV];have hP:Below wr.heap.size wr V:=by rw[hV]; exact(ak _ _).drew
        have hO:=ah (Hs.o.below hP Y1);have H4:=ah (Hx.o.below hP);have SV:=ah (show V.heap[xb]? =some (.cells (fu (.slice ra rn rc) itf).toArray 28 (0,0))/\V.cell? ⟨pb,po+m,none⟩=some (.slice ya yl yc)from aA hO.o.box (by rw[<-HB.o]; exact H4.o.at' HY.o));clear hV hP Hs Hx Y1
        iterate 7 (refine cI rfl SV.o (by rintro w' ⟨hx,hp⟩; unfold fu at hx; have i6:=ar (k:=6) hx; simp only[gd]at i6; clear hx; go_simp; rfl) ?_; simp only[bN])
        have za:sm.1.length<=1000000:=by
         have h1:=rH (k:=k) (gs:=gs) ((fO c e.data).take m) s2;rw[<-Yn.o]at h1;have h2:(((fO c e.data).take m)).length<=(fO c e.data).length:=by rw[bn]; omega
         have h3:=YP.o;unfold gH at h3;rw[if_pos h8.o]at h3;omega
        have HV:y.2.length<=32768:=(qF HX.o.cut e.data y.2 (aQ Yp.o)).2;have hp:=Av base bb k c (.slice (some ⟨tb,ot,none⟩) n tc) gv v3 (.slice ya yl yc) gs lg sm.2 sm.1 y.2 V hO.o.bd HX.o.keys (HG.o.keep (fun i hi _=>hO.o.kp.below.block i hi)) HX.o.gens (by have h1:=H4.o.2 y (aQ HY.o); rw[HB.o]at h1; exact h1) HV za HX.o.bbb
        obtain⟨r,hr⟩:=bI (aV k gs y.2);rw[<-hr]at hp;unfold fi at hp;have HP:=ah hp;have Hy:=ah hr;clear hp hr za HV;refine cC 7 rfl (fun K hK=> ?_);go_wp2_with fail;refine HP.o.mono ?_;rintro e7 w7 ⟨rfl,v7,HK,Hn⟩;have hN:=ah (hO.o.step HK Hn);have Hw:=ah (H4.o.kp hO.o.bd Hn);have S7:=ah (show w7.heap[xb]? =some (.cells (fu (.slice ra rn rc) itf).toArray 28 (0,0))/\w7.cell? ⟨pb,po+m,none⟩=some (.slice ya yl yc)from aA hN.o.box (by rw[<-HB.o]; exact Hw.o.at' HY.o))
        clear HK Hn hO H4 SV HP;go_wp2_with fail;refine⟨S7.o, ?_⟩;refine cC 8 rfl (fun K hK=> ?_);go_wp2_with fail;have Ys:=(ak w7.heap.size w7).alloc (ai _) (.cells #[.string r.name, .int .i64 r.gen, .int .i64 r.size] 26);have S8:=ah (show(w7.alloc (.cells #[.string r.name, .int .i64 r.gen, .int .i64 r.size] 26)).heap[xb]? =some (.cells (fu (.slice ra rn rc) itf).toArray 28 (0,0))/\(w7.alloc (.cells #[.string r.name, .int .i64 r.gen, .int .i64 r.size] 26)).cell? ⟨pb,po+m,none⟩=some (.slice ya yl yc)from aA (er Ys hN.o.box) (by rw[<-HB.o]; exact(Hw.o.below Ys).at' HY.o))
        clear Ys S7;refine⟨S8.o, ?_⟩;refine cC 9 rfl (fun K hK=> ?_);have HS:rn<1099511627775:=by have:=Yl.o; omega
        have YZ:wo.heap.size<=w7.heap.size:=by have:=hN.o.mark; have:=am hN.o.box; omega
        go_wp2_with (at_builtin; go_must (refine bO Tryz.appRefs rfl _ _ rfl wo.heap.size (.slice ra rn rc) rn (rs.flatMap jp) rfl w7 [.string r.name, .int .i64 r.gen, .int .i64 r.size] _ rfl rfl (qY (r:=r)) (by have h1:=hN.o.row; rw[<-YR.o]at h1; exact h1) HS YZ ?_); intro v' wc hb ha _ yv; obtain⟨ae,ce,rfl,-,-⟩:=aH hb);have Y8:=hN.o.push (r:=r) (by rw[<-YR.o]; exact hb) ha hD
        have YF:=hN.o.grown ha;have HR:=Hw.o.grown hN.o.row ha;have z9:=ah (Hw.o.push (xb:=xb) (q:=6) (u:= .slice ae (rn+1) ce) hN.o.row ha YF);have S9:=ah (show wc.heap[xb]? =some (.cells (fu (.slice ra rn rc) itf).toArray 28 (0,0))/\wc.cell? ⟨pb,po+m,none⟩=some (.slice ya yl yc)from aA YF (by rw[<-HB.o]; exact HR.at' HY.o));have Hd:=ah Y8
        clear hb ha yv Y8 YF HR S8 hN Hw YZ;refine⟨S9.o, ?_⟩;refine cI rfl S9.o (by rintro w' ⟨hx,hp⟩; unfold fu at hx; have i6:=ar (k:=6) hx; simp only[gd]at i6; clear hx; go_simp; rfl) ?_;simp only[bN];refine cL (by kernel_rfl) ?_;refine eU rfl rfl (fun K hK=> ?_);have hx:=S9.o.1;unfold fu at hx;have i6:=ar (k:=6) hx;have g6:=dE (k:=6) hx
        simp only[gd]at i6;have Zd:=ah (show gJ k gs ((fO c e.data).take (m+1)) s2=qf k gs sm y.2 by rw[FZ Yp.o,<-Yn.o]);have Ze:=ah (show((fO c e.data).take (m+1)).map (aV k gs)=rs++[r] by rw[dZ Yp.o,aL,<-YS.o,Hy.o]; rfl);clear hx S9;go_wp2_with fail
        go_roundw
        ·exact⟨m+1,v7, .slice ae (rn+1) ce,by omega,by go_num,by rw[Zd.o,Ze.o]; exact Hd.o,z9.o⟩
        simp[intOf]; omega
       ·obtain rfl:m=yn:=by omega
        go_upto_region 17 with(fail)
        have Hf:(fO c e.data).take m=fO c e.data:=bw (by rw[<-z3.o]; exact ai _);have hL:itf.chunks=(fO c e.data).map (aV k gs):=by
         rw[Yf.o]
         show(if e.kind=1 then _ else [])=_
         rw[if_pos h8.o]
        have h4:=Hs.o;rw[show rs=itf.chunks by rw[YS.o,Hf,hL]]at h4;have hC:=ah h4;have Hv:=ah (show iC itf by rw[Yf.o]; exact Yj.o eq od);have Hz:=ah (show ∀r∈itf.chunks,eF r by rw[hL];intro r hr;obtain⟨z,hz,rfl⟩:=aP.1 hr;exact jv HX.o.gens (by have:=(qF HX.o.cut e.data z hz).2; omega))
        have Ht:=ah (show cE k gs c d e (aV k gs (df k gs c tree f e.path).1)=itf by rw[Yf.o]; exact oa (by have:=h8.o; omega) _ _);have HA:=ah (show gJ k gs (gH k gs c tree f e) s2=sm by rw[Yn.o,Hf]; unfold gH; rw[if_pos h8.o]);obtain⟨it,hl⟩:=bI itf;subst hl;clear Hf hL h4 Hs Hx;obtain⟨zs4,hk,hu,-,hs⟩:=hC.o.its.row;have HZ:zs4.length<=12:=by rw[<-aw (f:=Prod.snd),hk]; exact Hk
        have hI:=ah hk;have ho:=ah hu;have hH:=ah (fun z hz=>(hs z hz).1);have HW:w.heap.size<=(wr).heap.size:=hC.o.kp.below.size;clear hk hu hs;have hh:=hC.o.box;unfold fu at hh;obtain⟨i0,i1,i2,i3,i4,i5,i6,i7,i8,i9,_⟩:=aS hh;clear hh;go_wp2_with (at_builtin; go_must (refine bO Tryz.appItems rfl _ _ rfl w.heap.size u5 zs4.length (pW zs4) rfl (wr) [.string it.name, .int .i64 it.kind, .int .i64 it.mode, .int .i64 it.time, .int .i64 it.size, .string it.link, .slice ra rn rc, .string it.node.name, .int .i64 it.node.gen, .int .i64 it.node.size] _ rfl rfl (kR (it:=it)) ho.o (by omega) HW ?_); intro v' wc hb ha _ _; have Hd:=ah (hC.o.done hI.o ho.o hH.o hb ha Hv.o Hz.o hD); clear hb ha)
        clear i0 i1 i2 i3 i4 i5 i6 i7 i8 i9
        go_roundw
        ·exact⟨j+1,v3,by omega,by go_num,by rw[Ym.o,Yg.o,Ht.o,HA.o]; exact Hd.o⟩
        simp[intOf]; omega
     ·have e1:(e.kind == 1)=false:=by simp[h9]
      have h8:=ah h9
      by_cases Hm:e.kind=2
      ·have e2:(e.kind == 2)=true:=by simp[Hm]
       have Hu:=ah Hm;have Yy:gH k gs c tree f e=(df k gs c tree f e.path).2:=by unfold gH; rw[if_neg h9,if_pos Hm]
       have yv:=qe (l:=bl e.path) (rE HX.o.tok (aQ HE.o));rw[H3.o]at yv;have Zj:=HF.o;have HL:=z7.o e.path v2 s2 W4 (by rw[<-bi]; exact Zp) (by omega) hT.o.bd (HG.o.keep (fun i hi _=>hT.o.kp.below.block i hi)) (HT.o.keep (fun i hi=>hT.o.kp.below.block i hi)) (by rw[<-Yy]; exact YP.o);unfold PG at HL;obtain⟨r,hr⟩:=bI (aV k gs (df k gs c tree f e.path).1)
       rw[<-Yy,<-hr]at HL;have Hy:=ah hr;have Zc:=ah (show eF r by rw[hr]; exact jv HX.o.gens (by have:=pE (k:=k) HX.o.gens HX.o.cut HX.o.tok HX.o.small f e.path; omega));unfold fi at HL;have Zb:=ah HL;clear Hm h9 Yy yv Zj HL hr;go_wp2_with fail;refine Zb.o.mono ?_;rintro e' w5 ⟨rfl,v5,HI,HM⟩;have Hc:=ah (hT.o.step HI HM);have hh:=Hc.o.box
       unfold fu at hh;have i7:=ar (k:=7) hh;have i8:=ar (k:=8) hh;have i9:=ar (k:=9) hh;have g7:=dE (k:=7) hh;have g8:=dE (k:=8) hh;have g9:=dE (k:=9) hh;simp only[gd]at i7 i8 i9;clear hh HI HM d0 d1 d2 d3 d4 d5
       go_upto_region 17 with(fail)
       obtain⟨W6,Yr⟩:=bI (((w5.setCell ⟨xb,7,none⟩ (.string r.name)).setCell ⟨xb,8,none⟩ (.int .i64 r.gen)).setCell ⟨xb,9,none⟩ (.int .i64 r.size));obtain⟨it,hl⟩:=bI (cE k gs c d e r);have hL:it.chunks=[]:=by rw[hl]; unfold cE; simp only[if_neg h8.o]
       have Hq:zg w base bb k c (.slice (some ⟨tb,ot,none⟩) n tc) gv v lg wr.heap.size xb W6 v5 u5 (gJ k gs (gH k gs c tree f e) s2) its (.slice none 0 0) it it.chunks:=by
        rw[hL,Yr];have Hp:=Hc.o;have Y3:it= {cE k gs c d e eq with node:=r} :=by rw[hl]; unfold cE; simp only[if_pos Hu.o]
        have Ho:(cE k gs c d e eq).node=eq:=by unfold cE; simp only[if_pos Hu.o]
        obtain⟨it0,Zk⟩:=bI (cE k gs c d e eq);rw[<-Zk]at Hp Y3 Ho;have a1:=Hp.set (q:=7) (u:= .string r.name) (it':= {it0 with node:=⟨r.name,0,0⟩}) (by simp[fu,Ho,eq]) hD;have a2:=a1.set (q:=8) (u:= .int .i64 r.gen) (it':= {it0 with node:=⟨r.name,r.gen,0⟩}) (by simp[fu]) hD;have a3:=a2.set (q:=9) (u:= .int .i64 r.size) (it':=it) (by rw[Y3]; simp[fu]) hD
        exact a3
       have hC:=ah Hq;have Hv:=ah (show iC it by rw[hl]; exact Yj.o r Zc.o);have Hz:=ah (show ∀r∈it.chunks,eF r by rw[hL]; simp);have Ht:=ah (show cE k gs c d e (aV k gs (df k gs c tree f e.path).1)=it by rw[hl,Hy.o]);have HA:=ah (show gJ k gs (gH k gs c tree f e) s2=gJ k gs (gH k gs c tree f e) s2 from rfl);rw[<-Yr];clear hl hL Hq Yr hT Hc i7 i8 i9 g7 g8 g9
       obtain⟨zs4,hk,hu,-,hs⟩:=hC.o.its.row;have HZ:zs4.length<=12:=by rw[<-aw (f:=Prod.snd),hk]; exact Hk
       have hI:=ah hk;have ho:=ah hu;have hH:=ah (fun z hz=>(hs z hz).1);have HW:w.heap.size<=(W6).heap.size:=hC.o.kp.below.size;clear hk hu hs;have hh:=hC.o.box;unfold fu at hh;obtain⟨i0,i1,i2,i3,i4,i5,i6,i7,i8,i9,_⟩:=aS hh;clear hh;go_wp2_with (at_builtin; go_must (refine bO Tryz.appItems rfl _ _ rfl w.heap.size u5 zs4.length (pW zs4) rfl (W6) [.string it.name, .int .i64 it.kind, .int .i64 it.mode, .int .i64 it.time, .int .i64 it.size, .string it.link, .slice none 0 0, .string it.node.name, .int .i64 it.node.gen, .int .i64 it.node.size] _ rfl rfl (kR (it:=it)) ho.o (by omega) HW ?_); intro v' wc hb ha _ _; have Hd:=ah (hC.o.done hI.o ho.o hH.o hb ha Hv.o Hz.o hD); clear hb ha)
       clear i0 i1 i2 i3 i4 i5 i6 i7 i8 i9
       go_roundw
       ·exact⟨j+1,v5,by omega,by go_num,by rw[Ym.o,Yg.o,Ht.o,HA.o]; exact Hd.o⟩
       simp[intOf]; omega
      ·have e2:(e.kind == 2)=false:=by simp[Hm]
       have Hu:=ah Hm;clear Hm h9
       go_upto_region 17 with(fail)
       obtain⟨it,hl⟩:=bI (cE k gs c d e eq);have hL:it.chunks=[]:=by rw[hl]; unfold cE; simp only[if_neg h8.o]
       have Hq:=hT.o;rw[<-hl]at Hq;have hC:=ah (show zg w base bb k c (.slice (some ⟨tb,ot,none⟩) n tc) gv v lg wr.heap.size xb W4 v2 u5 s2 its (.slice none 0 0) it it.chunks by rw[hL]; exact Hq);have Hv:=ah (show iC it by rw[hl]; exact Yj.o eq od);have Hz:=ah (show ∀r∈it.chunks,eF r by rw[hL]; simp);have Ht:=ah (show cE k gs c d e (aV k gs (df k gs c tree f e.path).1)=it by rw[hl]; exact oa Hu.o _ _)
       have HA:=ah (show gJ k gs (gH k gs c tree f e) s2=s2 by unfold gH; rw[if_neg h8.o,if_neg Hu.o]; rfl);clear hl hL Hq hT d0 d1 d2 d3 d4 d5;obtain⟨zs4,hk,hu,-,hs⟩:=hC.o.its.row;have HZ:zs4.length<=12:=by rw[<-aw (f:=Prod.snd),hk]; exact Hk
       have hI:=ah hk;have ho:=ah hu;have hH:=ah (fun z hz=>(hs z hz).1);have HW:w.heap.size<=(W4).heap.size:=hC.o.kp.below.size;clear hk hu hs;have hh:=hC.o.box;unfold fu at hh;obtain⟨i0,i1,i2,i3,i4,i5,i6,i7,i8,i9,_⟩:=aS hh;clear hh;go_wp2_with (at_builtin; go_must (refine bO Tryz.appItems rfl _ _ rfl w.heap.size u5 zs4.length (pW zs4) rfl (W4) [.string it.name, .int .i64 it.kind, .int .i64 it.mode, .int .i64 it.time, .int .i64 it.size, .string it.link, .slice none 0 0, .string it.node.name, .int .i64 it.node.gen, .int .i64 it.node.size] _ rfl rfl (kR (it:=it)) ho.o (by omega) HW ?_); intro v' wc hb ha _ _; have Hd:=ah (hC.o.done hI.o ho.o hH.o hb ha Hv.o Hz.o hD); clear hb ha)
       clear i0 i1 i2 i3 i4 i5 i6 i7 i8 i9
       go_roundw
       ·exact⟨j+1,v2,by omega,by go_num,by rw[Ym.o,Yg.o,Ht.o,HA.o]; exact Hd.o⟩
       simp[intOf]; omega
   ·obtain⟨q,hq⟩: ∃q:ByteArray,q=⟨(cr (bl e.path)).toArray⟩:=⟨_,rfl⟩;have HQ:=ah hq;have z8:=ah (show dB (tree.take (j+1)) d=dB (tree.take j) d by rw[YN.o,if_neg hR,ci]);have e1:(q.toList == d.toList)=false:=by
     rw[fo];intro hc;have h1:bl q=bl d:=by rw[<-eN,<-eN]; simpa using hc
     exact hR (((congrArg bl hq).trans (iX _)).symm.trans h1)
    clear hR hq;go_wp2_with (go_at_call 92; refine(oM e.path q _ (by omega) HQ.o).mono ?_; rintro e7 w7 ⟨rfl,hP⟩; have H0:=ah (aj y7.o hP); clear hP)
    go_roundw
    ·exact⟨j+1,v2,by omega,by go_num,by rw[z8.o,<-H6.o,<-Yh.o]; exact hU.o.below H0.o H1.o⟩
    simp[intOf]; omega
  ·have Zl:j=n:=by omega
   subst Zl;have hw:its=nA k gs c tree f d:=by rw[Yh.o,HN.o,dw]; rfl
   have YL:=ah (show lM wr w.heap.size u5 (nA k gs c tree f d) by rw[<-hw]; exact hU.o.its);have Hb:=FD (k:=k) (gs:=gs) HX.o.cut HX.o.small f d;have YE:=JW (k:=k) HX.o.gens HX.o.cut HX.o.tok HX.o.small f d;have yb:=pE (k:=k) HX.o.gens HX.o.cut HX.o.tok HX.o.small (f+1) d;have Y4:tH (nA k gs c tree f d)=(df k gs c tree (f+1) d).1:=by
    rw[eL];refine MZ YE (fun it hl=> ?_) (by rw[eL]at yb; simp only at yb; omega);unfold nA at hl;obtain⟨e,he,rfl⟩:=aP.1 hl;obtain⟨i,hi⟩:=List.mem_iff_getElem?.1 (eK.1 he).1;obtain⟨_,_,_,_,_,_,_,yp,_⟩:=jN HT.o hi;have:=yp.tim;simp[Lit.wf,IntKind.min,IntKind.max,IntKind.signed,IntKind.bits]at this
    show e.time<_
    omega
   have Ho:=FO (fun _=>True) u5 (nA k gs c tree f d) wr YL.o.at (fun it hl=>FC ((nN YE).2 it hl)) (by have:=DO Hb.1 Hb.2; omega) (by have:=Hb.1; omega);unfold GR at Ho;rw[Y4]at Ho;have Yi:=ah Ho;have H2:=ah yb;have YT:=ah (show s2=gJ k gs ((dB tree d).flatMap (gH k gs c tree f)) s by rw[H6.o,HN.o,dw])
   obtain⟨X,hX⟩:=bI ((df k gs c tree (f+1) d).1);rw[<-hX]at Yi H2;have YW:=ah hX;have Za:=ah (show gJ k gs (df k gs c tree (f+1) d).2 s=qf k gs s2 X by rw[eL,qg,<-YT.o,hX,eL]; rfl);clear hw Hb YE yb Y4 Ho hX;go_wp2_with fail;refine Yi.o.mono ?_;rintro e' w5 ⟨cv,rfl,Yz,Hh⟩;have Yw:=an hD hU.o.kp.below.size;have z4:=ah (gB Yz Yw)
   obtain⟨ca,cc,rfl,-,-⟩:=aH Yz;have Yd:=ah (hU.o.below Hh Yw);obtain⟨xl,HU⟩:=bI X.length;have Zy:1<=xl:=by
    rw[HU,YW.o,eL]
    show 1<=(gk _).length
    unfold gk;rw[ag];have:=sC (nA k gs c tree f d).length;omega
   have Zt:xl<=32768:=by rw[HU]; exact H2.o
   have YV:=ah HU;rw[<-HU];clear Yz Hh Yw HU hU Yi YL k5 k6 k7 k8 k9 k10;have hp:=Av base bb k c (.slice ta j tc) gv v2 (.slice ca xl cc) gs lg s2.2 s2.1 X w5 Yd.o.bd HX.o.keys (HG.o.keep (fun i hi _=>Yd.o.kp.below.block i hi)) HX.o.gens (by have h1:=z4.o; rw[<-YV.o]at h1 ⊢; exact h1) (by rw[<-YV.o]; exact Zt) (by
    have h1:=rH (k:=k) (gs:=gs) ((dB tree d).flatMap (gH k gs c tree f)) s;rw[<-YT.o]at h1;have h3:=YQ.o;rw[eL,ag]at h3
    omega) HX.o.bbb
   have HP:=ah hp;clear hp;unfold fi at HP;have e1:((xl:Int) == 0)=false:=by simp; omega
   go_upto_region 22 with(fail)
   obtain⟨r,hr⟩:=bI (aV k gs X);rw[<-hr]at HP;have Hy:=ah hr;clear hr e1;go_wp2_with fail;refine HP.o.mono ?_;rintro e6 w6 ⟨rfl,v6,HJ,HO⟩;have Ye:=ah (Yd.o.step HJ HO);clear HJ HO;have H5:=ah Ye.o.res;obtain⟨z0,z1,z2,_⟩:=aS H5.o;obtain⟨y0,y1,y2,_⟩:=gI H5.o;go_wp2_with fail;refine NA H5.o rfl rfl ?_;refine⟨by rw[<-YW.o,<-Hy.o]; rfl,v6, ?_, ?_⟩
   ·rw[Za.o];exact Ye.o.bd.other H5.o (by decide) (by decide) (by decide) (fun i hi _=>et hi)
   ·exact((Ye.o.kp.setNew (ai _) hD).setNew (ai _) hD).setNew (ai _) hD
theorem Po (S:Nat->Prop) (L:List dd) (v:Value) (x:Int) (w:World) (hv:dY S w v L) (hps: ∀e∈L,e.path.size<=16777216) (hx:iD L=x):Calls Tryz.prog 31 #[v] w fun e w'=>e= .returned (.int .i64 x)/\Below w.heap.size w w':=by rw[<-hx]; exact Eb S L v w hv hps
theorem Eh {base bb:Nat} {k:dl} {c:fC} {gs:List (ByteArray×Int)} {tree:List dd} {tv gv:Value} {lg:Bool} (hX:RdX base bb k c gs tree): ∀f,RdC base bb k c gs tree tv gv lg f
 | 0=>fun d v s w h1 h2=>by omega
 | f+1=>KI f hX (Eh hX f)
end
section
open Go.RowKit
section
variable {k : dl} {gs : List (ByteArray × Int)} {c : fC} {tree : List dd} {M : List (ByteArray × List UInt8)}
def lh (k:dl) (gs:List (ByteArray×Int)) (M:List (ByteArray×List UInt8)) (cs:List (List UInt8)):Prop:= ∀x∈cs,di M (aV k gs x).name=some x
theorem wX : ∀(xs:List (List UInt8)) (acc:List UInt8),lh k gs M xs->kA M (xs.map (aV k gs)) acc= .ok (acc++xs.flatten)
 | [],acc,_=>by simp[kA]
 | x::xs,acc,h=>by rw[bW,kA,oD (h x (by simp))];simp only;rw[wX xs _ fun y hy=>h y (by simp[hy])];simp
structure pj (k : dl) (gs : List (ByteArray × Int)) (c : fC) (tree : List dd) : Prop where
 ok:Bi tree
 cut:jU c=true
 gens:kC gs
 time: ∀e∈tree,e.time<9223372036854775808
theorem Dp (h:pj k gs c tree) {f:Nat} {d:ByteArray} : ∀it∈nA k gs c tree f d,it.time<9223372036854775808:=by intro it ha;obtain⟨e,he,rfl⟩:=aP.1 ha;exact h.time e (eK.1 he).1
theorem py (h:pj k gs c tree) {f:Nat} {d:ByteArray} (hf:512<f+1+(bl d).length) {e:dd} (he:e∈dB tree d):(bl e.path).length<=512/\512<f+(bl e.path).length/\1<=f:=by obtain⟨ha,hb⟩:=eK.1 he;have h3:=dj (h.ok.val e ha);have h4:=fF h3;have h5:=mH h3;rw[hb]at h4;omega
theorem Do (h:pj k gs c tree) {f:Nat} {d:ByteArray} (hf:512<f+1+(bl d).length) (hb:lB k gs c tree (f+1) d=false):jL (nA k gs c tree f d)=true:=
 sJ h.ok h.cut h.gens d _ fun e he hk=>by refine lE h.gens ?_;have h6:=py h hf he;obtain⟨g,rfl⟩: ∃g,f=g+1:=⟨f-1,by omega⟩;exact(kN ((kN hb).1 e he hk)).2
theorem BG (f:Nat) (d:ByteArray):(df k gs c tree (f+1) d).1∈(df k gs c tree (f+1) d).2:=by rw[eL]; simp
theorem FQ (h:pj k gs c tree) {f:Nat} {d:ByteArray} (hf:512<f+1+(bl d).length) (hb:lB k gs c tree (f+1) d=false) (hM:lh k gs M (df k gs c tree (f+1) d).2):
  iz M (aV k gs (df k gs c tree (f+1) d).1)= .ok (nA k gs c tree f d):=by
 unfold iz;rw[oD (hM _ (BG f d))];simp only;have h1:=(kN hb).2;rw[eL]at h1 ⊢;simp only at h1 ⊢;rw[DQ (Do h hf hb) (Dp h) h1]
theorem zK {f:Nat} {d:ByteArray} (hM:lh k gs M (df k gs c tree (f+1) d).2) {e:dd} (he:e∈dB tree d):lh k gs M (gH k gs c tree f e):=fun x hx=>by refine hM x ?_;rw[eL];exact dQ _ (cO.2 ⟨e,he,hx⟩)
theorem Jq (d:ByteArray) (t:List UInt8):bl (d++⟨#[47]⟩++⟨t.toArray⟩)=bl d++47::t:=by rw[nH,nH,iX];simp[bl]
theorem IM {d:ByteArray} {e:dd} (hv:ig e=true) (hp:cr (bl e.path)=bl d):jS d ⟨(mh (bl d) (bl e.path)).toArray⟩=e.path:=by
 have hk:=pX (dj hv) hp
 apply kr
 unfold jS;have h1:=hk.path
 by_cases h0:d.size=0
 ·rw[if_pos h0,iX];rw[if_pos (nM.1 h0)]at h1;exact h1.symm
 ·rw[if_neg h0,Jq];rw[if_neg (fun e=>h0 (nM.2 e))]at h1;exact h1.symm
def wt (tree:List dd) (f:Nat) (e:dd):List dd:=e::(if e.kind=2 then mC tree f e.path else [])
theorem uD (h:pj k gs c tree) {f:Nat} {d:ByteArray} {rec:ByteArray->cH->List dd->Int×List dd}
  (hrec: ∀e∈dB tree d,e.kind=2-> ∀acc:List dd,acc.length+(mC tree f e.path).length<=4096->rec e.path (aV k gs (df k gs c tree f e.path).1) acc=(0,acc++mC tree f e.path))
  (hfil: ∀e∈dB tree d,e.kind=1->lh k gs M (fO c e.data)):
  ∀(L:List dd) (acc:List dd),(∀e∈L,e∈dB tree d)->acc.length+(L.flatMap (wt tree f)).length<=4096->
   iR M rec d (L.map fun e=>cE k gs c d e (aV k gs (df k gs c tree f e.path).1)) acc=(0,acc++L.flatMap (wt tree f))
 | [],acc,_,_=>by simp[iR]
 | e::L,acc,hL,hn=>by
  have he:=hL e (by simp);obtain⟨he1,he2⟩:=eK.1 he;have hv:=h.ok.val e he1;rw[bm,ag,show(wt tree f e).length=(if e.kind=2 then mC tree f e.path else []).length+1 from rfl]at hn;have hpath:jS d (cE k gs c d e (aV k gs (df k gs c tree f e.path).1)).name=e.path:=IM hv he2;have hfe:mO M (cE k gs c d e (aV k gs (df k gs c tree f e.path).1))=(e.data,0):=by
   unfold mO
   show(if e.kind=1 then(match kA M (if e.kind=1 then(fO c e.data).map (aV k gs)else []) []with | .error x=>([],x) | .ok bs=>(bs,0))else(([],0):List UInt8×Int))=_
   by_cases h1:e.kind=1
   ·rw[if_pos h1,if_pos h1,wX _ _ (hfil e he h1),tr]
    rfl
   ·rw[if_neg h1]
    rcases qJ hv with h2 | h2 | h2
    ·exact absurd h2.1 h1
    ·rw[h2.2.1]
    ·rw[h2.2.1]
  rw[bW,iR,if_pos ⟨by rw[hpath]; exact dj hv,by omega⟩];simp only;rw[hpath,hfe];have ha:(⟨e.path,(cE k gs c d e (aV k gs (df k gs c tree f e.path).1)).kind,(cE k gs c d e (aV k gs (df k gs c tree f e.path).1)).mode,(cE k gs c d e (aV k gs (df k gs c tree f e.path).1)).time,e.data,(cE k gs c d e (aV k gs (df k gs c tree f e.path).1)).link⟩:dd)=e:=rfl
  rw[ha]
  show(if(if e.kind=2 then rec e.path (if e.kind=2 then aV k gs (df k gs c tree f e.path).1 else eq) (acc++[e])else((0:Int),acc++[e])).1=0 then iR M rec d _ (if e.kind=2 then rec e.path (if e.kind=2 then aV k gs (df k gs c tree f e.path).1 else eq) (acc++[e])else((0:Int),acc++[e])).2 else _)=_
  by_cases h2:e.kind=2
  ·rw[if_pos h2]at hn;rw[if_pos h2,if_pos h2,hrec e he h2 (acc++[e]) (by rw[ag,bB]; omega),if_pos rfl];rw[uD h hrec hfil L _ (fun x hx=>hL x (by simp[hx])) (by simp only[ag,bB]; omega),bm];unfold wt;rw[if_pos h2];simp
  ·rw[if_neg h2]at hn;rw[if_neg h2,if_pos rfl];rw[uD h hrec hfil L _ (fun x hx=>hL x (by simp[hx])) (by simp only[ag,bB]; simp only[bo]at hn; omega),bm];unfold wt;rw[if_neg h2];simp
theorem DD (h:pj k gs c tree): ∀(f:Nat) (d:ByteArray) (acc:List dd),(bl d).length<=512->512<f+(bl d).length->lB k gs c tree f d=false->lh k gs M (df k gs c tree f d).2->acc.length+(mC tree f d).length<=4096->
  ie M f d (aV k gs (df k gs c tree f d).1) acc=(0,acc++mC tree f d)
 | 0,d,acc,h1,h2,_,_,_=>by omega
 | f+1,d,acc,h1,h2,hb,hM,hn=>by
  rw[ie,FQ h h2 hb hM];simp only;refine uD h (fun e he hk acc hacc=> ?_) (fun e he hk x hx=> ?_) (dB tree d) acc (fun _ he=>he) hn
  ·obtain⟨h3,h4,h5⟩:=py h h2 he;refine DD h f e.path acc h3 h4 ((kN hb).1 e he hk) (fun x hx=> ?_) hacc;refine zK hM he x ?_;unfold gH;rw[if_neg (by omega),if_pos hk];exact hx
  ·refine zK hM he x ?_;unfold gH;rw[if_pos hk];exact hx
theorem DB (h:pj k gs c tree) (hb:lB k gs c tree 514 ⟨#[]⟩=false) (hM:lh k gs M (df k gs c tree 514 ⟨#[]⟩).2):lI M (aV k gs (df k gs c tree 514 ⟨#[]⟩).1)= .ok tree:=by
 have h0:(bl (⟨#[]⟩:ByteArray)).length=0:=rfl;have hp:=BM h.ok (f:=514) (by omega);have h1:=DD (M:=M) h 514 ⟨#[]⟩ [] (by omega) (by omega) hb hM (by rw[hp]; have:=h.ok.len; simp; omega);rw[hp,aI]at h1;unfold lI;rw[h1,if_pos (lE h.gens (kN hb).2)]
 rfl
end
section
variable {visit : cH → Except Int (List cj)}
def pi (visit:cH->Except Int (List cj)) (st:List cH×List cH) (r:cH):Prop:= ∃l,visit r= .ok l/\ ∀it∈l,(∀c∈it.chunks,c∈st.2)/\(it.kind=2->it.node∈st.1/\it.node∈st.2)
structure su (st st' : List cH × List cH) : Prop where
 ex: ∀q∈st.1,q∈st'.1
 li: ∃t,st'.2=st.2++t
theorem su.refl (st:List cH×List cH):su st st:=⟨fun _ h=>h,[],by simp⟩
theorem su.trans {a b c:List cH×List cH} (h:su a b) (h2:su b c):su a c:=⟨fun q hq=>h2.ex q (h.ex q hq),by obtain⟨t,ht⟩:=h.li;obtain⟨s,hs⟩:=h2.li;exact⟨t++s,by rw[hs,ht,bp]⟩⟩
theorem su.mem {a b:List cH×List cH} (h:su a b) {q:cH} (hq:q∈a.2):q∈b.2:=by obtain⟨t,ht⟩:=h.li;rw[ht]; exact dQ _ hq
theorem pi.mono {a b:List cH×List cH} (h:su a b) {r:cH} (hd:pi visit a r):pi visit b r:=by obtain⟨l,h1,h2⟩:=hd;exact⟨l,h1,fun it ha=>⟨fun c hc=>h.mem ((h2 it ha).1 c hc),fun hk=>⟨h.ex _ ((h2 it ha).2 hk).1,h.mem ((h2 it ha).2 hk).2⟩⟩⟩
theorem qS (r:cH) (rs:List cH): ∃t,dC r rs=rs++t:=by
 unfold dC
 split
 ·exact⟨[],by simp⟩
 ·exact⟨[r],rfl⟩
theorem xy : ∀(cs rs:List cH),∃t,gj cs rs=rs++t
 | [],rs=>⟨[],by simp[gj]⟩
 | c::cs,rs=>by
  obtain⟨t,ht⟩:=qS c rs;obtain⟨s,hs⟩:=xy cs (dC c rs);exact⟨t++s,by
   show gj cs (dC c rs)=_
   rw[hs,ht,bp]⟩
def LV (visit:cH->Except Int (List cj)) (f:cH->List cH×List cH->Option (Int×(List cH×List cH))):Prop:= ∀(S:List cH) (r:cH) (st st':List cH×List cH),f r st=some (0,st')->(∀q∈st.1,q∈S\/pi visit st q)->
 su st st'/\r∈st'.1/\r∈st'.2/\ ∀q∈st'.1,q∈S\/pi visit st' q
theorem BK {f:cH->List cH×List cH->Option (Int×(List cH×List cH))} (hf:LV visit f) (S:List cH): ∀(l:List cj) (st st':List cH×List cH),kH f l st=some (0,st')->(∀q∈st.1,q∈S\/pi visit st q)->
  su st st'/\(∀it∈l,(∀c∈it.chunks,c∈st'.2)/\(it.kind=2->it.node∈st'.1/\it.node∈st'.2))/\ ∀q∈st'.1,q∈S\/pi visit st' q
 | [],st,st',h,hi=>by rw[kH,aX,cF]at h;obtain⟨-,rfl⟩:=h;exact⟨su.refl _,(fun it hit=>by cases hit),hi⟩
 | it::l,st,st',h,hi=>by
  have hsub:su st (st.1,gj it.chunks st.2):=⟨fun _ hq=>hq,xy _ _⟩;have hi2: ∀q∈(st.1,gj it.chunks st.2).1,q∈S\/pi visit (st.1,gj it.chunks st.2) q:=fun q hq=>(hi q hq).imp id (pi.mono hsub)
  have hch: ∀c∈it.chunks,c∈(st.1,gj it.chunks st.2).2:=fun c hc=>(pZ _).2 (.inr hc)
  rw[kH]at h
  by_cases hk:it.kind≠2
  ·rw[if_pos hk]at h;obtain⟨h1,h2,h3⟩:=BK hf S l _ _ h hi2;refine⟨hsub.trans h1,fun x hx=> ?_,h3⟩
   rcases aT.1 hx with rfl | hx
   ·exact⟨fun c hc=>h1.mem (hch c hc),fun h=>absurd h hk⟩
   ·exact h2 x hx
  ·rw[if_neg hk,dF]at h;obtain⟨p,hp,h⟩:=h
   by_cases h0:p.1=0
   ·rw[if_neg (by simpa using h0)]at h;obtain⟨p1,p2⟩:=p;simp only at h0;subst h0;obtain⟨k1,k2,k3,k4⟩:=hf S it.node _ p2 hp hi2;obtain⟨h1,h2,h3⟩:=BK hf S l _ _ h k4;refine⟨(hsub.trans k1).trans h1,fun x hx=> ?_,h3⟩
    rcases aT.1 hx with rfl | hx
    ·exact⟨fun c hc=>h1.mem (k1.mem (hch c hc)),fun _=>⟨h1.ex _ k2,h1.mem k3⟩⟩
    ·exact h2 x hx
   ·rw[if_pos (by simpa using h0),aX]at h;rw[h]at h0;exact absurd rfl h0
theorem Jf (h0: ∀r,visit r≠ .error 0): ∀n,LV visit (jx visit n)
 | 0=>fun S r st st' h _=>by simp[jx]at h
 | n+1=>fun S r st st' h hi=>by
  have hsub:su st (st.1,dC r st.2):=⟨fun _ hq=>hq,qS _ _⟩;have hrm:r∈dC r st.2:=nC.2 (.inr rfl);rw[jx]at h
  by_cases hr:r∈st.1
  ·rw[if_pos hr,aX,cF]at h;obtain⟨-,rfl⟩:=h;exact⟨hsub,hr,hrm,fun q hq=>(hi q hq).imp id (pi.mono hsub)⟩
  ·rw[if_neg hr]at h
   cases hv:visit r with
   | error x=>
    rw[hv]at h;simp only[aX,cF]at h;rw[h.1]at hv;exact absurd hv (h0 r)
   | ok l=>
    rw[hv]at h;simp only at h;have hsub2:su st (st.1++[r],dC r st.2):=⟨fun q hq=>dQ _ hq,qS _ _⟩;obtain⟨h1,h2,h3⟩:=BK (Jf h0 n) (r::S) l _ _ h (fun q hq=>by
     rcases aN.1 hq with hq | hq
     ·exact(hi q hq).imp (fun h=>eB _ h) (pi.mono hsub2)
     ·exact .inl (by rw[aE.1 hq]; exact List.mem_cons_self))
    refine⟨hsub2.trans h1,h1.ex r (gF _ (aE.2 rfl)),h1.mem hrm,fun q hq=> ?_⟩
    rcases h3 q hq with h4 | h4
    ·rcases aT.1 h4 with rfl | h4
     ·exact .inr ⟨l,hv,h2⟩
     ·exact .inl h4
    ·exact .inr h4
structure PE (visit : cH → Except Int (List cj)) (G U : cH → Prop) : Prop where
 there: ∀r,G r-> ∃l,visit r= .ok l/\ ∀it∈l,(it.kind=2->G it.node)/\ ∀c∈it.chunks,U c
 self: ∀r,G r->U r
def LU (G U:cH->Prop) (f:cH->List cH×List cH->Option (Int×(List cH×List cH))):Prop:= ∀(r:cH) (st st':List cH×List cH) (x:Int),G r->(∀q∈st.2,U q)->f r st=some (x,st')->x=0/\ ∀q∈st'.2,U q
theorem BJ {G U:cH->Prop} {f:cH->List cH×List cH->Option (Int×(List cH×List cH))} (hf:LU G U f): ∀(l:List cj) (st st':List cH×List cH) (x:Int),(∀it∈l,(it.kind=2->G it.node)/\ ∀c∈it.chunks,U c)->(∀q∈st.2,U q)->kH f l st=some (x,st')->x=0/\ ∀q∈st'.2,U q
 | [],st,st',x,_,hi,h=>by rw[kH,aX,cF]at h;obtain⟨rfl,rfl⟩:=h;exact⟨rfl,hi⟩
 | it::l,st,st',x,hl,hi,h=>by
  have h1:=hl it (by simp);have hi2: ∀q∈gj it.chunks st.2,U q:=fun q hq=>by
   rcases(pZ _).1 hq with hq | hq
   ·exact hi q hq
   ·exact h1.2 q hq
  rw[kH]at h
  by_cases hk:it.kind≠2
  ·rw[if_pos hk]at h;exact BJ hf l _ _ _ (fun y hy=>hl y (by simp[hy])) hi2 h
  ·rw[if_neg hk,dF]at h;obtain⟨p,hp,h⟩:=h;obtain⟨p1,p2⟩:=p;obtain⟨h2,h3⟩:=hf it.node _ p2 p1 (h1.1 (by simpa using hk)) hi2 hp;subst h2;rw[if_neg (by simp)]at h;exact BJ hf l _ _ _ (fun y hy=>hl y (by simp[hy])) h3 h
theorem Je {G U:cH->Prop} (hG:PE visit G U): ∀n,LU G U (jx visit n)
 | 0=>fun r st st' x _ _ h=>by simp[jx]at h
 | n+1=>fun r st st' x hr hi h=>by
  have hi2: ∀q∈dC r st.2,U q:=fun q hq=>by
   rcases nC.1 hq with hq | rfl
   ·exact hi q hq
   ·exact hG.self _ hr
  rw[jx]at h
  split at h
  ·rw[aX,cF]at h;obtain⟨rfl,rfl⟩:=h;exact⟨rfl,hi2⟩
  ·obtain⟨l,hv,hl⟩:=hG.there r hr;rw[hv]at h;exact BJ (Je hG n) l _ _ _ hl hi2 h
end
section
variable {k : dl} {gs : List (ByteArray × Int)} {c : fC} {tree : List dd} {M : List (ByteArray × List UInt8)}
theorem Kr (M:List (ByteArray×List UInt8)) (r:cH):iz M r≠ .error 0:=by
 intro h;unfold iz at h
 cases hc:iK M r with
 | error x=>
  rw[hc]at h;simp only[ey]at h;subst h;unfold iK at hc
  split at hc
  ·simp at hc
  ·split at hc<;> simp at hc
 | ok b=>
  rw[hc]at h;simp only at h
  split at h<;> simp at h
def Qw (k:dl) (gs:List (ByteArray×Int)) (c:fC) (tree:List dd) (r:cH):Prop:= ∃x∈(df k gs c tree 514 ⟨#[]⟩).2,r=aV k gs x
theorem Fw {f:Nat} {d:ByteArray} {e:dd} (he:e∈dB tree d) {x:List UInt8} (hx:x∈gH k gs c tree f e):x∈(df k gs c tree (f+1) d).2:=by rw[eL];exact dQ _ (cO.2 ⟨e,he,hx⟩)
theorem xh {f:Nat} {d:ByteArray} {e:dd} (he:e∈dB tree d) (hk:e.kind=2) {x:List UInt8} (hx:x∈(df k gs c tree f e.path).2):x∈(df k gs c tree (f+1) d).2:=by refine Fw he ?_;unfold gH;rw[if_neg (by omega),if_pos hk];exact hx
theorem xm {d:ByteArray} {e:dd} {r:cH} (hk:e.kind=2):(cE k gs c d e r).node=r:=by
 show(if e.kind=2 then _ else eq)=_
 rw[if_pos hk]
theorem un {d:ByteArray} {e:dd} {r:cH} (hk:e.kind=1):(cE k gs c d e r).chunks=(fO c e.data).map (aV k gs):=by
 show(if e.kind=1 then _ else [])=_
 rw[if_pos hk]
end
section
variable {k : dl} {gs : List (ByteArray × Int)} {c : fC} {tree : List dd} {M : List (ByteArray × List UInt8)}
theorem Iq {A:dd->List (List UInt8)} {B:dd->List dd} : ∀(L:List dd),(∀e∈L,(A e).length<=61*(B e).length)->(L.flatMap A).length<=61*(L.flatMap B).length
 | [],_=>by simp
 | e::L,h=>by
  have h1:=h e (by simp);have h2:=Iq L fun x hx=>h x (by simp[hx])
  rw[bm,bm,ag,ag];omega
theorem OV {B:dd->List dd} {L:List dd} {e:dd} (he:e∈L):(B e).length<=(L.flatMap B).length:=by obtain⟨s,t,rfl⟩:=jy he;rw[bV,bm,ag,ag];omega
theorem IF (hc:jU c=true) (hs:nO tree): ∀(f:Nat) (d:ByteArray),(df k gs c tree f d).2.length<=61*(mC tree f d).length+1
 | 0,d=>by simp[df]
 | f+1,d=>by
  have hk: ∀e∈dB tree d,(gH k gs c tree f e).length<=61*(e::(if e.kind=2 then mC tree f e.path else [])).length:=by
   intro e he;unfold gH
   by_cases h1:e.kind=1
   ·rw[if_pos h1];have h2:=vQ hc e.data;have h3:=hs.data e (eK.1 he).1;rw[az];omega
   ·rw[if_neg h1]
    by_cases h2:e.kind=2
    ·rw[if_pos h2,if_pos h2,az];have:=IF hc hs f e.path;omega
    ·rw[if_neg h2]; simp
  have:=Iq (dB tree d) hk;rw[eL]
  show(_++[_]).length<=61*((dB tree d).flatMap fun e=>e::(if e.kind=2 then mC tree f e.path else [])).length+1
  rw[ag,bB];omega
theorem IE (hc:jU c=true) (hs:nO tree) (h:Bi tree):(df k gs c tree 514 ⟨#[]⟩).2.length<=733:=by have h1:=IF (k:=k) (gs:=gs) hc hs 514 ⟨#[]⟩;rw[BM h (by omega)]at h1;have:=hs.len;omega
def InT (k:dl) (gs:List (ByteArray×Int)) (c:fC) (tree:List dd) (M:List (ByteArray×List UInt8)) (n:Nat) (x:List UInt8):Prop:=(∃e∈tree,e.kind=1/\x∈fO c e.data)\/ ∃f d,(bl d).length<=512/\512<f+(bl d).length/\lB k gs c tree f d=false/\lh k gs M (df k gs c tree f d).2/\f<=514/\x=(df k gs c tree f d).1/\(mC tree f d).length<=n
theorem Dh (h:pj k gs c tree): ∀(f:Nat) (d:ByteArray),(bl d).length<=512->512<f+(bl d).length->lB k gs c tree f d=false->lh k gs M (df k gs c tree f d).2->f<=514-> ∀x∈(df k gs c tree f d).2,InT k gs c tree M (mC tree f d).length x
 | 0,d,h1,h2,_,_,_,_,_=>by omega
 | f+1,d,h1,h2,hb,hM,hf,x,hx=>by
  have hx0:=hx;rw[eL]at hx
  rcases aN.1 hx with hx | hx
  ·obtain⟨e,he,hxe⟩:=cO.1 hx;unfold gH at hxe
   by_cases hk1:e.kind=1
   ·rw[if_pos hk1]at hxe;exact .inl ⟨e,(eK.1 he).1,hk1,hxe⟩
   ·rw[if_neg hk1]at hxe
    by_cases hk:e.kind=2
    ·rw[if_pos hk]at hxe;obtain⟨h3,h4,h5⟩:=py h h2 he;have hb2:=(kN hb).1 e he hk
     rcases Dh h f e.path h3 h4 hb2 (fun x hx=>hM x (xh he hk hx)) (by omega) x hxe with h6 | ⟨f',d',a1,a2,a3,a4,a5,a6,a7⟩
     ·exact .inl h6
     ·refine .inr ⟨f',d',a1,a2,a3,a4,a5,a6, ?_⟩;have h7:=OV (B:=fun e=>e::(if e.kind=2 then mC tree f e.path else [])) he;simp only[if_pos hk,az]at h7
      show _<=((dB tree d).flatMap fun e=>e::(if e.kind=2 then mC tree f e.path else [])).length
      omega
    ·rw[if_neg hk]at hxe
     cases hxe
  ·rw[aE]at hx;refine .inr ⟨f+1,d,h1,h2,hb,hM,hf, ?_,ai _⟩;rw[hx,eL]
end
open Go Go.RowKit Go.Maps
def sS (l:List dd):Bool:=l.all (fun e=>decide (e.data.length<=60)) && decide (l.length<=12)
theorem dY.lts {S:Nat->Prop} {w:World} {v:Value} {l:List dd} (h:dY S w v l):dY (· <w.heap.size) w v l:=
 cN.mono h (by omega) (fun _ hk _=>hk) (fun _ _ _ ⟨v,h1,h2,h3⟩=>⟨v,h1,cD.mono h2 (fun _ hk _=>hk) (by omega),h3⟩)
theorem kZ.lts {S:Nat->Prop} {w:World} {v:Value} {l:List (ByteArray×Int)} (h:kZ S w v l):kZ (· <w.heap.size) w v l:=by
 rcases h with h | ⟨b,h1,_,h2⟩
 ·exact .inl h
 ·exact .inr ⟨b,h1,h2.lt,h2⟩
theorem Et (S:Nat->Prop) (l:List dd) (v:Value) (w:World) (hv:dY S w v l):Calls Tryz.prog 21 #[v] w fun e w'=>e= .returned (.bool (sS l))/\Below w.heap.size w w':=by
 obtain⟨a,c,rfl,hc,hm,-⟩:=cN.shape hv mj.len;unfold maxLen at hm;obtain⟨n,hn⟩:=bI l.length;rw[<-hn]at hv hc ⊢;have HV:=ah hv;have HN:=ah hn;clear hv hn
 go_enter Tryz.func21,Tryz.ntmps21
 go_wp2_with fail
 go_loopw [3] (fun i wr=> ∃j:Nat,j<=n/\i= .int .i64 (j:Int)/\(∀e∈l.take j,e.data.length<=60)/\wr=w) (fun i _=>n-(intOf i).toNat)
 ·exact⟨0,aU _,rfl,by simp,rfl⟩
 ·obtain⟨j,hj,rfl,hb,rfl⟩:=hrel;have ha:=ah hb;clear hb
  by_cases hp:j<n
  ·obtain⟨e,he⟩: ∃e,l[j]? =some e:=⟨l[j]'(by rw[<-HN.o]; exact hp),by simp⟩;obtain⟨b,o,dv,rfl,-,-,hf,-,-,p0,p1,p2,p3,p4,p5⟩:=jN HV.o he;obtain⟨da,dc,ho,-,-⟩:=el.slice hf
   subst ho;have HE:=ah he;obtain⟨dn,hg⟩:=bI e.data.length;rw[<-hg]at p4;have hh:=ah hg;clear he hf p0 p1 p2 p3 p5 hg
   by_cases hd:dn<=60
   ·have hl: ¬60<(dn:Int):=by omega
    have hk:=ah (show ∀e∈l.take (j+1),e.data.length<=60 from by
     rw[dZ HE.o];intro x hx
     rcases aN.1 hx with hx | hx
     ·exact ha.o x hx
     ·rw[aE]at hx;subst hx;rw[<-hh.o]; exact hd)
    go_wp2_with fail
    go_roundw
    ·exact⟨j+1,by omega,by go_num,hk.o,trivial⟩
    simp[intOf]; omega
   ·have hl:60<(dn:Int):=by omega
    have HF:=ah (show sS l=false by
     unfold sS;rw[Bool.and_eq_false_iff]
     left
     rw[fo];intro h;have:=cu.1 h e (aQ HE.o);rw[aJ,<-hh.o]at this;exact hd this)
    go_wp2_with fail;go_ret;exact⟨bX HF.o.symm,ak _ _⟩
  ·obtain rfl:j=n:=by omega
   have HB:=ah (show sS l=decide ((j:Int)<=12) by
    unfold sS;have h1:l.all (fun e=>decide (e.data.length<=60))=true:=by rw[cu];intro x hx;rw[aJ];exact ha.o x (by rw[bw (by rw[<-HN.o]; exact ai _)]; exact hx)
    rw[h1,gU,<-HN.o]
    congr 1
    simp only[eq_iff_iff]
    omega)
   go_wp2_with fail;go_ret;exact⟨bX HB.o.symm,ak _ _⟩
def QO (r:Except Int (cH×List dt)):cH×List dt×Int:=match r with
 | .error x=>(⟨⟨#[]⟩,0,0⟩,[],x)
 | .ok p=>(p.1,p.2,0)
theorem sY.flat {res:Except Int (cH×List dt)} {r:cH} {bs:List dt} {x:Int} {w w':World} {e:Ending} (h:sY res w e w') (he:QO res=(r,bs,x)):
  Below w.heap.size w w'/\ ∃a cap zs,e= .returned (.tuple #[fi r, .slice a bs.length cap, .int .i64 x])/\zs.map Prod.snd=bs/\iw w' w.heap.size (.slice a bs.length cap) zs/\bs.length<=cap/\cap<=maxLen:=by
 obtain⟨hb,h⟩:=h;refine⟨hb, ?_⟩
 cases res with
 | error y=>
  obtain⟨rfl,-⟩:=h
  cases he
  exact⟨none,0,[],rfl,rfl,⟨bM _ _ _ _,by simp⟩,ai _,aU _⟩
 | ok p=>
  obtain⟨v,zs,rfl,hz,ho⟩:=h
  cases he
  obtain⟨a,cap,rfl,h1,h2⟩:=aH ho.row;have hl:p.2.length=zs.length:=by rw[<-hz,aw]
  rw[<-hl]at h1 ho;exact⟨a,cap,zs,by rw[hl],hz,ho,h1,h2⟩
theorem uu {w w':World} {base n cap:Nat} {a:Option Addr} {zs:List mN} {bs:List dt} (hz:zs.map Prod.snd=bs) (h:iw w base (.slice a n cap) zs) (hb:Below w.heap.size w w') {k:Nat} {b:dt} (hk:bs[k]? =some b):
  ∃bk o za zc,a=some ⟨bk,o,none⟩/\w'.cell? ⟨bk,o+k*4,none⟩=some (.string b.ref.name)/\w'.cell? ⟨bk,o+k*4+1,none⟩=some (.int .i64 b.ref.gen)/\w'.cell? ⟨bk,o+k*4+2,none⟩=some (.int .i64 b.ref.size)/\w'.cell? ⟨bk,o+k*4+3,none⟩=some (.slice za b.con.length zc)/\bD (fun _=>True) w' (.slice za b.con.length zc) b.con:=by
 rw[<-hz,bh,iu]at hk;obtain⟨z,ha,rfl⟩:=hk;have h':=h.below hb;obtain⟨bk,o,rfl,-,hf,hc⟩:=tj (cJ h'.row) ha;have hd:=cJ (h'.dat z (aQ ha));obtain⟨_,za,zc,he,-,-,-⟩:=id hd;have q0:=hc 0 (by omega);have q1:=hc 1 (by omega);have q2:=hc 2 (by omega);have q3:=hc 3 (by omega);simp only[nT,aB,cQ,cZ]at q0 q1 q2 q3
 rw[he]at q3;exact⟨bk,o,za,zc,rfl,q0,q1,q2,q3,by rw[<-he]; exact hd.weak fun _ _=>trivial⟩
def nU (k:dl) (c:fC) (ts:List (List dd)):List dt×Bool:=ts.foldl (fun s t=>gJ k [] (df k [] c t 514 ⟨#[]⟩).2 s) ([],false)
def ue (k:dl) (c:fC) (ts:List (List dd)):Bool:=(nU k c ts).2 || EE (nU k c ts).1
theorem CA {k:dl} {c:fC} {ts:List (List dd)} {j:Nat} {t:List dd} (h:ts[j]? =some t):nU k c (ts.take (j+1))=gJ k [] (df k [] c t 514 ⟨#[]⟩).2 (nU k c (ts.take j)):=by rw[dZ h];unfold nU;rw[eR]; rfl
def GT (w:World) (sv:Value) (zs:List (Value×List dd)):Prop:=cD (· <w.heap.size) w 1 sv zs.length (zs.map Prod.fst)/\ ∀z∈zs,dY (· <w.heap.size) w z.1 z.2
theorem kg.tree {w:World} {base bb:Nat} {k:dl} {c:fC} {tv gv v:Value} {lg:Bool} {s:List dt×Bool} (h:kg w base bb k c tv gv v lg s) (tv':Value) (hb:base<=bb):kg (w.setCell ⟨bb,10,none⟩ tv') base bb k c tv' gv v lg s/\Below base w (w.setCell ⟨bb,10,none⟩ tv'):=by
 obtain⟨zs,h1,h2⟩:=h.own;have hs: ∀j,j≠bb->(w.setCell ⟨bb,10,none⟩ tv').heap[j]? =w.heap[j]? :=fun j hj=>ay _ _ _ _ hj
 have ha: ∀ {t:TypeId} {n sz:Nat} {u:Value} {xs:List Value},w.ownsRow base t sz u n xs->t≠130->(w.setCell ⟨bb,10,none⟩ tv').ownsRow base t sz u n xs:=fun hr ht=>ff hr (fun i hi hu=>hs i (fun e=>by obtain⟨cs,hc⟩:=bJ hr hu;subst e;exact ht (bU hc h.box)))
 refine⟨⟨?_,zs,h1,ha h2.row (by decide),fun z hz=>ha (h2.dat z hz) (by decide)⟩,(ak _ _).grown (cK w bb 10 _) ?_ (fun i hi=>by cases hi; exact hb)⟩
 ·have:=jm (k:=10) h.box tv'
  simpa [tL,eT,fZ]using this
 ·have:=am h.box; omega
theorem FR {N:List ByteArray} {m:Nat} {x:ByteArray} (h:N[m]? =some x):decide ((N.take (m+1)).Nodup)=(decide ((N.take m).Nodup) && !(N.take m).any (fun y=>decide (y=x))):=by
 rw[dZ h,dq,aJ,aF,aJ,gP,List.any_eq_false];rw[gR]
 constructor
 ·rintro⟨h1,_,h3⟩;exact⟨h1,fun y hy e=>h3 y hy x (by simp) (by simpa using e)⟩
 ·rintro⟨h1,h3⟩;refine⟨h1,by simp,fun a ha b hb e=> ?_⟩;rw[aE]at hb;subst hb;exact h3 a ha (by simpa using e)
theorem Cm {N:List ByteArray} {m:Nat} {x y:ByteArray} (h:N[m]? =some y):(N.take (m+1)).any (fun z=>decide (z=x))=((N.take m).any (fun z=>decide (z=x)) || decide (y=x)):=by rw[dZ h,List.any_append];simp
theorem PK (a b:ByteArray):(a.toList == b.toList)=decide (b=a):=by
 rw[dq,kf,aJ]
 constructor
 ·intro h;exact(kr (by rw[<-eN,<-eN]; exact h)).symm
 ·rintro rfl; rfl
theorem Gd (k:dl) (c:fC) (zs:List (Value×List dd)) (sv:Value) (w:World) (hk:jK k=true) (hc:jU c=true) (hsd:c.seed<18446744073709551616) (hz:GT w sv zs) (hn:zs.length<=10) (ht: ∀z∈zs,Bi z.2/\nO z.2):
  Calls Tryz.prog 32 #[kF k,kB c,sv] w fun e w'=>e= .returned (.bool (ue k c (zs.map Prod.snd)))/\Below w.heap.size w w':=by
 obtain⟨_,sa,sc,rfl,HU,HV,-⟩:=id hz.1;unfold maxLen at HV;obtain⟨n,Hc⟩:=bI zs.length;have HN:=ah Hc;rw[<-Hc]at hz hn HU ⊢;have HZ:=ah hz;have HK:=ah hk;have HC:=ah hc;have HO:=ah hsd;have HT:=ah ht;obtain⟨W0,hp⟩:=bI (((w.alloc (.cells #[.string k.nm, .string k.st, .string k.ck, .string k.ix, .string k.tk] 42)).alloc (.cells #[.int .i64 c.mn, .int .i64 c.mx, .int .i64 c.win, .int .i64 c.bits, .int .u64 (c.seed:Int)] 45)))
 have HX:W0.heap.size=w.heap.size+2:=by rw[hp]; simp
 have Hq:Below w.heap.size w W0:=by rw[hp]; exact(eW).alloc (by simp) _
 have HH:=ah (show W0.heap[w.heap.size]? =some (.cells #[.string k.nm, .string k.st, .string k.ck, .string k.ix, .string k.tk] 42 (0,0)) by rw[hp]; exact mY (ep w _) _);have HG:=ah (show W0.heap[w.heap.size+1]? =some (.cells #[.int .i64 c.mn, .int .i64 c.mx, .int .i64 c.win, .int .i64 c.bits, .int .u64 (c.seed:Int)] 45 (0,0)) by rw[hp]; exact qa w _ _);obtain⟨bb,Hr⟩:=bI W0.heap.size
 have hd:w.heap.size<=bb:=by omega
 have hA:bb=w.heap.size+2:=by omega
 clear hk hc hsd ht Hc hz;unfold kF kB
 go_enter Tryz.func32,Tryz.ntmps32
 go_upto_region 1 with(fail)
 rw[<-hp];clear hp;obtain⟨a0,a1,a2,a3,a4,_⟩:=aS HH.o;obtain⟨b0,b1,b2,b3,b4,_⟩:=aS HG.o
 go_upto_region 2 with(fail)
 obtain⟨W1,hy⟩:=bI (W0.alloc (.cells (tL k c (.slice none 0 0) (.map none) (.slice none 0 0) false false).toArray 130));have Hp:=ah (show kg W1 w.heap.size bb k c (.slice none 0 0) (.map none) (.slice none 0 0) false (nU k c ((zs.map Prod.snd).take 0))from⟨by rw[hy,Hr]; exact ep W0 _,[],rfl,bM _ _ _ _,by simp⟩);have Hh:=ah (show Below w.heap.size w W1 from aj Hq (by rw[hy]; exact eW))
 simp only[tL,eT,fZ,aK,aI]at hy;rw[<-hy,<-hA];clear hy Hq Hr hA HX a0 a1 a2 a3 a4 b0 b1 b2 b3 b4;go_wp2_with fail
 go_loopw [8] (fun i wr=> ∃(j:Nat) (tv v:Value),j<=n/\i= .int .i64 (j:Int)/\kg wr w.heap.size bb k c tv (.map none) v false (nU k c ((zs.map Prod.snd).take j))/\Below w.heap.size w wr/\(nU k c ((zs.map Prod.snd).take j)).1.length<=j*733) (fun i _=>n-(intOf i).toNat)
 ·exact⟨0,_,_,aU _,rfl,Hp.o,Hh.o,ai _⟩
 ·obtain⟨j,tv,v,hj,rfl,hh,h4,Hx⟩:=hrel;have hx:=ah hh;have Hk:=ah h4;have Hn:=ah Hx;have hF:=cD.same HZ.o.1 (fun i hi=>h4.block i hi);clear hh h4 Hx Hp Hh
  by_cases HP:j<n
  ·obtain⟨z,hz⟩: ∃z,zs[j]? =some z:=⟨zs[j]'(by rw[<-HN.o]; exact HP),by simp⟩;obtain⟨_,sa',sc',he,_,_,h0⟩:=hF
   rcases h0 with h0 | ⟨pb,po,HS,_,hf⟩
   ·have:=HN.o; omega
   ·cases he
    subst HS;have p0:=hf j z.1 (by rw[bh,hz]; rfl);have Hg:=aQ hz;obtain⟨He,hl⟩:=HT.o z Hg;have h7:=HZ.o.2 z Hg;obtain⟨ta,tc,hL,_,_,_⟩:=cN.shape h7 mj.len;rw[hL]at p0;obtain⟨tl,HB⟩:=bI z.2.length;rw[<-HB]at p0 hL;have k10:=ar (k:=10) hx.o.box;have g10:=dE (k:=10) hx.o.box;simp only[tL,eT,fZ,aK,aI,gd]at k10
    have hG:=hx.o.tree (.slice ta tl tc) hd;have hS:=ah (CA (k:=k) (c:=c) (j:=j) (t:=z.2) (show(zs.map Prod.snd)[j]? =some z.2 by rw[bh,hz]; rfl));have Hd:=IE (k:=k) (gs:=[]) (c:=c) HC.o hl He;have Hw:=Hn.o;obtain⟨s2,HR⟩:=bI (nU k c ((zs.map Prod.snd).take j));rw[<-HR]at hG Hw hS;obtain⟨W3,h2⟩:=bI (wr.setCell ⟨bb,10,none⟩ (.slice ta tl tc))
    rw[<-h2]at hG;have hr:Below w.heap.size w W3:=Hk.o.trans hG.2;have hD:=Eh (base:=w.heap.size) (bb:=bb) (lg:=false) (tv:= .slice ta tl tc) (gv:= .map none) ⟨HK.o,HC.o,HO.o,nX,hd,He,hl⟩ 514 ⟨#[]⟩ v s2 W3 (by decide) (by decide) hG.1 (.inl ⟨rfl,rfl⟩) (by rw[<-hL]; exact h7.keep (fun i hi=>hr.block i hi)) (by
     have:j*733<=10*733:=dh _ (by omega)
     omega)
    have HD:=ah hD;have hu:=ah hr;have HI:=ah (show(gJ k [] (df k [] c z.2 514 ⟨#[]⟩).2 s2).1.length<=(j+1)*733 by
     have:=rH (k:=k) (gs:=[]) (df k [] c z.2 514 ⟨#[]⟩).2 s2
     omega)
    clear hf Hg He hl h7 hL HB hG Hd Hw hr hD hz
    go_upto_region 6 with(fail)
    rw[<-h2];clear h2 k10 g10 p0;go_wp2_with fail;refine HD.o.mono ?_;rintro e w5 ⟨rfl,v5,hB,hE⟩;have hP:=ah hB;have HE:=ah (hu.o.trans hE.below);clear hB hE;go_wp2_with fail
    go_roundw
    ·exact⟨j+1, .slice ta tl tc,v5,by omega,by go_num,by rw[hS.o]; exact hP.o,HE.o,by rw[hS.o]; exact HI.o⟩
    simp[intOf]; omega
  ·obtain rfl:j=n:=by omega
   clear hF;obtain⟨bs,cl,h3⟩: ∃bs cl,nU k c (zs.map Prod.snd)=(bs,cl):=⟨_,_,rfl⟩;have HA:(zs.map Prod.snd).take j=zs.map Prod.snd:=bw (by rw[aw,<-HN.o]; exact ai _);have Hl:=ah (show ue k c (zs.map Prod.snd)=(cl || !decide ((bs.map fun b=>b.ref.name).Nodup)) by unfold ue EE; rw[h3]);have hh:=hx.o;rw[HA,h3]at hh
   obtain⟨N,hN⟩:=bI (bs.map fun b=>b.ref.name);rw[<-hN]at Hl;have hY:=ah hN;obtain⟨ys,hI,ho⟩:=hh.own;have hs:ys.map Prod.snd=bs:=hI;obtain⟨av,cvv,hv,hH,hM⟩:=aH ho.row;have Hs:ys.length=bs.length:=by rw[<-hs,aw]
   rw[Hs]at hv hH;obtain⟨bl,hg⟩:=bI bs.length;rw[<-hg]at hv hH;subst hv;unfold maxLen at hM;have hR:=ah hg;have HM:=ah hh;clear h3 HA hh hN hI hs ho Hs hg hx Hn;obtain⟨wo,HW⟩:=bI wr;subst HW;go_wp2_with fail
   go_loopw [9,10] (fun i kk wq=> ∃(m:Nat) (fl:Bool),m<=bl/\i= .int .i64 (m:Int)/\kg wq w.heap.size bb k c tv (.map none) (.slice av bl cvv) false (bs,fl)/\Below w.heap.size w wq/\fl=(cl || !decide ((N.take m).Nodup))) (fun i _ _=>bl-(intOf i).toNat)
   ·exact⟨0,cl,aU _,rfl,HM.o,Hk.o,by simp⟩
   ·obtain⟨m,fl,hm,rfl,Hy,hq,Hu⟩:=hrel;have hZ:=ah Hy;have Hi:=ah hq;have Hm:=ah Hu;clear Hy hq Hu;have k12:=ar (k:=12) hZ.o.box;have k14:=ar (k:=14) hZ.o.box;simp only[tL,eT,fZ,aK,aI,gd]at k12 k14
    by_cases h8:m<bl
    ·obtain⟨b,hb⟩: ∃b,bs[m]? =some b:=⟨bs[m]'(by rw[<-hR.o]; exact h8),by simp⟩;have HF:=ah hb;have Ho:=ah (show N[m]? =some b.ref.name by rw[hY.o,bh,hb]; rfl);obtain⟨nm,Hb⟩:=bI b.ref.name;rw[<-Hb]at Ho;have HJ:=ah Hb;clear hb Hb;obtain⟨wo2,Hf⟩:=bI wr;subst Hf;go_wp2_with fail;clear k12 k14
     go_loopw [10] (fun kk wq=> ∃(m2:Nat) (f2:Bool),m2<=m/\kk= .int .i64 (m2:Int)/\kg wq w.heap.size bb k c tv (.map none) (.slice av bl cvv) false (bs,f2)/\Below w.heap.size w wq/\f2=(fl || (N.take m2).any (fun y=>decide (y=nm)))) (fun kk _=>m-(intOf kk).toNat)
     ·exact⟨0,fl,aU _,rfl,hZ.o,Hi.o,by simp⟩
     ·obtain⟨m2,f2,HY,rfl,Hz,hr,Ht⟩:=hrel;have hJ:=ah Hz;have hu:=ah hr;have hT:=ah Ht;clear Hz hr Ht
      by_cases HQ:m2<m
      ·have h9:m2<bl:=by omega
       obtain⟨b2,hq⟩: ∃b,bs[m2]? =some b:=⟨bs[m2]'(by rw[<-hR.o]; exact h9),by simp⟩;have hX:=ah (show N[m2]? =some b2.ref.name by rw[hY.o,bh,hq]; rfl);have hO:=ah hq;obtain⟨nk,Ha⟩:=bI b2.ref.name;rw[<-Ha]at hX;have HL:=ah Ha;clear hq Ha;go_wp2_with fail;obtain⟨ys,hs,ho⟩:=hJ.o.own;obtain⟨gb,go,_,_,rfl,p0,-,-,-,-⟩:=uu hs ho (ak _ _) HF.o
       obtain⟨gb',go',_,_,Hv,q0,-,-,-,-⟩:=uu hs ho (ak _ _) hO.o;simp only[aX,jq,and_true]at Hv;obtain⟨rfl,rfl⟩:=Hv;rw[<-HJ.o]at p0;rw[<-HL.o]at q0;refine eJ (fun w'=>gg bb k c tv (.map none) (.slice (some ⟨gb,go,none⟩) bl cvv) false f2 w'/\w'.cell? ⟨gb,go+m*4,none⟩=some (.string nm)/\w'.cell? ⟨gb,go+m2*4,none⟩=some (.string nk)) (by kernel_rfl) (by kernel_rfl) ?_
       simp only[bt,bu,az,bo,Nat.reduceAdd,Nat.reduceSub];obtain⟨V,hV⟩:=bI wr.drew;rw[<-hV];have hC:Below wr.heap.size wr V:=by rw[hV]; exact(ak _ _).drew
       have h1:=ah (hJ.o.below hC);have Hj:=ah (hu.o.trans (hC.mono hu.o.size));have SM:=ah (show gg bb k c tv (.map none) (.slice (some ⟨gb,go,none⟩) bl cvv) false f2 V/\V.cell? ⟨gb,go+m*4,none⟩=some (.string nm)/\V.cell? ⟨gb,go+m2*4,none⟩=some (.string nk)from⟨h1.o.box,(hC.cell (p:=⟨gb,go+m*4,none⟩) (bP p0)).trans p0,(hC.cell (p:=⟨gb,go+m2*4,none⟩) (bP q0)).trans q0⟩)
       clear hC hs ho p0 q0 hV hJ
       cases f2 with
       | true=>
        iterate 6 (refine cI rfl SM.o (by rintro w' ⟨ha,hH,hM⟩; unfold gg at ha; have k12:=ar (k:=12) ha; have k14:=ar (k:=14) ha; simp only[tL,eT,fZ,aK,aI,gd]at k12 k14; clear ha; go_simp; rfl) ?_; simp only[bN])
        iterate 19 (refine MF rfl SM.o ?_; simp only[bN])
        iterate 3 (refine cI rfl SM.o (by rintro w' ⟨ha,hH,hM⟩; unfold gg at ha; have k12:=ar (k:=12) ha; have k14:=ar (k:=14) ha; simp only[tL,eT,fZ,aK,aI,gd]at k12 k14; clear ha; go_simp; rfl) ?_; simp only[bN])
        refine cL (by kernel_rfl) ?_;refine eU rfl rfl (fun K hK=> ?_);have ha:=SM.o.1;unfold gg at ha;have k14:=ar (k:=14) ha;have kz14:=dE (k:=14) ha;simp only[tL,eT,fZ,aK,aI,gd]at k14;clear ha;have hf:=kg.clash h1.o (true) hd;have hw:=ah hf;have hU:=ah (show(true)=(fl || (N.take (m2+1)).any (fun y=>decide (y=nm))) by rw[Cm hX.o,<-Bool.or_assoc,<-hT.o]; first | rfl | rw[PK]; rfl)
        clear hf;go_wp2_with fail
        go_roundw
        ·exact⟨m2+1,true,by omega,by go_num,hw.o.1,Hj.o.trans hw.o.2.below,hU.o⟩
        simp[intOf]; omega
       | false=>
        iterate 28 (refine cI rfl SM.o (by rintro w' ⟨ha,hH,hM⟩; unfold gg at ha; have k12:=ar (k:=12) ha; have k14:=ar (k:=14) ha; simp only[tL,eT,fZ,aK,aI,gd]at k12 k14; clear ha; go_simp; rfl) ?_; simp only[bN])
        refine cL (by kernel_rfl) ?_;refine eU rfl rfl (fun K hK=> ?_);have ha:=SM.o.1;unfold gg at ha;have k14:=ar (k:=14) ha;have kz14:=dE (k:=14) ha;simp only[tL,eT,fZ,aK,aI,gd]at k14;clear ha;have hf:=kg.clash h1.o ((nm.toList == nk.toList)) hd;have hw:=ah hf;have hU:=ah (show((nm.toList == nk.toList))=(fl || (N.take (m2+1)).any (fun y=>decide (y=nm))) by rw[Cm hX.o,<-Bool.or_assoc,<-hT.o]; first | rfl | rw[PK]; rfl)
        clear hf;go_wp2_with fail
        go_roundw
        ·exact⟨m2+1,(nm.toList == nk.toList),by omega,by go_num,hw.o.1,Hj.o.trans hw.o.2.below,hU.o⟩
        simp[intOf]; omega
      ·obtain rfl:m2=m:=by omega
       have hW:=ah (show f2=(cl || !decide ((N.take (m2+1)).Nodup)) by
        rw[hT.o,Hm.o,FR Ho.o]
        generalize decide ((N.take m2).Nodup)=D
        generalize (N.take m2).any (fun y=>decide (y=nm))=A
        cases cl<;> cases D<;> cases A<;> rfl)
       go_wp2_with fail
       go_roundw
       ·exact⟨m2+1,f2,by omega,by go_num,hJ.o,hu.o,hW.o⟩
       simp[intOf]; omega
    ·obtain rfl:m=bl:=by omega
     have hW:=ah (show fl=ue k c (zs.map Prod.snd) by rw[Hl.o,Hm.o,bw (by rw[hY.o,aw,<-hR.o]; exact ai _)])
     go_wp2_with fail;go_ret;exact⟨bX hW.o,Hi.o⟩
theorem Jy {a:Act} {w:World} {b:Nat} {x0 x1 x2 e9 e10:Value} (h:w.heap[b]? =some (.cells #[x0,x1,x2] 26 (0,0)))
  (h8:a.tmps[2]? =some (.pointer (some ⟨b,0,none⟩))) (h9:a.tmps[3]? =some e9) (h10:a.tmps[4]? =some e10):(results Tryz.f35 a.tmps).run Tryz.prog w= .ok (.tuple #[.agg #[x0,x1,x2],e9,e10]) w:=by
 obtain⟨m0,m1,m2,_⟩:=aS h;simp[results,Tryz.results35,go_sem,h8,h9,h10,m0,m1,m2]
theorem Jw {a:Act} {w:World} {b:Nat} {a0 a1 a2 x0 x1 x2 e9 e10:Value} {Q:Ending->World->Prop} (h:w.heap[b]? =some (.cells #[a0,a1,a2] 26 (0,0)))
  (h8:a.tmps[2]? =some (.pointer (some ⟨b,0,none⟩))) (h9:a.tmps[3]? =some e9) (h10:a.tmps[4]? =some e10) (hd:a.defers=[])
  (hQ:Q (.returned (.tuple #[.agg #[x0,x1,x2],e9,e10])) (((w.setCell ⟨b,0,none⟩ x0).setCell ⟨b,1,none⟩ x1).setCell ⟨b,2,none⟩ x2)):
  bodyPost Tryz.prog Tryz.f35 Q Exit.ret a (((w.setCell ⟨b,0,none⟩ x0).setCell ⟨b,1,none⟩ x1).setCell ⟨b,2,none⟩ x2):=cP (Jy (vu h) h8 h9 h10) hd hQ
def LC (r:cH) (bs:List dt) (w:World) (e:Ending) (w':World):Prop:=Below w.heap.size w w'/\ ∃a cap zs,e= .returned (.tuple #[fi r, .slice a bs.length cap, .bool true])/\zs.map Prod.snd=bs/\iw w' w.heap.size (.slice a bs.length cap) zs/\bs.length<=cap/\cap<=maxLen
theorem Jv (S:Nat->Prop) (tree:List dd) (tv:Value) (w:World) (he:rP w) (ht:dY S w tv tree) {r:cH} {bs:List dt} (hb:iy fh kP tree []= .ok (r,bs)):Calls Tryz.prog 35 #[tv] w (LC r bs w):=by
 have HE:=ah he;have HT:=ah ht;have HB:=ah hb;obtain⟨W0,hd⟩:=bI (w.alloc (.cells #[.string ⟨#[]⟩, .int .i64 0, .int .i64 0] 26));have hy:=ah (show Below w.heap.size w W0 by rw[hd]; exact eW);have hD:=ah (show W0.heap[w.heap.size]? =some (.cells #[.string ⟨#[]⟩, .int .i64 0, .int .i64 0] 26 (0,0)) by rw[hd]; exact ep w _);clear he ht hb
 go_enter Tryz.func35,Tryz.ntmps35
 go_wp2_with fail;rw[<-hd];clear hd;refine(tB _).mono ?_;rintro e w1 ⟨rfl,hm⟩;have hz:=ah (aj hy.o hm);have hE:=ah (er hm hD.o);clear hm;go_wp2_with fail;refine(oF _).mono ?_;rintro e w2 ⟨rfl,hn⟩;have ha:=ah (aj hz.o hn);have hF:=ah (er hn hE.o);have hw:=uc _ (fun _=>True) fh kP tree [] tv (.map none) w2 (by decide) (HT.o.below ha.o) (.inl ⟨rfl,rfl⟩) (HE.o.below ha.o)
 have hq:=ah hw;clear hn hw;go_wp2_with fail;refine hq.o.mono ?_;rintro e w3 hr;obtain⟨ho,ba,bc,zs,rfl,hx,hv,hs,hu⟩:=hr.flat (show QO (iy fh kP tree [])=(r,bs,0) by rw[HB.o]; rfl);have hA:=ah (aj ha.o ho);have hG:=ah (er ho hF.o);have hH:=ah hx;have hk:=ah hv;have hh:=ah (aA hs hu);have hI:w.heap.size<=w2.heap.size:=ha.o.size
 obtain⟨bl,hp⟩:=bI bs.length;have hj:=ah hp;rw[<-hp]at hk hh ⊢;unfold fi;clear hr ho hx hv hs hu hq hp
 go_upto_region 2 with(fail)
 obtain⟨W3,hf⟩:=bI (w3.alloc (.cells #[.string r.name, .int .i64 r.gen, .int .i64 r.size] 26));have hg:=show Below w3.heap.size w3 W3 by rw[hf]; exact eW
 have hC:=ah (show W3.heap[w3.heap.size]? =some (.cells #[.string r.name, .int .i64 r.gen, .int .i64 r.size] 26 (0,0)) by rw[hf]; exact ep w3 _);have hB:=ah (aj hA.o hg);have hc:=ah (er hg hG.o);have hl:=ah (hk.o.below hg);rw[<-hf];clear hf hg hk;obtain⟨p0,p1,p2,_⟩:=aS hC.o;obtain⟨z0,z1,z2,_⟩:=aS hc.o;obtain⟨y0,y1,y2,_⟩:=gI hc.o
 go_wp2_with fail;refine Jw hc.o rfl rfl rfl rfl ?_;refine⟨il hB.o (ai _),ba,bc,zs,by rw[<-hj.o]; rfl,hH.o, ?_,by rw[<-hj.o]; exact hh.o.1,hh.o.2⟩;rw[<-hj.o];exact hl.o.other hc.o (by decide) (by decide) hI (fun i hi=>et hi)
end
section
open Go.RowKit
section
variable {k : dl} {gs : List (ByteArray × Int)}
theorem Nu {bs:List dt} {x:List UInt8} {b:dt} (h:b∈kJ k gs bs x):b∈bs\/b=⟨aV k gs x,x⟩:=by
 unfold kJ at h
 split at h
 ·exact .inl h
 ·rcases aN.1 h with h | h
  ·exact .inl h
  ·exact .inr (aE.1 h)
theorem Nw {bs:List dt} {x:List UInt8} {b:dt} (h:b∈bs):b∈kJ k gs bs x:=by
 unfold kJ
 split
 ·exact h
 ·exact dQ _ h
theorem Nv (bs:List dt) (x:List UInt8):aV k gs x∈(kJ k gs bs x).map dt.ref:=by
 unfold kJ
 split
 ·assumption
 ·simp
theorem zj : ∀(cs:List (List UInt8)) {bs:List dt} {b:dt},b∈eG k gs cs bs->b∈bs\/ ∃x∈cs,b=⟨aV k gs x,x⟩
 | [],_,_,h=> .inl h
 | x::cs,bs,b,h=>by
  rcases zj cs (bs:=kJ k gs bs x) h with h | ⟨y,hy,e⟩
  ·rcases Nu h with h | h
   ·exact .inl h
   ·exact .inr ⟨x,by simp,h⟩
  ·exact .inr ⟨y,by simp[hy],e⟩
theorem zk : ∀(cs:List (List UInt8)) {bs:List dt} {b:dt},b∈bs->b∈eG k gs cs bs
 | [],_,_,h=>h
 | x::cs,bs,_b,h=>zk cs (bs:=kJ k gs bs x) (Nw h)
theorem zi : ∀(cs:List (List UInt8)) {bs:List dt} {x:List UInt8},x∈cs->aV k gs x∈(eG k gs cs bs).map dt.ref
 | y::cs,bs,x,h=>by
  rcases aT.1 h with rfl | h
  ·obtain⟨_,hb,e⟩:=aP.1 (Nv (k:=k) (gs:=gs) bs x);exact aP.2 ⟨_,zk cs hb,e⟩
  ·exact zi cs (bs:=kJ k gs bs y) h
end
def On (k:dl) (gs:List (ByteArray×Int)) (U:List (List UInt8)):Prop:= ∀x∈U,∀y∈U,(aV k gs x).name=(aV k gs y).name->x=y
section
variable {k : dl} {gs : List (ByteArray × Int)}
theorem On.sub {U V:List (List UInt8)} (h:On k gs U) (hs: ∀x∈V,x∈U):On k gs V:=fun x hx y hy e=>h x (hs x hx) y (hs y hy) e
theorem DK : ∀ {bs:List dt},(bs.map fun b=>b.ref.name).Nodup-> ∀a∈bs,∀b∈bs,a.ref.name=b.ref.name->a=b
 | x::bs,h,a,ha,b,hb,e=>by
  rw[bW,jA]at h
  rcases aT.1 ha with ha1 | ha1
  ·rcases aT.1 hb with hb1 | hb1
   ·rw[ha1,hb1]
   ·rw[ha1]at e;exact absurd (aP.2 ⟨b,hb1,e.symm⟩) h.1
  ·rcases aT.1 hb with hb1 | hb1
   ·rw[hb1]at e;exact absurd (aP.2 ⟨a,ha1,e⟩) h.1
   ·exact DK h.2 a ha1 b hb1 e
theorem Qo {cs1 cs2:List (List UInt8)} (h1:(gJ k gs cs2 (gJ k gs cs1 ([],false))).2=false) (h2:EE (gJ k gs cs2 (gJ k gs cs1 ([],false))).1=false):On k gs (cs1++cs2):=by
 obtain⟨g1,g2,g3⟩:=ux h1;obtain⟨_,_,f3⟩:=ux g1;have hc: ∀x∈cs1++cs2,∃b∈(gJ k gs cs2 (gJ k gs cs1 ([],false))).1,b.ref=aV k gs x/\b.con=x:=fun x hx=>by
  rcases aN.1 hx with hx | hx
  ·obtain⟨b,hb,e⟩:=f3 x hx;exact⟨b,g2 b hb,e⟩
  ·exact g3 x hx
 unfold EE at h2;rw[Bool.not_eq_false',aJ]at h2;intro x hx y hy e;obtain⟨a,ha,hd,he⟩:=hc x hx;obtain⟨b,hb,hf,hg⟩:=hc y hy;rw[<-hd,<-hf]at e;rw[<-he,<-hg,DK h2 a ha b hb e]
theorem Pe {cs:List (List UInt8)} (h1:(gJ k gs cs ([],false)).2=false) (h2:EE (gJ k gs cs ([],false)).1=false):On k gs cs:=by
 have:=Qo (cs1:=cs) (cs2:=[]) h1 h2
 rwa [ci]at this
theorem wJ : ∀(bs:List dt) (cs:List (ByteArray×List UInt8)),(∀a∈bs,∀b∈bs,a.ref.name=b.ref.name->a.con=b.con)-> ∀b∈bs,di (bs.foldl (fun cs b=>ng cs b.ref.name b.con) cs) b.ref.name=some b.con
 | a::bs,cs,h,b,hb=>by
  rw[ez]
  by_cases hx: ∃b'∈bs,b'.ref.name=b.ref.name
  ·obtain⟨b',hb',e⟩:=hx;have:=wJ bs (ng cs a.ref.name a.con) (fun x hx y hy=>h x (by simp[hx]) y (by simp[hy])) b' hb';rw[e]at this;rw[this,h b' (by simp[hb']) b hb e]
  ·rcases aT.1 hb with rfl | hb
   ·rw[CJ bs _ _ fun y hy e=>hx ⟨y,hy,e⟩,mA,if_pos rfl]
   ·exact absurd ⟨b,hb,rfl⟩ hx
def OfC (k:dl) (gs:List (ByteArray×Int)) (U:List (List UInt8)) (bs:List dt):Prop:= ∀b∈bs,∃x∈U,b=⟨aV k gs x,x⟩
theorem Cq (cs:List (List UInt8)):OfC k gs cs (eG k gs cs []):=fun b hb=>by
 rcases zj cs hb with h | h
 ·cases h
 ·exact h
theorem OP {U:List (List UInt8)} {bs:List dt} (hn:On k gs U) (hU:OfC k gs U bs): ∀b∈bs,di (kU bs) b.ref.name=some b.con:=
 wJ bs [] fun a ha b hb e=>by obtain⟨x,hx,rfl⟩:=hU a ha;obtain⟨y,hy,rfl⟩:=hU b hb;exact hn x hx y hy e
theorem MB {U cs:List (List UInt8)} {bs:List dt} (hn:On k gs U) (hU:OfC k gs U bs) (hc: ∀x∈cs,x∈U/\aV k gs x∈bs.map dt.ref):lh k gs (kU bs) cs:=fun x hx=>by obtain⟨h1,h2⟩:=hc x hx;obtain⟨b,hb,e⟩:=aP.1 h2;obtain⟨y,hy,rfl⟩:=hU b hb;have h3:=OP hn hU _ hb;simp only at e h3;rw[<-e,h3,hn y hy x h1 (congrArg cH.name e)]
theorem zL {cs:List (List UInt8)} (hn:On k gs cs):lh k gs (kU (eG k gs cs [])) cs:=
 MB hn (Cq cs) fun _x hx=>⟨hx,zi cs hx⟩
end
section
variable {k : dl} {gs : List (ByteArray × Int)} {c : fC} {tree : List dd}
end
theorem DZ : ∀(cs:List (ByteArray×List UInt8)) (n:ByteArray) (x:List UInt8),(ng cs n x).length<=cs.length+1
 | [],_,_=>by simp[ng]
 | (m,y)::cs,n,x=>by
  unfold ng
  split
  ·simp
  ·have:=DZ cs n x;simp only[az]; omega
theorem JG (bs:List dt):(kU bs).length<=bs.length:=by
 have: ∀(bs:List dt) (cs:List (ByteArray×List UInt8)),(bs.foldl (fun cs b=>ng cs b.ref.name b.con) cs).length<=cs.length+bs.length:=by
  intro bs
  induction bs with
  | nil=>intro cs; simp
  | cons b bs ih=>
   intro cs;rw[ez,az];have h1:=ih (ng cs b.ref.name b.con);have h2:=DZ cs b.ref.name b.con;omega
 have h:=this bs [];simp only[bo,bT]at h;exact h
theorem uw {cs:List (ByteArray×List UInt8)} (h:cs.length<=100000) (r:cH):oK (iQ cs) (qq cs) r=some (sq cs r)/\ ∀p,jx (iQ cs) (qq cs) r ([],[])=some p->p.2.2.length<1099511627775:=by
 obtain⟨x,st',h1,h2⟩:=ol cs r;refine⟨?_,fun p hp=> ?_⟩
 ·unfold sq;have: ∃y,oK (iQ cs) (qq cs) r=some y:=by
   unfold oK
   split
   ·rw[h1]; exact⟨_,rfl⟩
   ·exact⟨_,rfl⟩
  obtain⟨y,hy⟩:=this;rw[hy]; rfl
 ·rw[h1]at hp;simp only[aX]at hp;subst hp;have h3:=qU h2.l1 h2.l2;have h4:=zw (cs:=cs);have h5:cs.length*3948544<=100000*3948544:=dh _ h;simp only[az]at h3;simp only;omega
theorem Nr {cs:List (ByteArray×List UInt8)} (h:cs.length<=100000) {r:cH} {l:List cH} (hl:sq cs r= .ok l):l.length<1099511627775:=by
 obtain⟨h1,h2⟩:=uw h r;obtain⟨x,st',h3,_⟩:=ol cs r;have h4:=h2 _ h3;rw[hl]at h1;unfold oK at h1
 split at h1
 ·rw[h3]at h1;simp only[dW,aX]at h1
  split at h1
  ·simp only[dr]at h1; subst h1; exact h4
  ·simp at h1
 ·simp at h1
open Go Go.RowKit Go.Maps
theorem JL {S:Nat->Prop} {w:World} {v:Value} {l:List dd} (h:dY S w v l): ∀e∈l,e.time<9223372036854775808:=by intro e he;obtain⟨a,c,rfl,_⟩:=cN.shape h mj.len;obtain⟨i,hi⟩:=List.mem_iff_getElem?.1 he;obtain⟨_,_,_,_,_,_,_,ha,_⟩:=jN h hi;have:=ha.tim;simp[Lit.wf,IntKind.min,IntKind.max,IntKind.signed,IntKind.bits]at this;omega
theorem JF {k:dl} {gs:List (ByteArray×Int)} {c:fC} {tree:List dd} (h:pj k gs c tree) (hs:nO tree) {M:List (ByteArray×List UInt8)} (hM:lh k gs M (df k gs c tree 514 ⟨#[]⟩).2): ∀x∈(df k gs c tree 514 ⟨#[]⟩).2,x.length<=1048576:=by
 intro x hx;have hz:(bl ⟨#[]⟩).length=0:=rfl
 rcases Dh h 514 ⟨#[]⟩ (by omega) (by omega) (rK h.gens h.cut h.ok hs _ _) hM (ai _) x hx with⟨e,he,_,h6⟩ | ⟨f',d',a1,a2,a3,a4,a5,a6,a7⟩
 ·have:=(qF h.cut _ _ h6).2;omega
 ·rw[a6];have:=pE (k:=k) h.gens h.cut h.ok hs f' d';omega
end
section
open Go.RowKit
section
variable {k : dl} {gs : List (ByteArray × Int)} {c : fC} {tree : List dd} {M : List (ByteArray × List UInt8)}
def mp (k:dl) (gs:List (ByteArray×Int)) (M:List (ByteArray×List UInt8)) (cs:List (List UInt8)):Prop:= ∀x∈cs,di M (aV k gs x).name=some x\/di M (aV k gs x).name=none
theorem wE {r:cH} (h:di M r.name=none):iK M r= .error 10:=by unfold iK; rw[h]
theorem zH : ∀(xs:List (List UInt8)) (acc:List UInt8),mp k gs M xs->(lh k gs M xs/\kA M (xs.map (aV k gs)) acc= .ok (acc++xs.flatten))\/kA M (xs.map (aV k gs)) acc= .error 10
 | [],acc,_=> .inl ⟨fun x hx=>(by cases hx),by simp[kA]⟩
 | x::xs,acc,h=>by
  rw[bW,kA]
  rcases h x (by simp)with h1 | h1
  ·rw[oD h1];simp only
   rcases zH xs (acc++x) (fun y hy=>h y (by simp[hy]))with⟨h2,h3⟩ | h2
   ·refine .inl ⟨fun y hy=> ?_,by rw[h3]; simp⟩
    rcases aT.1 hy with rfl | hy
    ·exact h1
    ·exact h2 y hy
   ·exact .inr h2
  ·rw[wE h1];exact .inr rfl
theorem Ak (h:pj k gs c tree) {f:Nat} {d:ByteArray} (hf:512<f+1+(bl d).length) (hb:lB k gs c tree (f+1) d=false) (hM:mp k gs M (df k gs c tree (f+1) d).2):
  (di M (aV k gs (df k gs c tree (f+1) d).1).name=some (df k gs c tree (f+1) d).1/\iz M (aV k gs (df k gs c tree (f+1) d).1)= .ok (nA k gs c tree f d))\/(di M (aV k gs (df k gs c tree (f+1) d).1).name=none/\iz M (aV k gs (df k gs c tree (f+1) d).1)= .error 10):=by
 rcases hM _ (BG f d)with h1 | h1
 ·refine .inl ⟨h1, ?_⟩;unfold iz;rw[oD h1];simp only;have h2:=(kN hb).2;rw[eL]at h2 ⊢;simp only at h2 ⊢;rw[DQ (Do h hf hb) (Dp h) h2]
 ·refine .inr ⟨h1, ?_⟩;unfold iz;rw[wE h1]
theorem Nn {f:Nat} {d:ByteArray} (hM:mp k gs M (df k gs c tree (f+1) d).2) {e:dd} (he:e∈dB tree d):mp k gs M (gH k gs c tree f e):=fun x hx=>hM x (Fw he hx)
theorem rL (h:pj k gs c tree) {f:Nat} {d:ByteArray} {rec:ByteArray->cH->List dd->Int×List dd}
  (hrec: ∀e∈dB tree d,e.kind=2-> ∀acc:List dd,acc.length+(mC tree f e.path).length<=4096->(lh k gs M (df k gs c tree f e.path).2/\rec e.path (aV k gs (df k gs c tree f e.path).1) acc=(0,acc++mC tree f e.path))\/(rec e.path (aV k gs (df k gs c tree f e.path).1) acc).1=10)
  (hfil: ∀e∈dB tree d,e.kind=1->mp k gs M (fO c e.data)):
  ∀(L:List dd) (acc:List dd),(∀e∈L,e∈dB tree d)->acc.length+(L.flatMap (wt tree f)).length<=4096->
   ((∀e∈L,lh k gs M (gH k gs c tree f e))/\iR M rec d (L.map fun e=>cE k gs c d e (aV k gs (df k gs c tree f e.path).1)) acc=(0,acc++L.flatMap (wt tree f)))\/(iR M rec d (L.map fun e=>cE k gs c d e (aV k gs (df k gs c tree f e.path).1)) acc).1=10
 | [],acc,_,_=> .inl ⟨fun e he=>(by cases he),by simp[iR]⟩
 | e::L,acc,hL,hn=>by
  have he:=hL e (by simp);obtain⟨he1,he2⟩:=eK.1 he;have hv:=h.ok.val e he1;rw[bm,ag,show(wt tree f e).length=(if e.kind=2 then mC tree f e.path else []).length+1 from rfl]at hn;have hpath:jS d (cE k gs c d e (aV k gs (df k gs c tree f e.path).1)).name=e.path:=IM hv he2;have hsub: ∀(P:Prop),(∀x∈L,x∈dB tree d):=fun _ x hx=>hL x (by simp[hx])
  rw[bW,iR,if_pos ⟨by rw[hpath]; exact dj hv,by omega⟩];simp only;rw[hpath];have hitem: ∀u,(⟨e.path,(cE k gs c d e (aV k gs (df k gs c tree f e.path).1)).kind,(cE k gs c d e (aV k gs (df k gs c tree f e.path).1)).mode,(cE k gs c d e (aV k gs (df k gs c tree f e.path).1)).time,u,(cE k gs c d e (aV k gs (df k gs c tree f e.path).1)).link⟩:dd)= {e with data:=u} :=fun _=>rfl
  rw[hitem]
  by_cases h1:e.kind=1
  ·have h2: ¬e.kind=2:=by omega
   rw[if_neg h2]at hn;have ha:mO M (cE k gs c d e (aV k gs (df k gs c tree f e.path).1))=match kA M ((fO c e.data).map (aV k gs)) []with | .error x=>([],x) | .ok bs=>(bs,0):=by
    unfold mO;rw[show(cE k gs c d e (aV k gs (df k gs c tree f e.path).1)).kind=e.kind from rfl,if_pos h1,un h1]
    cases kA M ((fO c e.data).map (aV k gs)) []<;> rfl
   rw[show(cE k gs c d e (aV k gs (df k gs c tree f e.path).1)).kind=e.kind from rfl,if_neg h2,ha]
   rcases zH (fO c e.data) [] (hfil e he h1)with⟨h3,h4⟩ | h3
   ·rw[h4];simp only[aI,if_true];rw[tr];have hb:({e with data:=e.data} :dd)=e:=rfl;rw[hb]
    rcases rL h hrec hfil L (acc++[e]) (fun x hx=>hL x (by simp[hx])) (by simp only[ag,bB]; simp only[bo]at hn; omega)with⟨h5,h6⟩ | h5
    ·refine .inl ⟨fun x hx=> ?_, ?_⟩
     ·rcases aT.1 hx with rfl | hx
      ·unfold gH; rw[if_pos h1]; exact h3
      ·exact h5 x hx
     ·rw[h6,bm];unfold wt;rw[if_neg h2];simp
    ·exact .inr h5
   ·rw[h3];exact .inr (by simp)
  ·have ha:mO M (cE k gs c d e (aV k gs (df k gs c tree f e.path).1))=(e.data,0):=by
    unfold mO;rw[show(cE k gs c d e (aV k gs (df k gs c tree f e.path).1)).kind=e.kind from rfl,if_neg h1]
    rcases qJ hv with h2 | h2 | h2
    ·exact absurd h2.1 h1
    ·rw[h2.2.1]
    ·rw[h2.2.1]
   rw[ha];simp only;rw[show({e with data:=e.data} :dd)=e from rfl,show(cE k gs c d e (aV k gs (df k gs c tree f e.path).1)).kind=e.kind from rfl]
   by_cases h2:e.kind=2
   ·rw[if_pos h2]at hn;rw[if_pos h2,xm h2]
    rcases hrec e he h2 (acc++[e]) (by rw[ag,bB]; omega)with⟨h3,h4⟩ | h3
    ·rw[h4,if_pos rfl]
     rcases rL h hrec hfil L (acc++[e]++mC tree f e.path) (fun x hx=>hL x (by simp[hx])) (by simp only[ag,bB]; omega)with⟨h5,h6⟩ | h5
     ·refine .inl ⟨fun x hx=> ?_, ?_⟩
      ·rcases aT.1 hx with rfl | hx
       ·unfold gH; rw[if_neg h1,if_pos h2]; exact h3
       ·exact h5 x hx
      ·rw[h6,bm];unfold wt;rw[if_pos h2];simp
     ·exact .inr h5
    ·rw[if_neg (by rw[h3]; decide)];exact .inr h3
   ·rw[if_neg h2]at hn;rw[if_neg h2,if_pos rfl]
    rcases rL h hrec hfil L (acc++[e]) (fun x hx=>hL x (by simp[hx])) (by simp only[ag,bB]; simp only[bo]at hn; omega)with⟨h5,h6⟩ | h5
    ·refine .inl ⟨fun x hx=> ?_, ?_⟩
     ·rcases aT.1 hx with rfl | hx
      ·unfold gH; rw[if_neg h1,if_neg h2];intro y hy; cases hy
      ·exact h5 x hx
     ·rw[h6,bm];unfold wt;rw[if_neg h2];simp
    ·exact .inr h5
theorem Ab (h:pj k gs c tree): ∀(f:Nat) (d:ByteArray) (acc:List dd),(bl d).length<=512->512<f+(bl d).length->lB k gs c tree f d=false->mp k gs M (df k gs c tree f d).2->acc.length+(mC tree f d).length<=4096->
  (lh k gs M (df k gs c tree f d).2/\ie M f d (aV k gs (df k gs c tree f d).1) acc=(0,acc++mC tree f d))\/(ie M f d (aV k gs (df k gs c tree f d).1) acc).1=10
 | 0,d,acc,h1,h2,_,_,_=>by omega
 | f+1,d,acc,h1,h2,hb,hM,hn=>by
  rw[ie]
  rcases Ak h h2 hb hM with⟨h3,h4⟩ | ⟨h3,h4⟩
  ·rw[h4];simp only
   rcases rL h (M:=M) (f:=f) (d:=d) (rec:=ie M f) (fun e he hk acc hacc=>by obtain⟨k3,k4,k5⟩:=py h h2 he;exact Ab h f e.path acc k3 k4 ((kN hb).1 e he hk) (fun x hx=>hM x (xh he hk hx)) hacc) (fun e he hk x hx=>Nn hM he x (by unfold gH; rw[if_pos hk]; exact hx)) (dB tree d) acc (fun _ he=>he) hn with⟨h5,h6⟩ | h5
   ·refine .inl ⟨fun x hx=> ?_,h6⟩;rw[eL]at hx
    rcases aN.1 hx with hx | hx
    ·obtain⟨e,he,hx⟩:=cO.1 hx;exact h5 e he x hx
    ·rw[aE.1 hx];rw[eL]at h3;exact h3
   ·exact .inr h5
  ·rw[h4];exact .inr rfl
theorem Kc (h:pj k gs c tree) (hb:lB k gs c tree 514 ⟨#[]⟩=false) (hM:mp k gs M (df k gs c tree 514 ⟨#[]⟩).2):
  (lh k gs M (df k gs c tree 514 ⟨#[]⟩).2/\lI M (aV k gs (df k gs c tree 514 ⟨#[]⟩).1)= .ok tree)\/lI M (aV k gs (df k gs c tree 514 ⟨#[]⟩).1)= .error 10:=by
 have h0:(bl (⟨#[]⟩:ByteArray)).length=0:=rfl;have hp:=BM h.ok (f:=514) (by omega);have ha:lF (aV k gs (df k gs c tree 514 ⟨#[]⟩).1)=true:=lE h.gens (kN hb).2
 rcases Ab (M:=M) h 514 ⟨#[]⟩ [] (by omega) (by omega) hb hM (by rw[hp]; have:=h.ok.len; simp; omega)with⟨h1,h2⟩ | h1
 ·exact .inl ⟨h1,DB h hb h1⟩
 ·refine .inr ?_;unfold lI;rw[if_pos ha,if_neg (by rw[h1]; decide),h1]
end
theorem KD (M:List (ByteArray×List UInt8)) (r:cH):iQ M r≠ .error 0:=by
 intro h;unfold iQ at h
 cases hn:iz M r with
 | error x=>
  rw[hn]at h;simp only at h
  split at h
  ·cases h
  ·rw[ey]at h;subst h;exact Kr M r hn
 | ok l=>rw[hn]at h; cases h
section
variable {k : dl} {gs : List (ByteArray × Int)} {c : fC} {tree : List dd} {M : List (ByteArray × List UInt8)}
theorem Au (h:pj k gs c tree) {f:Nat} {d:ByteArray} (hf:512<f+1+(bl d).length) (hb:lB k gs c tree (f+1) d=false) (hM:mp k gs M (df k gs c tree (f+1) d).2):
  (di M (aV k gs (df k gs c tree (f+1) d).1).name=some (df k gs c tree (f+1) d).1/\iQ M (aV k gs (df k gs c tree (f+1) d).1)= .ok (nA k gs c tree f d))\/(di M (aV k gs (df k gs c tree (f+1) d).1).name=none/\iQ M (aV k gs (df k gs c tree (f+1) d).1)= .ok []):=by
 rcases Ak h hf hb hM with⟨h1,h2⟩ | ⟨h1,h2⟩
 ·exact .inl ⟨h1,by unfold iQ; rw[h2]⟩
 ·exact .inr ⟨h1,by unfold iQ; rw[h2]; rfl⟩
def Qy (k:dl) (gs:List (ByteArray×Int)) (c:fC) (tree:List dd) (M:List (ByteArray×List UInt8)) (r:cH):Prop:= ∃f d,512<f+1+(bl d).length/\lB k gs c tree (f+1) d=false/\mp k gs M (df k gs c tree (f+1) d).2/\(∀x∈(df k gs c tree (f+1) d).2,x∈(df k gs c tree 514 ⟨#[]⟩).2)/\r=aV k gs (df k gs c tree (f+1) d).1
theorem JP (h:pj k gs c tree):PE (iQ M) (Qy k gs c tree M) (Qw k gs c tree) where
 there:=by
  rintro r ⟨f,d,h2,hb,hM,ha,rfl⟩
  rcases Au h h2 hb hM with⟨-,h1⟩ | ⟨-,h1⟩
  ·refine⟨_,h1,fun it hd=> ?_⟩;obtain⟨e,he,rfl⟩:=aP.1 hd;obtain⟨h3,h4,h5⟩:=py h h2 he
   constructor
   ·intro hk;have hc:e.kind=2:=hk;obtain⟨g,rfl⟩: ∃g,f=g+1:=⟨f-1,by omega⟩;exact⟨g,e.path,h4,(kN hb).1 e he hc,fun x hx=>hM x (xh he hc hx),fun x hx=>ha x (xh he hc hx),xm hc⟩
   ·intro r hr
    by_cases hk:e.kind=1
    ·rw[un hk]at hr;obtain⟨x,hx,rfl⟩:=aP.1 hr;exact⟨x,ha x (Fw he (by unfold gH; rw[if_pos hk]; exact hx)),rfl⟩
    ·have hf:r∈(if e.kind=1 then(fO c e.data).map (aV k gs)else []):=hr;rw[if_neg hk]at hf
     cases hf
  ·exact⟨_,h1,fun it hd=>by cases hd⟩
 self:=by rintro r ⟨f,d,h2,hb,hM,ha,rfl⟩;exact⟨_,ha _ (BG f d),rfl⟩
variable (k gs c tree) in
def EO :Nat->Nat->ByteArray->List (List UInt8)
 | 0,_,_=>[]
 | _+1,0,_=>[]
 | j+1,f+1,d=>((dB tree d).flatMap fun e=>if e.kind=1 then(if j=0 then []else fO c e.data)else if e.kind=2 then EO j f e.path else [])++[(df k gs c tree (f+1) d).1]
def CB (d:List UInt8):Nat:=if d=[]then 0 else(dg 47 d).length
theorem Ih {d:ByteArray} {e:dd} (hv:ig e=true) (hp:cr (bl e.path)=bl d):CB (bl e.path)=CB (bl d)+1/\CB (bl e.path)<=16:=by
 have ha:=dj hv;have hk:=pX ha hp;have hb:=tY ha;have h1:CB (bl e.path)=(dg 47 (bl e.path)).length:=by unfold CB; rw[if_neg hb]
 constructor
 ·rw[h1,hk.path];unfold CB
  split
  ·rw[fP 47 _ hk.no]; rfl
  ·rw[ou,fP 47 _ hk.no,ag]; rfl
 ·rw[h1];unfold dH at ha;simp only[aF,aJ]at ha;exact ha.1.2
theorem MS (h:Bi tree) (f:Nat): ∀(d:ByteArray) (j:Nat),17<=CB (bl d)+(j+1)-> ∀x∈(df k gs c tree (f+1) d).2,x∈EO k gs c tree (j+1) (f+1) d:=by
 induction f with
 | zero=>
  intro d j hj x hx;rw[eL]at hx;unfold EO
  rcases aN.1 hx with hx | hx
  ·obtain⟨e,he,hx⟩:=cO.1 hx;obtain⟨ha,hb⟩:=eK.1 he;obtain⟨h1,h2⟩:=Ih (h.val e ha) hb;refine dQ _ (cO.2 ⟨e,he, ?_⟩);unfold gH at hx
   by_cases hk:e.kind=1
   ·rw[if_pos hk]at hx;rw[if_pos hk,if_neg (by omega)];exact hx
   ·rw[if_neg hk]at hx
    split at hx
    ·simp[df]at hx
    ·cases hx
  ·refine gF _ ?_;rw[aE.1 hx,eL];exact aE.2 rfl
 | succ g ih=>
  intro d j hj x hx;rw[eL]at hx;unfold EO
  rcases aN.1 hx with hx | hx
  ·obtain⟨e,he,hx⟩:=cO.1 hx;obtain⟨ha,hb⟩:=eK.1 he;obtain⟨h1,h2⟩:=Ih (h.val e ha) hb;refine dQ _ (cO.2 ⟨e,he, ?_⟩);unfold gH at hx
   by_cases hk:e.kind=1
   ·rw[if_pos hk]at hx;rw[if_pos hk,if_neg (by omega)];exact hx
   ·rw[if_neg hk]at hx
    by_cases hc:e.kind=2
    ·rw[if_pos hc]at hx;rw[if_neg hk,if_pos hc];obtain⟨i,rfl⟩: ∃i,j=i+1:=⟨j-1,by omega⟩;exact ih e.path i (by omega) x hx
    ·rw[if_neg hc]at hx; cases hx
  ·refine gF _ ?_;rw[aE.1 hx,eL];exact aE.2 rfl
theorem Io (h:pj k gs c tree) {st:List cH×List cH} (hd: ∀q∈st.1,pi (iQ M) st q): ∀(j f:Nat) (d:ByteArray),512<f+1+(bl d).length->lB k gs c tree (f+1) d=false->mp k gs M (df k gs c tree (f+1) d).2->
  aV k gs (df k gs c tree (f+1) d).1∈st.1->aV k gs (df k gs c tree (f+1) d).1∈st.2->(∀x∈EO k gs c tree j (f+1) d,di M (aV k gs x).name≠none)-> ∀x∈EO k gs c tree (j+1) (f+1) d,aV k gs x∈st.2
 | 0,f,d,h2,hb,hM,hr,hr2,hl,x,hx=>by
  unfold EO at hx
  rcases aN.1 hx with hx | hx
  ·obtain⟨e,he,hx⟩:=cO.1 hx;rw[if_pos rfl]at hx;simp[EO]at hx
  ·rw[aE.1 hx]; exact hr2
 | j+1,f,d,h2,hb,hM,hr,hr2,hl,x,hx=>by
  have hnode:di M (aV k gs (df k gs c tree (f+1) d).1).name≠none:=hl _ (by unfold EO; exact gF _ (aE.2 rfl));obtain⟨l,hv,hall⟩:=hd _ hr
  rcases Au h h2 hb hM with⟨-,h1⟩ | ⟨h1,-⟩
  ·rw[h1,dr]at hv;subst hv;unfold EO at hx
   rcases aN.1 hx with hx | hx
   ·obtain⟨e,he,hx⟩:=cO.1 hx;have hit:=hall (cE k gs c d e (aV k gs (df k gs c tree f e.path).1)) (aP.2 ⟨e,he,rfl⟩)
    by_cases hk:e.kind=1
    ·rw[if_pos hk,if_neg (by omega)]at hx;refine hit.1 _ ?_;rw[un hk];exact aP.2 ⟨x,hx,rfl⟩
    ·rw[if_neg hk]at hx
     by_cases hk2:e.kind=2
     ·rw[if_pos hk2]at hx;obtain⟨h3,h4,h5⟩:=py h h2 he;have h6:=hit.2 hk2;rw[xm hk2]at h6
      match f,h5 with
      | g+1,_=>
       refine Io h hd j g e.path h4 ((kN hb).1 e he hk2) (fun y hy=>hM y (xh he hk2 hy)) h6.1 h6.2 (fun y hy=>hl y ?_) x hx;unfold EO;refine dQ _ (cO.2 ⟨e,he, ?_⟩);rw[if_neg hk,if_pos hk2];exact hy
     ·rw[if_neg hk2]at hx; cases hx
   ·rw[aE.1 hx]; exact hr2
  ·exact absurd h1 hnode
structure GQ (k : dl) (gs : List (ByteArray × Int)) (c : fC) (tree : List dd) (M : List (ByteArray × List UInt8)) (L : List cH) : Prop where
 nodup:L.Nodup
 gone: ∀r∈L,∃x∈(df k gs c tree 514 ⟨#[]⟩).2,r=aV k gs x/\di M r.name=none
 level: ∀j,(∀x∈EO k gs c tree j 514 ⟨#[]⟩,di M (aV k gs x).name≠none)-> ∀x∈EO k gs c tree (j+1) 514 ⟨#[]⟩,di M (aV k gs x).name≠none\/aV k gs x∈L
theorem MV (h:pj k gs c tree) (hb:lB k gs c tree 514 ⟨#[]⟩=false) (hM:mp k gs M (df k gs c tree 514 ⟨#[]⟩).2): ∃rs,sq M (aV k gs (df k gs c tree 514 ⟨#[]⟩).1)= .ok rs/\GQ k gs c tree M (kh M rs)/\rs.Nodup/\ ∀r∈rs,Qw k gs c tree r:=by
 have h0:(bl (⟨#[]⟩:ByteArray)).length=0:=rfl;have ha:Qy k gs c tree M (aV k gs (df k gs c tree 514 ⟨#[]⟩).1):=⟨513,⟨#[]⟩,by omega,hb,hM,fun _ hx=>hx,rfl⟩;obtain⟨x,st',h1,h2⟩:=ol M (aV k gs (df k gs c tree 514 ⟨#[]⟩).1);obtain⟨h3,h4⟩:=Je (JP (M:=M) h) _ _ _ _ _ ha (fun q hq=>by cases hq) h1;subst h3;obtain⟨h5,h6,h7,h8⟩:=Jf (KD M) _ [] _ _ _ h1 (fun q hq=>by cases hq)
 have hd: ∀q∈st'.1,pi (iQ M) st' q:=fun q hq=>(h8 q hq).resolve_left (by simp)
 refine⟨st'.2, ?_,⟨?_,fun r hr=> ?_,fun j hj y hy=> ?_⟩,h2.l1,h4⟩
 ·unfold sq oK;rw[if_pos (lE h.gens (kN hb).2),h1]
  rfl
 ·exact h2.l1.sublist List.filter_sublist
 ·obtain⟨hc,he⟩:=dV.1 hr;obtain⟨y,hy,e⟩:=h4 r hc;exact⟨y,hy,e,by simpa using he⟩
 ·have h9:=Io h hd j 513 ⟨#[]⟩ (by omega) hb hM h6 h7 hj y hy
  cases hf:di M (aV k gs y).name with
  | some b=>exact .inl (by simp)
  | none=>exact .inr (dV.2 ⟨h9,by rw[hf]; rfl⟩)
theorem Ki (h:pj k gs c tree) (hM:mp k gs M (df k gs c tree 514 ⟨#[]⟩).2) (hm:GQ k gs c tree M []):lh k gs M (df k gs c tree 514 ⟨#[]⟩).2:=by
 have hl: ∀j,∀x∈EO k gs c tree j 514 ⟨#[]⟩,di M (aV k gs x).name≠none:=by
  intro j
  induction j with
  | zero=>intro x hx; simp[EO]at hx
  | succ j ih=>
   intro x hx
   rcases hm.level j ih x hx with h1 | h1
   ·exact h1
   ·cases h1
 intro x hx;have h1:=hl 17 x (MS h.ok 513 ⟨#[]⟩ 16 (by omega) x hx);exact(hM x hx).resolve_right h1
end
open Go Go.RowKit Go.Maps
theorem ik.delMiss24 {P:Program} {k t e:TypeId} {w:World} {b:Nat} {m:List (Value×Value)} {key:Value} (h:ik P k w b m) (K:Keyed P k) (ht:P.underlying t=some (.map k e)) (hkey: ∃l,keyOf P k key=some l) (hm: ∀p∈m,p.1≠key) (ty:TypeId):
  ∃w',(Builtin.delete_ #[t,k] ty #[.map (some b),key]).run P w= .ok (.tuple #[]) w'/\ik P k w' b m/\w.grownBy w' (some b):=by
 obtain⟨es,clock,hb,he,hc,hk⟩:=h;obtain⟨kl,ha⟩:=hkey
 rcases K.find w ha es.toList (jJ.keys he hk)with⟨h1,h2⟩ | ⟨j,e0,h1,h2,h3⟩
 ·refine⟨ChangeMaps.setBlock w b (.map es clock), ?_,⟨_,_,qL hb _,he,hc,hk⟩,lR hb _⟩;simp[Builtin.delete_,run_underlying ht,MapKept.run_getObj_map hb,K.check w _ ha,h1,MapKept.run_setObj_map _ hb,Result.andThen,ChangeMaps.setBlock]
 ·exfalso
  have hj:=aQ h2;exact hm (e0.key,e0.val) (by rw[<-he]; exact aP.2 ⟨e0,hj,rfl⟩) h3
def wM (M:List (ByteArray×List UInt8)) (n:ByteArray):List (ByteArray×List UInt8):=M.filter fun p=>decide (p.1≠n)
theorem sE (a:ByteArray) (v:List UInt8) (M:List (ByteArray×List UInt8)) (x:ByteArray):di ((a,v)::M) x=if a=x then some v else di M x:=rfl
theorem zI (n x:ByteArray): ∀(M:List (ByteArray×List UInt8)),di (wM M n) x=if x=n then none else di M x
 | []=>by simp[wM,di]
 | (a,v)::M=>by
  have ih:=zI n x M;unfold wM at ih ⊢;rw[List.filter_cons]
  by_cases h:a=n
  ·rw[if_neg (by simp[h]),ih]
   by_cases hx:x=n
   ·rw[if_pos hx,if_pos hx]
   ·rw[if_neg hx,if_neg hx,sE,if_neg (by rw[h]; exact fun e=>hx e.symm)]
  ·rw[if_pos (by simpa using h),sE,ih]
   by_cases hx:x=n
   ·rw[if_pos hx,if_pos hx,if_neg (by rw[hx]; exact h)]
   ·rw[if_neg hx,if_neg hx,sE]
theorem ul {S:Nat->Prop} {w:World} {n:ByteArray} : ∀ {m:List (Value×Value)} {M:List (ByteArray×List UInt8)},dG S w m M->(∀p∈m,p.1≠Value.string n)->wM M n=M
 | [],[],_,_=>rfl
 | [],_::_,h,_=>False.elim h
 | _::_,[],h,_=>False.elim h
 | (k,u)::m,(n',b')::M,h,hm=>by
  have hne:n'≠n:=fun e=>hm (k,u) (by simp) (by rw[h.1,e])
  have:=ul h.2.2 (fun p hp=>hm p (by simp[hp]));unfold wM at this ⊢;rw[List.filter_cons,if_pos (by simpa using hne),this]
theorem CU {S:Nat->Prop} {w:World} {n:ByteArray} : ∀ {m:List (Value×Value)} {M:List (ByteArray×List UInt8)},dG S w m M->(m.map Prod.fst).Nodup->(∃m1 old m2,m=m1++(.string n,old)::m2/\dG S w (m1++m2) (wM M n))\/ ∀p∈m,p.1≠Value.string n
 | [],_,_,_=> .inr (by simp)
 | _::_,[],h,_=>False.elim h
 | (k,u)::m,(n',b')::M,h,hn=>by
  rw[bW,jA]at hn
  by_cases e:n'=n
  ·refine .inl ⟨[],u,m,by rw[h.1,e]; rfl, ?_⟩;have hno: ∀p∈m,p.1≠Value.string n:=fun p hp hk=>hn.1 (by rw[h.1,e,<-hk]; exact aP.2 ⟨p,hp,rfl⟩)
   have h1:=ul h.2.2 hno;unfold wM at h1 ⊢;rw[List.filter_cons,if_neg (by simp[e]),h1];exact h.2.2
  ·rcases CU h.2.2 hn.2 with⟨m1,old,m2,h1,h2⟩ | h1
   ·refine .inl ⟨(k,u)::m1,old,m2,by rw[h1]; rfl, ?_⟩;unfold wM at h2 ⊢;rw[List.filter_cons,if_pos (by simpa using e)];exact⟨h.1,h.2.1,h2⟩
   ·refine .inr (fun p hp=> ?_)
    rcases aT.1 hp with rfl | hp
    ·show k≠_
     rw[h.1];exact fun he=>e (by simpa using he)
    ·exact h1 p hp
theorem uk {S:Nat->Prop} {w:World} {n:ByteArray} : ∀ {m:List (Value×Value)} {M:List (ByteArray×List UInt8)},dG S w m M->di M n=none-> ∀p∈m,p.1≠Value.string n
 | [],_,_,_=>by simp
 | _::_,[],h,_=>False.elim h
 | (k,u)::m,(n',b')::M,h,hf=>by
  unfold di at hf
  by_cases e:n'=n
  ·rw[if_pos e]at hf; cases hf
  ·rw[if_neg e]at hf;intro p hp
   rcases aT.1 hp with rfl | hp
   ·show k≠_
    rw[h.1];exact fun he=>e (by simpa using he)
   ·exact uk h.2.2 hf p hp
theorem dG.to {S T:Nat->Prop} {w w':World} : ∀ {m:List (Value×Value)} {cs:List (ByteArray×List UInt8)},dG S w m cs->(∀v bs,bD S w v bs->bD T w' v bs)->dG T w' m cs
 | [],[],_,_=>trivial
 | [],_::_,h,_=>h
 | _::_,[],h,_=>h
 | (_,_)::_,(_,_)::_,h,hm=>⟨h.1,hm _ _ h.2.1,dG.to h.2.2 hm⟩
def kM (B:Nat) (w:World) (mb:Nat) (M:List (ByteArray×List UInt8)):Prop:=B<=mb/\ ∃m,ik Tryz.prog 9 w mb m/\dG (· <B) w m M
theorem kM.at {B:Nat} {w:World} {mb:Nat} {M:List (ByteArray×List UInt8)} (h:kM B w mb M):gy (fun _=>True) w (.map (some mb)) M:=by obtain⟨_,m,h1,h2⟩:=h;exact .inr ⟨mb,m,rfl,trivial,h1.is,dG.to h2 (fun v bs hv=>cD.weak hv fun _ _=>trivial)⟩
theorem kM.lt {B:Nat} {w:World} {mb:Nat} {M:List (ByteArray×List UInt8)} (h:kM B w mb M):mb<w.heap.size:=by obtain⟨_,m,h1,_⟩:=h;exact h1.lt
theorem kM.below {B:Nat} {w w':World} {mb:Nat} {M:List (ByteArray×List UInt8)} (h:kM B w mb M) (hb:Below w.heap.size w w'):kM B w' mb M:=by have hl:=h.lt;obtain⟨h0,m,h1,h2⟩:=h;exact⟨h0,m,h1.same (hb.block mb hl),dG.to h2 (fun v bs hv=>cD.same hv (fun i hi=>hb.block i (by omega)))⟩
theorem kM.other {B:Nat} {w w':World} {mb mc:Nat} {M:List (ByteArray×List UInt8)} (h:kM B w mb M) (hg:w.grownBy w' (some mc)) (hne:mb≠mc) (hB:B<=mc):kM B w' mb M:=by have hl:=h.lt;obtain⟨h0,m,h1,h2⟩:=h;exact⟨h0,m,h1.same (hg.block mb hl (by simpa using hne)),dG.to h2 (fun v bs hv=>cD.same hv (fun i hi=>hg.block i (by omega) (by simp; omega)))⟩
theorem kM.grown {B:Nat} {w w':World} {mb:Nat} {m:List (Value×Value)} {M:List (ByteArray×List UInt8)} (h0:B<=mb) (hl:mb<w.heap.size) (h2:dG (· <B) w m M) (hg:w.grownBy w' (some mb)):dG (· <B) w' m M:=
 dG.to h2 (fun v bs hv=>cD.same hv (fun i hi=>hg.block i (by omega) (by simp; omega)))
theorem kM.del {B:Nat} {w:World} {mb:Nat} {M:List (ByteArray×List UInt8)} (h:kM B w mb M) {n:ByteArray} (hn:n.size<=maxLen) (ty:TypeId):
  ∃w',(Builtin.delete_ #[55,9] ty #[.map (some mb), .string n]).run Tryz.prog w= .ok (.tuple #[]) w'/\kM B w' mb (wM M n)/\w.grownBy w' (some mb):=by
 have hl:=h.lt;obtain⟨h0,m,h1,h2⟩:=h
 rcases CU h2 h1.nodup (n:=n)with⟨m1,old,m2,rfl,h3⟩ | h3
 ·obtain⟨w',e1,e2,e3⟩:=h1.del fw (t:=55) (e:=29) gS ty;exact⟨w',e1,⟨h0,_,e2,kM.grown h0 hl h3 e3⟩,e3⟩
 ·obtain⟨w',e1,e2,e3⟩:=h1.delMiss24 fw (t:=55) (e:=29) gS (gY hn) h3 ty;exact⟨w',e1,⟨h0,_,e2,by rw[ul h2 h3]; exact kM.grown h0 hl h2 e3⟩,e3⟩
theorem kM.hit {B:Nat} {w:World} {mb:Nat} {M:List (ByteArray×List UInt8)} (h:kM B w mb M) {n:ByteArray} {x:List UInt8} (hn:n.size<=maxLen) (hf:di M n=some x):
  ∃v,(Instr.lookup 55 (.map (some mb)) (.string n) true).run Tryz.prog w= .ok (.tuple #[v, .bool true]) w/\bD (· <B) w v x:=by
 obtain⟨_,m,h1,h2⟩:=h;obtain⟨v,hv,hb⟩:=h2.hit hf;exact⟨v,h1.is.hit qP (t:=55) (e:=29) gS (qO hn) hv true,hb⟩
theorem kM.miss {B:Nat} {w:World} {mb:Nat} {M:List (ByteArray×List UInt8)} (h:kM B w mb M) {n:ByteArray} (hn:n.size<=maxLen) (hf:di M n=none):
  (Instr.lookup 55 (.map (some mb)) (.string n) true).run Tryz.prog w= .ok (.tuple #[.slice none 0 0, .bool false]) w:=by
 obtain⟨_,m,h1,h2⟩:=h;exact h1.is.miss qP (t:=55) (e:=29) gS (by kernel_rfl) (qO hn) (uk h2 hf) true
theorem kM.put {B:Nat} {w:World} {mb:Nat} {M:List (ByteArray×List UInt8)} (h:kM B w mb M) {n:ByteArray} (hf:di M n=none):
  ∃m,ik Tryz.prog 9 w mb m/\(∀p∈m,p.1≠Value.string n)/\ ∀(v:Value) (x:List UInt8) (w':World),bD (· <B) w v x->ik Tryz.prog 9 w' mb (m++[(.string n,v)])->w.grownBy w' (some mb)->kM B w' mb (ng M n x):=by
 have hl:=h.lt;obtain⟨h0,m,h1,h2⟩:=h;have ha:=uk h2 hf;refine⟨m,h1,ha,fun v x w' hv hm hg=>⟨h0,_,hm,dG.miss' (cD.same hv (fun i hi=>hg.block i (by have:i<B:=hi; omega) (by have:i<B:=hi; simp; omega))) (kM.grown h0 hl h2 hg) ha⟩⟩
theorem zF {S:Nat->Prop} {w:World} : ∀ {m:List (Value×Value)} {M:List (ByteArray×List UInt8)},dG S w m M->m.map Prod.fst=M.map fun p=>Value.string p.1
 | [],[],_=>rfl
 | [],_::_,h=>False.elim h
 | _::_,[],h=>False.elim h
 | (_,_)::_,(_,_)::_,h=>by rw[bW,bW,zF h.2.2,h.1]
theorem wZ : ∀ {M:List (ByteArray×List UInt8)} {n:ByteArray} {x:List UInt8},di M n=some x->n∈M.map Prod.fst
 | (a,v)::M,n,x,h=>by
  by_cases e:a=n
  ·simp[e]
  ·rw[show di ((a,v)::M) n=if a=n then some v else di M n from rfl,if_neg e]at h;exact eB _ (wZ h)
theorem zJ : ∀ {M:List (ByteArray×List UInt8)} {n:ByteArray},n∈M.map Prod.fst-> ∃x,di M n=some x
 | (a,v)::M,n,h=>by
  rw[show di ((a,v)::M) n=if a=n then some v else di M n from rfl]
  by_cases e:a=n
  ·exact⟨v,if_pos e⟩
  ·rw[if_neg e]
   rcases aT.1 h with h | h
   ·exact absurd h.symm e
   ·exact zJ h
theorem DL : ∀ {l U:List ByteArray},l.Nodup->(∀x∈l,x∈U)->l.length<=U.length
 | [],_,_,_=>aU _
 | a::l,U,hn,hs=>by
  obtain⟨h1,h2⟩:=jA.1 hn;obtain⟨s,t,rfl⟩:=jy (hs a (by simp));have h3:=DL (l:=l) (U:=s++t) h2 (fun x hx=>by
   have h4:=hs x (by simp[hx]);simp only[aN,aT]at h4 ⊢
   rcases h4 with h4 | h4 | h4
   ·exact .inl h4
   ·exact absurd (h4▸hx) h1
   ·exact .inr h4)
  simp only[ag,az]at h3 ⊢;omega
def vB (M A:List (ByteArray×List UInt8)):Prop:= ∀n x,di M n=some x->di A n=some x
theorem kM.len {B:Nat} {w:World} {mb:Nat} {M A:List (ByteArray×List UInt8)} (h:kM B w mb M) (hs:vB M A):M.length<=A.length:=by
 obtain⟨_,m,h1,h2⟩:=h;have h3:=h1.nodup;rw[zF h2]at h3;have h4:(M.map Prod.fst).Nodup:=by
  have:(M.map fun p=>Value.string p.1)=(M.map Prod.fst).map Value.string:=by rw[je]; rfl
  rw[this]at h3;exact List.Pairwise.imp (fun {a b} hab e=>hab (by rw[e])) (fU.1 h3)
 have h5:=DL h4 (U:=A.map Prod.fst) (fun n hn=>by obtain⟨x,hx⟩:=zJ hn;exact wZ (hs n x hx))
 rw[aw,aw]at h5;exact h5
theorem vB.del {M A:List (ByteArray×List UInt8)} (h:vB M A) (n:ByteArray):vB (wM M n) A:=fun a x hx=>by
 rw[zI]at hx
 split at hx
 ·cases hx
 ·exact h a x hx
theorem vB.put {M A:List (ByteArray×List UInt8)} (h:vB M A) {n:ByteArray} {x:List UInt8} (hx:di A n=some x):vB (ng M n x) A:=fun a y hy=>by
 rw[mA]at hy
 split at hy
 ·rename_i e;rw[<-e,hx]; exact hy
 ·exact h a y hy
end
section
open Go.RowKit
section
variable {k : dl} {gs : List (ByteArray × Int)} {c : fC} {tree : List dd} {A M : List (ByteArray × List UInt8)}
structure vM (k : dl) (gs : List (ByteArray × Int)) (c : fC) (tree : List dd) (A M : List (ByteArray × List UInt8)) (r : Nat) : Prop where
 sub:vB M A
 lvl: ∀x∈EO k gs c tree r 514 ⟨#[]⟩,di M (aV k gs x).name≠none
theorem KB {cs:List (List UInt8)} (hA:lh k gs A cs) (hs:vB M A):mp k gs M cs:=fun x hx=>by
 cases h:di M (aV k gs x).name with
 | none=>exact .inr rfl
 | some y=>
  have h1:=hs _ _ h;rw[hA x hx]at h1;exact .inl h1.symm
structure LL (k : dl) (gs : List (ByteArray × Int)) (c : fC) (tree : List dd) (A M : List (ByteArray × List UInt8)) (r : Nat) (L : List cH) : Prop where
 none:L=[]->lI M (aV k gs (df k gs c tree 514 ⟨#[]⟩).1)= .ok tree
 some:L≠[]->lI M (aV k gs (df k gs c tree 514 ⟨#[]⟩).1)= .error 10/\r<17
 gone: ∀q∈L,∃x∈(df k gs c tree 514 ⟨#[]⟩).2,q=aV k gs x/\di A q.name= .some x/\di M q.name= .none
 apart:L.Pairwise fun a b=>a.name≠b.name
 next: ∀M',vB M' A->(∀n,di M n≠ .none->di M' n≠ .none)->(∀q∈L,di M' q.name≠ .none)->vM k gs c tree A M' (r+1)
theorem La (h:pj k gs c tree) (hb:lB k gs c tree 514 ⟨#[]⟩=false) (hA:lh k gs A (df k gs c tree 514 ⟨#[]⟩).2) (hn:On k gs (df k gs c tree 514 ⟨#[]⟩).2) {r:Nat} (hr:vM k gs c tree A M r) (hr17:r<=17):
  ∃rs,sq M (aV k gs (df k gs c tree 514 ⟨#[]⟩).1)= .ok rs/\LL k gs c tree A M r (kh M rs):=by
 have hp:=KB hA hr.sub;obtain⟨rs,h1,h2,h3,h4⟩:=MV h hb hp;refine⟨rs,h1, ?_⟩;obtain⟨L,hL⟩:=bI (kh M rs);rw[<-hL]at h2 ⊢;have hc: ∀q∈L,∃x∈(df k gs c tree 514 ⟨#[]⟩).2,q=aV k gs x/\di A q.name= .some x/\di M q.name= .none:=fun q hq=>by obtain⟨x,hx,e,hm⟩:=h2.gone q hq;exact⟨x,hx,e,by rw[e]; exact hA x hx,hm⟩
 refine⟨fun e=> ?_,fun e=> ?_,hc, ?_,fun M' g1 g2 g3=>⟨g1,fun x hx=> ?_⟩⟩
 ·rw[e]at h2;exact DB h hb (Ki h hp h2)
 ·obtain⟨q,L',e'⟩:=List.exists_cons_of_ne_nil e;obtain⟨x,hx,e1,e2,e3⟩:=hc q (by rw[e']; simp)
  constructor
  ·rcases Kc h hb hp with⟨hf,_⟩ | h5
   ·have:=hf x hx;rw[e1]at e3;rw[e3]at this
    cases this
   ·exact h5
  ·refine Nat.lt_of_le_of_ne hr17 fun hd=> ?_
   subst hd;have h6:=MS (k:=k) (gs:=gs) (c:=c) h.ok 513 ⟨#[]⟩ 16 (by show 17<=CB []+17; omega) x hx;exact hr.lvl x h6 (by rw[<-e1]; exact e3)
 ·have he:=h2.nodup;refine List.Pairwise.imp_of_mem (fun {a b} ha hb' hab e=>hab ?_) he;obtain⟨x,hx,rfl,_⟩:=hc a ha;obtain⟨y,hy,rfl,_⟩:=hc b hb';rw[hn x hx y hy e]
 ·rcases h2.level r hr.lvl x hx with h5 | h5
  ·exact g2 _ h5
  ·exact g3 _ h5
end
open Go Go.RowKit Go.Maps Go.MapKept
theorem dG.len {S:Nat->Prop} {w:World} : ∀ {m:List (Value×Value)} {cs:List (ByteArray×List UInt8)},dG S w m cs->m.length=cs.length
 | [],[],_=>rfl
 | [],_::_,h=>False.elim h
 | _::_,[],h=>False.elim h
 | (_,_)::_,(_,_)::_,h=>by simp[dG.len h.2.2]
theorem dG.vals {S:Nat->Prop} {w:World} : ∀ {m:List (Value×Value)} {cs:List (ByteArray×List UInt8)},dG S w m cs-> ∀p∈m,∃n bs,p.1= .string n/\bD S w p.2 bs
 | [],[],_,_,hp=>by simp at hp
 | [],_::_,h,_,_=>False.elim h
 | _::_,[],h,_,_=>False.elim h
 | (k,v)::m,(n,bs)::cs,h,p,hp=>by
  rcases aT.1 hp with rfl | hp
  ·exact⟨n,bs,h.1,h.2.1⟩
  ·exact dG.vals h.2.2 p hp
end
section
open Go Go.RowKit
def QP (r:Except Int (List dd)):List dd×Int:=match r with
 | .error x=>([],x)
 | .ok l=>(l,0)
theorem Qt {x:Int} (h0:0<=x) (h1:x<9223372036854775808):(Lit.int .i64 x).wf=true:=by
 have e1:IntKind.i64.max=9223372036854775807:=by decide
 have e2:IntKind.i64.min= -9223372036854775808:=by decide
 simp only[Lit.wf,aF,aJ];omega
theorem Qb {it:cj} {p:ByteArray} {bs:List UInt8} (hv:iG it=true) (ht:it.time<9223372036854775808) (hp:dH (bl p)=true):jP ⟨p,it.kind,it.mode,it.time,bs,it.link⟩:=by
 unfold iG at hv;rw[aF]at hv;have hh:=pw.1 hv.1;have ha:=mG hp;rw[<-bi]at ha;have he:(⟨#[]⟩:ByteArray).size=0:=rfl;have hl:it.link.size<=512:=by
  rcases nI hv.2 with hk | hk | hk
  ·rw[(ms hk hv.2).1,he]; omega
  ·rw[(qB hk hv.2).1,he]; omega
  ·exact(rz hk hv.2).2.2.2.2.1
 have hk:=nI hv.2;exact⟨by show p.size<=_; unfold maxLen; omega,by show it.link.size<=_; unfold maxLen; omega,Qt (by show 0<=it.kind; omega) (by show it.kind<_; omega),Qt hh.md0 (by have:=hh.md1; show it.mode<_; omega),Qt hh.tm0 ht⟩
theorem xZ {cs:List (ByteArray×List UInt8)} {rec:ByteArray->cH->List dd->Int×List dd} {dir:ByteArray} (hrec: ∀d r acc,(∀e∈acc,jP e)-> ∀e∈(rec d r acc).2,jP e):
  ∀ {l:List cj} {acc:List dd},(∀it∈l,iG it=true/\it.time<9223372036854775808)->(∀e∈acc,jP e)-> ∀e∈(iR cs rec dir l acc).2,jP e
 | [],acc,_,ha=>ha
 | it::l,acc,hl,ha=>by
  have hl2: ∀x∈l,iG x=true/\x.time<9223372036854775808:=fun x hx=>hl x (by simp[hx])
  rw[iR]
  split
  ·rename_i hv;obtain⟨h1,h2⟩:=hl it (by simp);have hacc: ∀e∈acc++[⟨jS dir it.name,it.kind,it.mode,it.time,(mO cs it).1,it.link⟩],jP e:=fun e he=>by
    rcases aN.1 he with he | he
    ·exact ha e he
    ·obtain rfl:=aE.1 he;exact Qb h1 h2 hv.1
   by_cases hk:it.kind=2
   ·simp only[if_pos hk];have h3:=hrec (jS dir it.name) it.node _ hacc
    split
    ·exact xZ hrec hl2 h3
    ·exact h3
   ·simp only[if_neg hk]
    split
    ·exact xZ hrec hl2 hacc
    ·exact hacc
  ·exact ha
theorem DA {cs:List (ByteArray×List UInt8)} : ∀(n:Nat) (dir:ByteArray) (ref:cH) (acc:List dd),(∀e∈acc,jP e)-> ∀e∈(ie cs n dir ref acc).2,jP e
 | 0,_,_,acc,ha=>ha
 | n+1,dir,ref,acc,ha=>by
  rw[ie]
  cases hn:iz cs ref with
  | error x=>exact ha
  | ok l=>
   obtain⟨k,bs,_,hi⟩:=ur hn;exact xZ (DA n) (fun it hit=>⟨(nN (sL hn).2.1).2 it hit,Dn hi it hit⟩) ha
theorem vK.seq {B:Nat} {w:World} {v:Value} {acc:List dd} (h:vK B w v acc) (hok: ∀e∈acc,jP e):dY (fun _=>True) w v acc:=by obtain⟨ys,rfl,hr,hd⟩:=h;refine⟨iE ys, ?_,CT (fun y hy=>⟨(cJ (hd y hy)).weak (fun _ _=>trivial),hok _ (aP.2 ⟨y,hy,rfl⟩)⟩)⟩;rw[aw];exact(cJ hr).weak (fun _ _=>trivial)
theorem Bd.flat {cs:List (ByteArray×List UInt8)} {root:cH} {l:List dd} {x:Int} {w w':World} {e:Ending} (h:Bd cs root w e w') (he:QP (lI cs root)=(l,x)):
  Below w.heap.size w w'/\ ∃a cap,e= .returned (.tuple #[.slice a l.length cap, .int .i64 x])/\dY (fun _=>True) w' (.slice a l.length cap) l/\l.length<=cap/\cap<=maxLen:=by
 obtain⟨hb,h⟩:=h;refine⟨hb, ?_⟩
 cases hl:lI cs root with
 | error y=>
  rw[hl]at h he;obtain⟨rfl,-⟩:=h
  cases he
  exact⟨none,0,rfl,dY.nil _ _,ai _,aU _⟩
 | ok rs=>
  rw[hl]at h he;obtain⟨v,rfl,hv⟩:=h
  cases he
  have ha: ∀e∈l,jP e:=by
   unfold lI at hl
   split at hl
   ·split at hl
    ·simp only[dr]at hl;subst hl;exact DA 514 _ _ _ (by simp)
    ·cases hl
   ·cases hl
  have hs:=hv.seq ha;obtain⟨a,cap,rfl,h1,h2,-⟩:=cN.shape hs mj.len;exact⟨a,cap,rfl,hs,h1,h2⟩
theorem BU (S T:Nat->Prop) (L:List dd) (v u:Value) (w:World) (hv:dY S w v L) (hu:dY T w u L):
  Calls Tryz.prog 27 #[v,u] w fun e w'=>e= .returned (.bool true)/\Below w.heap.size w w':=by
 have:=yS S T L L v u w hv hu
 rwa [show decide (L=L)=true from cR rfl]at this
open Go Go.RowKit Go.Maps
def ET (c:List Value) (z:Int):Prop:=c=[.int .i64 z]
theorem ET.len : ∀c z,ET c z->c.length=1:=fun c z h=>by rw[show c=[_]from h]; rfl
theorem Pi {S:Nat->Prop} {w w':World} {a:Option Addr} {n cap:Nat} {zs:List Int} (hv:cN S w 1 ET (.slice a n cap) zs) (hb:Below w.heap.size w w') {k:Nat} {z:Int} (hz:zs[k]? =some z): ∃b o,a=some ⟨b,o,none⟩/\w'.cell? ⟨b,o+k,none⟩=some (.int .i64 z):=by
 obtain⟨a',cap',he,_,_,hx⟩:=cN.shape hv ET.len
 cases he
 obtain⟨b,o,c,rfl,_,hc,_,hd⟩:=hx k z hz;have ha:c=[.int .i64 z]:=hc;subst ha;have h1:=hd 0 (by omega);simp only[jI,cZ,aB]at h1;exact⟨b,o,rfl,(hb.cell (p:=⟨b,o+k,none⟩) (bP h1)).trans h1⟩
theorem Pk {w:World} {base:Nat} {v:Value} {zs:List mN} {bs:List dt} (hz:zs.map Prod.snd=bs) (h:iw w base v zs) (hr: ∀b∈bs,eF b.ref):mI (· <w.heap.size) w v bs:=
 ⟨zs,hz,cD.mono (cJ h.row) (fun _ hk _=>hk) (by omega),fun z hzm=>⟨cD.mono (cJ (h.dat z hzm)) (fun _ hk _=>hk) (by omega),hr _ (by rw[<-hz]; exact aP.2 ⟨z,hzm,rfl⟩)⟩⟩
theorem rY {B b:Nat} {w w1 w2:World} (h:Below B w w1) (hg:w1.grownBy w2 (some b)) (hB:B<=b) (hz:B<=w1.heap.size):Below B w w2:=h.grown hg hz (fun i hi=>by cases hi; exact hB)
theorem Mi (tree:List dd) (gone:List Int) (tv gv:Value) (w:World) (he:rP w) (ht:dY (fun _=>True) w tv tree) (hps: ∀e∈tree,e.path.size<=16777216) (hgn:cN (fun _=>True) w 1 ET gv gone):
  Calls Tryz.prog 8 #[tv,gv] w fun e w'=>e= .returned (.bool true)/\Below w.heap.size w w':=by
 obtain⟨ga,gc,rfl,Zq,Zr,-⟩:=cN.shape hgn ET.len;unfold maxLen at Zr;obtain⟨gl,y8⟩:=bI gone.length;rw[<-y8]at hgn Zq ⊢;have z7:=ah y8;have z8:=ah (show cN (· <w.heap.size) w 1 ET (.slice ga gl gc) gone from cN.mono hgn (by omega) (fun _ hk _=>hk) (fun _ _ _ h=>h));clear hgn y8;have HE:=ah he;have HT:=ah ht.lts;have Ze:=ah hps;obtain⟨ta,tc,Y5,Zy,Zx,-⟩:=cN.shape ht mj.len
 unfold maxLen at Zx;have Zk:=ah (JL ht);obtain⟨n,hn⟩:=bI tree.length;rw[<-hn]at Y5 Zy;have HN:=ah hn;subst Y5;clear he hps ht hn
 go_enter Tryz.func8,Tryz.ntmps8
 go_wp2_with fail;refine(Cn _ HE.o).mono ?_;rintro e w1 ⟨rfl,YE⟩;have Yg:=ah YE;clear YE;go_wp2_with fail;obtain⟨sb,Yd⟩:=bI (sS tree);have Ye:=Et _ tree (.slice ta n tc) w1 (HT.o.keep (fun i hi=>Yg.o.block i hi));rw[<-Yd]at Ye;have Zi:=ah Yd;refine Ye.mono ?_;rintro e w2 ⟨rfl,YF⟩;have HI:=ah (aj Yg.o YF);clear YF Ye Yd
 cases sb
 ·go_wp2_with fail;go_ret;exact⟨rfl,HI.o⟩
 by_cases YR:gl<=100
 rotate_left
 ·have Zp:100<(gl:Int):=by omega
  go_wp2_with fail;go_ret;exact⟨rfl,HI.o⟩
 have Zp: ¬100<(gl:Int):=by omega
 obtain⟨x,hx⟩:=bI (iD tree);have YO:=Po (· <w.heap.size) tree (.slice ta n tc) x w2 (HT.o.keep (fun i hi=>HI.o.block i hi)) Ze.o hx.symm;have z3:=ah hx.symm;have Yn:=ah YO;clear hx YO;go_wp2_with fail;refine Yn.o.mono ?_;rintro e w3 ⟨rfl,Hp⟩;have Yh:=ah (aj HI.o Hp);clear Hp Yn
 by_cases Y7:x=0
 rotate_left
 ·have e1:(x != 0)=true:=by simp[Y7]
  go_wp2_with fail;go_ret;exact⟨rfl,Yh.o⟩
 subst Y7;have hY:=ah (pP.1 z3.o);have hW:=ah (show nO tree from by have h1:=Zi.o;unfold sS at h1;rw[eq_comm,aF,aJ,cu]at h1;exact⟨h1.2,fun e he=>by simpa using h1.1 e he⟩)
 go_wp2_with fail;refine(tB _).mono ?_;rintro e w4 ⟨rfl,YG⟩;have Y9:=ah (aj Yh.o YG);clear YG;go_wp2_with fail;refine(oF _).mono ?_;rintro e w5 ⟨rfl,YH⟩;have za:=ah (aj Y9.o YH);clear YH;obtain⟨W5,HP⟩:=bI (w5.alloc (.cells #[.slice ta n tc] 46));have Hq:Below w5.heap.size w5 W5:=by rw[HP]; exact eW
 have Yi:=ah (aj za.o Hq);have Y4:GT W5 (.slice (some ⟨w5.heap.size,0,none⟩) 1 1) [(.slice ta n tc,tree)]:=by
  have hx:W5.heap[w5.heap.size]? =some (.cells #[.slice ta n tc] 46 (0,0)):=by rw[HP]; exact ep w5 _
  refine⟨⟨rfl,some ⟨w5.heap.size,0,none⟩,1,rfl,ai _,by unfold maxLen; omega, .inr ⟨w5.heap.size,0,rfl,am hx,fun j u hj=> ?_⟩⟩,fun z hz=> ?_⟩
  ·have h0:=ar (k:=0) hx
   match j,hj with
   | 0,hj=>exact h0.trans hj
  ·rw[aE]at hz;subst hz;exact(HT.o.keep (fun i hi=>Yi.o.block i hi)).lts
 have y6:=Gd fh kP [(.slice ta n tc,tree)] (.slice (some ⟨w5.heap.size,0,none⟩) 1 1) W5 (by decide) (by decide) (by decide) Y4 (show 1<=10 by omega) (fun z hz=>by rw[aE]at hz; subst hz; exact⟨hY.o,hW.o⟩);obtain⟨cb,y5⟩:=bI (ue fh kP [tree]);have z2:=ah y5;rw[show [((.slice ta n tc:Value),tree)].map Prod.snd=[tree]from rfl,<-y5]at y6
 have Yo:=ah y6;clear Hq Y4 y6 y5;go_wp2_with fail;rw[<-HP];clear HP;refine Yo.o.mono ?_;rintro e w6 ⟨rfl,Hq⟩;have HJ:=ah (aj Yi.o Hq);clear Hq Yo
 cases cb
 rotate_left
 ·go_wp2_with fail;go_ret;exact⟨rfl,HJ.o⟩
 have yb:=ah (show On fh [] (df fh [] kP tree 514 ⟨#[]⟩).2 from by have h1:=z2.o;unfold ue nU at h1;rw[eq_comm,fQ]at h1;exact Pe h1.1 h1.2)
 have Ys:=ah (show pj fh [] kP tree from⟨hY.o,by decide,nX,Zk.o⟩);have zl:=ah (rK (k:=fh) (gs:=[]) (c:=kP) nX (by decide) hY.o hW.o 514 ⟨#[]⟩);obtain⟨X,hX⟩:=bI ((df fh [] kP tree 514 ⟨#[]⟩).1);obtain⟨bs,y4⟩:=bI (eG fh [] (df fh [] kP tree 514 ⟨#[]⟩).2 []);obtain⟨r,hr⟩:=bI (aV fh [] X);have HM:=ah hX
 have H4:=ah y4;have HL:=ah hr;have YK:=Jv _ tree (.slice ta n tc) w6 (HE.o.below HJ.o) (HT.o.keep (fun i hi=>HJ.o.block i hi)) (r:=r) (bs:=bs) (by rw[y4,hr,hX]; exact Cs (by decide) (by decide) nX hY.o hW.o);have Yl:=ah YK;clear hX y4 hr YK;go_wp2_with fail;refine Yl.o.mono ?_;rintro e w7 ⟨YI,ba,bc,zs,rfl,Y8,YJ,Zn,Zo⟩;unfold maxLen at Zo
 have zc:=ah (aj HJ.o YI);have YB:=ah Y8;have H2:=ah YJ;obtain⟨bl,y3⟩:=bI bs.length;have zz:=ah y3;rw[<-y3]at H2 Zn ⊢;unfold fi;clear YI Y8 YJ Yl y3
 go_upto_region 8 with(fail)
 obtain⟨W7,HQ⟩:=bI (w7.alloc (.cells #[.string r.name, .int .i64 r.gen, .int .i64 r.size] 26));have hH:=show Below w7.heap.size w7 W7 by rw[HQ]; exact eW
 have z5:=ah (show W7.heap[w7.heap.size]? =some (.cells #[.string r.name, .int .i64 r.gen, .int .i64 r.size] 26 (0,0)) by rw[HQ]; exact ep w7 _);have H1:=ah (aj zc.o hH);have Ha:=ah (H2.o.below hH);rw[<-HQ];clear HQ hH H2;have Hr:bs.length<=733:=by have h1:=ry fh [] (df fh [] kP tree 514 ⟨#[]⟩).2 [];have h2:=IE (k:=fh) (gs:=[]) (c:=kP) (by decide) hW.o hY.o;rw[<-H4.o]at h1;simp only[bo]at h1;omega
 have hT: ∀b∈bs,eF b.ref:=fun b hb=>by obtain⟨x,hx,rfl⟩:=Cq (k:=fh) (gs:=[]) (df fh [] kP tree 514 ⟨#[]⟩).2 b (by rw[<-H4.o]; exact hb);exact jv nX (JF Ys.o hW.o (zL yb.o) x hx)
 obtain⟨B0,yp⟩:=bI W7.heap.size;have y2:=Pk YB.o Ha.o hT;rw[<-yp]at y2;have Yj:=ah y2;have Zg:=ah hT;have Yk:=ah Hr;have hc:=ah yp;have Yv:=ah (show eF r from by rw[HL.o]; exact jv nX (by have:=pE (k:=fh) nX (c:=kP) (by decide) hY.o hW.o 514 ⟨#[]⟩; rw[<-HM.o]at this; omega));have z6:=ah (show lh fh [] (kU bs) (df fh [] kP tree 514 ⟨#[]⟩).2 from by rw[H4.o]; exact zL yb.o)
 have y7:=pQ _ bs (.slice ba bl bc) W7 Yj.o (by omega);unfold AY at y7;have Yp:=ah y7;clear y7 Hr hT y2 yp;go_wp2_with fail;refine Yp.o.mono ?_;rintro e w8 ⟨mb1,mm1,rfl,Hw,Hz,Hx,y0⟩;have YL:kM B0 w8 mb1 (kU bs):=⟨by rw[hc.o]; exact Hw,mm1,Hz,Hx⟩;have hN:=pQ _ bs (.slice ba bl bc) w8 (mI.below Yj.o y0) (by have:=Yk.o; omega)
 unfold AY at hN;have Hf:=ah hN;have yn:=ah y0;have H5:=ah YL;clear Hw Hz Hx y0 YL hN Yp;go_wp2_with fail;refine Hf.o.mono ?_;rintro e w9 ⟨mb2,mm2,rfl,hs,HD,Hy,y1⟩;have YC:mb1<mb2:=aO H5.o.lt hs;have HO:B0<=w8.heap.size:=by rw[hc.o]; exact yn.o.size
 have Ym:=ah (show kM B0 w9 mb2 (kU bs)from⟨an HO hs,mm2,HD,Hy⟩);have Yf:=ah (H5.o.below y1);have Yy:=ah (show Below B0 W7 w9 from by have h1:=yn.o; rw[<-hc.o]at h1; exact h1.trans (y1.mono HO));have hl:=ah (an HO hs);have Yz:=ah (show w.heap.size<=B0 by rw[hc.o]; exact H1.o.size);have Hj:=ah YC;clear hs HD Hy y1 HO YC Hf H5 yn
 go_wp2_with fail
 go_loopw [10] (fun i wr=> ∃(j:Nat) (M:List (ByteArray×List UInt8)),j<=gl/\i= .int .i64 (j:Int)/\kM B0 wr mb2 M/\vB M (kU bs)/\kM B0 wr mb1 (kU bs)/\Below B0 W7 wr) (fun i _=>gl-(intOf i).toNat)
 ·exact⟨0,kU bs,aU _,rfl,Ym.o,fun _ _ h=>h,Yf.o,Yy.o⟩
 ·obtain⟨j,M,hj,rfl,YP,HH,YN,hH⟩:=hrel;have He:=ah YP;have Hk:=ah HH;have Hd:=ah YN;have Hb:=ah hH;have H3:=ah (show Below W7.heap.size W7 wr from by have h1:=hc.o; subst h1; exact hH);have YA:=ah (H1.o.trans (hH.mono Yz.o));clear YP HH YN hH Ym Yf Yy
  by_cases Zu:j<gl
  ·obtain⟨z,hz⟩: ∃z,gone[j]? =some z:=⟨gone[j]'(by rw[<-z7.o]; exact Zu),by simp⟩;obtain⟨gb,go,rfl,p0⟩:=Pi z8.o YA.o hz;clear hz
   by_cases h0:0<=z
   ·by_cases h1:z<(bl:Int)
    ·obtain⟨m,rfl⟩: ∃m:Nat,z=(m:Int):=⟨z.toNat,by omega⟩;have hm:m<bl:=by omega
     obtain⟨b,hb⟩: ∃b,bs[m]? =some b:=⟨bs[m]'(by rw[<-zz.o]; exact hm),by simp⟩;obtain⟨b1,o1,z1,c1,rfl,q0,-,-,-,-⟩:=uu YB.o Ha.o H3.o hb;obtain⟨nm,hA⟩:=bI b.ref.name;rw[<-hA]at q0;have Ht:=fun ty=>He.o.del (n:=nm) (by rw[hA]; exact(Zg.o b (aQ hb)).nm) ty
     have H6:=ah Ht;clear hb hA Ht;go_wp2_with (at_delete; go_must (refine zd rfl _ _ _ _ rfl _ _ rfl rfl (H6.o _) ?_); rintro w10 ⟨YT,YS⟩);have z9:=ah YT;have Yr:=ah YS;clear YT YS;go_wp2_with fail
     go_roundw
     ·exact⟨j+1,wM M nm,by omega,by go_num,z9.o,Hk.o.del nm,Hd.o.other Yr.o (by have:=Hj.o; omega) hl.o,rY Hb.o Yr.o hl.o (by have h1:=hc.o; rw[h1]; exact H3.o.size)⟩
     simp[intOf]; omega
    ·go_wp2_with fail
     go_roundw
     ·exact⟨j+1,M,by omega,by go_num,He.o,Hk.o,Hd.o,Hb.o⟩
     simp[intOf]; omega
   ·go_wp2_with fail
    go_roundw
    ·exact⟨j+1,M,by omega,by go_num,He.o,Hk.o,Hd.o,Hb.o⟩
    simp[intOf]; omega
  ·obtain rfl:j=gl:=by omega
   have Yu:=ah (show vM fh [] kP tree (kU bs) M 0 from⟨Hk.o,fun x hx=>by cases hx⟩);obtain⟨wo,Zz⟩:=bI wr;subst Zz;go_wp2_with fail
   go_loopw [11,12,13,14,15,16,17,18,19,20,21,22] (fun rv _ _ _ _ _ _ _ _ _ _ _ wq=> ∃(rd:Nat) (M2:List (ByteArray×List UInt8)),rd<=17/\rv= .int .i64 (rd:Int)/\kM B0 wq mb2 M2/\vM fh [] kP tree (kU bs) M2 rd/\kM B0 wq mb1 (kU bs)/\Below B0 W7 wq) (fun rv _ _ _ _ _ _ _ _ _ _ _ _=>18-(intOf rv).toNat)
   ·exact⟨0,M,by omega,rfl,He.o,Yu.o,Hd.o,Hb.o⟩
   ·obtain⟨rd,M2,Zw,rfl,hy,hD,Hs,hw⟩:=hrel;obtain⟨rs,hB,hU⟩:=La Ys.o zl.o z6.o yb.o hD Zw;rw[<-HM.o,<-HL.o]at hB;obtain⟨L,hL⟩:=bI (kh M2 rs);have ZB:=ah hL;have HY:M2.length<=100000:=by have h1:=hy.len hD.sub;have h2:=JG bs;have h3:=Yk.o;omega
    have HC:=ah hy;have yl:=ah hD;have HA:=ah Hs;have HB:=ah hw;have ho:=ah (show Below W7.heap.size W7 wr from by have h1:=hc.o; subst h1; exact hw);have hv:=ah (H1.o.trans (hw.mono Yz.o));have H7:=ah (er ho.o z5.o);have HX:=tE (fun _=>True) (.map (some mb2)) M2 (qq M2) r (.ok rs) wr hy.at (HE.o.below hv.o).env Yv.o (by rw[<-hB]; exact(uw HY r).1) (uw HY r).2 (fun rs' e'=>by cases e'; exact Nr HY hB)
    rw[show MT M2 (.ok rs)= .ok L by rw[hL]; rfl]at HX;rw[<-hL]at hU;have hh:=ah hU;unfold fi at HX;have Yt:=ah HX;clear hB hU hy hD Hs hw HX HY hL He Hk Hd Hb H3 YA Yu;obtain⟨p0,p1,p2,_⟩:=aS H7.o;go_wp2_with fail;refine Yt.o.mono ?_;rintro e w10 ⟨hf,lv,rfl,HW⟩;obtain⟨la,lc,rfl,Zs,Zt,-⟩:=cN.shape HW qA.len;unfold maxLen at Zt
    obtain⟨ll,y9⟩:=bI L.length;rw[<-y9]at HW Zs ⊢;have HK:=ah y9;have Hm:B0<=wr.heap.size:=by rw[hc.o]; exact ho.o.size
    have Hh:=ah (show dN (· ≠mb2) w10 (.slice la ll lc) L from cN.mono HW (by omega) (fun k _ hS=>by have h1:wr.heap.size<=k:=hS; have h2:=HC.o.lt; show k≠mb2; omega) (fun _ _ _ h=>h));have hJ:=ah (HC.o.below hf);have hZ:=ah (HA.o.below hf);have h8:=ah (HB.o.trans (hf.mono Hm));have hE:=ah (ho.o.trans (hf.mono ho.o.size));have hg:=ah (hv.o.trans (hf.mono hv.o.size))
    have Hg:=ah (er hf H7.o);clear HW hf Yt p0 p1 p2 HC HA HB ho hv H7 y9 Hm;have Ya:=vl (fun _=>True) (.map (some mb2)) M2 r w10 hJ.o.at (HE.o.below hg.o).env Yv.o;unfold fi at Ya;have H8:=ah Ya;clear Ya;obtain⟨p0,p1,p2,_⟩:=aS Hg.o
    by_cases HV:ll=0
    ·have ha:lI M2 r= .ok tree:=by have:=hh.o.none (List.length_eq_zero_iff.1 (by rw[<-HK.o]; exact HV));rw[<-HM.o,<-HL.o]at this;exact this
     have H9:=ah ha;subst HV;clear ha;go_wp2_with fail;refine H8.o.mono ?_;rintro e w11 hr;obtain⟨hd,ta2,tc2,rfl,hV,-,-⟩:=hr.flat (show QP (lI M2 r)=(tree,0) by rw[H9.o]; rfl);have hp:=ah (hg.o.trans (hd.mono hg.o.size));rw[<-HN.o]at hV ⊢;have Y0:=BU _ _ tree (.slice ta2 n tc2) (.slice ta n tc) w11 hV (HT.o.keep (fun i hi=>hp.o.block i hi))
     have Zh:=ah Y0;clear hr hd hV Y0 p0 p1 p2;go_wp2_with fail;refine Zh.o.mono ?_;rintro e w12 ⟨rfl,Ho⟩;have Hl:=ah (hp.o.trans (Ho.mono hp.o.size));clear Ho;go_wp2_with fail;go_ret;exact⟨rfl,Hl.o⟩
    ·obtain⟨ha,Zv⟩:=hh.o.some (fun e=>HV (by rw[HK.o,e]; rfl));rw[<-HM.o,<-HL.o]at ha;have H9:=ah ha;have e1:((ll:Int) == 0)=false:=by simp; exact HV
     clear ha;go_wp2_with fail;refine H8.o.mono ?_;rintro e w11 ⟨hd,HG⟩;rw[H9.o]at HG;obtain⟨rfl,-⟩:=HG;have hG:B0<=w10.heap.size:=by rw[hc.o]; exact hE.o.size
     have Hc:=ah (hJ.o.below hd);have h7:=ah (hZ.o.below hd);have h9:=ah (h8.o.trans (hd.mono hG));have hF:=ah (show dN (· ≠mb2) w11 (.slice la ll lc) L from cN.below Hh.o (by omega) hd (fun _ _ _ h=>h));clear hd hG H8 hJ hZ h8 hE hg Hg Hh p0 p1 p2 e1;obtain⟨wp,ZA⟩:=bI wr;subst ZA;go_wp2_with fail
     go_loopw [18,19,20,21,22] (fun iv _ _ _ _ wq=> ∃(i2:Nat) (M3:List (ByteArray×List UInt8)),i2<=ll/\iv= .int .i64 (i2:Int)/\kM B0 wq mb2 M3/\vB M3 (kU bs)/\(∀n,di M2 n≠none->di M3 n≠none)/\(∀q∈L.take i2,di M3 q.name≠none)/\(∀q∈L.drop i2,di M3 q.name=none)/\kM B0 wq mb1 (kU bs)/\Below B0 W7 wq/\dN (· ≠mb2) wq (.slice la ll lc) L) (fun iv _ _ _ _ _=>ll-(intOf iv).toNat)
     ·exact⟨0,M2,aU _,rfl,Hc.o,yl.o.sub,fun _ h=>h,by simp,fun q hq=>by obtain⟨_,_,_,_,h4⟩:=hh.o.gone q (by simpa using hq); exact h4,h7.o,h9.o,hF.o⟩
     ·obtain⟨i2,M3,ZF,rfl,YM,YZ,Y6,Y3,YQ,YD,Hp,Hu⟩:=hrel;have HC:=ah YM;have HS:=ah YZ;have Yx:=ah Y6;have Yw:=ah Y3;have Yq:=ah YQ;have HA:=ah YD;have HB:=ah Hp;have Hh:=ah Hu;clear YM YZ Y6 Y3 YQ YD Hp Hu Hc h7 h9 hF
      by_cases Yb:i2<ll
      ·obtain⟨q,hq⟩: ∃q,L[i2]? =some q:=⟨L[i2]'(by rw[<-HK.o]; exact Yb),by simp⟩;obtain⟨YX,YY⟩:=aD.1 hq;have HU:L.drop i2=q::L.drop (i2+1):=by rw[cA YX,YY]
       have Y1:L=L.take i2++q::L.drop (i2+1):=by rw[<-HU,dx]
       obtain⟨x,hx,YW,HZ,-⟩:=hh.o.gone q (aQ hq);have HF:di M3 q.name=none:=Yq.o q (by rw[HU]; simp);obtain⟨b,o,rfl,YV,p0,p1,p2⟩:=nE Hh.o (ak _ _) hq;have hu:=YV.nm;obtain⟨v,hP,HR⟩:=HA.o.hit hu HZ;have hI:=HC.o.miss hu HF;obtain⟨_,va,vc,rfl,-,-,-⟩:=id HR;obtain⟨m,YU,Yc,hR⟩:=HC.o.put HF
       have Y2:q.size=(x.length:Int):=by rw[YW]; rfl
       have yv:=hh.o.apart;rw[Y1]at yv;have Hn:=(fc.1 (dS.1 yv).2.1).1;obtain⟨nm,hA⟩:=bI q.name;obtain⟨xl,H0⟩:=bI x.length;rw[Y2,<-H0]at p2;rw[<-hA]at p0 HZ HF hu hP hI Yc hR;rw[<-H0]at hP HR;have Zf:=ah HZ;have ZD:=ah HF;have Zb:=ah Yc;have yc:=ah hR;have Za:=ah YU;have z0:=ah HR
       have ZC:=ah hA;have ZE:=ah H0;have Zc:=ah hu;have Zl:=ah (show Tryz.prog.underlying 55=some (.map 9 29)from gS);have Zj:=ah (show ∀q'∈L.take (i2+1),di (ng M3 nm x) q'.name≠none from by
        rw[dZ hq];intro q' hC;rw[mA]
        rcases aN.1 hC with hC | hC
        ·by_cases e':nm=q'.name
         ·rw[if_pos e']; simp
         ·rw[if_neg e']; exact Yw.o q' hC
        ·rw[aE]at hC;subst hC;rw[if_pos hA]; simp)
       have z4:=ah (show ∀q'∈L.drop (i2+1),di (ng M3 nm x) q'.name=none from fun q' hC=>by rw[mA,if_neg (by rw[hA]; exact Hn q' hC)];exact Yq.o q' (by rw[HU]; exact eB _ hC))
       have Zm:=ah (show ∀n,di M2 n≠none->di (ng M3 nm x) n≠none from fun n hn=>by
        rw[mA]
        split
        ·simp
        ·exact Yx.o n hn)
       have hs:=HC.o.lt;clear hq YX YY HU Y1 hx YW HZ HF YV HR YU Yc hR Y2 yv Hn hA H0 hu
       go_upto_region 35 with(fail)
       go_wp2_with (at_mapUpdate; go_must (refine jY fw rfl _ _ _ _ rfl Zl.o mb2 m Za.o rfl (.string nm) (.slice va xl vc) rfl rfl (gY Zc.o) Zb.o ?_); intro w12 Hv hO);have ya:=ah Hv;have hM:=ah hO;have Hi:=ah (show dN (· ≠mb2) w12 (.slice (some ⟨b,o,none⟩) ll lc) L from cN.mono (cN.same (cN.mono (T:=fun k=>k<wr.heap.size/\k≠mb2) Hh.o (by omega) (fun k hk hS=>⟨hk,hS⟩) (fun _ _ _ h=>h)) (fun k hk=>hO.block k hk.1 (by simpa using hk.2)) (fun _ _ _ h=>h)) (by omega) (fun k _ hS=>hS.2) (fun _ _ _ h=>h))
       clear Hv hO p0 p1 p2 hP hI;go_wp2_with fail
       go_roundw
       ·exact⟨i2+1,ng M3 nm x,by omega,by go_num,yc.o _ x w12 z0.o ya.o hM.o,HS.o.put Zf.o,Zm.o,Zj.o,z4.o,HA.o.other hM.o (by have:=Hj.o; omega) hl.o,rY HB.o hM.o hl.o (by have:=hl.o; omega),Hi.o⟩
       simp[intOf]; omega
      ·obtain rfl:i2=ll:=by omega
       have Zd:=ah (hh.o.next M3 HS.o Yx.o (by have h1:=Yw.o; rwa [bw (by rw[<-HK.o]; exact ai _)]at h1));go_wp2_with fail
       go_roundw
       ·exact⟨rd+1,M3,by omega,by go_num,HC.o,Zd.o,HA.o,HB.o⟩
       simp[intOf]; omega
end
section
open Go.ChangeShapes Go.WideShapes Go.ChangeAt Go.RowKit Go.Lib Go.Shelf
open Go.ChangeMaps (open_string shut_string)
section
variable {H : Type} {enc : TypeId × Value → H}
end
def PJ :List (String×DataW Unit):=[("math/bits.deBruijn64tab",Rows.laid_math_bits_deBruijn64tab),("kinkeep/sha256.initial",Rows.laid_kinkeep_sha256_initial),("kinkeep/sha256.constants",Rows.laid_kinkeep_sha256_constants),("kinkeep/hmac.pads",Rows.laid_kinkeep_hmac_pads),("unicode/utf8.acceptRanges",Rows.laid_unicode_utf8_acceptRanges),("unicode/utf8.first",Rows.laid_unicode_utf8_first)]
theorem own :ownKnob Tryz.prog.godebug=none:=by kernel_rfl
theorem Jk :(Rows.laid_unicode_utf8_acceptRanges:DataW Unit)=acceptData:=by kernel_rfl
theorem Jt :(Rows.laid_math_bits_deBruijn64tab:DataW Unit)=tabData .u8 (Lib.deBruijn64tab.map fun(n:Nat)=>(n:Int)):=by kernel_rfl
theorem Fx :(Rows.laid_kinkeep_sha256_initial:DataW Unit)=tabData .u32 (ql.list.map fun(n:Nat)=>(n:Int)):=by kernel_rfl
theorem Bt :(Rows.laid_kinkeep_sha256_constants:DataW Unit)=tabData .u32 (kc.map fun(n:Nat)=>(n:Int)):=by kernel_rfl
theorem Pl :(Rows.laid_kinkeep_hmac_pads:DataW Unit)=tabData .u8 [54,92]:=by kernel_rfl
theorem rM {P:Program} {w:World} {n:String} {k:IntKind} {zs:List Int} {g:Nat} {t e:TypeId} {N:Nat} (hg:P.globalNamed n=some g) (hty:(P.globals[g]?).map (·.type)=some t)
  (ht:P.underlying t=some (.array N e)) (he:P.underlying e=some (.int k)) (hce:P.cellsOf e=1) (hct:P.cellsOf t=N) (h:VarReads P w n (tabData k zs)) (j:Nat):w.cell? ⟨g,j,none⟩=(zs.map fun z=>Value.int k z)[j]? :=by
 obtain⟨g',t',cs,fuel,p,hc,ha,hb,hd⟩:=h;obtain rfl:=bK (hg.symm.trans hc);obtain rfl:=bK (hty.symm.trans ha);rw[World.var?_cell hg hb j,<-Array.getElem?_toList,cells_of_tab ht he hce hct hd]
theorem vO {w:World} {b k:Nat} {v:Value} (h:w.cell? ⟨b,k,none⟩=some v):b<w.heap.size:=by
 by_cases hb:b<w.heap.size
 ·exact hb
 ·exfalso
  have:w.heap[b]? =none:=Array.getElem?_eq_none (by omega);simp[World.cell?,this]at h
theorem Qc {W:World} (hL:laidMetH Tryz.prog PJ W) (hsh:W.ShapedOpen Tryz.prog):rP W:=by
 rw[MakeChecks.laidMetH_plain _ _ _ (by kernel_rfl)]at hL;have h1:=gQ hL (.head _);have h2:=gQ hL (.tail _ (.head _));have h3:=gQ hL (.tail _ (.tail _ (.head _)));have h4:=gQ hL (.tail _ (.tail _ (.tail _ (.head _))));have h5:=gQ hL (.tail _ (.tail _ (.tail _ (.tail _ (.head _)))));have h6:=gQ hL (.tail _ (.tail _ (.tail _ (.tail _ (.tail _ (.head _))))))
 rw[Jt]at h1;rw[Fx]at h2;rw[Bt]at h3;rw[Pl]at h4;rw[Jk]at h5;have c1:=rM (g:=6) (t:=213) (e:=5) (N:=64) (by kernel_rfl) (by kernel_rfl) (by kernel_rfl) (by kernel_rfl) (by kernel_rfl) (by kernel_rfl) h1;have c2:=rM (g:=2) (t:=216) (e:=215) (N:=8) (by kernel_rfl) (by kernel_rfl) (by kernel_rfl) (by kernel_rfl) (by kernel_rfl) (by kernel_rfl) h2
 have c3:=rM (g:=5) (t:=252) (e:=215) (N:=64) (by kernel_rfl) (by kernel_rfl) (by kernel_rfl) (by kernel_rfl) (by kernel_rfl) (by kernel_rfl) h3;have c4:=rM (g:=0) (t:=221) (e:=5) (N:=2) (by kernel_rfl) (by kernel_rfl) (by kernel_rfl) (by kernel_rfl) (by kernel_rfl) (by kernel_rfl) h4;have ha:W.cell? ⟨0,0,none⟩=some (.int .u8 54):=c4 0;have he:W.cell? ⟨0,1,none⟩=some (.int .u8 92):=c4 1
 have hI:oS W:=fun j x hj=>by rw[c2 j];simp[hj,fj]
 have hK:ml W:=fun j x hj=>by rw[c3 j];simp[hj,fj]
 have hD:TabAt 6 Lib.deBruijn64tab W:=fun j hj=>by rw[c1 j];simp[hj]
 have hc:=hI 0 0x6a09e667 rfl;have hd:=hK 0 0x428a2f98 rfl;have hb:=hD 0 (by decide);refine⟨⟨?_, ?_⟩,⟨hI,hK,⟨ha,he⟩,vO hc,vO hd,vO ha⟩,⟨hD,vO hb⟩⟩
 ·exact cell_of_shapedOpen_int (zero:= #[.int .i64 0]) (t:=3) hsh (fq (by kernel_rfl)) (by kernel_rfl) rfl (by kernel_rfl) (by kernel_rfl) io
 ·exact utf8Tabs_of_readsT (U8Types.of196 Tryz.laysValid) ⟨by kernel_rfl,by kernel_rfl,by kernel_rfl,by kernel_rfl,by kernel_rfl,by kernel_rfl,by kernel_rfl⟩ (Pinned.utf8First_eq▸h6) h5
end
end Go.Proofs.YtpffpjbkbaleiaaGreatDoor
